-- Written by a program of this seat (wip/tools), out of the translation. Not trusted: Lean checks it.
import Derived.Test.YtgnehcgaplnfkaaDoorPAllx0
import Derived.Test.YtgnehcgaplnfkaaDoorPAllx3
import Derived.Test.YtgnehcgaplnfkaaDoorPAllx42
import Derived.Test.YtgnehcgaplnfkaaDoorPAllx49
import Derived.Test.YtgnehcgaplnfkaaDoorPAllx57
namespace Go.Proofs.YtgnehcgaplnfkaaDoor.PAll
open Go.RowKit Go.Proofs.YtgnehcgaplnfkaaDoorW.PrintWords Go.Proofs.YtgnehcgaplnfkaaDoorW.PrintLast Go.Proofs.YtgnehcgaplnfkaaDoorW.PrintMore
attribute [local go_sem] max2_int min2_int max_two min_two max_three min_three max_four min_four   -- for this text's walks alone
set_option linter.unusedVariables false
set_option linter.unusedSimpArgs false

/-! ### dryrotlaw09_MatchNot: function 6 -/
theorem dryrotlaw09_MatchNot.wanted_at {ops : Array Oper} {tmps : Array Value} {oi : Oper} {j t : Nat} {b : Bool} (hg : oi.guard = some (j, b)) (hd : (ops[j]?).bind (·.dst) = some t) (ht : tmps[t]? = some (.bool b)) : Region.wanted oi (yielded ops tmps) = true := by
  simp [Region.wanted, yielded, hg, hd, ht]
noncomputable def dryrotlaw09_MatchNot.j0 : Nat → ByteArray → ByteArray → List (S42) → Int → Option (Bool)
  | 0, _, _, _, _ => none
  | k + 1, x0, x1, x2, x9 => (match_One.f x9 x0 x1 x2).bind fun t169 => ((match_One.f (wrap64 (x9 + 1)) x0 x1 x2).bind fun t170 => (if (t169 != t170) = true then ((match_Can.f (([(⟨x9, x0, x1⟩ : S35)] : List (S35)))).bind fun t174 => ((match_Can.f (([(⟨wrap64 (x9 + 1), x0, x1⟩ : S35)] : List (S35)))).bind fun t178 => (if (t174 == t178) = true then ((dryrotlaw09_awake.f).bind fun t179 => (some t179)) else (some false)))) else (some false)))
noncomputable def dryrotlaw09_MatchNot.f (k : Nat) (a0 : ByteArray) (a1 : ByteArray) (l2 : List (S42)) (a3 : Bool) : Option (Bool) := if a3 = true then (dryrotlaw09_MatchNot.j0 k a0 a1 l2 3) else (dryrotlaw09_MatchNot.j0 k a0 a1 l2 1)
theorem dryrotlaw09_MatchNot.mono_l : ∀ k, (∀ y0 y1 y2 y3, LeO (dryrotlaw09_MatchNot.j0 k y0 y1 y2 y3) (dryrotlaw09_MatchNot.j0 (k + 1) y0 y1 y2 y3))
  | 0 => fun _ _ _ _ r h => by simp [dryrotlaw09_MatchNot.j0] at h
  | k + 1 => by
    have ih0 := dryrotlaw09_MatchNot.mono_l k
    · intro y0 y1 y2 y3
      unfold dryrotlaw09_MatchNot.j0
      repeat' first
      | (with_reducible exact ih0 _ _ _ _)
      | (with_reducible exact LeO.refl _)
      | (with_reducible exact LeO.none _)
      | (with_reducible refine LeO.ite ?_ ?_)
      | (with_reducible refine LeO.bind ?_ (fun _ => ?_))
      | exact ih0 _ _ _ _
      | exact LeO.none _
      | refine LeO.ite ?_ ?_
      | refine LeO.bind ?_ (fun _ => ?_)
theorem dryrotlaw09_MatchNot.mono : ∀ a0 a1 a2 a3 k, LeO (dryrotlaw09_MatchNot.f k a0 a1 a2 a3) (dryrotlaw09_MatchNot.f (k + 1) a0 a1 a2 a3) := by
  intro a0 a1 a2 a3 k
  have ih0 := dryrotlaw09_MatchNot.mono_l k
  unfold dryrotlaw09_MatchNot.f
  repeat' first
      | (with_reducible exact ih0 _ _ _ _)
      | (with_reducible exact LeO.refl _)
      | (with_reducible exact LeO.none _)
      | (with_reducible refine LeO.ite ?_ ?_)
      | (with_reducible refine LeO.bind ?_ (fun _ => ?_))
      | exact ih0 _ _ _ _
      | exact LeO.none _
      | refine LeO.ite ?_ ?_
      | refine LeO.bind ?_ (fun _ => ?_)
def dryrotlaw09_MatchNot.T6 : Bool × List (List Nat × List Nat) := (true, [([], []), ([], []), ([0, 1], [0, 1]), ([], []), ([], []), ([3, 4, 2], [3, 4]), ([2, 5], [2, 5]), ([6, 5], [6]), ([7], [7]), ([8, 7], [7, 8]), ([9, 7, 7], [7, 9]), ([7], [7]), ([11, 7], [7, 11]), ([12, 10, 7], [7, 12]), ([10, 13, 7], [7, 10, 13]), ([7, 14], [7, 14]), ([15, 13], [15]), ([16, 16], [16]), ([16, 17], [16, 17]), ([18, 17, 0, 1, 2, 3, 4, 5, 6, 7, 8, 9, 10, 11, 12, 13, 14, 15, 16, 17, 18], [18])])
def dryrotlaw09_MatchNot.B6 : List Nat := [0, 0, 3, 0, 0, 31, 63, 127, 255, 511, 1023, 255, 2303, 8191, 16383, 32767, 65535, 131071, 262143, 524287]
theorem dryrotlaw09_MatchNot.tab6 : rtab .any (opsOf Tryd.f6 6) = dryrotlaw09_MatchNot.T6 := by kernel_rfl
theorem dryrotlaw09_MatchNot.bits6 : waitsOk dryrotlaw09_MatchNot.T6.2 dryrotlaw09_MatchNot.B6 = true := by kernel_rfl
set_option maxHeartbeats 8000000 in
set_option maxRecDepth 100000 in
theorem dryrotlaw09_MatchNot.calls (k : Nat) (a0 : ByteArray) (a1 : ByteArray) (A2 : Option Addr) (c2 : Nat) (l2 : List (S42)) (a3 : Bool) (r : Bool) (w : World) (hr2 : Kd.C k42 w A2 l2.length l2) (hc2 : l2.length ≤ c2) (hG : strings_ToValidUTF8.Gd w) (h : dryrotlaw09_MatchNot.f k a0 a1 l2 a3 = some r) :
    Calls Tryd.prog 6 #[.string a0, .string a1, .slice A2 l2.length c2, .bool a3] w fun e w' => e = .returned (.bool r) ∧ Below w.heap.size w w' := by
  have hu35 := Tryd.underlying35
  have HR2 := Aside0.mk hr2
  have HC2 := Aside0.mk hc2
  clear hr2 hc2
  have HG := Aside0.mk hG
  clear hG
  have HB := Aside0.mk (Below.refl w.heap.size w)
  have H : (if a3 = true then (dryrotlaw09_MatchNot.j0 k a0 a1 l2 3) else (dryrotlaw09_MatchNot.j0 k a0 a1 l2 1)) = some r := h
  clear h
  have HC5 := Aside0.mk H
  clear H
  go_enter Tryd.func6, Tryd.ntmps6
  go_upto_if 12 with (fail)
  go_cut [9] (fun v9 wc => ∃ (kq : Nat) (x9_4 : Int), v9 = .int .i64 x9_4 ∧ Aside0 (dryrotlaw09_MatchNot.j0 kq a0 a1 l2 x9_4 = some r) ∧ Aside0 (kq ≤ k) ∧ Aside0 (Below w.heap.size w wc))
  case first =>
    have H := HC5.out
    clear HC5
    by_cases c6 : a3 = true
    · subst c6
      have H1 : (dryrotlaw09_MatchNot.j0 k a0 a1 l2 3) = some r := by rw [if_pos rfl] at H; exact H
      clear H
      have H := H1
      clear H1
      have H' := Aside0.mk H
      clear H
      go_wp2
      go_meet
      case rel => exact ⟨_, (3), (by first | rfl | (simp; done) | (simp [*]; done)), H', ⟨by first | omega | exact Nat.le_refl _⟩, ⟨by repeat (first | (with_reducible first | exact HB.out | apply below_alloc | apply pw_below_drewN | apply below_drew1) | exact HB.out)⟩⟩
    · replace c6 := Bool.eq_false_iff.mpr c6
      subst c6
      have H1 : (dryrotlaw09_MatchNot.j0 k a0 a1 l2 1) = some r := by rw [if_neg (show ¬ (false = true) by decide)] at H; exact H
      clear H
      have H := H1
      clear H1
      have H' := Aside0.mk H
      clear H
      go_wp2
      go_meet
      case rel => exact ⟨_, (1), (by first | rfl | (simp; done) | (simp [*]; done)), H', ⟨by first | omega | exact Nat.le_refl _⟩, ⟨by repeat (first | (with_reducible first | exact HB.out | apply below_alloc | apply pw_below_drewN | apply below_drew1) | exact HB.out)⟩⟩
  case rest =>
    clear HC5
    try clear c2
    try clear p2
    try clear c6
    obtain ⟨kq, x9_4, rfl, HA, HJ4, HB⟩ := hcut
    cases kq with
    | zero => exact absurd HA.out (by simp [dryrotlaw09_MatchNot.j0])
    | succ kj4 =>
      have H := HA.out
      clear HA
      simp only [dryrotlaw09_MatchNot.j0] at H
      replace H := Option.bind_eq_some_iff.mp H
      obtain ⟨t169, A70, H⟩ := H
      replace H : ((match_One.f (wrap64 (x9_4 + 1)) a0 a1 l2).bind fun t170 => (if (t169 != t170) = true then ((match_Can.f (([(⟨x9_4, a0, a1⟩ : S35)] : List (S35)))).bind fun t174 => ((match_Can.f (([(⟨wrap64 (x9_4 + 1), a0, a1⟩ : S35)] : List (S35)))).bind fun t178 => (if (t174 == t178) = true then ((dryrotlaw09_awake.f).bind fun t179 => (some t179)) else (some false)))) else (some false))) = some r := H
      have A7 := Aside0.mk A70
      clear A70
      replace H := Option.bind_eq_some_iff.mp H
      obtain ⟨t170, A80, H⟩ := H
      replace H : (if (t169 != t170) = true then ((match_Can.f (([(⟨x9_4, a0, a1⟩ : S35)] : List (S35)))).bind fun t174 => ((match_Can.f (([(⟨wrap64 (x9_4 + 1), a0, a1⟩ : S35)] : List (S35)))).bind fun t178 => (if (t174 == t178) = true then ((dryrotlaw09_awake.f).bind fun t179 => (some t179)) else (some false)))) else (some false)) = some r := H
      have A8 := Aside0.mk A80
      clear A80
      by_cases c9 : (t169 != t170) = true
      · rw [if_pos c9] at H
        have c9b0 : (t169 != t170) = true := c9
        (try (have c9b1 : decide (t169 = t170) = false := by simpa using c9))
        (try (have c9b2 : (t169 == t170) = false := by simpa using c9))
        (try (have c9b3 : ¬ (t169 = t170) := by simpa using c9))
        clear c9
        obtain ⟨y171, hy171⟩ : ∃ y_ : List (S35), y_ = (([(⟨x9_4, a0, a1⟩ : S35)] : List (S35))) := ⟨_, rfl⟩
        replace H : ((match_Can.f y171).bind fun t174 => ((match_Can.f (([(⟨wrap64 (x9_4 + 1), a0, a1⟩ : S35)] : List (S35)))).bind fun t178 => (if (t174 == t178) = true then ((dryrotlaw09_awake.f).bind fun t179 => (some t179)) else (some false)))) = some r := by first | (rw [hy171]; with_reducible exact H) | (have H2_ := (Option.bind_some _ _).symm.trans H; rw [hy171]; with_reducible exact H2_) | (have H2_ := (Option.bind_some _ _).symm.trans H; with_reducible exact H2_) | with_reducible exact H | (rw [hy171]; exact H) | exact H
        have Ny171 := Aside0.mk hy171
        clear hy171
        replace H := Option.bind_eq_some_iff.mp H
        obtain ⟨t174, A100, H⟩ := H
        replace H : ((match_Can.f (([(⟨wrap64 (x9_4 + 1), a0, a1⟩ : S35)] : List (S35)))).bind fun t178 => (if (t174 == t178) = true then ((dryrotlaw09_awake.f).bind fun t179 => (some t179)) else (some false))) = some r := H
        have A10 := Aside0.mk A100
        clear A100
        obtain ⟨y175, hy175⟩ : ∃ y_ : List (S35), y_ = (([(⟨wrap64 (x9_4 + 1), a0, a1⟩ : S35)] : List (S35))) := ⟨_, rfl⟩
        replace H : ((match_Can.f y175).bind fun t178 => (if (t174 == t178) = true then ((dryrotlaw09_awake.f).bind fun t179 => (some t179)) else (some false))) = some r := by first | (rw [hy175]; with_reducible exact H) | (have H2_ := (Option.bind_some _ _).symm.trans H; rw [hy175]; with_reducible exact H2_) | (have H2_ := (Option.bind_some _ _).symm.trans H; with_reducible exact H2_) | with_reducible exact H | (rw [hy175]; exact H) | exact H
        have Ny175 := Aside0.mk hy175
        clear hy175
        replace H := Option.bind_eq_some_iff.mp H
        obtain ⟨t178, A110, H⟩ := H
        replace H : (if (t174 == t178) = true then ((dryrotlaw09_awake.f).bind fun t179 => (some t179)) else (some false)) = some r := H
        have A11 := Aside0.mk A110
        clear A110
        by_cases c12 : (t174 == t178) = true
        · rw [if_pos c12] at H
          have c12b0 : (t174 == t178) = true := c12
          (try (have c12b1 : decide (t174 = t178) = true := by simpa using c12))
          (try (have c12b2 : (t174 == t178) = true := by simpa using c12))
          clear c12
          replace H := Option.bind_eq_some_iff.mp H
          obtain ⟨t179, A130, H⟩ := H
          replace H : (some t179) = some r := H
          have A13 := Aside0.mk A130
          clear A130
          obtain rfl := Option.some.inj H
          try go_wp2_with (first | ((with_reducible refine gate_dst (N := 10) rfl ?_); (try (refine gate_guard (by rfl) ?_; dsimp only)); refine box_event ?hg (N := 10) ?hd (cs := #[.int .i64 0, .string (⟨#[]⟩ : ByteArray), .string (⟨#[]⟩ : ByteArray)]) (t := 35) ?hr ?_; (case hd => rfl); (case hg => (first | rfl | exact dryrotlaw09_MatchNot.wanted_at (b := true) rfl rfl (by simp [*]))); (case hr => first | (go_simp; done) | (go_simp; rfl)); intro gb167 hg w14 hbox hb; have n0_ := Aside0.mk (below_step (by repeat (first | (with_reducible first | exact HB.out | apply below_alloc | apply pw_below_drewN | apply below_drew1) | exact HB.out)) hb); have n1_ := Aside0.mk (hbox); have n2_ := Aside0.mk ((by rw [hg]; exact (below_size (by repeat (first | (with_reducible first | exact HB.out | apply below_alloc | apply pw_below_drewN | apply below_drew1) | exact HB.out))) : w.heap.size ≤ gb167)); have n3_ := Aside0.mk ((by rw [hg]; exact (below_size (by repeat (first | (with_reducible first | exact HB.out | apply below_alloc | apply pw_below_drewN | apply below_drew1) | exact HB.out))) : w.heap.size ≤ gb167)); clear HB; have HB := n0_; have BK167 := n1_; have GW167 := n2_; have GE167 := n3_; clear n0_ n1_ n2_ n3_; clear hb hbox hg; have hcz15_0 : w14.cell? ⟨gb167, 0, none⟩ = some (.int .i64 0) := (blk_cell BK167.out 0).trans rfl; have hcz15_1 : w14.cell? ⟨gb167, 1, none⟩ = some (.string (⟨#[]⟩ : ByteArray)) := (blk_cell BK167.out 1).trans rfl; have hcz15_2 : w14.cell? ⟨gb167, 2, none⟩ = some (.string (⟨#[]⟩ : ByteArray)) := (blk_cell BK167.out 2).trans rfl; have hfz15_0 := blk_frozen BK167.out 0; have hfz15_1 := blk_frozen BK167.out 1; have hfz15_2 := blk_frozen BK167.out 2) | ((with_reducible refine gate_dst (N := 11) rfl ?_); (try (refine gate_guard (by rfl) ?_; dsimp only)); refine box_event ?hg (N := 11) ?hd (cs := #[.int .i64 0, .string (⟨#[]⟩ : ByteArray), .string (⟨#[]⟩ : ByteArray)]) (t := 35) ?hr ?_; (case hd => rfl); (case hg => (first | rfl | exact dryrotlaw09_MatchNot.wanted_at (b := true) rfl rfl (by simp [*]))); (case hr => first | (go_simp; done) | (go_simp; rfl)); intro gb168 hg w16 hbox hb; have n0_ := Aside0.mk (blk_below (g := gb167) (o := .cells #[.int .i64 x9_4, .string a0, .string a1] 35 (0, 0)) (by (with_reducible repeat (first | refine blk_drewN ?_ _ | refine blk_drew ?_ | refine blk_alloc ?_ _)); refine blk_put (cs := #[.int .i64 x9_4, .string a0, .string (⟨#[]⟩ : ByteArray)]) ?_ 2 _ rfl; (with_reducible repeat (first | refine blk_drewN ?_ _ | refine blk_drew ?_ | refine blk_alloc ?_ _)); refine blk_put (cs := #[.int .i64 x9_4, .string (⟨#[]⟩ : ByteArray), .string (⟨#[]⟩ : ByteArray)]) ?_ 1 _ rfl; (with_reducible repeat (first | refine blk_drewN ?_ _ | refine blk_drew ?_ | refine blk_alloc ?_ _)); refine blk_put (cs := #[.int .i64 0, .string (⟨#[]⟩ : ByteArray), .string (⟨#[]⟩ : ByteArray)]) ?_ 0 _ rfl; (with_reducible repeat (first | refine blk_drewN ?_ _ | refine blk_drew ?_ | refine blk_alloc ?_ _)); exact BK167.out) hb); have n1_ := Aside0.mk (below_step (by repeat (first | (with_reducible first | exact HB.out | apply below_alloc | apply pw_below_drewN | apply below_drew1 | refine below_set ?_ GE167.out) | exact HB.out)) hb); have n2_ := Aside0.mk (hbox); have n3_ := Aside0.mk ((by rw [hg]; exact (below_size (by repeat (first | (with_reducible first | exact HB.out | apply below_alloc | apply pw_below_drewN | apply below_drew1 | refine below_set ?_ GE167.out) | exact HB.out))) : w.heap.size ≤ gb168)); have n4_ := Aside0.mk ((by rw [hg]; exact (below_size (by repeat (first | (with_reducible first | exact HB.out | apply below_alloc | apply pw_below_drewN | apply below_drew1 | refine below_set ?_ GE167.out) | exact HB.out))) : w.heap.size ≤ gb168)); have n5_ := Aside0.mk ((by rw [hg]; exact Nat.ne_of_lt (blk_lt (g := gb167) (o := .cells #[.int .i64 x9_4, .string a0, .string a1] 35 (0, 0)) (by (with_reducible repeat (first | refine blk_drewN ?_ _ | refine blk_drew ?_ | refine blk_alloc ?_ _)); refine blk_put (cs := #[.int .i64 x9_4, .string a0, .string (⟨#[]⟩ : ByteArray)]) ?_ 2 _ rfl; (with_reducible repeat (first | refine blk_drewN ?_ _ | refine blk_drew ?_ | refine blk_alloc ?_ _)); refine blk_put (cs := #[.int .i64 x9_4, .string (⟨#[]⟩ : ByteArray), .string (⟨#[]⟩ : ByteArray)]) ?_ 1 _ rfl; (with_reducible repeat (first | refine blk_drewN ?_ _ | refine blk_drew ?_ | refine blk_alloc ?_ _)); refine blk_put (cs := #[.int .i64 0, .string (⟨#[]⟩ : ByteArray), .string (⟨#[]⟩ : ByteArray)]) ?_ 0 _ rfl; (with_reducible repeat (first | refine blk_drewN ?_ _ | refine blk_drew ?_ | refine blk_alloc ?_ _)); exact BK167.out)) : gb167 ≠ gb168)); have n6_ := Aside0.mk ((by rw [hg]; exact Nat.ne_of_gt (blk_lt (g := gb167) (o := .cells #[.int .i64 x9_4, .string a0, .string a1] 35 (0, 0)) (by (with_reducible repeat (first | refine blk_drewN ?_ _ | refine blk_drew ?_ | refine blk_alloc ?_ _)); refine blk_put (cs := #[.int .i64 x9_4, .string a0, .string (⟨#[]⟩ : ByteArray)]) ?_ 2 _ rfl; (with_reducible repeat (first | refine blk_drewN ?_ _ | refine blk_drew ?_ | refine blk_alloc ?_ _)); refine blk_put (cs := #[.int .i64 x9_4, .string (⟨#[]⟩ : ByteArray), .string (⟨#[]⟩ : ByteArray)]) ?_ 1 _ rfl; (with_reducible repeat (first | refine blk_drewN ?_ _ | refine blk_drew ?_ | refine blk_alloc ?_ _)); refine blk_put (cs := #[.int .i64 0, .string (⟨#[]⟩ : ByteArray), .string (⟨#[]⟩ : ByteArray)]) ?_ 0 _ rfl; (with_reducible repeat (first | refine blk_drewN ?_ _ | refine blk_drew ?_ | refine blk_alloc ?_ _)); exact BK167.out)) : gb168 ≠ gb167)); clear BK167; clear HB; have BK167 := n0_; have HB := n1_; have BK168 := n2_; have GW168 := n3_; have GE168 := n4_; have NB167_168 := n5_; have NB168_167 := n6_; clear n0_ n1_ n2_ n3_ n4_ n5_ n6_; clear hb hbox hg; have hnb17 := NB168_167.out; have hnc17 := NB167_168.out; have hcz18_0 : w16.cell? ⟨gb168, 0, none⟩ = some (.int .i64 0) := (blk_cell BK168.out 0).trans rfl; have hcz18_1 : w16.cell? ⟨gb168, 1, none⟩ = some (.string (⟨#[]⟩ : ByteArray)) := (blk_cell BK168.out 1).trans rfl; have hcz18_2 : w16.cell? ⟨gb168, 2, none⟩ = some (.string (⟨#[]⟩ : ByteArray)) := (blk_cell BK168.out 2).trans rfl; have hfz18_0 := blk_frozen BK168.out 0; have hfz18_1 := blk_frozen BK168.out 1; have hfz18_2 := blk_frozen BK168.out 2))
          have n0_ : Aside0 ((((w16.setCell ⟨gb168, 0, none⟩ (.int .i64 (wrap64 (x9_4 + 1)))).setCell ⟨gb168, 1, none⟩ (.string a0)).setCell ⟨gb168, 2, none⟩ (.string a1)).heap[gb167]? = some (.cells #[.int .i64 x9_4, .string a0, .string a1] 35 (0, 0))) := ⟨by (with_reducible repeat (first | refine blk_drewN ?_ _ | refine blk_drew ?_ | refine blk_alloc ?_ _)); refine blk_far ?_ NB167_168.out _; (with_reducible repeat (first | refine blk_drewN ?_ _ | refine blk_drew ?_ | refine blk_alloc ?_ _)); refine blk_far ?_ NB167_168.out _; (with_reducible repeat (first | refine blk_drewN ?_ _ | refine blk_drew ?_ | refine blk_alloc ?_ _)); refine blk_far ?_ NB167_168.out _; (with_reducible repeat (first | refine blk_drewN ?_ _ | refine blk_drew ?_ | refine blk_alloc ?_ _)); exact BK167.out⟩
          have n1_ : Aside0 ((((w16.setCell ⟨gb168, 0, none⟩ (.int .i64 (wrap64 (x9_4 + 1)))).setCell ⟨gb168, 1, none⟩ (.string a0)).setCell ⟨gb168, 2, none⟩ (.string a1)).heap[gb168]? = some (.cells #[.int .i64 (wrap64 (x9_4 + 1)), .string a0, .string a1] 35 (0, 0))) := ⟨by (with_reducible repeat (first | refine blk_drewN ?_ _ | refine blk_drew ?_ | refine blk_alloc ?_ _)); refine blk_put (cs := #[.int .i64 (wrap64 (x9_4 + 1)), .string a0, .string (⟨#[]⟩ : ByteArray)]) ?_ 2 _ rfl; (with_reducible repeat (first | refine blk_drewN ?_ _ | refine blk_drew ?_ | refine blk_alloc ?_ _)); refine blk_put (cs := #[.int .i64 (wrap64 (x9_4 + 1)), .string (⟨#[]⟩ : ByteArray), .string (⟨#[]⟩ : ByteArray)]) ?_ 1 _ rfl; (with_reducible repeat (first | refine blk_drewN ?_ _ | refine blk_drew ?_ | refine blk_alloc ?_ _)); refine blk_put (cs := #[.int .i64 0, .string (⟨#[]⟩ : ByteArray), .string (⟨#[]⟩ : ByteArray)]) ?_ 0 _ rfl; (with_reducible repeat (first | refine blk_drewN ?_ _ | refine blk_drew ?_ | refine blk_alloc ?_ _)); exact BK168.out⟩
          have n2_ : Aside0 (Below w.heap.size w (((w16.setCell ⟨gb168, 0, none⟩ (.int .i64 (wrap64 (x9_4 + 1)))).setCell ⟨gb168, 1, none⟩ (.string a0)).setCell ⟨gb168, 2, none⟩ (.string a1))) := ⟨by repeat (first | (with_reducible first | exact HB.out | apply below_alloc | apply pw_below_drewN | apply below_drew1 | refine below_set ?_ GE167.out | refine below_set ?_ GE168.out) | exact HB.out)⟩
          (try clear BK167)
          (try clear BK168)
          (try clear HB)
          generalize (((w16.setCell ⟨gb168, 0, none⟩ (.int .i64 (wrap64 (x9_4 + 1)))).setCell ⟨gb168, 1, none⟩ (.string a0)).setCell ⟨gb168, 2, none⟩ (.string a1)) = w19 at n0_ n1_ n2_ ⊢
          have BK167 := n0_
          have BK168 := n1_
          have HB := n2_
          clear n0_ n1_ n2_
          have n0_ := Aside0.mk (blk_drew BK167.out)
          have n1_ := Aside0.mk (blk_drew BK168.out)
          have n2_ := Aside0.mk (below_drew1 HB.out)
          clear BK167
          clear BK168
          clear HB
          have BK167 := n0_
          have BK168 := n1_
          have HB := n2_
          clear n0_ n1_ n2_
          refine start_ (n := 20) (S := fun w' => True) (ds := []) #[false, false, false, false, false, false, false, false, false, false, false, false, false, false, false, false, false, false, false, false] (by kernel_rfl) rfl rfl trivial (fun hHeld => ?_); refine with_tabW dryrotlaw09_MatchNot.tab6 dryrotlaw09_MatchNot.bits6 (fun HT_ HW_ => ?_)
          generalize w19.drew = w20 at BK167 BK168 HB hHeld ⊢
          refine pure_ (i := 1) (N := some 23) (v := ?_) (a' := ?_) #[false, true, false, false, false, false, false, false, false, false, false, false, false, false, false, false, false, false, false, false] rfl rfl (any_of HT_.out (by kernel_rfl)) (fun _ _ _ h => h) (Or.inl ⟨by rfl, ?_⟩) ?_ ?_
          rotate_left
          · intro w'
            go_simp
            with_reducible rfl
          rotate_left
          · simp only [Act.put, List.setIfInBounds_toArray, List.set_cons_zero, List.set_cons_succ, i64_w, i32_w]
            rfl
          refine pure_ (i := 4) (N := some 26) (v := ?_) (a' := ?_) #[false, true, false, false, true, false, false, false, false, false, false, false, false, false, false, false, false, false, false, false] rfl rfl (any_of HT_.out (by kernel_rfl)) (fun _ _ _ h => h) (Or.inl ⟨by rfl, ?_⟩) ?_ ?_
          rotate_left
          · intro w'
            go_simp
            with_reducible rfl
          rotate_left
          · simp only [Act.put, List.setIfInBounds_toArray, List.set_cons_zero, List.set_cons_succ, i64_w, i32_w]
            rfl
          refine inv_at [0, 2, 3, 5, 6, 7, 8, 9, 10, 11, 12, 13, 14, 15, 16, 17, 18, 19] (fun a0_ b a w' => ∃ (v172 : Value) (v176 : Value), a = putSel a0_ b [(0, 22, .agg #[.int .i64 x9_4, .string a0, .string a1]), (2, 24, .bool t169), (3, 25, .agg #[.int .i64 (wrap64 (x9_4 + 1)), .string a0, .string a1]), (5, 27, .bool t170), (6, 28, .bool (t169 != t170)), (7, 29, .bool (t169 != t170)), (8, 30, .agg #[.int .i64 x9_4, .string a0, .string a1]), (9, 31, v172), (10, 32, .bool t174), (11, 33, .agg #[.int .i64 (wrap64 (x9_4 + 1)), .string a0, .string a1]), (12, 34, v176), (13, 35, .bool t178), (14, 36, .bool (t174 == t178)), (15, 37, .bool (t174 == t178)), (16, 38, .bool (t174 == t178)), (17, 39, .bool t179), (18, 40, .bool t179), (19, 8, .bool t179)] ∧ (w'.heap[gb167]? = some (.cells #[.int .i64 x9_4, .string a0, .string a1] 35 (0, 0))) ∧ (w'.heap[gb168]? = some (.cells #[.int .i64 (wrap64 (x9_4 + 1)), .string a0, .string a1] 35 (0, 0))) ∧ (Below w.heap.size w w') ∧ (b 9 = true → Kd.R k35 35 w' w.heap.size (fun k_ => k_ ≠ gb167 ∧ k_ ≠ gb168) v172 y171) ∧ (b 12 = true → Kd.R k35 35 w' w.heap.size (fun k_ => k_ ≠ gb167 ∧ k_ ≠ gb168) v176 y175)) HT_.out HW_.out (by kernel_rfl) (by kernel_rfl) ?_ ?_ ?_
          · exact ⟨.bool false, .bool false, by simp only [putSel, Bool.false_eq_true, if_false], BK167.out, BK168.out, HB.out, fun h_ => absurd h_ (by decide), fun h_ => absurd h_ (by decide)⟩
          · skip
            clear BK167 BK168 HB
            refine steps_cons ?_ ?_
            · rintro b a w' ⟨v172, v176, ha, Q_BK167, Q_BK168, Q_HB, Q_HO173, Q_HO177⟩ hb_ hon hoff
              refine ⟨_, rfl, fun K hK => ?_⟩
              have e10 : a.tmps[10]? = some (.pointer (some ⟨gb167, 0, none⟩)) := by rw [ha]; exact (putSel_off rfl).trans rfl
              replace ha := Aside0.mk ha
              have BK167 := Aside0.mk Q_BK167
              have BK168 := Aside0.mk Q_BK168
              have HB := Aside0.mk Q_HB
              have hc0_ : w'.cell? ⟨gb167, 0, none⟩ = some (.int .i64 x9_4) := (blk_cell BK167.out 0).trans rfl
              have hc1_ : w'.cell? ⟨gb167, 1, none⟩ = some (.string a0) := (blk_cell BK167.out 1).trans rfl
              have hc2_ : w'.cell? ⟨gb167, 2, none⟩ = some (.string a1) := (blk_cell BK167.out 2).trans rfl
              refine value_ (w1 := w') (v := .agg #[.int .i64 x9_4, .string a0, .string a1]) (by rfl) rfl ?_ ?_
              · go_simp
                (try simp only [i64_w])
                try rfl
              refine hK.out _ _ ⟨v172, v176, (by rw [ha.out]; exact putSel_upk 0 hb_ rfl rfl rfl), Q_BK167, Q_BK168, Q_HB, fun h0_ => absurd ((hoff 9 (by kernel_rfl)).symm.trans h0_) (by decide), fun h0_ => absurd ((hoff 12 (by kernel_rfl)).symm.trans h0_) (by decide)⟩
            refine steps_cons ?_ ?_
            · rintro b a w' ⟨v172, v176, ha, Q_BK167, Q_BK168, Q_HB, Q_HO173, Q_HO177⟩ hb_ hon hoff
              refine ⟨_, rfl, fun K hK => ?_⟩
              have e22 : a.tmps[22]? = some (.agg #[.int .i64 x9_4, .string a0, .string a1]) := by rw [ha]; exact putSel_on (e := (0, 22, .agg #[.int .i64 x9_4, .string a0, .string a1])) 0 rfl rfl (hon 0 (by kernel_rfl)) rfl
              have e23 : a.tmps[23]? = some (.slice A2 l2.length c2) := by rw [ha]; exact (putSel_off rfl).trans rfl
              replace ha := Aside0.mk ha
              have BK167 := Aside0.mk Q_BK167
              have BK168 := Aside0.mk Q_BK168
              have HB := Aside0.mk Q_HB
              refine goes_ Tryd.func18 (by kernel_rfl) rfl #[.agg #[.int .i64 x9_4, .string a0, .string a1], .slice A2 l2.length c2] (by (first | rfl | exact dryrotlaw09_MatchNot.wanted_at (b := true) rfl rfl (by simp [*]))) rfl rfl (by first | (simp only [List.map_toArray, List.map_cons, List.map_nil, Act.eval, Array.getD_eq_getD_getElem?, Option.getD_some, e22, e23]; done) | (simp only [List.map_toArray, List.map_cons, List.map_nil, Act.eval, Array.getD_eq_getD_getElem?, Option.getD_some, e22, e23]; rfl)) ?_
              with_reducible refine (match_One.callsP x9_4 a0 a1 _ _ l2 t169 _ ?side1 ?side2 ?side3 A7.out).mono ?_
              (case side1 => repeat (first | exact (Kd.C_below HR2.out HB.out) | (with_reducible refine Kd.C_alloc ?_ _) | (with_reducible refine Kd.C_drewN ?_ _) | (with_reducible refine Kd.C_drew ?_)))
              (case side2 => exact HC2.out)
              (case side3 => exact HG.out.below (by repeat (first | (with_reducible first | exact HB.out | apply below_alloc | apply pw_below_drewN | apply below_drew1 | refine below_set ?_ GE167.out | refine below_set ?_ GE168.out) | exact HB.out)))
              rintro e w21 ⟨rfl, hb⟩
              refine ⟨_, rfl, ?_⟩
              have n0_ := Aside0.mk (blk_below (g := gb167) (o := .cells #[.int .i64 x9_4, .string a0, .string a1] 35 (0, 0)) (by (with_reducible repeat (first | refine blk_drewN ?_ _ | refine blk_drew ?_ | refine blk_alloc ?_ _)); exact BK167.out) hb)
              have n1_ := Aside0.mk (blk_below (g := gb168) (o := .cells #[.int .i64 (wrap64 (x9_4 + 1)), .string a0, .string a1] 35 (0, 0)) (by (with_reducible repeat (first | refine blk_drewN ?_ _ | refine blk_drew ?_ | refine blk_alloc ?_ _)); exact BK168.out) hb)
              have n2_ := Aside0.mk (below_step (by repeat (first | (with_reducible first | exact HB.out | apply below_alloc | apply pw_below_drewN | apply below_drew1 | refine below_set ?_ GE167.out | refine below_set ?_ GE168.out) | exact HB.out)) hb)
              clear BK167
              clear BK168
              clear HB
              have BK167 := n0_
              have BK168 := n1_
              have HB := n2_
              clear n0_ n1_ n2_
              (try clear hb)
              (try clear hb2)
              (try clear hk)
              (try clear hi)
              refine hK.out _ _ ⟨v172, v176, (by rw [ha.out]; exact putSel_upk 1 hb_ rfl rfl rfl), (by (with_reducible repeat (first | refine blk_drewN ?_ _ | refine blk_drew ?_ | refine blk_alloc ?_ _)); exact BK167.out), (by (with_reducible repeat (first | refine blk_drewN ?_ _ | refine blk_drew ?_ | refine blk_alloc ?_ _)); exact BK168.out), (by repeat (first | (with_reducible first | exact HB.out | apply below_alloc | apply pw_below_drewN | apply below_drew1 | refine below_set ?_ GE167.out | refine below_set ?_ GE168.out) | exact HB.out)), fun h0_ => absurd ((hoff 9 (by kernel_rfl)).symm.trans h0_) (by decide), fun h0_ => absurd ((hoff 12 (by kernel_rfl)).symm.trans h0_) (by decide)⟩
            refine steps_cons ?_ ?_
            · rintro b a w' ⟨v172, v176, ha, Q_BK167, Q_BK168, Q_HB, Q_HO173, Q_HO177⟩ hb_ hon hoff
              refine ⟨_, rfl, fun K hK => ?_⟩
              have e11 : a.tmps[11]? = some (.pointer (some ⟨gb168, 0, none⟩)) := by rw [ha]; exact (putSel_off rfl).trans rfl
              replace ha := Aside0.mk ha
              have BK167 := Aside0.mk Q_BK167
              have BK168 := Aside0.mk Q_BK168
              have HB := Aside0.mk Q_HB
              have hc0_ : w'.cell? ⟨gb168, 0, none⟩ = some (.int .i64 (wrap64 (x9_4 + 1))) := (blk_cell BK168.out 0).trans rfl
              have hc1_ : w'.cell? ⟨gb168, 1, none⟩ = some (.string a0) := (blk_cell BK168.out 1).trans rfl
              have hc2_ : w'.cell? ⟨gb168, 2, none⟩ = some (.string a1) := (blk_cell BK168.out 2).trans rfl
              refine value_ (w1 := w') (v := .agg #[.int .i64 (wrap64 (x9_4 + 1)), .string a0, .string a1]) (by rfl) rfl ?_ ?_
              · go_simp
                (try simp only [i64_w])
                try rfl
              refine hK.out _ _ ⟨v172, v176, (by rw [ha.out]; exact putSel_upk 2 hb_ rfl rfl rfl), Q_BK167, Q_BK168, Q_HB, fun h0_ => absurd ((hoff 9 (by kernel_rfl)).symm.trans h0_) (by decide), fun h0_ => absurd ((hoff 12 (by kernel_rfl)).symm.trans h0_) (by decide)⟩
            refine steps_cons ?_ ?_
            · rintro b a w' ⟨v172, v176, ha, Q_BK167, Q_BK168, Q_HB, Q_HO173, Q_HO177⟩ hb_ hon hoff
              refine ⟨_, rfl, fun K hK => ?_⟩
              have e25 : a.tmps[25]? = some (.agg #[.int .i64 (wrap64 (x9_4 + 1)), .string a0, .string a1]) := by rw [ha]; exact putSel_on (e := (3, 25, .agg #[.int .i64 (wrap64 (x9_4 + 1)), .string a0, .string a1])) 2 rfl rfl (hon 3 (by kernel_rfl)) rfl
              have e26 : a.tmps[26]? = some (.slice A2 l2.length c2) := by rw [ha]; exact (putSel_off rfl).trans rfl
              replace ha := Aside0.mk ha
              have BK167 := Aside0.mk Q_BK167
              have BK168 := Aside0.mk Q_BK168
              have HB := Aside0.mk Q_HB
              refine goes_ Tryd.func18 (by kernel_rfl) rfl #[.agg #[.int .i64 (wrap64 (x9_4 + 1)), .string a0, .string a1], .slice A2 l2.length c2] (by (first | rfl | exact dryrotlaw09_MatchNot.wanted_at (b := true) rfl rfl (by simp [*]))) rfl rfl (by first | (simp only [List.map_toArray, List.map_cons, List.map_nil, Act.eval, Array.getD_eq_getD_getElem?, Option.getD_some, e25, e26]; done) | (simp only [List.map_toArray, List.map_cons, List.map_nil, Act.eval, Array.getD_eq_getD_getElem?, Option.getD_some, e25, e26]; rfl)) ?_
              with_reducible refine (match_One.callsP (wrap64 (x9_4 + 1)) a0 a1 _ _ l2 t170 _ ?side1 ?side2 ?side3 A8.out).mono ?_
              (case side1 => repeat (first | exact (Kd.C_below HR2.out HB.out) | (with_reducible refine Kd.C_alloc ?_ _) | (with_reducible refine Kd.C_drewN ?_ _) | (with_reducible refine Kd.C_drew ?_)))
              (case side2 => exact HC2.out)
              (case side3 => exact HG.out.below (by repeat (first | (with_reducible first | exact HB.out | apply below_alloc | apply pw_below_drewN | apply below_drew1 | refine below_set ?_ GE167.out | refine below_set ?_ GE168.out) | exact HB.out)))
              rintro e w23 ⟨rfl, hb⟩
              refine ⟨_, rfl, ?_⟩
              have n0_ := Aside0.mk (blk_below (g := gb167) (o := .cells #[.int .i64 x9_4, .string a0, .string a1] 35 (0, 0)) (by (with_reducible repeat (first | refine blk_drewN ?_ _ | refine blk_drew ?_ | refine blk_alloc ?_ _)); exact BK167.out) hb)
              have n1_ := Aside0.mk (blk_below (g := gb168) (o := .cells #[.int .i64 (wrap64 (x9_4 + 1)), .string a0, .string a1] 35 (0, 0)) (by (with_reducible repeat (first | refine blk_drewN ?_ _ | refine blk_drew ?_ | refine blk_alloc ?_ _)); exact BK168.out) hb)
              have n2_ := Aside0.mk (below_step (by repeat (first | (with_reducible first | exact HB.out | apply below_alloc | apply pw_below_drewN | apply below_drew1 | refine below_set ?_ GE167.out | refine below_set ?_ GE168.out) | exact HB.out)) hb)
              clear BK167
              clear BK168
              clear HB
              have BK167 := n0_
              have BK168 := n1_
              have HB := n2_
              clear n0_ n1_ n2_
              (try clear hb)
              (try clear hb2)
              (try clear hk)
              (try clear hi)
              refine hK.out _ _ ⟨v172, v176, (by rw [ha.out]; exact putSel_upk 3 hb_ rfl rfl rfl), (by (with_reducible repeat (first | refine blk_drewN ?_ _ | refine blk_drew ?_ | refine blk_alloc ?_ _)); exact BK167.out), (by (with_reducible repeat (first | refine blk_drewN ?_ _ | refine blk_drew ?_ | refine blk_alloc ?_ _)); exact BK168.out), (by repeat (first | (with_reducible first | exact HB.out | apply below_alloc | apply pw_below_drewN | apply below_drew1 | refine below_set ?_ GE167.out | refine below_set ?_ GE168.out) | exact HB.out)), fun h0_ => absurd ((hoff 9 (by kernel_rfl)).symm.trans h0_) (by decide), fun h0_ => absurd ((hoff 12 (by kernel_rfl)).symm.trans h0_) (by decide)⟩
            refine steps_cons ?_ ?_
            · rintro b a w' ⟨v172, v176, ha, Q_BK167, Q_BK168, Q_HB, Q_HO173, Q_HO177⟩ hb_ hon hoff
              refine ⟨_, rfl, fun K hK => ?_⟩
              have e24 : a.tmps[24]? = some (.bool t169) := by rw [ha]; exact putSel_on (e := (2, 24, .bool t169)) 1 rfl rfl (hon 2 (by kernel_rfl)) rfl
              have e27 : a.tmps[27]? = some (.bool t170) := by rw [ha]; exact putSel_on (e := (5, 27, .bool t170)) 3 rfl rfl (hon 5 (by kernel_rfl)) rfl
              replace ha := Aside0.mk ha
              have BK167 := Aside0.mk Q_BK167
              have BK168 := Aside0.mk Q_BK168
              have HB := Aside0.mk Q_HB
              refine value_ (w1 := w') (v := .bool (t169 != t170)) (by rfl) rfl ?_ ?_
              · go_simp
                (try simp only [i64_w])
                try rfl
              refine hK.out _ _ ⟨v172, v176, (by rw [ha.out]; exact putSel_upk 4 hb_ rfl rfl rfl), Q_BK167, Q_BK168, Q_HB, fun h0_ => absurd ((hoff 9 (by kernel_rfl)).symm.trans h0_) (by decide), fun h0_ => absurd ((hoff 12 (by kernel_rfl)).symm.trans h0_) (by decide)⟩
            refine steps_cons ?_ ?_
            · rintro b a w' ⟨v172, v176, ha, Q_BK167, Q_BK168, Q_HB, Q_HO173, Q_HO177⟩ hb_ hon hoff
              refine ⟨_, rfl, fun K hK => ?_⟩
              have e28 : a.tmps[28]? = some (.bool (t169 != t170)) := by rw [ha]; exact putSel_on (e := (6, 28, .bool (t169 != t170))) 4 rfl rfl (hon 6 (by kernel_rfl)) rfl
              replace ha := Aside0.mk ha
              have BK167 := Aside0.mk Q_BK167
              have BK168 := Aside0.mk Q_BK168
              have HB := Aside0.mk Q_HB
              refine value_ (w1 := w') (v := .bool (t169 != t170)) (by rfl) rfl ?_ ?_
              · go_simp
                (try simp only [i64_w])
                try rfl
              refine hK.out _ _ ⟨v172, v176, (by rw [ha.out]; exact putSel_upk 5 hb_ rfl rfl rfl), Q_BK167, Q_BK168, Q_HB, fun h0_ => absurd ((hoff 9 (by kernel_rfl)).symm.trans h0_) (by decide), fun h0_ => absurd ((hoff 12 (by kernel_rfl)).symm.trans h0_) (by decide)⟩
            refine steps_cons ?_ ?_
            · rintro b a w' ⟨v172, v176, ha, Q_BK167, Q_BK168, Q_HB, Q_HO173, Q_HO177⟩ hb_ hon hoff
              refine ⟨_, rfl, fun K hK => ?_⟩
              have e10 : a.tmps[10]? = some (.pointer (some ⟨gb167, 0, none⟩)) := by rw [ha]; exact (putSel_off rfl).trans rfl
              have e29 : a.tmps[29]? = some (.bool (t169 != t170)) := by rw [ha]; exact putSel_on (e := (7, 29, .bool (t169 != t170))) 5 rfl rfl (hon 7 (by kernel_rfl)) rfl
              replace ha := Aside0.mk ha
              have BK167 := Aside0.mk Q_BK167
              have BK168 := Aside0.mk Q_BK168
              have HB := Aside0.mk Q_HB
              have hc0_ : w'.cell? ⟨gb167, 0, none⟩ = some (.int .i64 x9_4) := (blk_cell BK167.out 0).trans rfl
              have hc1_ : w'.cell? ⟨gb167, 1, none⟩ = some (.string a0) := (blk_cell BK167.out 1).trans rfl
              have hc2_ : w'.cell? ⟨gb167, 2, none⟩ = some (.string a1) := (blk_cell BK167.out 2).trans rfl
              refine value_ (w1 := w') (v := .agg #[.int .i64 x9_4, .string a0, .string a1]) (wanted_on rfl rfl rfl (e29.trans (by first | rfl | (simp [*]; done)))) rfl ?_ ?_
              · go_simp
                (try simp only [i64_w])
                try rfl
              refine hK.out _ _ ⟨v172, v176, (by rw [ha.out]; exact putSel_upk 6 hb_ rfl rfl rfl), Q_BK167, Q_BK168, Q_HB, fun h0_ => absurd ((hoff 9 (by kernel_rfl)).symm.trans h0_) (by decide), Q_HO177⟩
            refine steps_cons ?_ ?_
            · rintro b a w' ⟨v172, v176, ha, Q_BK167, Q_BK168, Q_HB, Q_HO173, Q_HO177⟩ hb_ hon hoff
              refine ⟨_, rfl, fun K hK => ?_⟩
              have e30 : a.tmps[30]? = some (.agg #[.int .i64 x9_4, .string a0, .string a1]) := by rw [ha]; exact putSel_on (e := (8, 30, .agg #[.int .i64 x9_4, .string a0, .string a1])) 6 rfl rfl (hon 8 (by kernel_rfl)) rfl
              have e29 : a.tmps[29]? = some (.bool (t169 != t170)) := by rw [ha]; exact putSel_on (e := (7, 29, .bool (t169 != t170))) 5 rfl rfl (hon 7 (by kernel_rfl)) rfl
              replace ha := Aside0.mk ha
              have BK167 := Aside0.mk Q_BK167
              have BK168 := Aside0.mk Q_BK168
              have HB := Aside0.mk Q_HB
              refine Kd.R_lit_step k35 _ 35 ?hg (N := 31) ?hd (xs := ([(⟨x9_4, a0, a1⟩ : S35)] : List (S35))) (inner := [.int .i64 x9_4, .string a0, .string a1]) (ok := fun _ => True) (okp := fun _ => True) ?hr ?hp (fun _ hk => hk) trivial (Below.refl _ _) (Nat.le_refl _) (by simp) ?_; (case hd => rfl); (case hg => (first | rfl | exact dryrotlaw09_MatchNot.wanted_at (b := true) rfl rfl (by simp [*]))); (case hr => first | (go_simp; done) | (go_simp; rfl)); (case hp => exact (Reps.c3 (show Kd.M k35 _ _ _ (⟨x9_4, a0, a1⟩ : S35) [.int .i64 x9_4, .string a0, .string a1] from (k35_mkM _ _ _ (⟨x9_4, a0, a1⟩ : S35) )) (Reps.none _ _)))
              intro v172 w24 ho25 hb hg_ hnew_
              clear hg_ hnew_
              (first | rw [← Ny171.out] at ho25 | (simp only [Int.reduceToNat] at ho25; rw [← Ny171.out] at ho25))
              have n0_ := Aside0.mk (Kd.R_lower (Kd.R_newB (Kd.R_newB ho25 (g := gb167) (o := .cells #[.int .i64 x9_4, .string a0, .string a1] 35 (0, 0)) (by (with_reducible repeat (first | refine blk_drewN ?_ _ | refine blk_drew ?_ | refine blk_alloc ?_ _)); exact BK167.out)) (g := gb168) (o := .cells #[.int .i64 (wrap64 (x9_4 + 1)), .string a0, .string a1] 35 (0, 0)) (by (with_reducible repeat (first | refine blk_drewN ?_ _ | refine blk_drew ?_ | refine blk_alloc ?_ _)); exact BK168.out)) (below_size (by repeat (first | (with_reducible first | exact HB.out | apply below_alloc | apply pw_below_drewN | apply below_drew1 | refine below_set ?_ GE167.out | refine below_set ?_ GE168.out) | exact HB.out))))
              have n1_ := Aside0.mk (blk_below (g := gb167) (o := .cells #[.int .i64 x9_4, .string a0, .string a1] 35 (0, 0)) (by (with_reducible repeat (first | refine blk_drewN ?_ _ | refine blk_drew ?_ | refine blk_alloc ?_ _)); exact BK167.out) hb)
              have n2_ := Aside0.mk (blk_below (g := gb168) (o := .cells #[.int .i64 (wrap64 (x9_4 + 1)), .string a0, .string a1] 35 (0, 0)) (by (with_reducible repeat (first | refine blk_drewN ?_ _ | refine blk_drew ?_ | refine blk_alloc ?_ _)); exact BK168.out) hb)
              have n3_ := Aside0.mk (below_step (by repeat (first | (with_reducible first | exact HB.out | apply below_alloc | apply pw_below_drewN | apply below_drew1 | refine below_set ?_ GE167.out | refine below_set ?_ GE168.out) | exact HB.out)) hb)
              have z_HO177 := fun (h0_ : b 12 = true) => (show Kd.R k35 35 w24 w.heap.size (fun k_ => k_ ≠ gb167 ∧ k_ ≠ gb168) v176 y175 from by first | exact (Kd.R_elder' (by (with_reducible repeat (first | apply Kd.R_alloc | apply Kd.R_drewN | apply Kd.R_drew)); exact (Q_HO177 h0_)) (Kd.R_base ho25) hb) | exact Kd.R_mono (Kd.R_elder' (by (with_reducible repeat (first | apply Kd.R_alloc | apply Kd.R_drewN | apply Kd.R_drew)); exact (Q_HO177 h0_)) (Kd.R_base ho25) hb) (fun _ h_ => by first | trivial | exact h_ | exact h_.1))
              clear BK167
              clear BK168
              clear HB
              have HO173 := n0_
              have BK167 := n1_
              have BK168 := n2_
              have HB := n3_
              clear n0_ n1_ n2_ n3_
              clear hb ho25
              refine hK.out _ _ ⟨v172, v176, (by rw [ha.out]; exact putSel_upk 7 hb_ rfl rfl rfl), (by (with_reducible repeat (first | refine blk_drewN ?_ _ | refine blk_drew ?_ | refine blk_alloc ?_ _)); exact BK167.out), (by (with_reducible repeat (first | refine blk_drewN ?_ _ | refine blk_drew ?_ | refine blk_alloc ?_ _)); exact BK168.out), (by repeat (first | (with_reducible first | exact HB.out | apply below_alloc | apply pw_below_drewN | apply below_drew1 | refine below_set ?_ GE167.out | refine below_set ?_ GE168.out) | exact HB.out)), fun _ => (by (with_reducible repeat (first | apply Kd.R_alloc | apply Kd.R_drewN | apply Kd.R_drew)); exact Kd.R_mono HO173.out (fun _ hk => ⟨hk.1.2, hk.2⟩)), z_HO177⟩
            refine steps_cons ?_ ?_
            · rintro b a w' ⟨v172, v176, ha, Q_BK167, Q_BK168, Q_HB, Q_HO173, Q_HO177⟩ hb_ hon hoff
              refine ⟨_, rfl, fun K hK => ?_⟩
              have e31 : a.tmps[31]? = some (v172) := by rw [ha]; exact putSel_on (e := (9, 31, v172)) 7 rfl rfl (hon 9 (by kernel_rfl)) rfl
              have e29 : a.tmps[29]? = some (.bool (t169 != t170)) := by rw [ha]; exact putSel_on (e := (7, 29, .bool (t169 != t170))) 5 rfl rfl (hon 7 (by kernel_rfl)) rfl
              replace ha := Aside0.mk ha
              have BK167 := Aside0.mk Q_BK167
              have BK168 := Aside0.mk Q_BK168
              have HB := Aside0.mk Q_HB
              have HO173 := Aside0.mk (Q_HO173 (hon 9 (by kernel_rfl)))
              obtain ⟨Ao26, co26, eo26⟩ := Kd.R_slice HO173.out
              (first | subst eo26 | (injection eo26 with f1_ f2_ f3_; have f4_ := f1_.symm; have f5_ := f3_.symm; clear f1_ f2_ f3_; subst f4_; subst f5_))
              refine goes_ Tryd.func19 (by kernel_rfl) rfl #[.slice Ao26 y171.length co26] (by (first | rfl | exact dryrotlaw09_MatchNot.wanted_at (b := true) rfl rfl (by simp [*]))) rfl rfl (by first | (simp only [List.map_toArray, List.map_cons, List.map_nil, Act.eval, Array.getD_eq_getD_getElem?, Option.getD_some, e31, e29]; done) | (simp only [List.map_toArray, List.map_cons, List.map_nil, Act.eval, Array.getD_eq_getD_getElem?, Option.getD_some, e31, e29]; rfl)) ?_
              with_reducible refine (match_Can.callsP _ _ y171 t174 _ ?side1 ?side2 ?side3 A10.out).mono ?_
              (case side1 => repeat (first | exact (Kd.R_reads' HO173.out).2.2 | (with_reducible refine Kd.C_alloc ?_ _) | (with_reducible refine Kd.C_drewN ?_ _) | (with_reducible refine Kd.C_drew ?_)))
              (case side2 => exact (Kd.R_reads' HO173.out).2.1)
              (case side3 => exact HG.out.below (by repeat (first | (with_reducible first | exact HB.out | apply below_alloc | apply pw_below_drewN | apply below_drew1 | refine below_set ?_ GE167.out | refine below_set ?_ GE168.out) | exact HB.out)))
              rintro e w27 ⟨rfl, hb⟩
              refine ⟨_, rfl, ?_⟩
              have n0_ := Aside0.mk (Kd.R_below (by (with_reducible repeat (first | apply Kd.R_alloc | apply Kd.R_drewN | apply Kd.R_drew)); exact HO173.out) hb)
              have n1_ := Aside0.mk (blk_below (g := gb167) (o := .cells #[.int .i64 x9_4, .string a0, .string a1] 35 (0, 0)) (by (with_reducible repeat (first | refine blk_drewN ?_ _ | refine blk_drew ?_ | refine blk_alloc ?_ _)); exact BK167.out) hb)
              have n2_ := Aside0.mk (blk_below (g := gb168) (o := .cells #[.int .i64 (wrap64 (x9_4 + 1)), .string a0, .string a1] 35 (0, 0)) (by (with_reducible repeat (first | refine blk_drewN ?_ _ | refine blk_drew ?_ | refine blk_alloc ?_ _)); exact BK168.out) hb)
              have n3_ := Aside0.mk (below_step (by repeat (first | (with_reducible first | exact HB.out | apply below_alloc | apply pw_below_drewN | apply below_drew1 | refine below_set ?_ GE167.out | refine below_set ?_ GE168.out) | exact HB.out)) hb)
              have z_HO177 := fun (h0_ : b 12 = true) => (show Kd.R k35 35 w27 w.heap.size (fun k_ => k_ ≠ gb167 ∧ k_ ≠ gb168) v176 y175 from by first | exact (Kd.R_below (by (with_reducible repeat (first | apply Kd.R_alloc | apply Kd.R_drewN | apply Kd.R_drew)); exact (Q_HO177 h0_)) hb) | exact Kd.R_mono (Kd.R_below (by (with_reducible repeat (first | apply Kd.R_alloc | apply Kd.R_drewN | apply Kd.R_drew)); exact (Q_HO177 h0_)) hb) (fun _ h_ => by first | trivial | exact h_ | exact h_.1))
              clear HO173
              clear BK167
              clear BK168
              clear HB
              have HO173 := n0_
              have BK167 := n1_
              have BK168 := n2_
              have HB := n3_
              clear n0_ n1_ n2_ n3_
              (try clear hb)
              (try clear hb2)
              (try clear hk)
              (try clear hi)
              refine hK.out _ _ ⟨.slice Ao26 y171.length co26, v176, (by rw [ha.out]; exact putSel_upk 8 hb_ rfl rfl rfl), (by (with_reducible repeat (first | refine blk_drewN ?_ _ | refine blk_drew ?_ | refine blk_alloc ?_ _)); exact BK167.out), (by (with_reducible repeat (first | refine blk_drewN ?_ _ | refine blk_drew ?_ | refine blk_alloc ?_ _)); exact BK168.out), (by repeat (first | (with_reducible first | exact HB.out | apply below_alloc | apply pw_below_drewN | apply below_drew1 | refine below_set ?_ GE167.out | refine below_set ?_ GE168.out) | exact HB.out)), fun _ => (by (with_reducible repeat (first | apply Kd.R_alloc | apply Kd.R_drewN | apply Kd.R_drew)); exact HO173.out), z_HO177⟩
            refine steps_cons ?_ ?_
            · rintro b a w' ⟨v172, v176, ha, Q_BK167, Q_BK168, Q_HB, Q_HO173, Q_HO177⟩ hb_ hon hoff
              refine ⟨_, rfl, fun K hK => ?_⟩
              have e11 : a.tmps[11]? = some (.pointer (some ⟨gb168, 0, none⟩)) := by rw [ha]; exact (putSel_off rfl).trans rfl
              have e29 : a.tmps[29]? = some (.bool (t169 != t170)) := by rw [ha]; exact putSel_on (e := (7, 29, .bool (t169 != t170))) 5 rfl rfl (hon 7 (by kernel_rfl)) rfl
              replace ha := Aside0.mk ha
              have BK167 := Aside0.mk Q_BK167
              have BK168 := Aside0.mk Q_BK168
              have HB := Aside0.mk Q_HB
              have hc0_ : w'.cell? ⟨gb168, 0, none⟩ = some (.int .i64 (wrap64 (x9_4 + 1))) := (blk_cell BK168.out 0).trans rfl
              have hc1_ : w'.cell? ⟨gb168, 1, none⟩ = some (.string a0) := (blk_cell BK168.out 1).trans rfl
              have hc2_ : w'.cell? ⟨gb168, 2, none⟩ = some (.string a1) := (blk_cell BK168.out 2).trans rfl
              refine value_ (w1 := w') (v := .agg #[.int .i64 (wrap64 (x9_4 + 1)), .string a0, .string a1]) (wanted_on rfl rfl rfl (e29.trans (by first | rfl | (simp [*]; done)))) rfl ?_ ?_
              · go_simp
                (try simp only [i64_w])
                try rfl
              refine hK.out _ _ ⟨v172, v176, (by rw [ha.out]; exact putSel_upk 9 hb_ rfl rfl rfl), Q_BK167, Q_BK168, Q_HB, Q_HO173, fun h0_ => absurd ((hoff 12 (by kernel_rfl)).symm.trans h0_) (by decide)⟩
            refine steps_cons ?_ ?_
            · rintro b a w' ⟨v172, v176, ha, Q_BK167, Q_BK168, Q_HB, Q_HO173, Q_HO177⟩ hb_ hon hoff
              refine ⟨_, rfl, fun K hK => ?_⟩
              have e33 : a.tmps[33]? = some (.agg #[.int .i64 (wrap64 (x9_4 + 1)), .string a0, .string a1]) := by rw [ha]; exact putSel_on (e := (11, 33, .agg #[.int .i64 (wrap64 (x9_4 + 1)), .string a0, .string a1])) 9 rfl rfl (hon 11 (by kernel_rfl)) rfl
              have e29 : a.tmps[29]? = some (.bool (t169 != t170)) := by rw [ha]; exact putSel_on (e := (7, 29, .bool (t169 != t170))) 5 rfl rfl (hon 7 (by kernel_rfl)) rfl
              replace ha := Aside0.mk ha
              have BK167 := Aside0.mk Q_BK167
              have BK168 := Aside0.mk Q_BK168
              have HB := Aside0.mk Q_HB
              refine Kd.R_lit_step k35 _ 35 ?hg (N := 34) ?hd (xs := ([(⟨wrap64 (x9_4 + 1), a0, a1⟩ : S35)] : List (S35))) (inner := [.int .i64 (wrap64 (x9_4 + 1)), .string a0, .string a1]) (ok := fun _ => True) (okp := fun _ => True) ?hr ?hp (fun _ hk => hk) trivial (Below.refl _ _) (Nat.le_refl _) (by simp) ?_; (case hd => rfl); (case hg => (first | rfl | exact dryrotlaw09_MatchNot.wanted_at (b := true) rfl rfl (by simp [*]))); (case hr => first | (go_simp; done) | (go_simp; rfl)); (case hp => exact (Reps.c3 (show Kd.M k35 _ _ _ (⟨wrap64 (x9_4 + 1), a0, a1⟩ : S35) [.int .i64 (wrap64 (x9_4 + 1)), .string a0, .string a1] from (k35_mkM _ _ _ (⟨wrap64 (x9_4 + 1), a0, a1⟩ : S35) )) (Reps.none _ _)))
              intro v176 w24 ho25 hb hg_ hnew_
              clear hg_ hnew_
              (first | rw [← Ny175.out] at ho25 | (simp only [Int.reduceToNat] at ho25; rw [← Ny175.out] at ho25))
              have n0_ := Aside0.mk (Kd.R_lower (Kd.R_newB (Kd.R_newB ho25 (g := gb167) (o := .cells #[.int .i64 x9_4, .string a0, .string a1] 35 (0, 0)) (by (with_reducible repeat (first | refine blk_drewN ?_ _ | refine blk_drew ?_ | refine blk_alloc ?_ _)); exact BK167.out)) (g := gb168) (o := .cells #[.int .i64 (wrap64 (x9_4 + 1)), .string a0, .string a1] 35 (0, 0)) (by (with_reducible repeat (first | refine blk_drewN ?_ _ | refine blk_drew ?_ | refine blk_alloc ?_ _)); exact BK168.out)) (below_size (by repeat (first | (with_reducible first | exact HB.out | apply below_alloc | apply pw_below_drewN | apply below_drew1 | refine below_set ?_ GE167.out | refine below_set ?_ GE168.out) | exact HB.out))))
              have n1_ := Aside0.mk (blk_below (g := gb167) (o := .cells #[.int .i64 x9_4, .string a0, .string a1] 35 (0, 0)) (by (with_reducible repeat (first | refine blk_drewN ?_ _ | refine blk_drew ?_ | refine blk_alloc ?_ _)); exact BK167.out) hb)
              have n2_ := Aside0.mk (blk_below (g := gb168) (o := .cells #[.int .i64 (wrap64 (x9_4 + 1)), .string a0, .string a1] 35 (0, 0)) (by (with_reducible repeat (first | refine blk_drewN ?_ _ | refine blk_drew ?_ | refine blk_alloc ?_ _)); exact BK168.out) hb)
              have n3_ := Aside0.mk (below_step (by repeat (first | (with_reducible first | exact HB.out | apply below_alloc | apply pw_below_drewN | apply below_drew1 | refine below_set ?_ GE167.out | refine below_set ?_ GE168.out) | exact HB.out)) hb)
              have z_HO173 := fun (h0_ : b 9 = true) => (show Kd.R k35 35 w24 w.heap.size (fun k_ => k_ ≠ gb167 ∧ k_ ≠ gb168) v172 y171 from by first | exact (Kd.R_elder' (by (with_reducible repeat (first | apply Kd.R_alloc | apply Kd.R_drewN | apply Kd.R_drew)); exact (Q_HO173 h0_)) (Kd.R_base ho25) hb) | exact Kd.R_mono (Kd.R_elder' (by (with_reducible repeat (first | apply Kd.R_alloc | apply Kd.R_drewN | apply Kd.R_drew)); exact (Q_HO173 h0_)) (Kd.R_base ho25) hb) (fun _ h_ => by first | trivial | exact h_ | exact h_.1))
              clear BK167
              clear BK168
              clear HB
              have HO177 := n0_
              have BK167 := n1_
              have BK168 := n2_
              have HB := n3_
              clear n0_ n1_ n2_ n3_
              clear hb ho25
              refine hK.out _ _ ⟨v172, v176, (by rw [ha.out]; exact putSel_upk 10 hb_ rfl rfl rfl), (by (with_reducible repeat (first | refine blk_drewN ?_ _ | refine blk_drew ?_ | refine blk_alloc ?_ _)); exact BK167.out), (by (with_reducible repeat (first | refine blk_drewN ?_ _ | refine blk_drew ?_ | refine blk_alloc ?_ _)); exact BK168.out), (by repeat (first | (with_reducible first | exact HB.out | apply below_alloc | apply pw_below_drewN | apply below_drew1 | refine below_set ?_ GE167.out | refine below_set ?_ GE168.out) | exact HB.out)), z_HO173, fun _ => (by (with_reducible repeat (first | apply Kd.R_alloc | apply Kd.R_drewN | apply Kd.R_drew)); exact Kd.R_mono HO177.out (fun _ hk => ⟨hk.1.2, hk.2⟩))⟩
            refine steps_cons ?_ ?_
            · rintro b a w' ⟨v172, v176, ha, Q_BK167, Q_BK168, Q_HB, Q_HO173, Q_HO177⟩ hb_ hon hoff
              refine ⟨_, rfl, fun K hK => ?_⟩
              have e34 : a.tmps[34]? = some (v176) := by rw [ha]; exact putSel_on (e := (12, 34, v176)) 10 rfl rfl (hon 12 (by kernel_rfl)) rfl
              have e29 : a.tmps[29]? = some (.bool (t169 != t170)) := by rw [ha]; exact putSel_on (e := (7, 29, .bool (t169 != t170))) 5 rfl rfl (hon 7 (by kernel_rfl)) rfl
              replace ha := Aside0.mk ha
              have BK167 := Aside0.mk Q_BK167
              have BK168 := Aside0.mk Q_BK168
              have HB := Aside0.mk Q_HB
              have HO173 := Aside0.mk (Q_HO173 (hon 9 (by kernel_rfl)))
              have HO177 := Aside0.mk (Q_HO177 (hon 12 (by kernel_rfl)))
              obtain ⟨Ao30, co30, eo30⟩ := Kd.R_slice HO177.out
              (first | subst eo30 | (injection eo30 with f1_ f2_ f3_; have f4_ := f1_.symm; have f5_ := f3_.symm; clear f1_ f2_ f3_; subst f4_; subst f5_))
              refine goes_ Tryd.func19 (by kernel_rfl) rfl #[.slice Ao30 y175.length co30] (by (first | rfl | exact dryrotlaw09_MatchNot.wanted_at (b := true) rfl rfl (by simp [*]))) rfl rfl (by first | (simp only [List.map_toArray, List.map_cons, List.map_nil, Act.eval, Array.getD_eq_getD_getElem?, Option.getD_some, e34, e29]; done) | (simp only [List.map_toArray, List.map_cons, List.map_nil, Act.eval, Array.getD_eq_getD_getElem?, Option.getD_some, e34, e29]; rfl)) ?_
              with_reducible refine (match_Can.callsP _ _ y175 t178 _ ?side1 ?side2 ?side3 A11.out).mono ?_
              (case side1 => repeat (first | exact (Kd.R_reads' HO177.out).2.2 | (with_reducible refine Kd.C_alloc ?_ _) | (with_reducible refine Kd.C_drewN ?_ _) | (with_reducible refine Kd.C_drew ?_)))
              (case side2 => exact (Kd.R_reads' HO177.out).2.1)
              (case side3 => exact HG.out.below (by repeat (first | (with_reducible first | exact HB.out | apply below_alloc | apply pw_below_drewN | apply below_drew1 | refine below_set ?_ GE167.out | refine below_set ?_ GE168.out) | exact HB.out)))
              rintro e w31 ⟨rfl, hb⟩
              refine ⟨_, rfl, ?_⟩
              have n0_ := Aside0.mk (Kd.R_below (by (with_reducible repeat (first | apply Kd.R_alloc | apply Kd.R_drewN | apply Kd.R_drew)); exact HO173.out) hb)
              have n1_ := Aside0.mk (Kd.R_below (by (with_reducible repeat (first | apply Kd.R_alloc | apply Kd.R_drewN | apply Kd.R_drew)); exact HO177.out) hb)
              have n2_ := Aside0.mk (blk_below (g := gb167) (o := .cells #[.int .i64 x9_4, .string a0, .string a1] 35 (0, 0)) (by (with_reducible repeat (first | refine blk_drewN ?_ _ | refine blk_drew ?_ | refine blk_alloc ?_ _)); exact BK167.out) hb)
              have n3_ := Aside0.mk (blk_below (g := gb168) (o := .cells #[.int .i64 (wrap64 (x9_4 + 1)), .string a0, .string a1] 35 (0, 0)) (by (with_reducible repeat (first | refine blk_drewN ?_ _ | refine blk_drew ?_ | refine blk_alloc ?_ _)); exact BK168.out) hb)
              have n4_ := Aside0.mk (below_step (by repeat (first | (with_reducible first | exact HB.out | apply below_alloc | apply pw_below_drewN | apply below_drew1 | refine below_set ?_ GE167.out | refine below_set ?_ GE168.out) | exact HB.out)) hb)
              clear HO173
              clear HO177
              clear BK167
              clear BK168
              clear HB
              have HO173 := n0_
              have HO177 := n1_
              have BK167 := n2_
              have BK168 := n3_
              have HB := n4_
              clear n0_ n1_ n2_ n3_ n4_
              (try clear hb)
              (try clear hb2)
              (try clear hk)
              (try clear hi)
              refine hK.out _ _ ⟨v172, .slice Ao30 y175.length co30, (by rw [ha.out]; exact putSel_upk 11 hb_ rfl rfl rfl), (by (with_reducible repeat (first | refine blk_drewN ?_ _ | refine blk_drew ?_ | refine blk_alloc ?_ _)); exact BK167.out), (by (with_reducible repeat (first | refine blk_drewN ?_ _ | refine blk_drew ?_ | refine blk_alloc ?_ _)); exact BK168.out), (by repeat (first | (with_reducible first | exact HB.out | apply below_alloc | apply pw_below_drewN | apply below_drew1 | refine below_set ?_ GE167.out | refine below_set ?_ GE168.out) | exact HB.out)), fun _ => (by (with_reducible repeat (first | apply Kd.R_alloc | apply Kd.R_drewN | apply Kd.R_drew)); exact HO173.out), fun _ => (by (with_reducible repeat (first | apply Kd.R_alloc | apply Kd.R_drewN | apply Kd.R_drew)); exact HO177.out)⟩
            refine steps_cons ?_ ?_
            · rintro b a w' ⟨v172, v176, ha, Q_BK167, Q_BK168, Q_HB, Q_HO173, Q_HO177⟩ hb_ hon hoff
              refine ⟨_, rfl, fun K hK => ?_⟩
              have e32 : a.tmps[32]? = some (.bool t174) := by rw [ha]; exact putSel_on (e := (10, 32, .bool t174)) 8 rfl rfl (hon 10 (by kernel_rfl)) rfl
              have e35 : a.tmps[35]? = some (.bool t178) := by rw [ha]; exact putSel_on (e := (13, 35, .bool t178)) 11 rfl rfl (hon 13 (by kernel_rfl)) rfl
              have e29 : a.tmps[29]? = some (.bool (t169 != t170)) := by rw [ha]; exact putSel_on (e := (7, 29, .bool (t169 != t170))) 5 rfl rfl (hon 7 (by kernel_rfl)) rfl
              replace ha := Aside0.mk ha
              have BK167 := Aside0.mk Q_BK167
              have BK168 := Aside0.mk Q_BK168
              have HB := Aside0.mk Q_HB
              have HO173 := Aside0.mk (Q_HO173 (hon 9 (by kernel_rfl)))
              have HO177 := Aside0.mk (Q_HO177 (hon 12 (by kernel_rfl)))
              refine value_ (w1 := w') (v := .bool (t174 == t178)) (wanted_on rfl rfl rfl (e29.trans (by first | rfl | (simp [*]; done)))) rfl ?_ ?_
              · go_simp
                (try simp only [i64_w])
                try rfl
              refine hK.out _ _ ⟨v172, v176, (by rw [ha.out]; exact putSel_upk 12 hb_ rfl rfl rfl), Q_BK167, Q_BK168, Q_HB, Q_HO173, Q_HO177⟩
            refine steps_cons ?_ ?_
            · rintro b a w' ⟨v172, v176, ha, Q_BK167, Q_BK168, Q_HB, Q_HO173, Q_HO177⟩ hb_ hon hoff
              refine ⟨_, rfl, fun K hK => ?_⟩
              have e29 : a.tmps[29]? = some (.bool (t169 != t170)) := by rw [ha]; exact putSel_on (e := (7, 29, .bool (t169 != t170))) 5 rfl rfl (hon 7 (by kernel_rfl)) rfl
              have e36 : a.tmps[36]? = some (.bool (t174 == t178)) := by rw [ha]; exact putSel_on (e := (14, 36, .bool (t174 == t178))) 12 rfl rfl (hon 14 (by kernel_rfl)) rfl
              replace ha := Aside0.mk ha
              have BK167 := Aside0.mk Q_BK167
              have BK168 := Aside0.mk Q_BK168
              have HB := Aside0.mk Q_HB
              have HO173 := Aside0.mk (Q_HO173 (hon 9 (by kernel_rfl)))
              have HO177 := Aside0.mk (Q_HO177 (hon 12 (by kernel_rfl)))
              refine value_ (w1 := w') (v := .bool (t174 == t178)) (by rfl) rfl ?_ ?_
              · go_simp
                (try simp only [i64_w])
                try rfl
              refine hK.out _ _ ⟨v172, v176, (by rw [ha.out]; exact putSel_upk 13 hb_ rfl rfl rfl), Q_BK167, Q_BK168, Q_HB, Q_HO173, Q_HO177⟩
            refine steps_cons ?_ ?_
            · rintro b a w' ⟨v172, v176, ha, Q_BK167, Q_BK168, Q_HB, Q_HO173, Q_HO177⟩ hb_ hon hoff
              refine ⟨_, rfl, fun K hK => ?_⟩
              have e37 : a.tmps[37]? = some (.bool (t174 == t178)) := by rw [ha]; exact putSel_on (e := (15, 37, .bool (t174 == t178))) 13 rfl rfl (hon 15 (by kernel_rfl)) rfl
              replace ha := Aside0.mk ha
              have BK167 := Aside0.mk Q_BK167
              have BK168 := Aside0.mk Q_BK168
              have HB := Aside0.mk Q_HB
              have HO173 := Aside0.mk (Q_HO173 (hon 9 (by kernel_rfl)))
              have HO177 := Aside0.mk (Q_HO177 (hon 12 (by kernel_rfl)))
              refine value_ (w1 := w') (v := .bool (t174 == t178)) (by rfl) rfl ?_ ?_
              · go_simp
                (try simp only [i64_w])
                try rfl
              refine hK.out _ _ ⟨v172, v176, (by rw [ha.out]; exact putSel_upk 14 hb_ rfl rfl rfl), Q_BK167, Q_BK168, Q_HB, Q_HO173, Q_HO177⟩
            refine steps_cons ?_ ?_
            · rintro b a w' ⟨v172, v176, ha, Q_BK167, Q_BK168, Q_HB, Q_HO173, Q_HO177⟩ hb_ hon hoff
              refine ⟨_, rfl, fun K hK => ?_⟩
              have e38 : a.tmps[38]? = some (.bool (t174 == t178)) := by rw [ha]; exact putSel_on (e := (16, 38, .bool (t174 == t178))) 14 rfl rfl (hon 16 (by kernel_rfl)) rfl
              replace ha := Aside0.mk ha
              have BK167 := Aside0.mk Q_BK167
              have BK168 := Aside0.mk Q_BK168
              have HB := Aside0.mk Q_HB
              have HO173 := Aside0.mk (Q_HO173 (hon 9 (by kernel_rfl)))
              have HO177 := Aside0.mk (Q_HO177 (hon 12 (by kernel_rfl)))
              refine goes_ Tryd.func20 (by kernel_rfl) rfl #[] (by (first | rfl | exact dryrotlaw09_MatchNot.wanted_at (b := true) rfl rfl (by simp [*]))) rfl rfl (by first | (simp only [List.map_toArray, List.map_cons, List.map_nil, Act.eval, Array.getD_eq_getD_getElem?, Option.getD_some, e38]; done) | (simp only [List.map_toArray, List.map_cons, List.map_nil, Act.eval, Array.getD_eq_getD_getElem?, Option.getD_some, e38]; rfl)) ?_
              with_reducible refine (dryrotlaw09_awake.callsP  t179 _ ?side1 A13.out).mono ?_
              (case side1 => exact HG.out.below (by repeat (first | (with_reducible first | exact HB.out | apply below_alloc | apply pw_below_drewN | apply below_drew1 | refine below_set ?_ GE167.out | refine below_set ?_ GE168.out) | exact HB.out)))
              rintro e w32 ⟨rfl, hb⟩
              refine ⟨_, rfl, ?_⟩
              have n0_ := Aside0.mk (Kd.R_below (by (with_reducible repeat (first | apply Kd.R_alloc | apply Kd.R_drewN | apply Kd.R_drew)); exact HO173.out) hb)
              have n1_ := Aside0.mk (Kd.R_below (by (with_reducible repeat (first | apply Kd.R_alloc | apply Kd.R_drewN | apply Kd.R_drew)); exact HO177.out) hb)
              have n2_ := Aside0.mk (blk_below (g := gb167) (o := .cells #[.int .i64 x9_4, .string a0, .string a1] 35 (0, 0)) (by (with_reducible repeat (first | refine blk_drewN ?_ _ | refine blk_drew ?_ | refine blk_alloc ?_ _)); exact BK167.out) hb)
              have n3_ := Aside0.mk (blk_below (g := gb168) (o := .cells #[.int .i64 (wrap64 (x9_4 + 1)), .string a0, .string a1] 35 (0, 0)) (by (with_reducible repeat (first | refine blk_drewN ?_ _ | refine blk_drew ?_ | refine blk_alloc ?_ _)); exact BK168.out) hb)
              have n4_ := Aside0.mk (below_step (by repeat (first | (with_reducible first | exact HB.out | apply below_alloc | apply pw_below_drewN | apply below_drew1 | refine below_set ?_ GE167.out | refine below_set ?_ GE168.out) | exact HB.out)) hb)
              clear HO173
              clear HO177
              clear BK167
              clear BK168
              clear HB
              have HO173 := n0_
              have HO177 := n1_
              have BK167 := n2_
              have BK168 := n3_
              have HB := n4_
              clear n0_ n1_ n2_ n3_ n4_
              (try clear hb)
              (try clear hb2)
              (try clear hk)
              (try clear hi)
              refine hK.out _ _ ⟨v172, v176, (by rw [ha.out]; exact putSel_upk 15 hb_ rfl rfl rfl), (by (with_reducible repeat (first | refine blk_drewN ?_ _ | refine blk_drew ?_ | refine blk_alloc ?_ _)); exact BK167.out), (by (with_reducible repeat (first | refine blk_drewN ?_ _ | refine blk_drew ?_ | refine blk_alloc ?_ _)); exact BK168.out), (by repeat (first | (with_reducible first | exact HB.out | apply below_alloc | apply pw_below_drewN | apply below_drew1 | refine below_set ?_ GE167.out | refine below_set ?_ GE168.out) | exact HB.out)), fun _ => (by (with_reducible repeat (first | apply Kd.R_alloc | apply Kd.R_drewN | apply Kd.R_drew)); exact HO173.out), fun _ => (by (with_reducible repeat (first | apply Kd.R_alloc | apply Kd.R_drewN | apply Kd.R_drew)); exact HO177.out)⟩
            refine steps_cons ?_ ?_
            · rintro b a w' ⟨v172, v176, ha, Q_BK167, Q_BK168, Q_HB, Q_HO173, Q_HO177⟩ hb_ hon hoff
              refine ⟨_, rfl, fun K hK => ?_⟩
              have e38 : a.tmps[38]? = some (.bool (t174 == t178)) := by rw [ha]; exact putSel_on (e := (16, 38, .bool (t174 == t178))) 14 rfl rfl (hon 16 (by kernel_rfl)) rfl
              have e39 : a.tmps[39]? = some (.bool t179) := by rw [ha]; exact putSel_on (e := (17, 39, .bool t179)) 15 rfl rfl (hon 17 (by kernel_rfl)) rfl
              replace ha := Aside0.mk ha
              have BK167 := Aside0.mk Q_BK167
              have BK168 := Aside0.mk Q_BK168
              have HB := Aside0.mk Q_HB
              have HO173 := Aside0.mk (Q_HO173 (hon 9 (by kernel_rfl)))
              have HO177 := Aside0.mk (Q_HO177 (hon 12 (by kernel_rfl)))
              refine value_ (w1 := w') (v := .bool t179) (by rfl) rfl ?_ ?_
              · go_simp
                (try simp only [i64_w])
                try rfl
              refine hK.out _ _ ⟨v172, v176, (by rw [ha.out]; exact putSel_upk 16 hb_ rfl rfl rfl), Q_BK167, Q_BK168, Q_HB, Q_HO173, Q_HO177⟩
            refine steps_cons ?_ ?_
            · rintro b a w' ⟨v172, v176, ha, Q_BK167, Q_BK168, Q_HB, Q_HO173, Q_HO177⟩ hb_ hon hoff
              refine ⟨_, rfl, fun K hK => ?_⟩
              have e40 : a.tmps[40]? = some (.bool t179) := by rw [ha]; exact putSel_on (e := (18, 40, .bool t179)) 16 rfl rfl (hon 18 (by kernel_rfl)) rfl
              replace ha := Aside0.mk ha
              have BK167 := Aside0.mk Q_BK167
              have BK168 := Aside0.mk Q_BK168
              have HB := Aside0.mk Q_HB
              have HO173 := Aside0.mk (Q_HO173 (hon 9 (by kernel_rfl)))
              have HO177 := Aside0.mk (Q_HO177 (hon 12 (by kernel_rfl)))
              refine value_ (w1 := w') (v := .bool t179) (by rfl) rfl ?_ ?_
              · go_simp
                (try simp only [i64_w])
                try rfl
              refine hK.out _ _ ⟨v172, v176, (by rw [ha.out]; exact putSel_upk 17 hb_ rfl rfl rfl), Q_BK167, Q_BK168, Q_HB, Q_HO173, Q_HO177⟩
            exact steps_nil
          rintro b a w32 hall ⟨v172, v176, ha, Q_BK167, Q_BK168, Q_HB, Q_HO173, Q_HO177⟩
          clear BK167 BK168 HB
          have hb0_ := hall 0 (by kernel_rfl)
          have hb2_ := hall 2 (by kernel_rfl)
          have hb3_ := hall 3 (by kernel_rfl)
          have hb5_ := hall 5 (by kernel_rfl)
          have hb6_ := hall 6 (by kernel_rfl)
          have hb7_ := hall 7 (by kernel_rfl)
          have hb8_ := hall 8 (by kernel_rfl)
          have hb9_ := hall 9 (by kernel_rfl)
          have hb10_ := hall 10 (by kernel_rfl)
          have hb11_ := hall 11 (by kernel_rfl)
          have hb12_ := hall 12 (by kernel_rfl)
          have hb13_ := hall 13 (by kernel_rfl)
          have hb14_ := hall 14 (by kernel_rfl)
          have hb15_ := hall 15 (by kernel_rfl)
          have hb16_ := hall 16 (by kernel_rfl)
          have hb17_ := hall 17 (by kernel_rfl)
          have hb18_ := hall 18 (by kernel_rfl)
          have hb19_ := hall 19 (by kernel_rfl)
          subst ha
          simp only [putSel, hb0_, hb2_, hb3_, hb5_, hb6_, hb7_, hb8_, hb9_, hb10_, hb11_, hb12_, hb13_, hb14_, hb15_, hb16_, hb17_, hb18_, hb19_, if_true, Act.put, List.setIfInBounds_toArray, List.set_cons_zero, List.set_cons_succ]
          have BK167 := Aside0.mk Q_BK167
          clear Q_BK167
          have BK168 := Aside0.mk Q_BK168
          clear Q_BK168
          have HB := Aside0.mk Q_HB
          clear Q_HB
          have HO173 := Aside0.mk (Q_HO173 hb9_)
          clear Q_HO173
          have HO177 := Aside0.mk (Q_HO177 hb12_)
          clear Q_HO177
          clear hall hb0_ hb2_ hb3_ hb5_ hb6_ hb7_ hb8_ hb9_ hb10_ hb11_ hb12_ hb13_ hb14_ hb15_ hb16_ hb17_ hb18_ hb19_
          try go_wp2
          go_ret
          exact ⟨by first | rfl | (simp [errW_none, errW_some] <;> rfl) | (simp [*, errW_none, errW_some] <;> rfl), by repeat (first | (with_reducible first | exact HB.out | apply below_alloc | apply pw_below_drewN | apply below_drew1 | refine below_set ?_ GE167.out | refine below_set ?_ GE168.out) | exact HB.out)⟩
        · rw [if_neg c12] at H
          have c12b0 : (t174 == t178) = false := by simpa using c12
          (try (have c12b1 : decide (t174 = t178) = false := by simpa using c12))
          (try (have c12b2 : (t174 == t178) = false := by simpa using c12))
          (try (have c12b3 : ¬ (t174 = t178) := by simpa using c12))
          clear c12
          obtain rfl := Option.some.inj H
          try go_wp2_with (first | ((with_reducible refine gate_dst (N := 10) rfl ?_); (try (refine gate_guard (by rfl) ?_; dsimp only)); refine box_event ?hg (N := 10) ?hd (cs := #[.int .i64 0, .string (⟨#[]⟩ : ByteArray), .string (⟨#[]⟩ : ByteArray)]) (t := 35) ?hr ?_; (case hd => rfl); (case hg => (first | rfl | exact dryrotlaw09_MatchNot.wanted_at (b := true) rfl rfl (by simp [*]))); (case hr => first | (go_simp; done) | (go_simp; rfl)); intro gb167 hg w33 hbox hb; have n0_ := Aside0.mk (below_step (by repeat (first | (with_reducible first | exact HB.out | apply below_alloc | apply pw_below_drewN | apply below_drew1) | exact HB.out)) hb); have n1_ := Aside0.mk (hbox); have n2_ := Aside0.mk ((by rw [hg]; exact (below_size (by repeat (first | (with_reducible first | exact HB.out | apply below_alloc | apply pw_below_drewN | apply below_drew1) | exact HB.out))) : w.heap.size ≤ gb167)); have n3_ := Aside0.mk ((by rw [hg]; exact (below_size (by repeat (first | (with_reducible first | exact HB.out | apply below_alloc | apply pw_below_drewN | apply below_drew1) | exact HB.out))) : w.heap.size ≤ gb167)); clear HB; have HB := n0_; have BK167 := n1_; have GW167 := n2_; have GE167 := n3_; clear n0_ n1_ n2_ n3_; clear hb hbox hg; have hcz34_0 : w33.cell? ⟨gb167, 0, none⟩ = some (.int .i64 0) := (blk_cell BK167.out 0).trans rfl; have hcz34_1 : w33.cell? ⟨gb167, 1, none⟩ = some (.string (⟨#[]⟩ : ByteArray)) := (blk_cell BK167.out 1).trans rfl; have hcz34_2 : w33.cell? ⟨gb167, 2, none⟩ = some (.string (⟨#[]⟩ : ByteArray)) := (blk_cell BK167.out 2).trans rfl; have hfz34_0 := blk_frozen BK167.out 0; have hfz34_1 := blk_frozen BK167.out 1; have hfz34_2 := blk_frozen BK167.out 2) | ((with_reducible refine gate_dst (N := 11) rfl ?_); (try (refine gate_guard (by rfl) ?_; dsimp only)); refine box_event ?hg (N := 11) ?hd (cs := #[.int .i64 0, .string (⟨#[]⟩ : ByteArray), .string (⟨#[]⟩ : ByteArray)]) (t := 35) ?hr ?_; (case hd => rfl); (case hg => (first | rfl | exact dryrotlaw09_MatchNot.wanted_at (b := true) rfl rfl (by simp [*]))); (case hr => first | (go_simp; done) | (go_simp; rfl)); intro gb168 hg w35 hbox hb; have n0_ := Aside0.mk (blk_below (g := gb167) (o := .cells #[.int .i64 x9_4, .string a0, .string a1] 35 (0, 0)) (by (with_reducible repeat (first | refine blk_drewN ?_ _ | refine blk_drew ?_ | refine blk_alloc ?_ _)); refine blk_put (cs := #[.int .i64 x9_4, .string a0, .string (⟨#[]⟩ : ByteArray)]) ?_ 2 _ rfl; (with_reducible repeat (first | refine blk_drewN ?_ _ | refine blk_drew ?_ | refine blk_alloc ?_ _)); refine blk_put (cs := #[.int .i64 x9_4, .string (⟨#[]⟩ : ByteArray), .string (⟨#[]⟩ : ByteArray)]) ?_ 1 _ rfl; (with_reducible repeat (first | refine blk_drewN ?_ _ | refine blk_drew ?_ | refine blk_alloc ?_ _)); refine blk_put (cs := #[.int .i64 0, .string (⟨#[]⟩ : ByteArray), .string (⟨#[]⟩ : ByteArray)]) ?_ 0 _ rfl; (with_reducible repeat (first | refine blk_drewN ?_ _ | refine blk_drew ?_ | refine blk_alloc ?_ _)); exact BK167.out) hb); have n1_ := Aside0.mk (below_step (by repeat (first | (with_reducible first | exact HB.out | apply below_alloc | apply pw_below_drewN | apply below_drew1 | refine below_set ?_ GE167.out) | exact HB.out)) hb); have n2_ := Aside0.mk (hbox); have n3_ := Aside0.mk ((by rw [hg]; exact (below_size (by repeat (first | (with_reducible first | exact HB.out | apply below_alloc | apply pw_below_drewN | apply below_drew1 | refine below_set ?_ GE167.out) | exact HB.out))) : w.heap.size ≤ gb168)); have n4_ := Aside0.mk ((by rw [hg]; exact (below_size (by repeat (first | (with_reducible first | exact HB.out | apply below_alloc | apply pw_below_drewN | apply below_drew1 | refine below_set ?_ GE167.out) | exact HB.out))) : w.heap.size ≤ gb168)); have n5_ := Aside0.mk ((by rw [hg]; exact Nat.ne_of_lt (blk_lt (g := gb167) (o := .cells #[.int .i64 x9_4, .string a0, .string a1] 35 (0, 0)) (by (with_reducible repeat (first | refine blk_drewN ?_ _ | refine blk_drew ?_ | refine blk_alloc ?_ _)); refine blk_put (cs := #[.int .i64 x9_4, .string a0, .string (⟨#[]⟩ : ByteArray)]) ?_ 2 _ rfl; (with_reducible repeat (first | refine blk_drewN ?_ _ | refine blk_drew ?_ | refine blk_alloc ?_ _)); refine blk_put (cs := #[.int .i64 x9_4, .string (⟨#[]⟩ : ByteArray), .string (⟨#[]⟩ : ByteArray)]) ?_ 1 _ rfl; (with_reducible repeat (first | refine blk_drewN ?_ _ | refine blk_drew ?_ | refine blk_alloc ?_ _)); refine blk_put (cs := #[.int .i64 0, .string (⟨#[]⟩ : ByteArray), .string (⟨#[]⟩ : ByteArray)]) ?_ 0 _ rfl; (with_reducible repeat (first | refine blk_drewN ?_ _ | refine blk_drew ?_ | refine blk_alloc ?_ _)); exact BK167.out)) : gb167 ≠ gb168)); have n6_ := Aside0.mk ((by rw [hg]; exact Nat.ne_of_gt (blk_lt (g := gb167) (o := .cells #[.int .i64 x9_4, .string a0, .string a1] 35 (0, 0)) (by (with_reducible repeat (first | refine blk_drewN ?_ _ | refine blk_drew ?_ | refine blk_alloc ?_ _)); refine blk_put (cs := #[.int .i64 x9_4, .string a0, .string (⟨#[]⟩ : ByteArray)]) ?_ 2 _ rfl; (with_reducible repeat (first | refine blk_drewN ?_ _ | refine blk_drew ?_ | refine blk_alloc ?_ _)); refine blk_put (cs := #[.int .i64 x9_4, .string (⟨#[]⟩ : ByteArray), .string (⟨#[]⟩ : ByteArray)]) ?_ 1 _ rfl; (with_reducible repeat (first | refine blk_drewN ?_ _ | refine blk_drew ?_ | refine blk_alloc ?_ _)); refine blk_put (cs := #[.int .i64 0, .string (⟨#[]⟩ : ByteArray), .string (⟨#[]⟩ : ByteArray)]) ?_ 0 _ rfl; (with_reducible repeat (first | refine blk_drewN ?_ _ | refine blk_drew ?_ | refine blk_alloc ?_ _)); exact BK167.out)) : gb168 ≠ gb167)); clear BK167; clear HB; have BK167 := n0_; have HB := n1_; have BK168 := n2_; have GW168 := n3_; have GE168 := n4_; have NB167_168 := n5_; have NB168_167 := n6_; clear n0_ n1_ n2_ n3_ n4_ n5_ n6_; clear hb hbox hg; have hnb36 := NB168_167.out; have hnc36 := NB167_168.out; have hcz37_0 : w35.cell? ⟨gb168, 0, none⟩ = some (.int .i64 0) := (blk_cell BK168.out 0).trans rfl; have hcz37_1 : w35.cell? ⟨gb168, 1, none⟩ = some (.string (⟨#[]⟩ : ByteArray)) := (blk_cell BK168.out 1).trans rfl; have hcz37_2 : w35.cell? ⟨gb168, 2, none⟩ = some (.string (⟨#[]⟩ : ByteArray)) := (blk_cell BK168.out 2).trans rfl; have hfz37_0 := blk_frozen BK168.out 0; have hfz37_1 := blk_frozen BK168.out 1; have hfz37_2 := blk_frozen BK168.out 2))
          have n0_ : Aside0 ((((w35.setCell ⟨gb168, 0, none⟩ (.int .i64 (wrap64 (x9_4 + 1)))).setCell ⟨gb168, 1, none⟩ (.string a0)).setCell ⟨gb168, 2, none⟩ (.string a1)).heap[gb167]? = some (.cells #[.int .i64 x9_4, .string a0, .string a1] 35 (0, 0))) := ⟨by (with_reducible repeat (first | refine blk_drewN ?_ _ | refine blk_drew ?_ | refine blk_alloc ?_ _)); refine blk_far ?_ NB167_168.out _; (with_reducible repeat (first | refine blk_drewN ?_ _ | refine blk_drew ?_ | refine blk_alloc ?_ _)); refine blk_far ?_ NB167_168.out _; (with_reducible repeat (first | refine blk_drewN ?_ _ | refine blk_drew ?_ | refine blk_alloc ?_ _)); refine blk_far ?_ NB167_168.out _; (with_reducible repeat (first | refine blk_drewN ?_ _ | refine blk_drew ?_ | refine blk_alloc ?_ _)); exact BK167.out⟩
          have n1_ : Aside0 ((((w35.setCell ⟨gb168, 0, none⟩ (.int .i64 (wrap64 (x9_4 + 1)))).setCell ⟨gb168, 1, none⟩ (.string a0)).setCell ⟨gb168, 2, none⟩ (.string a1)).heap[gb168]? = some (.cells #[.int .i64 (wrap64 (x9_4 + 1)), .string a0, .string a1] 35 (0, 0))) := ⟨by (with_reducible repeat (first | refine blk_drewN ?_ _ | refine blk_drew ?_ | refine blk_alloc ?_ _)); refine blk_put (cs := #[.int .i64 (wrap64 (x9_4 + 1)), .string a0, .string (⟨#[]⟩ : ByteArray)]) ?_ 2 _ rfl; (with_reducible repeat (first | refine blk_drewN ?_ _ | refine blk_drew ?_ | refine blk_alloc ?_ _)); refine blk_put (cs := #[.int .i64 (wrap64 (x9_4 + 1)), .string (⟨#[]⟩ : ByteArray), .string (⟨#[]⟩ : ByteArray)]) ?_ 1 _ rfl; (with_reducible repeat (first | refine blk_drewN ?_ _ | refine blk_drew ?_ | refine blk_alloc ?_ _)); refine blk_put (cs := #[.int .i64 0, .string (⟨#[]⟩ : ByteArray), .string (⟨#[]⟩ : ByteArray)]) ?_ 0 _ rfl; (with_reducible repeat (first | refine blk_drewN ?_ _ | refine blk_drew ?_ | refine blk_alloc ?_ _)); exact BK168.out⟩
          have n2_ : Aside0 (Below w.heap.size w (((w35.setCell ⟨gb168, 0, none⟩ (.int .i64 (wrap64 (x9_4 + 1)))).setCell ⟨gb168, 1, none⟩ (.string a0)).setCell ⟨gb168, 2, none⟩ (.string a1))) := ⟨by repeat (first | (with_reducible first | exact HB.out | apply below_alloc | apply pw_below_drewN | apply below_drew1 | refine below_set ?_ GE167.out | refine below_set ?_ GE168.out) | exact HB.out)⟩
          (try clear BK167)
          (try clear BK168)
          (try clear HB)
          generalize (((w35.setCell ⟨gb168, 0, none⟩ (.int .i64 (wrap64 (x9_4 + 1)))).setCell ⟨gb168, 1, none⟩ (.string a0)).setCell ⟨gb168, 2, none⟩ (.string a1)) = w38 at n0_ n1_ n2_ ⊢
          have BK167 := n0_
          have BK168 := n1_
          have HB := n2_
          clear n0_ n1_ n2_
          have n0_ := Aside0.mk (blk_drew BK167.out)
          have n1_ := Aside0.mk (blk_drew BK168.out)
          have n2_ := Aside0.mk (below_drew1 HB.out)
          clear BK167
          clear BK168
          clear HB
          have BK167 := n0_
          have BK168 := n1_
          have HB := n2_
          clear n0_ n1_ n2_
          refine start_ (n := 20) (S := fun w' => True) (ds := []) #[false, false, false, false, false, false, false, false, false, false, false, false, false, false, false, false, false, false, false, false] (by kernel_rfl) rfl rfl trivial (fun hHeld => ?_); refine with_tabW dryrotlaw09_MatchNot.tab6 dryrotlaw09_MatchNot.bits6 (fun HT_ HW_ => ?_)
          generalize w38.drew = w39 at BK167 BK168 HB hHeld ⊢
          refine pure_ (i := 1) (N := some 23) (v := ?_) (a' := ?_) #[false, true, false, false, false, false, false, false, false, false, false, false, false, false, false, false, false, false, false, false] rfl rfl (any_of HT_.out (by kernel_rfl)) (fun _ _ _ h => h) (Or.inl ⟨by rfl, ?_⟩) ?_ ?_
          rotate_left
          · intro w'
            go_simp
            with_reducible rfl
          rotate_left
          · simp only [Act.put, List.setIfInBounds_toArray, List.set_cons_zero, List.set_cons_succ, i64_w, i32_w]
            rfl
          refine pure_ (i := 4) (N := some 26) (v := ?_) (a' := ?_) #[false, true, false, false, true, false, false, false, false, false, false, false, false, false, false, false, false, false, false, false] rfl rfl (any_of HT_.out (by kernel_rfl)) (fun _ _ _ h => h) (Or.inl ⟨by rfl, ?_⟩) ?_ ?_
          rotate_left
          · intro w'
            go_simp
            with_reducible rfl
          rotate_left
          · simp only [Act.put, List.setIfInBounds_toArray, List.set_cons_zero, List.set_cons_succ, i64_w, i32_w]
            rfl
          refine inv_at [0, 2, 3, 5, 6, 7, 8, 9, 10, 11, 12, 13, 14, 15, 16, 17, 18, 19] (fun a0_ b a w' => ∃ (v172 : Value) (v176 : Value), a = putSel a0_ b [(0, 22, .agg #[.int .i64 x9_4, .string a0, .string a1]), (2, 24, .bool t169), (3, 25, .agg #[.int .i64 (wrap64 (x9_4 + 1)), .string a0, .string a1]), (5, 27, .bool t170), (6, 28, .bool (t169 != t170)), (7, 29, .bool (t169 != t170)), (8, 30, .agg #[.int .i64 x9_4, .string a0, .string a1]), (9, 31, v172), (10, 32, .bool t174), (11, 33, .agg #[.int .i64 (wrap64 (x9_4 + 1)), .string a0, .string a1]), (12, 34, v176), (13, 35, .bool t178), (14, 36, .bool (t174 == t178)), (15, 37, .bool (t174 == t178)), (16, 38, .bool (t174 == t178)), (17, 39, undef), (18, 40, .bool false), (19, 8, .bool false)] ∧ (w'.heap[gb167]? = some (.cells #[.int .i64 x9_4, .string a0, .string a1] 35 (0, 0))) ∧ (w'.heap[gb168]? = some (.cells #[.int .i64 (wrap64 (x9_4 + 1)), .string a0, .string a1] 35 (0, 0))) ∧ (Below w.heap.size w w') ∧ (b 9 = true → Kd.R k35 35 w' w.heap.size (fun k_ => k_ ≠ gb167 ∧ k_ ≠ gb168) v172 y171) ∧ (b 12 = true → Kd.R k35 35 w' w.heap.size (fun k_ => k_ ≠ gb167 ∧ k_ ≠ gb168) v176 y175)) HT_.out HW_.out (by kernel_rfl) (by kernel_rfl) ?_ ?_ ?_
          · exact ⟨.bool false, .bool false, by simp only [putSel, Bool.false_eq_true, if_false], BK167.out, BK168.out, HB.out, fun h_ => absurd h_ (by decide), fun h_ => absurd h_ (by decide)⟩
          · skip
            clear BK167 BK168 HB
            refine steps_cons ?_ ?_
            · rintro b a w' ⟨v172, v176, ha, Q_BK167, Q_BK168, Q_HB, Q_HO173, Q_HO177⟩ hb_ hon hoff
              refine ⟨_, rfl, fun K hK => ?_⟩
              have e10 : a.tmps[10]? = some (.pointer (some ⟨gb167, 0, none⟩)) := by rw [ha]; exact (putSel_off rfl).trans rfl
              replace ha := Aside0.mk ha
              have BK167 := Aside0.mk Q_BK167
              have BK168 := Aside0.mk Q_BK168
              have HB := Aside0.mk Q_HB
              have hc0_ : w'.cell? ⟨gb167, 0, none⟩ = some (.int .i64 x9_4) := (blk_cell BK167.out 0).trans rfl
              have hc1_ : w'.cell? ⟨gb167, 1, none⟩ = some (.string a0) := (blk_cell BK167.out 1).trans rfl
              have hc2_ : w'.cell? ⟨gb167, 2, none⟩ = some (.string a1) := (blk_cell BK167.out 2).trans rfl
              refine value_ (w1 := w') (v := .agg #[.int .i64 x9_4, .string a0, .string a1]) (by rfl) rfl ?_ ?_
              · go_simp
                (try simp only [i64_w])
                try rfl
              refine hK.out _ _ ⟨v172, v176, (by rw [ha.out]; exact putSel_upk 0 hb_ rfl rfl rfl), Q_BK167, Q_BK168, Q_HB, fun h0_ => absurd ((hoff 9 (by kernel_rfl)).symm.trans h0_) (by decide), fun h0_ => absurd ((hoff 12 (by kernel_rfl)).symm.trans h0_) (by decide)⟩
            refine steps_cons ?_ ?_
            · rintro b a w' ⟨v172, v176, ha, Q_BK167, Q_BK168, Q_HB, Q_HO173, Q_HO177⟩ hb_ hon hoff
              refine ⟨_, rfl, fun K hK => ?_⟩
              have e22 : a.tmps[22]? = some (.agg #[.int .i64 x9_4, .string a0, .string a1]) := by rw [ha]; exact putSel_on (e := (0, 22, .agg #[.int .i64 x9_4, .string a0, .string a1])) 0 rfl rfl (hon 0 (by kernel_rfl)) rfl
              have e23 : a.tmps[23]? = some (.slice A2 l2.length c2) := by rw [ha]; exact (putSel_off rfl).trans rfl
              replace ha := Aside0.mk ha
              have BK167 := Aside0.mk Q_BK167
              have BK168 := Aside0.mk Q_BK168
              have HB := Aside0.mk Q_HB
              refine goes_ Tryd.func18 (by kernel_rfl) rfl #[.agg #[.int .i64 x9_4, .string a0, .string a1], .slice A2 l2.length c2] (by (first | rfl | exact dryrotlaw09_MatchNot.wanted_at (b := true) rfl rfl (by simp [*]))) rfl rfl (by first | (simp only [List.map_toArray, List.map_cons, List.map_nil, Act.eval, Array.getD_eq_getD_getElem?, Option.getD_some, e22, e23]; done) | (simp only [List.map_toArray, List.map_cons, List.map_nil, Act.eval, Array.getD_eq_getD_getElem?, Option.getD_some, e22, e23]; rfl)) ?_
              with_reducible refine (match_One.callsP x9_4 a0 a1 _ _ l2 t169 _ ?side1 ?side2 ?side3 A7.out).mono ?_
              (case side1 => repeat (first | exact (Kd.C_below HR2.out HB.out) | (with_reducible refine Kd.C_alloc ?_ _) | (with_reducible refine Kd.C_drewN ?_ _) | (with_reducible refine Kd.C_drew ?_)))
              (case side2 => exact HC2.out)
              (case side3 => exact HG.out.below (by repeat (first | (with_reducible first | exact HB.out | apply below_alloc | apply pw_below_drewN | apply below_drew1 | refine below_set ?_ GE167.out | refine below_set ?_ GE168.out) | exact HB.out)))
              rintro e w40 ⟨rfl, hb⟩
              refine ⟨_, rfl, ?_⟩
              have n0_ := Aside0.mk (blk_below (g := gb167) (o := .cells #[.int .i64 x9_4, .string a0, .string a1] 35 (0, 0)) (by (with_reducible repeat (first | refine blk_drewN ?_ _ | refine blk_drew ?_ | refine blk_alloc ?_ _)); exact BK167.out) hb)
              have n1_ := Aside0.mk (blk_below (g := gb168) (o := .cells #[.int .i64 (wrap64 (x9_4 + 1)), .string a0, .string a1] 35 (0, 0)) (by (with_reducible repeat (first | refine blk_drewN ?_ _ | refine blk_drew ?_ | refine blk_alloc ?_ _)); exact BK168.out) hb)
              have n2_ := Aside0.mk (below_step (by repeat (first | (with_reducible first | exact HB.out | apply below_alloc | apply pw_below_drewN | apply below_drew1 | refine below_set ?_ GE167.out | refine below_set ?_ GE168.out) | exact HB.out)) hb)
              clear BK167
              clear BK168
              clear HB
              have BK167 := n0_
              have BK168 := n1_
              have HB := n2_
              clear n0_ n1_ n2_
              (try clear hb)
              (try clear hb2)
              (try clear hk)
              (try clear hi)
              refine hK.out _ _ ⟨v172, v176, (by rw [ha.out]; exact putSel_upk 1 hb_ rfl rfl rfl), (by (with_reducible repeat (first | refine blk_drewN ?_ _ | refine blk_drew ?_ | refine blk_alloc ?_ _)); exact BK167.out), (by (with_reducible repeat (first | refine blk_drewN ?_ _ | refine blk_drew ?_ | refine blk_alloc ?_ _)); exact BK168.out), (by repeat (first | (with_reducible first | exact HB.out | apply below_alloc | apply pw_below_drewN | apply below_drew1 | refine below_set ?_ GE167.out | refine below_set ?_ GE168.out) | exact HB.out)), fun h0_ => absurd ((hoff 9 (by kernel_rfl)).symm.trans h0_) (by decide), fun h0_ => absurd ((hoff 12 (by kernel_rfl)).symm.trans h0_) (by decide)⟩
            refine steps_cons ?_ ?_
            · rintro b a w' ⟨v172, v176, ha, Q_BK167, Q_BK168, Q_HB, Q_HO173, Q_HO177⟩ hb_ hon hoff
              refine ⟨_, rfl, fun K hK => ?_⟩
              have e11 : a.tmps[11]? = some (.pointer (some ⟨gb168, 0, none⟩)) := by rw [ha]; exact (putSel_off rfl).trans rfl
              replace ha := Aside0.mk ha
              have BK167 := Aside0.mk Q_BK167
              have BK168 := Aside0.mk Q_BK168
              have HB := Aside0.mk Q_HB
              have hc0_ : w'.cell? ⟨gb168, 0, none⟩ = some (.int .i64 (wrap64 (x9_4 + 1))) := (blk_cell BK168.out 0).trans rfl
              have hc1_ : w'.cell? ⟨gb168, 1, none⟩ = some (.string a0) := (blk_cell BK168.out 1).trans rfl
              have hc2_ : w'.cell? ⟨gb168, 2, none⟩ = some (.string a1) := (blk_cell BK168.out 2).trans rfl
              refine value_ (w1 := w') (v := .agg #[.int .i64 (wrap64 (x9_4 + 1)), .string a0, .string a1]) (by rfl) rfl ?_ ?_
              · go_simp
                (try simp only [i64_w])
                try rfl
              refine hK.out _ _ ⟨v172, v176, (by rw [ha.out]; exact putSel_upk 2 hb_ rfl rfl rfl), Q_BK167, Q_BK168, Q_HB, fun h0_ => absurd ((hoff 9 (by kernel_rfl)).symm.trans h0_) (by decide), fun h0_ => absurd ((hoff 12 (by kernel_rfl)).symm.trans h0_) (by decide)⟩
            refine steps_cons ?_ ?_
            · rintro b a w' ⟨v172, v176, ha, Q_BK167, Q_BK168, Q_HB, Q_HO173, Q_HO177⟩ hb_ hon hoff
              refine ⟨_, rfl, fun K hK => ?_⟩
              have e25 : a.tmps[25]? = some (.agg #[.int .i64 (wrap64 (x9_4 + 1)), .string a0, .string a1]) := by rw [ha]; exact putSel_on (e := (3, 25, .agg #[.int .i64 (wrap64 (x9_4 + 1)), .string a0, .string a1])) 2 rfl rfl (hon 3 (by kernel_rfl)) rfl
              have e26 : a.tmps[26]? = some (.slice A2 l2.length c2) := by rw [ha]; exact (putSel_off rfl).trans rfl
              replace ha := Aside0.mk ha
              have BK167 := Aside0.mk Q_BK167
              have BK168 := Aside0.mk Q_BK168
              have HB := Aside0.mk Q_HB
              refine goes_ Tryd.func18 (by kernel_rfl) rfl #[.agg #[.int .i64 (wrap64 (x9_4 + 1)), .string a0, .string a1], .slice A2 l2.length c2] (by (first | rfl | exact dryrotlaw09_MatchNot.wanted_at (b := true) rfl rfl (by simp [*]))) rfl rfl (by first | (simp only [List.map_toArray, List.map_cons, List.map_nil, Act.eval, Array.getD_eq_getD_getElem?, Option.getD_some, e25, e26]; done) | (simp only [List.map_toArray, List.map_cons, List.map_nil, Act.eval, Array.getD_eq_getD_getElem?, Option.getD_some, e25, e26]; rfl)) ?_
              with_reducible refine (match_One.callsP (wrap64 (x9_4 + 1)) a0 a1 _ _ l2 t170 _ ?side1 ?side2 ?side3 A8.out).mono ?_
              (case side1 => repeat (first | exact (Kd.C_below HR2.out HB.out) | (with_reducible refine Kd.C_alloc ?_ _) | (with_reducible refine Kd.C_drewN ?_ _) | (with_reducible refine Kd.C_drew ?_)))
              (case side2 => exact HC2.out)
              (case side3 => exact HG.out.below (by repeat (first | (with_reducible first | exact HB.out | apply below_alloc | apply pw_below_drewN | apply below_drew1 | refine below_set ?_ GE167.out | refine below_set ?_ GE168.out) | exact HB.out)))
              rintro e w42 ⟨rfl, hb⟩
              refine ⟨_, rfl, ?_⟩
              have n0_ := Aside0.mk (blk_below (g := gb167) (o := .cells #[.int .i64 x9_4, .string a0, .string a1] 35 (0, 0)) (by (with_reducible repeat (first | refine blk_drewN ?_ _ | refine blk_drew ?_ | refine blk_alloc ?_ _)); exact BK167.out) hb)
              have n1_ := Aside0.mk (blk_below (g := gb168) (o := .cells #[.int .i64 (wrap64 (x9_4 + 1)), .string a0, .string a1] 35 (0, 0)) (by (with_reducible repeat (first | refine blk_drewN ?_ _ | refine blk_drew ?_ | refine blk_alloc ?_ _)); exact BK168.out) hb)
              have n2_ := Aside0.mk (below_step (by repeat (first | (with_reducible first | exact HB.out | apply below_alloc | apply pw_below_drewN | apply below_drew1 | refine below_set ?_ GE167.out | refine below_set ?_ GE168.out) | exact HB.out)) hb)
              clear BK167
              clear BK168
              clear HB
              have BK167 := n0_
              have BK168 := n1_
              have HB := n2_
              clear n0_ n1_ n2_
              (try clear hb)
              (try clear hb2)
              (try clear hk)
              (try clear hi)
              refine hK.out _ _ ⟨v172, v176, (by rw [ha.out]; exact putSel_upk 3 hb_ rfl rfl rfl), (by (with_reducible repeat (first | refine blk_drewN ?_ _ | refine blk_drew ?_ | refine blk_alloc ?_ _)); exact BK167.out), (by (with_reducible repeat (first | refine blk_drewN ?_ _ | refine blk_drew ?_ | refine blk_alloc ?_ _)); exact BK168.out), (by repeat (first | (with_reducible first | exact HB.out | apply below_alloc | apply pw_below_drewN | apply below_drew1 | refine below_set ?_ GE167.out | refine below_set ?_ GE168.out) | exact HB.out)), fun h0_ => absurd ((hoff 9 (by kernel_rfl)).symm.trans h0_) (by decide), fun h0_ => absurd ((hoff 12 (by kernel_rfl)).symm.trans h0_) (by decide)⟩
            refine steps_cons ?_ ?_
            · rintro b a w' ⟨v172, v176, ha, Q_BK167, Q_BK168, Q_HB, Q_HO173, Q_HO177⟩ hb_ hon hoff
              refine ⟨_, rfl, fun K hK => ?_⟩
              have e24 : a.tmps[24]? = some (.bool t169) := by rw [ha]; exact putSel_on (e := (2, 24, .bool t169)) 1 rfl rfl (hon 2 (by kernel_rfl)) rfl
              have e27 : a.tmps[27]? = some (.bool t170) := by rw [ha]; exact putSel_on (e := (5, 27, .bool t170)) 3 rfl rfl (hon 5 (by kernel_rfl)) rfl
              replace ha := Aside0.mk ha
              have BK167 := Aside0.mk Q_BK167
              have BK168 := Aside0.mk Q_BK168
              have HB := Aside0.mk Q_HB
              refine value_ (w1 := w') (v := .bool (t169 != t170)) (by rfl) rfl ?_ ?_
              · go_simp
                (try simp only [i64_w])
                try rfl
              refine hK.out _ _ ⟨v172, v176, (by rw [ha.out]; exact putSel_upk 4 hb_ rfl rfl rfl), Q_BK167, Q_BK168, Q_HB, fun h0_ => absurd ((hoff 9 (by kernel_rfl)).symm.trans h0_) (by decide), fun h0_ => absurd ((hoff 12 (by kernel_rfl)).symm.trans h0_) (by decide)⟩
            refine steps_cons ?_ ?_
            · rintro b a w' ⟨v172, v176, ha, Q_BK167, Q_BK168, Q_HB, Q_HO173, Q_HO177⟩ hb_ hon hoff
              refine ⟨_, rfl, fun K hK => ?_⟩
              have e28 : a.tmps[28]? = some (.bool (t169 != t170)) := by rw [ha]; exact putSel_on (e := (6, 28, .bool (t169 != t170))) 4 rfl rfl (hon 6 (by kernel_rfl)) rfl
              replace ha := Aside0.mk ha
              have BK167 := Aside0.mk Q_BK167
              have BK168 := Aside0.mk Q_BK168
              have HB := Aside0.mk Q_HB
              refine value_ (w1 := w') (v := .bool (t169 != t170)) (by rfl) rfl ?_ ?_
              · go_simp
                (try simp only [i64_w])
                try rfl
              refine hK.out _ _ ⟨v172, v176, (by rw [ha.out]; exact putSel_upk 5 hb_ rfl rfl rfl), Q_BK167, Q_BK168, Q_HB, fun h0_ => absurd ((hoff 9 (by kernel_rfl)).symm.trans h0_) (by decide), fun h0_ => absurd ((hoff 12 (by kernel_rfl)).symm.trans h0_) (by decide)⟩
            refine steps_cons ?_ ?_
            · rintro b a w' ⟨v172, v176, ha, Q_BK167, Q_BK168, Q_HB, Q_HO173, Q_HO177⟩ hb_ hon hoff
              refine ⟨_, rfl, fun K hK => ?_⟩
              have e10 : a.tmps[10]? = some (.pointer (some ⟨gb167, 0, none⟩)) := by rw [ha]; exact (putSel_off rfl).trans rfl
              have e29 : a.tmps[29]? = some (.bool (t169 != t170)) := by rw [ha]; exact putSel_on (e := (7, 29, .bool (t169 != t170))) 5 rfl rfl (hon 7 (by kernel_rfl)) rfl
              replace ha := Aside0.mk ha
              have BK167 := Aside0.mk Q_BK167
              have BK168 := Aside0.mk Q_BK168
              have HB := Aside0.mk Q_HB
              have hc0_ : w'.cell? ⟨gb167, 0, none⟩ = some (.int .i64 x9_4) := (blk_cell BK167.out 0).trans rfl
              have hc1_ : w'.cell? ⟨gb167, 1, none⟩ = some (.string a0) := (blk_cell BK167.out 1).trans rfl
              have hc2_ : w'.cell? ⟨gb167, 2, none⟩ = some (.string a1) := (blk_cell BK167.out 2).trans rfl
              refine value_ (w1 := w') (v := .agg #[.int .i64 x9_4, .string a0, .string a1]) (wanted_on rfl rfl rfl (e29.trans (by first | rfl | (simp [*]; done)))) rfl ?_ ?_
              · go_simp
                (try simp only [i64_w])
                try rfl
              refine hK.out _ _ ⟨v172, v176, (by rw [ha.out]; exact putSel_upk 6 hb_ rfl rfl rfl), Q_BK167, Q_BK168, Q_HB, fun h0_ => absurd ((hoff 9 (by kernel_rfl)).symm.trans h0_) (by decide), Q_HO177⟩
            refine steps_cons ?_ ?_
            · rintro b a w' ⟨v172, v176, ha, Q_BK167, Q_BK168, Q_HB, Q_HO173, Q_HO177⟩ hb_ hon hoff
              refine ⟨_, rfl, fun K hK => ?_⟩
              have e30 : a.tmps[30]? = some (.agg #[.int .i64 x9_4, .string a0, .string a1]) := by rw [ha]; exact putSel_on (e := (8, 30, .agg #[.int .i64 x9_4, .string a0, .string a1])) 6 rfl rfl (hon 8 (by kernel_rfl)) rfl
              have e29 : a.tmps[29]? = some (.bool (t169 != t170)) := by rw [ha]; exact putSel_on (e := (7, 29, .bool (t169 != t170))) 5 rfl rfl (hon 7 (by kernel_rfl)) rfl
              replace ha := Aside0.mk ha
              have BK167 := Aside0.mk Q_BK167
              have BK168 := Aside0.mk Q_BK168
              have HB := Aside0.mk Q_HB
              refine Kd.R_lit_step k35 _ 35 ?hg (N := 31) ?hd (xs := ([(⟨x9_4, a0, a1⟩ : S35)] : List (S35))) (inner := [.int .i64 x9_4, .string a0, .string a1]) (ok := fun _ => True) (okp := fun _ => True) ?hr ?hp (fun _ hk => hk) trivial (Below.refl _ _) (Nat.le_refl _) (by simp) ?_; (case hd => rfl); (case hg => (first | rfl | exact dryrotlaw09_MatchNot.wanted_at (b := true) rfl rfl (by simp [*]))); (case hr => first | (go_simp; done) | (go_simp; rfl)); (case hp => exact (Reps.c3 (show Kd.M k35 _ _ _ (⟨x9_4, a0, a1⟩ : S35) [.int .i64 x9_4, .string a0, .string a1] from (k35_mkM _ _ _ (⟨x9_4, a0, a1⟩ : S35) )) (Reps.none _ _)))
              intro v172 w43 ho44 hb hg_ hnew_
              clear hg_ hnew_
              (first | rw [← Ny171.out] at ho44 | (simp only [Int.reduceToNat] at ho44; rw [← Ny171.out] at ho44))
              have n0_ := Aside0.mk (Kd.R_lower (Kd.R_newB (Kd.R_newB ho44 (g := gb167) (o := .cells #[.int .i64 x9_4, .string a0, .string a1] 35 (0, 0)) (by (with_reducible repeat (first | refine blk_drewN ?_ _ | refine blk_drew ?_ | refine blk_alloc ?_ _)); exact BK167.out)) (g := gb168) (o := .cells #[.int .i64 (wrap64 (x9_4 + 1)), .string a0, .string a1] 35 (0, 0)) (by (with_reducible repeat (first | refine blk_drewN ?_ _ | refine blk_drew ?_ | refine blk_alloc ?_ _)); exact BK168.out)) (below_size (by repeat (first | (with_reducible first | exact HB.out | apply below_alloc | apply pw_below_drewN | apply below_drew1 | refine below_set ?_ GE167.out | refine below_set ?_ GE168.out) | exact HB.out))))
              have n1_ := Aside0.mk (blk_below (g := gb167) (o := .cells #[.int .i64 x9_4, .string a0, .string a1] 35 (0, 0)) (by (with_reducible repeat (first | refine blk_drewN ?_ _ | refine blk_drew ?_ | refine blk_alloc ?_ _)); exact BK167.out) hb)
              have n2_ := Aside0.mk (blk_below (g := gb168) (o := .cells #[.int .i64 (wrap64 (x9_4 + 1)), .string a0, .string a1] 35 (0, 0)) (by (with_reducible repeat (first | refine blk_drewN ?_ _ | refine blk_drew ?_ | refine blk_alloc ?_ _)); exact BK168.out) hb)
              have n3_ := Aside0.mk (below_step (by repeat (first | (with_reducible first | exact HB.out | apply below_alloc | apply pw_below_drewN | apply below_drew1 | refine below_set ?_ GE167.out | refine below_set ?_ GE168.out) | exact HB.out)) hb)
              have z_HO177 := fun (h0_ : b 12 = true) => (show Kd.R k35 35 w43 w.heap.size (fun k_ => k_ ≠ gb167 ∧ k_ ≠ gb168) v176 y175 from by first | exact (Kd.R_elder' (by (with_reducible repeat (first | apply Kd.R_alloc | apply Kd.R_drewN | apply Kd.R_drew)); exact (Q_HO177 h0_)) (Kd.R_base ho44) hb) | exact Kd.R_mono (Kd.R_elder' (by (with_reducible repeat (first | apply Kd.R_alloc | apply Kd.R_drewN | apply Kd.R_drew)); exact (Q_HO177 h0_)) (Kd.R_base ho44) hb) (fun _ h_ => by first | trivial | exact h_ | exact h_.1))
              clear BK167
              clear BK168
              clear HB
              have HO173 := n0_
              have BK167 := n1_
              have BK168 := n2_
              have HB := n3_
              clear n0_ n1_ n2_ n3_
              clear hb ho44
              refine hK.out _ _ ⟨v172, v176, (by rw [ha.out]; exact putSel_upk 7 hb_ rfl rfl rfl), (by (with_reducible repeat (first | refine blk_drewN ?_ _ | refine blk_drew ?_ | refine blk_alloc ?_ _)); exact BK167.out), (by (with_reducible repeat (first | refine blk_drewN ?_ _ | refine blk_drew ?_ | refine blk_alloc ?_ _)); exact BK168.out), (by repeat (first | (with_reducible first | exact HB.out | apply below_alloc | apply pw_below_drewN | apply below_drew1 | refine below_set ?_ GE167.out | refine below_set ?_ GE168.out) | exact HB.out)), fun _ => (by (with_reducible repeat (first | apply Kd.R_alloc | apply Kd.R_drewN | apply Kd.R_drew)); exact Kd.R_mono HO173.out (fun _ hk => ⟨hk.1.2, hk.2⟩)), z_HO177⟩
            refine steps_cons ?_ ?_
            · rintro b a w' ⟨v172, v176, ha, Q_BK167, Q_BK168, Q_HB, Q_HO173, Q_HO177⟩ hb_ hon hoff
              refine ⟨_, rfl, fun K hK => ?_⟩
              have e31 : a.tmps[31]? = some (v172) := by rw [ha]; exact putSel_on (e := (9, 31, v172)) 7 rfl rfl (hon 9 (by kernel_rfl)) rfl
              have e29 : a.tmps[29]? = some (.bool (t169 != t170)) := by rw [ha]; exact putSel_on (e := (7, 29, .bool (t169 != t170))) 5 rfl rfl (hon 7 (by kernel_rfl)) rfl
              replace ha := Aside0.mk ha
              have BK167 := Aside0.mk Q_BK167
              have BK168 := Aside0.mk Q_BK168
              have HB := Aside0.mk Q_HB
              have HO173 := Aside0.mk (Q_HO173 (hon 9 (by kernel_rfl)))
              obtain ⟨Ao45, co45, eo45⟩ := Kd.R_slice HO173.out
              (first | subst eo45 | (injection eo45 with f1_ f2_ f3_; have f4_ := f1_.symm; have f5_ := f3_.symm; clear f1_ f2_ f3_; subst f4_; subst f5_))
              refine goes_ Tryd.func19 (by kernel_rfl) rfl #[.slice Ao45 y171.length co45] (by (first | rfl | exact dryrotlaw09_MatchNot.wanted_at (b := true) rfl rfl (by simp [*]))) rfl rfl (by first | (simp only [List.map_toArray, List.map_cons, List.map_nil, Act.eval, Array.getD_eq_getD_getElem?, Option.getD_some, e31, e29]; done) | (simp only [List.map_toArray, List.map_cons, List.map_nil, Act.eval, Array.getD_eq_getD_getElem?, Option.getD_some, e31, e29]; rfl)) ?_
              with_reducible refine (match_Can.callsP _ _ y171 t174 _ ?side1 ?side2 ?side3 A10.out).mono ?_
              (case side1 => repeat (first | exact (Kd.R_reads' HO173.out).2.2 | (with_reducible refine Kd.C_alloc ?_ _) | (with_reducible refine Kd.C_drewN ?_ _) | (with_reducible refine Kd.C_drew ?_)))
              (case side2 => exact (Kd.R_reads' HO173.out).2.1)
              (case side3 => exact HG.out.below (by repeat (first | (with_reducible first | exact HB.out | apply below_alloc | apply pw_below_drewN | apply below_drew1 | refine below_set ?_ GE167.out | refine below_set ?_ GE168.out) | exact HB.out)))
              rintro e w46 ⟨rfl, hb⟩
              refine ⟨_, rfl, ?_⟩
              have n0_ := Aside0.mk (Kd.R_below (by (with_reducible repeat (first | apply Kd.R_alloc | apply Kd.R_drewN | apply Kd.R_drew)); exact HO173.out) hb)
              have n1_ := Aside0.mk (blk_below (g := gb167) (o := .cells #[.int .i64 x9_4, .string a0, .string a1] 35 (0, 0)) (by (with_reducible repeat (first | refine blk_drewN ?_ _ | refine blk_drew ?_ | refine blk_alloc ?_ _)); exact BK167.out) hb)
              have n2_ := Aside0.mk (blk_below (g := gb168) (o := .cells #[.int .i64 (wrap64 (x9_4 + 1)), .string a0, .string a1] 35 (0, 0)) (by (with_reducible repeat (first | refine blk_drewN ?_ _ | refine blk_drew ?_ | refine blk_alloc ?_ _)); exact BK168.out) hb)
              have n3_ := Aside0.mk (below_step (by repeat (first | (with_reducible first | exact HB.out | apply below_alloc | apply pw_below_drewN | apply below_drew1 | refine below_set ?_ GE167.out | refine below_set ?_ GE168.out) | exact HB.out)) hb)
              have z_HO177 := fun (h0_ : b 12 = true) => (show Kd.R k35 35 w46 w.heap.size (fun k_ => k_ ≠ gb167 ∧ k_ ≠ gb168) v176 y175 from by first | exact (Kd.R_below (by (with_reducible repeat (first | apply Kd.R_alloc | apply Kd.R_drewN | apply Kd.R_drew)); exact (Q_HO177 h0_)) hb) | exact Kd.R_mono (Kd.R_below (by (with_reducible repeat (first | apply Kd.R_alloc | apply Kd.R_drewN | apply Kd.R_drew)); exact (Q_HO177 h0_)) hb) (fun _ h_ => by first | trivial | exact h_ | exact h_.1))
              clear HO173
              clear BK167
              clear BK168
              clear HB
              have HO173 := n0_
              have BK167 := n1_
              have BK168 := n2_
              have HB := n3_
              clear n0_ n1_ n2_ n3_
              (try clear hb)
              (try clear hb2)
              (try clear hk)
              (try clear hi)
              refine hK.out _ _ ⟨.slice Ao45 y171.length co45, v176, (by rw [ha.out]; exact putSel_upk 8 hb_ rfl rfl rfl), (by (with_reducible repeat (first | refine blk_drewN ?_ _ | refine blk_drew ?_ | refine blk_alloc ?_ _)); exact BK167.out), (by (with_reducible repeat (first | refine blk_drewN ?_ _ | refine blk_drew ?_ | refine blk_alloc ?_ _)); exact BK168.out), (by repeat (first | (with_reducible first | exact HB.out | apply below_alloc | apply pw_below_drewN | apply below_drew1 | refine below_set ?_ GE167.out | refine below_set ?_ GE168.out) | exact HB.out)), fun _ => (by (with_reducible repeat (first | apply Kd.R_alloc | apply Kd.R_drewN | apply Kd.R_drew)); exact HO173.out), z_HO177⟩
            refine steps_cons ?_ ?_
            · rintro b a w' ⟨v172, v176, ha, Q_BK167, Q_BK168, Q_HB, Q_HO173, Q_HO177⟩ hb_ hon hoff
              refine ⟨_, rfl, fun K hK => ?_⟩
              have e11 : a.tmps[11]? = some (.pointer (some ⟨gb168, 0, none⟩)) := by rw [ha]; exact (putSel_off rfl).trans rfl
              have e29 : a.tmps[29]? = some (.bool (t169 != t170)) := by rw [ha]; exact putSel_on (e := (7, 29, .bool (t169 != t170))) 5 rfl rfl (hon 7 (by kernel_rfl)) rfl
              replace ha := Aside0.mk ha
              have BK167 := Aside0.mk Q_BK167
              have BK168 := Aside0.mk Q_BK168
              have HB := Aside0.mk Q_HB
              have hc0_ : w'.cell? ⟨gb168, 0, none⟩ = some (.int .i64 (wrap64 (x9_4 + 1))) := (blk_cell BK168.out 0).trans rfl
              have hc1_ : w'.cell? ⟨gb168, 1, none⟩ = some (.string a0) := (blk_cell BK168.out 1).trans rfl
              have hc2_ : w'.cell? ⟨gb168, 2, none⟩ = some (.string a1) := (blk_cell BK168.out 2).trans rfl
              refine value_ (w1 := w') (v := .agg #[.int .i64 (wrap64 (x9_4 + 1)), .string a0, .string a1]) (wanted_on rfl rfl rfl (e29.trans (by first | rfl | (simp [*]; done)))) rfl ?_ ?_
              · go_simp
                (try simp only [i64_w])
                try rfl
              refine hK.out _ _ ⟨v172, v176, (by rw [ha.out]; exact putSel_upk 9 hb_ rfl rfl rfl), Q_BK167, Q_BK168, Q_HB, Q_HO173, fun h0_ => absurd ((hoff 12 (by kernel_rfl)).symm.trans h0_) (by decide)⟩
            refine steps_cons ?_ ?_
            · rintro b a w' ⟨v172, v176, ha, Q_BK167, Q_BK168, Q_HB, Q_HO173, Q_HO177⟩ hb_ hon hoff
              refine ⟨_, rfl, fun K hK => ?_⟩
              have e33 : a.tmps[33]? = some (.agg #[.int .i64 (wrap64 (x9_4 + 1)), .string a0, .string a1]) := by rw [ha]; exact putSel_on (e := (11, 33, .agg #[.int .i64 (wrap64 (x9_4 + 1)), .string a0, .string a1])) 9 rfl rfl (hon 11 (by kernel_rfl)) rfl
              have e29 : a.tmps[29]? = some (.bool (t169 != t170)) := by rw [ha]; exact putSel_on (e := (7, 29, .bool (t169 != t170))) 5 rfl rfl (hon 7 (by kernel_rfl)) rfl
              replace ha := Aside0.mk ha
              have BK167 := Aside0.mk Q_BK167
              have BK168 := Aside0.mk Q_BK168
              have HB := Aside0.mk Q_HB
              refine Kd.R_lit_step k35 _ 35 ?hg (N := 34) ?hd (xs := ([(⟨wrap64 (x9_4 + 1), a0, a1⟩ : S35)] : List (S35))) (inner := [.int .i64 (wrap64 (x9_4 + 1)), .string a0, .string a1]) (ok := fun _ => True) (okp := fun _ => True) ?hr ?hp (fun _ hk => hk) trivial (Below.refl _ _) (Nat.le_refl _) (by simp) ?_; (case hd => rfl); (case hg => (first | rfl | exact dryrotlaw09_MatchNot.wanted_at (b := true) rfl rfl (by simp [*]))); (case hr => first | (go_simp; done) | (go_simp; rfl)); (case hp => exact (Reps.c3 (show Kd.M k35 _ _ _ (⟨wrap64 (x9_4 + 1), a0, a1⟩ : S35) [.int .i64 (wrap64 (x9_4 + 1)), .string a0, .string a1] from (k35_mkM _ _ _ (⟨wrap64 (x9_4 + 1), a0, a1⟩ : S35) )) (Reps.none _ _)))
              intro v176 w43 ho44 hb hg_ hnew_
              clear hg_ hnew_
              (first | rw [← Ny175.out] at ho44 | (simp only [Int.reduceToNat] at ho44; rw [← Ny175.out] at ho44))
              have n0_ := Aside0.mk (Kd.R_lower (Kd.R_newB (Kd.R_newB ho44 (g := gb167) (o := .cells #[.int .i64 x9_4, .string a0, .string a1] 35 (0, 0)) (by (with_reducible repeat (first | refine blk_drewN ?_ _ | refine blk_drew ?_ | refine blk_alloc ?_ _)); exact BK167.out)) (g := gb168) (o := .cells #[.int .i64 (wrap64 (x9_4 + 1)), .string a0, .string a1] 35 (0, 0)) (by (with_reducible repeat (first | refine blk_drewN ?_ _ | refine blk_drew ?_ | refine blk_alloc ?_ _)); exact BK168.out)) (below_size (by repeat (first | (with_reducible first | exact HB.out | apply below_alloc | apply pw_below_drewN | apply below_drew1 | refine below_set ?_ GE167.out | refine below_set ?_ GE168.out) | exact HB.out))))
              have n1_ := Aside0.mk (blk_below (g := gb167) (o := .cells #[.int .i64 x9_4, .string a0, .string a1] 35 (0, 0)) (by (with_reducible repeat (first | refine blk_drewN ?_ _ | refine blk_drew ?_ | refine blk_alloc ?_ _)); exact BK167.out) hb)
              have n2_ := Aside0.mk (blk_below (g := gb168) (o := .cells #[.int .i64 (wrap64 (x9_4 + 1)), .string a0, .string a1] 35 (0, 0)) (by (with_reducible repeat (first | refine blk_drewN ?_ _ | refine blk_drew ?_ | refine blk_alloc ?_ _)); exact BK168.out) hb)
              have n3_ := Aside0.mk (below_step (by repeat (first | (with_reducible first | exact HB.out | apply below_alloc | apply pw_below_drewN | apply below_drew1 | refine below_set ?_ GE167.out | refine below_set ?_ GE168.out) | exact HB.out)) hb)
              have z_HO173 := fun (h0_ : b 9 = true) => (show Kd.R k35 35 w43 w.heap.size (fun k_ => k_ ≠ gb167 ∧ k_ ≠ gb168) v172 y171 from by first | exact (Kd.R_elder' (by (with_reducible repeat (first | apply Kd.R_alloc | apply Kd.R_drewN | apply Kd.R_drew)); exact (Q_HO173 h0_)) (Kd.R_base ho44) hb) | exact Kd.R_mono (Kd.R_elder' (by (with_reducible repeat (first | apply Kd.R_alloc | apply Kd.R_drewN | apply Kd.R_drew)); exact (Q_HO173 h0_)) (Kd.R_base ho44) hb) (fun _ h_ => by first | trivial | exact h_ | exact h_.1))
              clear BK167
              clear BK168
              clear HB
              have HO177 := n0_
              have BK167 := n1_
              have BK168 := n2_
              have HB := n3_
              clear n0_ n1_ n2_ n3_
              clear hb ho44
              refine hK.out _ _ ⟨v172, v176, (by rw [ha.out]; exact putSel_upk 10 hb_ rfl rfl rfl), (by (with_reducible repeat (first | refine blk_drewN ?_ _ | refine blk_drew ?_ | refine blk_alloc ?_ _)); exact BK167.out), (by (with_reducible repeat (first | refine blk_drewN ?_ _ | refine blk_drew ?_ | refine blk_alloc ?_ _)); exact BK168.out), (by repeat (first | (with_reducible first | exact HB.out | apply below_alloc | apply pw_below_drewN | apply below_drew1 | refine below_set ?_ GE167.out | refine below_set ?_ GE168.out) | exact HB.out)), z_HO173, fun _ => (by (with_reducible repeat (first | apply Kd.R_alloc | apply Kd.R_drewN | apply Kd.R_drew)); exact Kd.R_mono HO177.out (fun _ hk => ⟨hk.1.2, hk.2⟩))⟩
            refine steps_cons ?_ ?_
            · rintro b a w' ⟨v172, v176, ha, Q_BK167, Q_BK168, Q_HB, Q_HO173, Q_HO177⟩ hb_ hon hoff
              refine ⟨_, rfl, fun K hK => ?_⟩
              have e34 : a.tmps[34]? = some (v176) := by rw [ha]; exact putSel_on (e := (12, 34, v176)) 10 rfl rfl (hon 12 (by kernel_rfl)) rfl
              have e29 : a.tmps[29]? = some (.bool (t169 != t170)) := by rw [ha]; exact putSel_on (e := (7, 29, .bool (t169 != t170))) 5 rfl rfl (hon 7 (by kernel_rfl)) rfl
              replace ha := Aside0.mk ha
              have BK167 := Aside0.mk Q_BK167
              have BK168 := Aside0.mk Q_BK168
              have HB := Aside0.mk Q_HB
              have HO173 := Aside0.mk (Q_HO173 (hon 9 (by kernel_rfl)))
              have HO177 := Aside0.mk (Q_HO177 (hon 12 (by kernel_rfl)))
              obtain ⟨Ao49, co49, eo49⟩ := Kd.R_slice HO177.out
              (first | subst eo49 | (injection eo49 with f1_ f2_ f3_; have f4_ := f1_.symm; have f5_ := f3_.symm; clear f1_ f2_ f3_; subst f4_; subst f5_))
              refine goes_ Tryd.func19 (by kernel_rfl) rfl #[.slice Ao49 y175.length co49] (by (first | rfl | exact dryrotlaw09_MatchNot.wanted_at (b := true) rfl rfl (by simp [*]))) rfl rfl (by first | (simp only [List.map_toArray, List.map_cons, List.map_nil, Act.eval, Array.getD_eq_getD_getElem?, Option.getD_some, e34, e29]; done) | (simp only [List.map_toArray, List.map_cons, List.map_nil, Act.eval, Array.getD_eq_getD_getElem?, Option.getD_some, e34, e29]; rfl)) ?_
              with_reducible refine (match_Can.callsP _ _ y175 t178 _ ?side1 ?side2 ?side3 A11.out).mono ?_
              (case side1 => repeat (first | exact (Kd.R_reads' HO177.out).2.2 | (with_reducible refine Kd.C_alloc ?_ _) | (with_reducible refine Kd.C_drewN ?_ _) | (with_reducible refine Kd.C_drew ?_)))
              (case side2 => exact (Kd.R_reads' HO177.out).2.1)
              (case side3 => exact HG.out.below (by repeat (first | (with_reducible first | exact HB.out | apply below_alloc | apply pw_below_drewN | apply below_drew1 | refine below_set ?_ GE167.out | refine below_set ?_ GE168.out) | exact HB.out)))
              rintro e w50 ⟨rfl, hb⟩
              refine ⟨_, rfl, ?_⟩
              have n0_ := Aside0.mk (Kd.R_below (by (with_reducible repeat (first | apply Kd.R_alloc | apply Kd.R_drewN | apply Kd.R_drew)); exact HO173.out) hb)
              have n1_ := Aside0.mk (Kd.R_below (by (with_reducible repeat (first | apply Kd.R_alloc | apply Kd.R_drewN | apply Kd.R_drew)); exact HO177.out) hb)
              have n2_ := Aside0.mk (blk_below (g := gb167) (o := .cells #[.int .i64 x9_4, .string a0, .string a1] 35 (0, 0)) (by (with_reducible repeat (first | refine blk_drewN ?_ _ | refine blk_drew ?_ | refine blk_alloc ?_ _)); exact BK167.out) hb)
              have n3_ := Aside0.mk (blk_below (g := gb168) (o := .cells #[.int .i64 (wrap64 (x9_4 + 1)), .string a0, .string a1] 35 (0, 0)) (by (with_reducible repeat (first | refine blk_drewN ?_ _ | refine blk_drew ?_ | refine blk_alloc ?_ _)); exact BK168.out) hb)
              have n4_ := Aside0.mk (below_step (by repeat (first | (with_reducible first | exact HB.out | apply below_alloc | apply pw_below_drewN | apply below_drew1 | refine below_set ?_ GE167.out | refine below_set ?_ GE168.out) | exact HB.out)) hb)
              clear HO173
              clear HO177
              clear BK167
              clear BK168
              clear HB
              have HO173 := n0_
              have HO177 := n1_
              have BK167 := n2_
              have BK168 := n3_
              have HB := n4_
              clear n0_ n1_ n2_ n3_ n4_
              (try clear hb)
              (try clear hb2)
              (try clear hk)
              (try clear hi)
              refine hK.out _ _ ⟨v172, .slice Ao49 y175.length co49, (by rw [ha.out]; exact putSel_upk 11 hb_ rfl rfl rfl), (by (with_reducible repeat (first | refine blk_drewN ?_ _ | refine blk_drew ?_ | refine blk_alloc ?_ _)); exact BK167.out), (by (with_reducible repeat (first | refine blk_drewN ?_ _ | refine blk_drew ?_ | refine blk_alloc ?_ _)); exact BK168.out), (by repeat (first | (with_reducible first | exact HB.out | apply below_alloc | apply pw_below_drewN | apply below_drew1 | refine below_set ?_ GE167.out | refine below_set ?_ GE168.out) | exact HB.out)), fun _ => (by (with_reducible repeat (first | apply Kd.R_alloc | apply Kd.R_drewN | apply Kd.R_drew)); exact HO173.out), fun _ => (by (with_reducible repeat (first | apply Kd.R_alloc | apply Kd.R_drewN | apply Kd.R_drew)); exact HO177.out)⟩
            refine steps_cons ?_ ?_
            · rintro b a w' ⟨v172, v176, ha, Q_BK167, Q_BK168, Q_HB, Q_HO173, Q_HO177⟩ hb_ hon hoff
              refine ⟨_, rfl, fun K hK => ?_⟩
              have e32 : a.tmps[32]? = some (.bool t174) := by rw [ha]; exact putSel_on (e := (10, 32, .bool t174)) 8 rfl rfl (hon 10 (by kernel_rfl)) rfl
              have e35 : a.tmps[35]? = some (.bool t178) := by rw [ha]; exact putSel_on (e := (13, 35, .bool t178)) 11 rfl rfl (hon 13 (by kernel_rfl)) rfl
              have e29 : a.tmps[29]? = some (.bool (t169 != t170)) := by rw [ha]; exact putSel_on (e := (7, 29, .bool (t169 != t170))) 5 rfl rfl (hon 7 (by kernel_rfl)) rfl
              replace ha := Aside0.mk ha
              have BK167 := Aside0.mk Q_BK167
              have BK168 := Aside0.mk Q_BK168
              have HB := Aside0.mk Q_HB
              have HO173 := Aside0.mk (Q_HO173 (hon 9 (by kernel_rfl)))
              have HO177 := Aside0.mk (Q_HO177 (hon 12 (by kernel_rfl)))
              refine value_ (w1 := w') (v := .bool (t174 == t178)) (wanted_on rfl rfl rfl (e29.trans (by first | rfl | (simp [*]; done)))) rfl ?_ ?_
              · go_simp
                (try simp only [i64_w])
                try rfl
              refine hK.out _ _ ⟨v172, v176, (by rw [ha.out]; exact putSel_upk 12 hb_ rfl rfl rfl), Q_BK167, Q_BK168, Q_HB, Q_HO173, Q_HO177⟩
            refine steps_cons ?_ ?_
            · rintro b a w' ⟨v172, v176, ha, Q_BK167, Q_BK168, Q_HB, Q_HO173, Q_HO177⟩ hb_ hon hoff
              refine ⟨_, rfl, fun K hK => ?_⟩
              have e29 : a.tmps[29]? = some (.bool (t169 != t170)) := by rw [ha]; exact putSel_on (e := (7, 29, .bool (t169 != t170))) 5 rfl rfl (hon 7 (by kernel_rfl)) rfl
              have e36 : a.tmps[36]? = some (.bool (t174 == t178)) := by rw [ha]; exact putSel_on (e := (14, 36, .bool (t174 == t178))) 12 rfl rfl (hon 14 (by kernel_rfl)) rfl
              replace ha := Aside0.mk ha
              have BK167 := Aside0.mk Q_BK167
              have BK168 := Aside0.mk Q_BK168
              have HB := Aside0.mk Q_HB
              have HO173 := Aside0.mk (Q_HO173 (hon 9 (by kernel_rfl)))
              have HO177 := Aside0.mk (Q_HO177 (hon 12 (by kernel_rfl)))
              refine value_ (w1 := w') (v := .bool (t174 == t178)) (by rfl) rfl ?_ ?_
              · go_simp
                (try simp only [i64_w])
                try rfl
              refine hK.out _ _ ⟨v172, v176, (by rw [ha.out]; exact putSel_upk 13 hb_ rfl rfl rfl), Q_BK167, Q_BK168, Q_HB, Q_HO173, Q_HO177⟩
            refine steps_cons ?_ ?_
            · rintro b a w' ⟨v172, v176, ha, Q_BK167, Q_BK168, Q_HB, Q_HO173, Q_HO177⟩ hb_ hon hoff
              refine ⟨_, rfl, fun K hK => ?_⟩
              have e37 : a.tmps[37]? = some (.bool (t174 == t178)) := by rw [ha]; exact putSel_on (e := (15, 37, .bool (t174 == t178))) 13 rfl rfl (hon 15 (by kernel_rfl)) rfl
              replace ha := Aside0.mk ha
              have BK167 := Aside0.mk Q_BK167
              have BK168 := Aside0.mk Q_BK168
              have HB := Aside0.mk Q_HB
              have HO173 := Aside0.mk (Q_HO173 (hon 9 (by kernel_rfl)))
              have HO177 := Aside0.mk (Q_HO177 (hon 12 (by kernel_rfl)))
              refine value_ (w1 := w') (v := .bool (t174 == t178)) (by rfl) rfl ?_ ?_
              · go_simp
                (try simp only [i64_w])
                try rfl
              refine hK.out _ _ ⟨v172, v176, (by rw [ha.out]; exact putSel_upk 14 hb_ rfl rfl rfl), Q_BK167, Q_BK168, Q_HB, Q_HO173, Q_HO177⟩
            refine steps_cons ?_ ?_
            · rintro b a w' ⟨v172, v176, ha, Q_BK167, Q_BK168, Q_HB, Q_HO173, Q_HO177⟩ hb_ hon hoff
              refine ⟨_, rfl, fun K hK => ?_⟩
              have e38 : a.tmps[38]? = some (.bool (t174 == t178)) := by rw [ha]; exact putSel_on (e := (16, 38, .bool (t174 == t178))) 14 rfl rfl (hon 16 (by kernel_rfl)) rfl
              replace ha := Aside0.mk ha
              have BK167 := Aside0.mk Q_BK167
              have BK168 := Aside0.mk Q_BK168
              have HB := Aside0.mk Q_HB
              have HO173 := Aside0.mk (Q_HO173 (hon 9 (by kernel_rfl)))
              have HO177 := Aside0.mk (Q_HO177 (hon 12 (by kernel_rfl)))
              refine off_ (wanted_off rfl rfl rfl (e38.trans (by first | rfl | (simp [*]; done)))) ?_
              refine hK.out _ _ ⟨v172, v176, (by rw [ha.out]; exact putSel_upk 15 hb_ rfl rfl rfl), Q_BK167, Q_BK168, Q_HB, Q_HO173, Q_HO177⟩
            refine steps_cons ?_ ?_
            · rintro b a w' ⟨v172, v176, ha, Q_BK167, Q_BK168, Q_HB, Q_HO173, Q_HO177⟩ hb_ hon hoff
              refine ⟨_, rfl, fun K hK => ?_⟩
              have e38 : a.tmps[38]? = some (.bool (t174 == t178)) := by rw [ha]; exact putSel_on (e := (16, 38, .bool (t174 == t178))) 14 rfl rfl (hon 16 (by kernel_rfl)) rfl
              have e39 : a.tmps[39]? = some (undef) := by rw [ha]; exact putSel_on (e := (17, 39, undef)) 15 rfl rfl (hon 17 (by kernel_rfl)) rfl
              replace ha := Aside0.mk ha
              have BK167 := Aside0.mk Q_BK167
              have BK168 := Aside0.mk Q_BK168
              have HB := Aside0.mk Q_HB
              have HO173 := Aside0.mk (Q_HO173 (hon 9 (by kernel_rfl)))
              have HO177 := Aside0.mk (Q_HO177 (hon 12 (by kernel_rfl)))
              refine value_ (w1 := w') (v := .bool false) (by rfl) rfl ?_ ?_
              · go_simp
                (try simp only [i64_w])
                try rfl
              refine hK.out _ _ ⟨v172, v176, (by rw [ha.out]; exact putSel_upk 16 hb_ rfl rfl rfl), Q_BK167, Q_BK168, Q_HB, Q_HO173, Q_HO177⟩
            refine steps_cons ?_ ?_
            · rintro b a w' ⟨v172, v176, ha, Q_BK167, Q_BK168, Q_HB, Q_HO173, Q_HO177⟩ hb_ hon hoff
              refine ⟨_, rfl, fun K hK => ?_⟩
              have e40 : a.tmps[40]? = some (.bool false) := by rw [ha]; exact putSel_on (e := (18, 40, .bool false)) 16 rfl rfl (hon 18 (by kernel_rfl)) rfl
              replace ha := Aside0.mk ha
              have BK167 := Aside0.mk Q_BK167
              have BK168 := Aside0.mk Q_BK168
              have HB := Aside0.mk Q_HB
              have HO173 := Aside0.mk (Q_HO173 (hon 9 (by kernel_rfl)))
              have HO177 := Aside0.mk (Q_HO177 (hon 12 (by kernel_rfl)))
              refine value_ (w1 := w') (v := .bool false) (by rfl) rfl ?_ ?_
              · go_simp
                (try simp only [i64_w])
                try rfl
              refine hK.out _ _ ⟨v172, v176, (by rw [ha.out]; exact putSel_upk 17 hb_ rfl rfl rfl), Q_BK167, Q_BK168, Q_HB, Q_HO173, Q_HO177⟩
            exact steps_nil
          rintro b a w50 hall ⟨v172, v176, ha, Q_BK167, Q_BK168, Q_HB, Q_HO173, Q_HO177⟩
          clear BK167 BK168 HB
          have hb0_ := hall 0 (by kernel_rfl)
          have hb2_ := hall 2 (by kernel_rfl)
          have hb3_ := hall 3 (by kernel_rfl)
          have hb5_ := hall 5 (by kernel_rfl)
          have hb6_ := hall 6 (by kernel_rfl)
          have hb7_ := hall 7 (by kernel_rfl)
          have hb8_ := hall 8 (by kernel_rfl)
          have hb9_ := hall 9 (by kernel_rfl)
          have hb10_ := hall 10 (by kernel_rfl)
          have hb11_ := hall 11 (by kernel_rfl)
          have hb12_ := hall 12 (by kernel_rfl)
          have hb13_ := hall 13 (by kernel_rfl)
          have hb14_ := hall 14 (by kernel_rfl)
          have hb15_ := hall 15 (by kernel_rfl)
          have hb16_ := hall 16 (by kernel_rfl)
          have hb17_ := hall 17 (by kernel_rfl)
          have hb18_ := hall 18 (by kernel_rfl)
          have hb19_ := hall 19 (by kernel_rfl)
          subst ha
          simp only [putSel, hb0_, hb2_, hb3_, hb5_, hb6_, hb7_, hb8_, hb9_, hb10_, hb11_, hb12_, hb13_, hb14_, hb15_, hb16_, hb17_, hb18_, hb19_, if_true, Act.put, List.setIfInBounds_toArray, List.set_cons_zero, List.set_cons_succ]
          have BK167 := Aside0.mk Q_BK167
          clear Q_BK167
          have BK168 := Aside0.mk Q_BK168
          clear Q_BK168
          have HB := Aside0.mk Q_HB
          clear Q_HB
          have HO173 := Aside0.mk (Q_HO173 hb9_)
          clear Q_HO173
          have HO177 := Aside0.mk (Q_HO177 hb12_)
          clear Q_HO177
          clear hall hb0_ hb2_ hb3_ hb5_ hb6_ hb7_ hb8_ hb9_ hb10_ hb11_ hb12_ hb13_ hb14_ hb15_ hb16_ hb17_ hb18_ hb19_
          try go_wp2
          go_ret
          exact ⟨by first | rfl | (simp [errW_none, errW_some] <;> rfl) | (simp [*, errW_none, errW_some] <;> rfl), by repeat (first | (with_reducible first | exact HB.out | apply below_alloc | apply pw_below_drewN | apply below_drew1 | refine below_set ?_ GE167.out | refine below_set ?_ GE168.out) | exact HB.out)⟩
      · rw [if_neg c9] at H
        have c9b0 : (t169 != t170) = false := by simpa using c9
        (try (have c9b1 : decide (t169 = t170) = true := by simpa using c9))
        (try (have c9b2 : (t169 == t170) = true := by simpa using c9))
        clear c9
        obtain rfl := Option.some.inj H
        try go_wp2_with (first | ((with_reducible refine gate_dst (N := 10) rfl ?_); (try (refine gate_guard (by rfl) ?_; dsimp only)); refine box_event ?hg (N := 10) ?hd (cs := #[.int .i64 0, .string (⟨#[]⟩ : ByteArray), .string (⟨#[]⟩ : ByteArray)]) (t := 35) ?hr ?_; (case hd => rfl); (case hg => (first | rfl | exact dryrotlaw09_MatchNot.wanted_at (b := true) rfl rfl (by simp [*]))); (case hr => first | (go_simp; done) | (go_simp; rfl)); intro gb167 hg w51 hbox hb; have n0_ := Aside0.mk (below_step (by repeat (first | (with_reducible first | exact HB.out | apply below_alloc | apply pw_below_drewN | apply below_drew1) | exact HB.out)) hb); have n1_ := Aside0.mk (hbox); have n2_ := Aside0.mk ((by rw [hg]; exact (below_size (by repeat (first | (with_reducible first | exact HB.out | apply below_alloc | apply pw_below_drewN | apply below_drew1) | exact HB.out))) : w.heap.size ≤ gb167)); have n3_ := Aside0.mk ((by rw [hg]; exact (below_size (by repeat (first | (with_reducible first | exact HB.out | apply below_alloc | apply pw_below_drewN | apply below_drew1) | exact HB.out))) : w.heap.size ≤ gb167)); clear HB; have HB := n0_; have BK167 := n1_; have GW167 := n2_; have GE167 := n3_; clear n0_ n1_ n2_ n3_; clear hb hbox hg; have hcz52_0 : w51.cell? ⟨gb167, 0, none⟩ = some (.int .i64 0) := (blk_cell BK167.out 0).trans rfl; have hcz52_1 : w51.cell? ⟨gb167, 1, none⟩ = some (.string (⟨#[]⟩ : ByteArray)) := (blk_cell BK167.out 1).trans rfl; have hcz52_2 : w51.cell? ⟨gb167, 2, none⟩ = some (.string (⟨#[]⟩ : ByteArray)) := (blk_cell BK167.out 2).trans rfl; have hfz52_0 := blk_frozen BK167.out 0; have hfz52_1 := blk_frozen BK167.out 1; have hfz52_2 := blk_frozen BK167.out 2) | ((with_reducible refine gate_dst (N := 11) rfl ?_); (try (refine gate_guard (by rfl) ?_; dsimp only)); refine box_event ?hg (N := 11) ?hd (cs := #[.int .i64 0, .string (⟨#[]⟩ : ByteArray), .string (⟨#[]⟩ : ByteArray)]) (t := 35) ?hr ?_; (case hd => rfl); (case hg => (first | rfl | exact dryrotlaw09_MatchNot.wanted_at (b := true) rfl rfl (by simp [*]))); (case hr => first | (go_simp; done) | (go_simp; rfl)); intro gb168 hg w53 hbox hb; have n0_ := Aside0.mk (blk_below (g := gb167) (o := .cells #[.int .i64 x9_4, .string a0, .string a1] 35 (0, 0)) (by (with_reducible repeat (first | refine blk_drewN ?_ _ | refine blk_drew ?_ | refine blk_alloc ?_ _)); refine blk_put (cs := #[.int .i64 x9_4, .string a0, .string (⟨#[]⟩ : ByteArray)]) ?_ 2 _ rfl; (with_reducible repeat (first | refine blk_drewN ?_ _ | refine blk_drew ?_ | refine blk_alloc ?_ _)); refine blk_put (cs := #[.int .i64 x9_4, .string (⟨#[]⟩ : ByteArray), .string (⟨#[]⟩ : ByteArray)]) ?_ 1 _ rfl; (with_reducible repeat (first | refine blk_drewN ?_ _ | refine blk_drew ?_ | refine blk_alloc ?_ _)); refine blk_put (cs := #[.int .i64 0, .string (⟨#[]⟩ : ByteArray), .string (⟨#[]⟩ : ByteArray)]) ?_ 0 _ rfl; (with_reducible repeat (first | refine blk_drewN ?_ _ | refine blk_drew ?_ | refine blk_alloc ?_ _)); exact BK167.out) hb); have n1_ := Aside0.mk (below_step (by repeat (first | (with_reducible first | exact HB.out | apply below_alloc | apply pw_below_drewN | apply below_drew1 | refine below_set ?_ GE167.out) | exact HB.out)) hb); have n2_ := Aside0.mk (hbox); have n3_ := Aside0.mk ((by rw [hg]; exact (below_size (by repeat (first | (with_reducible first | exact HB.out | apply below_alloc | apply pw_below_drewN | apply below_drew1 | refine below_set ?_ GE167.out) | exact HB.out))) : w.heap.size ≤ gb168)); have n4_ := Aside0.mk ((by rw [hg]; exact (below_size (by repeat (first | (with_reducible first | exact HB.out | apply below_alloc | apply pw_below_drewN | apply below_drew1 | refine below_set ?_ GE167.out) | exact HB.out))) : w.heap.size ≤ gb168)); have n5_ := Aside0.mk ((by rw [hg]; exact Nat.ne_of_lt (blk_lt (g := gb167) (o := .cells #[.int .i64 x9_4, .string a0, .string a1] 35 (0, 0)) (by (with_reducible repeat (first | refine blk_drewN ?_ _ | refine blk_drew ?_ | refine blk_alloc ?_ _)); refine blk_put (cs := #[.int .i64 x9_4, .string a0, .string (⟨#[]⟩ : ByteArray)]) ?_ 2 _ rfl; (with_reducible repeat (first | refine blk_drewN ?_ _ | refine blk_drew ?_ | refine blk_alloc ?_ _)); refine blk_put (cs := #[.int .i64 x9_4, .string (⟨#[]⟩ : ByteArray), .string (⟨#[]⟩ : ByteArray)]) ?_ 1 _ rfl; (with_reducible repeat (first | refine blk_drewN ?_ _ | refine blk_drew ?_ | refine blk_alloc ?_ _)); refine blk_put (cs := #[.int .i64 0, .string (⟨#[]⟩ : ByteArray), .string (⟨#[]⟩ : ByteArray)]) ?_ 0 _ rfl; (with_reducible repeat (first | refine blk_drewN ?_ _ | refine blk_drew ?_ | refine blk_alloc ?_ _)); exact BK167.out)) : gb167 ≠ gb168)); have n6_ := Aside0.mk ((by rw [hg]; exact Nat.ne_of_gt (blk_lt (g := gb167) (o := .cells #[.int .i64 x9_4, .string a0, .string a1] 35 (0, 0)) (by (with_reducible repeat (first | refine blk_drewN ?_ _ | refine blk_drew ?_ | refine blk_alloc ?_ _)); refine blk_put (cs := #[.int .i64 x9_4, .string a0, .string (⟨#[]⟩ : ByteArray)]) ?_ 2 _ rfl; (with_reducible repeat (first | refine blk_drewN ?_ _ | refine blk_drew ?_ | refine blk_alloc ?_ _)); refine blk_put (cs := #[.int .i64 x9_4, .string (⟨#[]⟩ : ByteArray), .string (⟨#[]⟩ : ByteArray)]) ?_ 1 _ rfl; (with_reducible repeat (first | refine blk_drewN ?_ _ | refine blk_drew ?_ | refine blk_alloc ?_ _)); refine blk_put (cs := #[.int .i64 0, .string (⟨#[]⟩ : ByteArray), .string (⟨#[]⟩ : ByteArray)]) ?_ 0 _ rfl; (with_reducible repeat (first | refine blk_drewN ?_ _ | refine blk_drew ?_ | refine blk_alloc ?_ _)); exact BK167.out)) : gb168 ≠ gb167)); clear BK167; clear HB; have BK167 := n0_; have HB := n1_; have BK168 := n2_; have GW168 := n3_; have GE168 := n4_; have NB167_168 := n5_; have NB168_167 := n6_; clear n0_ n1_ n2_ n3_ n4_ n5_ n6_; clear hb hbox hg; have hnb54 := NB168_167.out; have hnc54 := NB167_168.out; have hcz55_0 : w53.cell? ⟨gb168, 0, none⟩ = some (.int .i64 0) := (blk_cell BK168.out 0).trans rfl; have hcz55_1 : w53.cell? ⟨gb168, 1, none⟩ = some (.string (⟨#[]⟩ : ByteArray)) := (blk_cell BK168.out 1).trans rfl; have hcz55_2 : w53.cell? ⟨gb168, 2, none⟩ = some (.string (⟨#[]⟩ : ByteArray)) := (blk_cell BK168.out 2).trans rfl; have hfz55_0 := blk_frozen BK168.out 0; have hfz55_1 := blk_frozen BK168.out 1; have hfz55_2 := blk_frozen BK168.out 2))
        have n0_ : Aside0 ((((w53.setCell ⟨gb168, 0, none⟩ (.int .i64 (wrap64 (x9_4 + 1)))).setCell ⟨gb168, 1, none⟩ (.string a0)).setCell ⟨gb168, 2, none⟩ (.string a1)).heap[gb167]? = some (.cells #[.int .i64 x9_4, .string a0, .string a1] 35 (0, 0))) := ⟨by (with_reducible repeat (first | refine blk_drewN ?_ _ | refine blk_drew ?_ | refine blk_alloc ?_ _)); refine blk_far ?_ NB167_168.out _; (with_reducible repeat (first | refine blk_drewN ?_ _ | refine blk_drew ?_ | refine blk_alloc ?_ _)); refine blk_far ?_ NB167_168.out _; (with_reducible repeat (first | refine blk_drewN ?_ _ | refine blk_drew ?_ | refine blk_alloc ?_ _)); refine blk_far ?_ NB167_168.out _; (with_reducible repeat (first | refine blk_drewN ?_ _ | refine blk_drew ?_ | refine blk_alloc ?_ _)); exact BK167.out⟩
        have n1_ : Aside0 ((((w53.setCell ⟨gb168, 0, none⟩ (.int .i64 (wrap64 (x9_4 + 1)))).setCell ⟨gb168, 1, none⟩ (.string a0)).setCell ⟨gb168, 2, none⟩ (.string a1)).heap[gb168]? = some (.cells #[.int .i64 (wrap64 (x9_4 + 1)), .string a0, .string a1] 35 (0, 0))) := ⟨by (with_reducible repeat (first | refine blk_drewN ?_ _ | refine blk_drew ?_ | refine blk_alloc ?_ _)); refine blk_put (cs := #[.int .i64 (wrap64 (x9_4 + 1)), .string a0, .string (⟨#[]⟩ : ByteArray)]) ?_ 2 _ rfl; (with_reducible repeat (first | refine blk_drewN ?_ _ | refine blk_drew ?_ | refine blk_alloc ?_ _)); refine blk_put (cs := #[.int .i64 (wrap64 (x9_4 + 1)), .string (⟨#[]⟩ : ByteArray), .string (⟨#[]⟩ : ByteArray)]) ?_ 1 _ rfl; (with_reducible repeat (first | refine blk_drewN ?_ _ | refine blk_drew ?_ | refine blk_alloc ?_ _)); refine blk_put (cs := #[.int .i64 0, .string (⟨#[]⟩ : ByteArray), .string (⟨#[]⟩ : ByteArray)]) ?_ 0 _ rfl; (with_reducible repeat (first | refine blk_drewN ?_ _ | refine blk_drew ?_ | refine blk_alloc ?_ _)); exact BK168.out⟩
        have n2_ : Aside0 (Below w.heap.size w (((w53.setCell ⟨gb168, 0, none⟩ (.int .i64 (wrap64 (x9_4 + 1)))).setCell ⟨gb168, 1, none⟩ (.string a0)).setCell ⟨gb168, 2, none⟩ (.string a1))) := ⟨by repeat (first | (with_reducible first | exact HB.out | apply below_alloc | apply pw_below_drewN | apply below_drew1 | refine below_set ?_ GE167.out | refine below_set ?_ GE168.out) | exact HB.out)⟩
        (try clear BK167)
        (try clear BK168)
        (try clear HB)
        generalize (((w53.setCell ⟨gb168, 0, none⟩ (.int .i64 (wrap64 (x9_4 + 1)))).setCell ⟨gb168, 1, none⟩ (.string a0)).setCell ⟨gb168, 2, none⟩ (.string a1)) = w56 at n0_ n1_ n2_ ⊢
        have BK167 := n0_
        have BK168 := n1_
        have HB := n2_
        clear n0_ n1_ n2_
        have n0_ := Aside0.mk (blk_drew BK167.out)
        have n1_ := Aside0.mk (blk_drew BK168.out)
        have n2_ := Aside0.mk (below_drew1 HB.out)
        clear BK167
        clear BK168
        clear HB
        have BK167 := n0_
        have BK168 := n1_
        have HB := n2_
        clear n0_ n1_ n2_
        refine start_ (n := 20) (S := fun w' => w'.cell? ⟨gb167, 0, none⟩ = some (.int .i64 x9_4) ∧ w'.cell? ⟨gb167, 1, none⟩ = some (.string a0) ∧ w'.cell? ⟨gb167, 2, none⟩ = some (.string a1) ∧ w'.cell? ⟨gb168, 0, none⟩ = some (.int .i64 (wrap64 (x9_4 + 1))) ∧ w'.cell? ⟨gb168, 1, none⟩ = some (.string a0) ∧ w'.cell? ⟨gb168, 2, none⟩ = some (.string a1)) (ds := []) #[false, false, false, false, false, false, false, false, false, false, false, false, false, false, false, false, false, false, false, false] (by kernel_rfl) rfl rfl ⟨(blk_cell BK167.out 0).trans rfl, (blk_cell BK167.out 1).trans rfl, (blk_cell BK167.out 2).trans rfl, (blk_cell BK168.out 0).trans rfl, (blk_cell BK168.out 1).trans rfl, (blk_cell BK168.out 2).trans rfl⟩ (fun hHeld => ?_); refine with_tabW dryrotlaw09_MatchNot.tab6 dryrotlaw09_MatchNot.bits6 (fun HT_ HW_ => ?_)
        generalize w56.drew = w57 at BK167 BK168 HB hHeld ⊢
        refine pure_ (i := 1) (N := some 23) (v := ?_) (a' := ?_) #[false, true, false, false, false, false, false, false, false, false, false, false, false, false, false, false, false, false, false, false] rfl rfl (any_of HT_.out (by kernel_rfl)) (fun _ _ _ h => h) (Or.inl ⟨by rfl, ?_⟩) ?_ ?_
        rotate_left
        · intro w'
          go_simp
          with_reducible rfl
        rotate_left
        · simp only [Act.put, List.setIfInBounds_toArray, List.set_cons_zero, List.set_cons_succ, i64_w, i32_w]
          rfl
        refine pure_ (i := 4) (N := some 26) (v := ?_) (a' := ?_) #[false, true, false, false, true, false, false, false, false, false, false, false, false, false, false, false, false, false, false, false] rfl rfl (any_of HT_.out (by kernel_rfl)) (fun _ _ _ h => h) (Or.inl ⟨by rfl, ?_⟩) ?_ ?_
        rotate_left
        · intro w'
          go_simp
          with_reducible rfl
        rotate_left
        · simp only [Act.put, List.setIfInBounds_toArray, List.set_cons_zero, List.set_cons_succ, i64_w, i32_w]
          rfl
        refine take_ (i := 0) (N := some 22) (v := ?_) (a' := ?_) #[true, true, false, false, true, false, false, false, false, false, false, false, false, false, false, false, false, false, false, false] rfl rfl (take_ofW HT_.out HW_.out (by kernel_rfl)) (fun _ _ _ h => h) (Or.inl ⟨by rfl, ?_⟩) hHeld ?_ ?_
        rotate_left
        · rintro w' ⟨s0, s1, s2, s3, s4, s5⟩
          go_simp
          with_reducible rfl
        rotate_left
        · simp only [Act.put, List.setIfInBounds_toArray, List.set_cons_zero, List.set_cons_succ, i64_w, i32_w]
          rfl
        refine take_ (i := 3) (N := some 25) (v := ?_) (a' := ?_) #[true, true, false, true, true, false, false, false, false, false, false, false, false, false, false, false, false, false, false, false] rfl rfl (take_ofW HT_.out HW_.out (by kernel_rfl)) (fun _ _ _ h => h) (Or.inl ⟨by rfl, ?_⟩) hHeld ?_ ?_
        rotate_left
        · rintro w' ⟨s0, s1, s2, s3, s4, s5⟩
          go_simp
          with_reducible rfl
        rotate_left
        · simp only [Act.put, List.setIfInBounds_toArray, List.set_cons_zero, List.set_cons_succ, i64_w, i32_w]
          rfl
        refine one_ (i := 2) (N := some 24) #[true, true, true, true, true, false, false, false, false, false, false, false, false, false, false, false, false, false, false, false] rfl rfl (one_of HT_.out (by kernel_rfl)) (by decide) (fun K hK => ?_)
        refine goes_ Tryd.func18 (by kernel_rfl) rfl #[.agg #[.int .i64 x9_4, .string a0, .string a1], .slice A2 l2.length c2] (by (first | rfl | exact dryrotlaw09_MatchNot.wanted_at (b := true) rfl rfl (by simp [*]))) rfl rfl (by (try simp only [List.map_toArray, List.map_cons, List.map_nil]); first | done | rfl | (simp only [List.length_drop, List.length_take]; rfl)) ?_
        with_reducible refine (match_One.callsP x9_4 a0 a1 _ _ l2 t169 _ ?side1 ?side2 ?side3 A7.out).mono ?_
        (case side1 => repeat (first | exact (Kd.C_below HR2.out HB.out) | (with_reducible refine Kd.C_alloc ?_ _) | (with_reducible refine Kd.C_drewN ?_ _) | (with_reducible refine Kd.C_drew ?_)))
        (case side2 => exact HC2.out)
        (case side3 => exact HG.out.below (by repeat (first | (with_reducible first | exact HB.out | apply below_alloc | apply pw_below_drewN | apply below_drew1 | refine below_set ?_ GE167.out | refine below_set ?_ GE168.out) | exact HB.out)))
        rintro e w58 ⟨rfl, hb⟩
        refine ⟨_, rfl, ?_⟩
        have n0_ := Aside0.mk (blk_below (g := gb167) (o := .cells #[.int .i64 x9_4, .string a0, .string a1] 35 (0, 0)) (by (with_reducible repeat (first | refine blk_drewN ?_ _ | refine blk_drew ?_ | refine blk_alloc ?_ _)); exact BK167.out) hb)
        have n1_ := Aside0.mk (blk_below (g := gb168) (o := .cells #[.int .i64 (wrap64 (x9_4 + 1)), .string a0, .string a1] 35 (0, 0)) (by (with_reducible repeat (first | refine blk_drewN ?_ _ | refine blk_drew ?_ | refine blk_alloc ?_ _)); exact BK168.out) hb)
        have n2_ := Aside0.mk (below_step (by repeat (first | (with_reducible first | exact HB.out | apply below_alloc | apply pw_below_drewN | apply below_drew1 | refine below_set ?_ GE167.out | refine below_set ?_ GE168.out) | exact HB.out)) hb)
        clear BK167
        clear BK168
        clear HB
        have BK167 := n0_
        have BK168 := n1_
        have HB := n2_
        clear n0_ n1_ n2_
        (try clear hb)
        (try clear hb2)
        (try clear hk)
        (try clear hi)
        refine hK.out _ _ ⟨(blk_cell BK167.out 0).trans rfl, (blk_cell BK167.out 1).trans rfl, (blk_cell BK167.out 2).trans rfl, (blk_cell BK168.out 0).trans rfl, (blk_cell BK168.out 1).trans rfl, (blk_cell BK168.out 2).trans rfl⟩ (fun hHeld => ?_)
        clear hK K
        refine norm_ (a' := ?_) ?_ ?_
        rotate_left
        · show Act.put _ (some 24) _ = _
          simp only [Act.put, List.setIfInBounds_toArray, List.set_cons_zero, List.set_cons_succ, i64_w, i32_w]
          rfl
        refine one_ (i := 5) (N := some 27) #[true, true, true, true, true, true, false, false, false, false, false, false, false, false, false, false, false, false, false, false] rfl rfl (one_of HT_.out (by kernel_rfl)) (by decide) (fun K hK => ?_)
        refine goes_ Tryd.func18 (by kernel_rfl) rfl #[.agg #[.int .i64 (wrap64 (x9_4 + 1)), .string a0, .string a1], .slice A2 l2.length c2] (by (first | rfl | exact dryrotlaw09_MatchNot.wanted_at (b := true) rfl rfl (by simp [*]))) rfl rfl (by (try simp only [List.map_toArray, List.map_cons, List.map_nil]); first | done | rfl | (simp only [List.length_drop, List.length_take]; rfl)) ?_
        with_reducible refine (match_One.callsP (wrap64 (x9_4 + 1)) a0 a1 _ _ l2 t170 _ ?side1 ?side2 ?side3 A8.out).mono ?_
        (case side1 => repeat (first | exact (Kd.C_below HR2.out HB.out) | (with_reducible refine Kd.C_alloc ?_ _) | (with_reducible refine Kd.C_drewN ?_ _) | (with_reducible refine Kd.C_drew ?_)))
        (case side2 => exact HC2.out)
        (case side3 => exact HG.out.below (by repeat (first | (with_reducible first | exact HB.out | apply below_alloc | apply pw_below_drewN | apply below_drew1 | refine below_set ?_ GE167.out | refine below_set ?_ GE168.out) | exact HB.out)))
        rintro e w59 ⟨rfl, hb⟩
        refine ⟨_, rfl, ?_⟩
        have n0_ := Aside0.mk (blk_below (g := gb167) (o := .cells #[.int .i64 x9_4, .string a0, .string a1] 35 (0, 0)) (by (with_reducible repeat (first | refine blk_drewN ?_ _ | refine blk_drew ?_ | refine blk_alloc ?_ _)); exact BK167.out) hb)
        have n1_ := Aside0.mk (blk_below (g := gb168) (o := .cells #[.int .i64 (wrap64 (x9_4 + 1)), .string a0, .string a1] 35 (0, 0)) (by (with_reducible repeat (first | refine blk_drewN ?_ _ | refine blk_drew ?_ | refine blk_alloc ?_ _)); exact BK168.out) hb)
        have n2_ := Aside0.mk (below_step (by repeat (first | (with_reducible first | exact HB.out | apply below_alloc | apply pw_below_drewN | apply below_drew1 | refine below_set ?_ GE167.out | refine below_set ?_ GE168.out) | exact HB.out)) hb)
        clear BK167
        clear BK168
        clear HB
        have BK167 := n0_
        have BK168 := n1_
        have HB := n2_
        clear n0_ n1_ n2_
        (try clear hb)
        (try clear hb2)
        (try clear hk)
        (try clear hi)
        refine hK.out _ _ ⟨(blk_cell BK167.out 0).trans rfl, (blk_cell BK167.out 1).trans rfl, (blk_cell BK167.out 2).trans rfl, (blk_cell BK168.out 0).trans rfl, (blk_cell BK168.out 1).trans rfl, (blk_cell BK168.out 2).trans rfl⟩ (fun hHeld => ?_)
        clear hK K
        refine norm_ (a' := ?_) ?_ ?_
        rotate_left
        · show Act.put _ (some 27) _ = _
          simp only [Act.put, List.setIfInBounds_toArray, List.set_cons_zero, List.set_cons_succ, i64_w, i32_w]
          rfl
        refine pure_ (i := 6) (N := some 28) (v := ?_) (a' := ?_) #[true, true, true, true, true, true, true, false, false, false, false, false, false, false, false, false, false, false, false, false] rfl rfl (any_of HT_.out (by kernel_rfl)) (fun _ _ _ h => h) (Or.inl ⟨by rfl, ?_⟩) ?_ ?_
        rotate_left
        · intro w'
          go_simp
          with_reducible rfl
        rotate_left
        · simp only [Act.put, List.setIfInBounds_toArray, List.set_cons_zero, List.set_cons_succ, i64_w, i32_w]
          rfl
        refine pure_ (i := 7) (N := some 29) (v := ?_) (a' := ?_) #[true, true, true, true, true, true, true, true, false, false, false, false, false, false, false, false, false, false, false, false] rfl rfl (any_of HT_.out (by kernel_rfl)) (fun _ _ _ h => h) (Or.inl ⟨by rfl, ?_⟩) ?_ ?_
        rotate_left
        · intro w'
          go_simp
          with_reducible rfl
        rotate_left
        · simp only [Act.put, List.setIfInBounds_toArray, List.set_cons_zero, List.set_cons_succ, i64_w, i32_w]
          rfl
        refine pure_ (i := 8) (N := some 30) (v := undef) (a' := ?_) #[true, true, true, true, true, true, true, true, true, false, false, false, false, false, false, false, false, false, false, false] rfl rfl (any_of HT_.out (by kernel_rfl)) (fun _ _ _ h => h) (Or.inr ⟨by rfl, rfl⟩) ?_ ?_
        rotate_left
        · simp only [Act.put, List.setIfInBounds_toArray, List.set_cons_zero, List.set_cons_succ, i64_w, i32_w]
          rfl
        refine pure_ (i := 9) (N := some 31) (v := undef) (a' := ?_) #[true, true, true, true, true, true, true, true, true, true, false, false, false, false, false, false, false, false, false, false] rfl rfl (any_of HT_.out (by kernel_rfl)) (fun _ _ _ h => h) (Or.inr ⟨by rfl, rfl⟩) ?_ ?_
        rotate_left
        · simp only [Act.put, List.setIfInBounds_toArray, List.set_cons_zero, List.set_cons_succ, i64_w, i32_w]
          rfl
        refine pure_ (i := 10) (N := some 32) (v := undef) (a' := ?_) #[true, true, true, true, true, true, true, true, true, true, true, false, false, false, false, false, false, false, false, false] rfl rfl (any_of HT_.out (by kernel_rfl)) (fun _ _ _ h => h) (Or.inr ⟨by rfl, rfl⟩) ?_ ?_
        rotate_left
        · simp only [Act.put, List.setIfInBounds_toArray, List.set_cons_zero, List.set_cons_succ, i64_w, i32_w]
          rfl
        refine pure_ (i := 11) (N := some 33) (v := undef) (a' := ?_) #[true, true, true, true, true, true, true, true, true, true, true, true, false, false, false, false, false, false, false, false] rfl rfl (any_of HT_.out (by kernel_rfl)) (fun _ _ _ h => h) (Or.inr ⟨by rfl, rfl⟩) ?_ ?_
        rotate_left
        · simp only [Act.put, List.setIfInBounds_toArray, List.set_cons_zero, List.set_cons_succ, i64_w, i32_w]
          rfl
        refine pure_ (i := 12) (N := some 34) (v := undef) (a' := ?_) #[true, true, true, true, true, true, true, true, true, true, true, true, true, false, false, false, false, false, false, false] rfl rfl (any_of HT_.out (by kernel_rfl)) (fun _ _ _ h => h) (Or.inr ⟨by rfl, rfl⟩) ?_ ?_
        rotate_left
        · simp only [Act.put, List.setIfInBounds_toArray, List.set_cons_zero, List.set_cons_succ, i64_w, i32_w]
          rfl
        refine pure_ (i := 13) (N := some 35) (v := undef) (a' := ?_) #[true, true, true, true, true, true, true, true, true, true, true, true, true, true, false, false, false, false, false, false] rfl rfl (any_of HT_.out (by kernel_rfl)) (fun _ _ _ h => h) (Or.inr ⟨by rfl, rfl⟩) ?_ ?_
        rotate_left
        · simp only [Act.put, List.setIfInBounds_toArray, List.set_cons_zero, List.set_cons_succ, i64_w, i32_w]
          rfl
        refine pure_ (i := 14) (N := some 36) (v := undef) (a' := ?_) #[true, true, true, true, true, true, true, true, true, true, true, true, true, true, true, false, false, false, false, false] rfl rfl (any_of HT_.out (by kernel_rfl)) (fun _ _ _ h => h) (Or.inr ⟨by rfl, rfl⟩) ?_ ?_
        rotate_left
        · simp only [Act.put, List.setIfInBounds_toArray, List.set_cons_zero, List.set_cons_succ, i64_w, i32_w]
          rfl
        refine pure_ (i := 15) (N := some 37) (v := ?_) (a' := ?_) #[true, true, true, true, true, true, true, true, true, true, true, true, true, true, true, true, false, false, false, false] rfl rfl (any_of HT_.out (by kernel_rfl)) (fun _ _ _ h => h) (Or.inl ⟨by rfl, ?_⟩) ?_ ?_
        rotate_left
        · intro w'
          go_simp
          with_reducible rfl
        rotate_left
        · simp only [Act.put, List.setIfInBounds_toArray, List.set_cons_zero, List.set_cons_succ, i64_w, i32_w]
          rfl
        refine pure_ (i := 16) (N := some 38) (v := ?_) (a' := ?_) #[true, true, true, true, true, true, true, true, true, true, true, true, true, true, true, true, true, false, false, false] rfl rfl (any_of HT_.out (by kernel_rfl)) (fun _ _ _ h => h) (Or.inl ⟨by rfl, ?_⟩) ?_ ?_
        rotate_left
        · intro w'
          go_simp
          with_reducible rfl
        rotate_left
        · simp only [Act.put, List.setIfInBounds_toArray, List.set_cons_zero, List.set_cons_succ, i64_w, i32_w]
          rfl
        refine pure_ (i := 17) (N := some 39) (v := undef) (a' := ?_) #[true, true, true, true, true, true, true, true, true, true, true, true, true, true, true, true, true, true, false, false] rfl rfl (any_of HT_.out (by kernel_rfl)) (fun _ _ _ h => h) (Or.inr ⟨by rfl, rfl⟩) ?_ ?_
        rotate_left
        · simp only [Act.put, List.setIfInBounds_toArray, List.set_cons_zero, List.set_cons_succ, i64_w, i32_w]
          rfl
        refine pure_ (i := 18) (N := some 40) (v := ?_) (a' := ?_) #[true, true, true, true, true, true, true, true, true, true, true, true, true, true, true, true, true, true, true, false] rfl rfl (any_of HT_.out (by kernel_rfl)) (fun _ _ _ h => h) (Or.inl ⟨by rfl, ?_⟩) ?_ ?_
        rotate_left
        · intro w'
          go_simp
          with_reducible rfl
        rotate_left
        · simp only [Act.put, List.setIfInBounds_toArray, List.set_cons_zero, List.set_cons_succ, i64_w, i32_w]
          rfl
        refine pure_ (i := 19) (N := some 8) (v := ?_) (a' := ?_) #[true, true, true, true, true, true, true, true, true, true, true, true, true, true, true, true, true, true, true, true] rfl rfl (any_of HT_.out (by kernel_rfl)) (fun _ _ _ h => h) (Or.inl ⟨by rfl, ?_⟩) ?_ ?_
        rotate_left
        · intro w'
          go_simp
          with_reducible rfl
        rotate_left
        · simp only [Act.put, List.setIfInBounds_toArray, List.set_cons_zero, List.set_cons_succ, i64_w, i32_w]
          rfl
        refine done_ (done_of HT_.out (by kernel_rfl)) ?_
        try go_wp2
        go_ret
        exact ⟨by first | rfl | (simp [errW_none, errW_some] <;> rfl) | (simp [*, errW_none, errW_some] <;> rfl), by repeat (first | (with_reducible first | exact HB.out | apply below_alloc | apply pw_below_drewN | apply below_drew1 | refine below_set ?_ GE167.out | refine below_set ?_ GE168.out) | exact HB.out)⟩

end Go.Proofs.YtgnehcgaplnfkaaDoor.PAll
