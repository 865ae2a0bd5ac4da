-- Written by a program of this seat (wip/tools), out of the translation. Not trusted: Lean checks it.
import Derived.Test.YtdbbfhmcbogknaaPAllx0
import Derived.Test.YtdbbfhmcbogknaaPAllx36
import Derived.Test.YtdbbfhmcbogknaaPAllx37
namespace Go.Proofs.Ytdbbfhmcbogknaa.PAll
open Go.RowKit Go.Proofs.YtdbbfhmcbogknaaW.PrintWords Go.Proofs.YtdbbfhmcbogknaaW.PrintLast Go.Proofs.YtdbbfhmcbogknaaW.PrintMore
attribute [local go_sem] max2_int min2_int max_two min_two max_three min_three max_four min_four   -- for this text's walks alone
set_option linter.unusedVariables false
set_option linter.unusedSimpArgs false

/-! ### dryrotref07_Compare: function 25 -/
-- uses dryrotref07_texts labels_Compare
def dryrotref07_Compare.f (l0 l1 : List S41) : Option Int := some (labels_Compare.cmp l0 l1)
theorem dryrotref07_Compare.texts_is (a b : ByteArray) : dryrotref07_texts.f a b = some (Base.cmpS a b) := by
  simp only [dryrotref07_texts.f, Base.cmpS]
  by_cases h1 : Op.bytesLess a.toList b.toList = true
  · simp [h1]
  · by_cases h2 : Op.bytesLess b.toList a.toList = true
    · simp [h1, h2]
    · simp [h1, h2]
set_option maxHeartbeats 8000000 in
set_option maxRecDepth 100000 in
theorem dryrotref07_Compare.calls (A0 : Option Addr) (c0 : Nat) (l0 : List (S41)) (A1 : Option Addr) (c1 : Nat) (l1 : List (S41)) (r : Int) (w : World) (hr0 : Kd.C k41 w A0 l0.length l0) (hc0 : l0.length ≤ c0) (hr1 : Kd.C k41 w A1 l1.length l1) (hc1 : l1.length ≤ c1) (h : dryrotref07_Compare.f l0 l1 = some r) :
    Calls Try.prog 25 #[.slice A0 l0.length c0, .slice A1 l1.length c1] w fun e w' => e = .returned (.int .i64 r) ∧ Below w.heap.size w w' := by
  obtain rfl : labels_Compare.cmp l0 l1 = r := by simpa [dryrotref07_Compare.f] using h
  clear h
  have hm0 := hr0.2.1
  have hm1 := hr1.2.1
  have HR0 := Aside0.mk hr0
  have HR1 := Aside0.mk hr1
  clear hr0 hr1
  have hu41 := Try.underlying41
  go_enter Try.func25, Try.ntmps25
  go_wp2
  all_goals
    have hmin := h
    go_loopg [13] (l0.length) (fun kq v13 wr => ∃ (x : Nat), x ≤ l0.length ∧ x ≤ l1.length ∧ v13 = .int .i64 x ∧ Aside0 (labels_Compare.cmp l0 l1 = labels_Compare.cmp (l0.drop x) (l1.drop x)) ∧ l0.length ≤ kq + x ∧ Below w.heap.size w wr)
    case atStart => exact ⟨0, by omega, by omega, rfl, ⟨rfl⟩, by omega, Below.refl _ _⟩
    case round =>
      obtain ⟨x, hx, hx1, rfl, HN, hk, hB⟩ := hrel
      have HB := Aside0.mk hB
      clear hB
      by_cases hlts : x < l0.length ∧ x < l1.length
      · obtain ⟨hlt, hlt1⟩ := hlts
        obtain ⟨ad, e, hc0, hc1⟩ := at_T41 HR0.out (x : Int) (by omega) (by omega)
        subst e
        have hd0 : wr.cell? (ad.add (x * 2)) = some (.string (rd_T41 l0 x).f0) := (HB.out.cell (World.block_lt_of_cell? w _ (by simpa using hc0))).trans (by simpa using hc0)
        have hd1 : wr.cell? ⟨(ad.add (x * 2)).block, (ad.add (x * 2)).off + 1, none⟩ = some (.string (rd_T41 l0 x).f1) := (HB.out.cell (World.block_lt_of_cell? w _ (by simpa using hc1))).trans (by simpa using hc1)
        clear hc0 hc1
        obtain ⟨ae, e, hc0, hc1⟩ := at_T41 HR1.out (x : Int) (by omega) (by omega)
        subst e
        have he0 : wr.cell? (ae.add (x * 2)) = some (.string (rd_T41 l1 x).f0) := (HB.out.cell (World.block_lt_of_cell? w _ (by simpa using hc0))).trans (by simpa using hc0)
        have he1 : wr.cell? ⟨(ae.add (x * 2)).block, (ae.add (x * 2)).off + 1, none⟩ = some (.string (rd_T41 l1 x).f1) := (HB.out.cell (World.block_lt_of_cell? w _ (by simpa using hc1))).trans (by simpa using hc1)
        clear hc0 hc1
        have hst : labels_Compare.cmp (l0.drop x) (l1.drop x) = if labels_Compare.one (rd_T41 l0 x) (rd_T41 l1 x) ≠ 0 then labels_Compare.one (rd_T41 l0 x) (rd_T41 l1 x) else labels_Compare.cmp (l0.drop (x + 1)) (l1.drop (x + 1)) := by
          rw [labels_Compare.drop_rd l0 x hlt, labels_Compare.drop_rd l1 x hlt1]
          rfl
        rw [hst, labels_Compare.one] at HN
        clear hst
        have h1 := dryrotref07_Compare.texts_is (rd_T41 l0 x).f0 (rd_T41 l1 x).f0
        have H1 := Aside0.mk h1
        clear h1
        have h2 := dryrotref07_Compare.texts_is (rd_T41 l0 x).f1 (rd_T41 l1 x).f1
        have H2 := Aside0.mk h2
        clear h2
        generalize Base.cmpS (rd_T41 l0 x).f0 (rd_T41 l1 x).f0 = o at HN H1
        generalize Base.cmpS (rd_T41 l0 x).f1 (rd_T41 l1 x).f1 = o2 at HN H2
        obtain ⟨g1, rfl⟩ : ∃ g1, gk = g1 + 1 := ⟨gk - 1, by omega⟩
        by_cases ho : o = 0
        · subst ho
          rw [if_neg (show ¬ (0 : Int) ≠ 0 by simp)] at HN
          by_cases ho2 : o2 = 0
          · subst ho2
            rw [if_neg (show ¬ (0 : Int) ≠ 0 by simp)] at HN
            go_wp2_with (first | (go_at_call 44; with_reducible refine (dryrotref07_texts.calls (rd_T41 l0 x).f0 (rd_T41 l1 x).f0 _ _ H1.out).mono ?_; rintro e w' ⟨rfl, ⟨nd, rfl⟩⟩; (try first | exact ⟨rfl, _, World.drewN_drewN _ _ _⟩ | exact ⟨rfl, _, Eq.trans (World.drewN_drewN _ _ _) (congrArg (World.drewN _) (Nat.add_assoc _ _ _))⟩)) | (go_at_call 44; with_reducible refine (dryrotref07_texts.calls (rd_T41 l0 x).f1 (rd_T41 l1 x).f1 _ _ H2.out).mono ?_; rintro e w' ⟨rfl, ⟨nd, rfl⟩⟩; (try first | exact ⟨rfl, _, World.drewN_drewN _ _ _⟩ | exact ⟨rfl, _, Eq.trans (World.drewN_drewN _ _ _) (congrArg (World.drewN _) (Nat.add_assoc _ _ _))⟩)))
            repeat (go_quiet (first | (go_at_call 44; with_reducible refine (dryrotref07_texts.calls (rd_T41 l0 x).f0 (rd_T41 l1 x).f0 _ _ H1.out).mono ?_; rintro e w' ⟨rfl, ⟨nd, rfl⟩⟩; (try first | exact ⟨rfl, _, World.drewN_drewN _ _ _⟩ | exact ⟨rfl, _, Eq.trans (World.drewN_drewN _ _ _) (congrArg (World.drewN _) (Nat.add_assoc _ _ _))⟩)) | (go_at_call 44; with_reducible refine (dryrotref07_texts.calls (rd_T41 l0 x).f1 (rd_T41 l1 x).f1 _ _ H2.out).mono ?_; rintro e w' ⟨rfl, ⟨nd, rfl⟩⟩; (try first | exact ⟨rfl, _, World.drewN_drewN _ _ _⟩ | exact ⟨rfl, _, Eq.trans (World.drewN_drewN _ _ _) (congrArg (World.drewN _) (Nat.add_assoc _ _ _))⟩))); try go_wp2_with (first | (go_at_call 44; with_reducible refine (dryrotref07_texts.calls (rd_T41 l0 x).f0 (rd_T41 l1 x).f0 _ _ H1.out).mono ?_; rintro e w' ⟨rfl, ⟨nd, rfl⟩⟩; (try first | exact ⟨rfl, _, World.drewN_drewN _ _ _⟩ | exact ⟨rfl, _, Eq.trans (World.drewN_drewN _ _ _) (congrArg (World.drewN _) (Nat.add_assoc _ _ _))⟩)) | (go_at_call 44; with_reducible refine (dryrotref07_texts.calls (rd_T41 l0 x).f1 (rd_T41 l1 x).f1 _ _ H2.out).mono ?_; rintro e w' ⟨rfl, ⟨nd, rfl⟩⟩; (try first | exact ⟨rfl, _, World.drewN_drewN _ _ _⟩ | exact ⟨rfl, _, Eq.trans (World.drewN_drewN _ _ _) (congrArg (World.drewN _) (Nat.add_assoc _ _ _))⟩))))
            go_roundg g1
            case rel => exact ⟨x + 1, by omega, by omega, by go_num, HN, by omega, (by repeat (first | exact HB.out | apply pw_below_drewN))⟩
            case measure => omega
          · have hb : (o2 != 0) = true := by simp [ho2]
            rw [if_pos ho2] at HN
            clear ho2
            go_wp2_with (first | (go_at_call 44; with_reducible refine (dryrotref07_texts.calls (rd_T41 l0 x).f0 (rd_T41 l1 x).f0 _ _ H1.out).mono ?_; rintro e w' ⟨rfl, ⟨nd, rfl⟩⟩; (try first | exact ⟨rfl, _, World.drewN_drewN _ _ _⟩ | exact ⟨rfl, _, Eq.trans (World.drewN_drewN _ _ _) (congrArg (World.drewN _) (Nat.add_assoc _ _ _))⟩)) | (go_at_call 44; with_reducible refine (dryrotref07_texts.calls (rd_T41 l0 x).f1 (rd_T41 l1 x).f1 _ _ H2.out).mono ?_; rintro e w' ⟨rfl, ⟨nd, rfl⟩⟩; (try first | exact ⟨rfl, _, World.drewN_drewN _ _ _⟩ | exact ⟨rfl, _, Eq.trans (World.drewN_drewN _ _ _) (congrArg (World.drewN _) (Nat.add_assoc _ _ _))⟩)))
            repeat (go_quiet (first | (go_at_call 44; with_reducible refine (dryrotref07_texts.calls (rd_T41 l0 x).f0 (rd_T41 l1 x).f0 _ _ H1.out).mono ?_; rintro e w' ⟨rfl, ⟨nd, rfl⟩⟩; (try first | exact ⟨rfl, _, World.drewN_drewN _ _ _⟩ | exact ⟨rfl, _, Eq.trans (World.drewN_drewN _ _ _) (congrArg (World.drewN _) (Nat.add_assoc _ _ _))⟩)) | (go_at_call 44; with_reducible refine (dryrotref07_texts.calls (rd_T41 l0 x).f1 (rd_T41 l1 x).f1 _ _ H2.out).mono ?_; rintro e w' ⟨rfl, ⟨nd, rfl⟩⟩; (try first | exact ⟨rfl, _, World.drewN_drewN _ _ _⟩ | exact ⟨rfl, _, Eq.trans (World.drewN_drewN _ _ _) (congrArg (World.drewN _) (Nat.add_assoc _ _ _))⟩))); try go_wp2_with (first | (go_at_call 44; with_reducible refine (dryrotref07_texts.calls (rd_T41 l0 x).f0 (rd_T41 l1 x).f0 _ _ H1.out).mono ?_; rintro e w' ⟨rfl, ⟨nd, rfl⟩⟩; (try first | exact ⟨rfl, _, World.drewN_drewN _ _ _⟩ | exact ⟨rfl, _, Eq.trans (World.drewN_drewN _ _ _) (congrArg (World.drewN _) (Nat.add_assoc _ _ _))⟩)) | (go_at_call 44; with_reducible refine (dryrotref07_texts.calls (rd_T41 l0 x).f1 (rd_T41 l1 x).f1 _ _ H2.out).mono ?_; rintro e w' ⟨rfl, ⟨nd, rfl⟩⟩; (try first | exact ⟨rfl, _, World.drewN_drewN _ _ _⟩ | exact ⟨rfl, _, Eq.trans (World.drewN_drewN _ _ _) (congrArg (World.drewN _) (Nat.add_assoc _ _ _))⟩))))
            go_ret
            exact ⟨by rw [HN.out]; rfl, (by repeat (first | exact HB.out | apply pw_below_drewN))⟩
        · have hb : (o != 0) = true := by simp [ho]
          rw [if_pos ho, if_pos ho] at HN
          clear ho
          go_wp2_with (first | (go_at_call 44; with_reducible refine (dryrotref07_texts.calls (rd_T41 l0 x).f0 (rd_T41 l1 x).f0 _ _ H1.out).mono ?_; rintro e w' ⟨rfl, ⟨nd, rfl⟩⟩; (try first | exact ⟨rfl, _, World.drewN_drewN _ _ _⟩ | exact ⟨rfl, _, Eq.trans (World.drewN_drewN _ _ _) (congrArg (World.drewN _) (Nat.add_assoc _ _ _))⟩)) | (go_at_call 44; with_reducible refine (dryrotref07_texts.calls (rd_T41 l0 x).f1 (rd_T41 l1 x).f1 _ _ H2.out).mono ?_; rintro e w' ⟨rfl, ⟨nd, rfl⟩⟩; (try first | exact ⟨rfl, _, World.drewN_drewN _ _ _⟩ | exact ⟨rfl, _, Eq.trans (World.drewN_drewN _ _ _) (congrArg (World.drewN _) (Nat.add_assoc _ _ _))⟩)))
          repeat (go_quiet (first | (go_at_call 44; with_reducible refine (dryrotref07_texts.calls (rd_T41 l0 x).f0 (rd_T41 l1 x).f0 _ _ H1.out).mono ?_; rintro e w' ⟨rfl, ⟨nd, rfl⟩⟩; (try first | exact ⟨rfl, _, World.drewN_drewN _ _ _⟩ | exact ⟨rfl, _, Eq.trans (World.drewN_drewN _ _ _) (congrArg (World.drewN _) (Nat.add_assoc _ _ _))⟩)) | (go_at_call 44; with_reducible refine (dryrotref07_texts.calls (rd_T41 l0 x).f1 (rd_T41 l1 x).f1 _ _ H2.out).mono ?_; rintro e w' ⟨rfl, ⟨nd, rfl⟩⟩; (try first | exact ⟨rfl, _, World.drewN_drewN _ _ _⟩ | exact ⟨rfl, _, Eq.trans (World.drewN_drewN _ _ _) (congrArg (World.drewN _) (Nat.add_assoc _ _ _))⟩))); try go_wp2_with (first | (go_at_call 44; with_reducible refine (dryrotref07_texts.calls (rd_T41 l0 x).f0 (rd_T41 l1 x).f0 _ _ H1.out).mono ?_; rintro e w' ⟨rfl, ⟨nd, rfl⟩⟩; (try first | exact ⟨rfl, _, World.drewN_drewN _ _ _⟩ | exact ⟨rfl, _, Eq.trans (World.drewN_drewN _ _ _) (congrArg (World.drewN _) (Nat.add_assoc _ _ _))⟩)) | (go_at_call 44; with_reducible refine (dryrotref07_texts.calls (rd_T41 l0 x).f1 (rd_T41 l1 x).f1 _ _ H2.out).mono ?_; rintro e w' ⟨rfl, ⟨nd, rfl⟩⟩; (try first | exact ⟨rfl, _, World.drewN_drewN _ _ _⟩ | exact ⟨rfl, _, Eq.trans (World.drewN_drewN _ _ _) (congrArg (World.drewN _) (Nat.add_assoc _ _ _))⟩))))
          go_ret
          exact ⟨by rw [HN.out]; rfl, (by repeat (first | exact HB.out | apply pw_below_drewN))⟩
      · by_cases e0 : l0.length < l1.length
        · first
            | (exfalso; omega)
            | (obtain rfl : x = l0.length := (by omega); rw [List.drop_eq_nil_of_le (Nat.le_refl _), labels_Compare.drop_rd l1 l0.length e0] at HN; have hn : ¬ l0.length < l0.length := (by omega); go_wp2; go_ret; exact ⟨by rw [HN.out]; rfl, HB.out⟩)
        · by_cases e1 : l1.length < l0.length
          · first
              | (exfalso; omega)
              | (obtain rfl : x = l1.length := (by omega); rw [List.drop_eq_nil_of_le (Nat.le_refl _), labels_Compare.drop_rd l0 l1.length e1] at HN; have hn : ¬ l1.length < l1.length := (by omega); go_wp2; go_ret; exact ⟨by rw [HN.out]; rfl, HB.out⟩)
          · first
              | (exfalso; omega)
              | (obtain rfl : x = l0.length := (by omega); rw [List.drop_eq_nil_of_le (Nat.le_refl _), List.drop_eq_nil_of_le (by omega)] at HN; have hn : ¬ l0.length < l0.length := (by omega); go_wp2; go_ret; exact ⟨by rw [HN.out]; rfl, HB.out⟩)

end Go.Proofs.Ytdbbfhmcbogknaa.PAll
