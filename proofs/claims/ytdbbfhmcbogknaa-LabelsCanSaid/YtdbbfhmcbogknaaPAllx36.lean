-- Written by a program of this seat (wip/tools), out of the translation. Not trusted: Lean checks it.
import Derived.Test.YtdbbfhmcbogknaaPAllx0
import Derived.Test.YtdbbfhmcbogknaaPAllx32
import Derived.Test.YtdbbfhmcbogknaaPAllx33
import Derived.Test.YtdbbfhmcbogknaaPAllx34
import Derived.Test.YtdbbfhmcbogknaaPAllx35
namespace Go.Proofs.Ytdbbfhmcbogknaa.PAll
open Go.RowKit Go.Proofs.YtdbbfhmcbogknaaW.PrintWords Go.Proofs.YtdbbfhmcbogknaaW.PrintLast Go.Proofs.YtdbbfhmcbogknaaW.PrintMore
attribute [local go_sem] max2_int min2_int max_two min_two max_three min_three max_four min_four   -- for this text's walks alone
set_option linter.unusedVariables false
set_option linter.unusedSimpArgs false

/-! ### labels_Compare: function 24 -/
-- uses cmp_Or_int cmp_Compare_string labels_Compare_1 cmp_isNaN_string
def labels_Compare.one (x y : S41) : Int := if Base.cmpS x.f0 y.f0 ≠ 0 then Base.cmpS x.f0 y.f0 else Base.cmpS x.f1 y.f1
def labels_Compare.cmp : List S41 → List S41 → Int
  | [], [] => 0
  | [], _ :: _ => -1
  | _ :: _, [] => 1
  | x :: r, y :: q => if labels_Compare.one x y ≠ 0 then labels_Compare.one x y else labels_Compare.cmp r q
def labels_Compare.f (l0 l1 : List S41) : Option Int := some (labels_Compare.cmp l0 l1)
theorem labels_Compare.cmp_string (a b : ByteArray) : cmp_Compare_string.f a b = some (Base.cmpS a b) := by
  simp only [cmp_Compare_string.f, cmp_isNaN_string.f, Base.cmpS]
  by_cases h1 : Op.bytesLess a.toList b.toList = true
  · simp [h1]
  · by_cases h2 : Op.bytesLess b.toList a.toList = true
    · simp [h1, h2]
    · simp [h1, h2]
theorem labels_Compare.one_is (x y : S41) : labels_Compare_1.f 3 x.f0 x.f1 y.f0 y.f1 = some (labels_Compare.one x y) := by
  simp only [labels_Compare_1.f, labels_Compare.cmp_string, Option.bind_some, cmp_Or_int.f, cmp_Or_int.l0, labels_Compare.one]
  generalize Base.cmpS x.f0 y.f0 = a
  generalize Base.cmpS x.f1 y.f1 = b
  by_cases ha : a = 0
  · by_cases hb : b = 0
    · subst ha hb; simp [rd, wrap64]
    · subst ha; simp [rd, wrap64, hb]
  · simp [rd, ha]
theorem labels_Compare.drop_rd (l : List S41) (x : Nat) (h : x < l.length) : l.drop x = rd_T41 l x :: l.drop (x + 1) := by
  rw [List.drop_eq_getElem_cons h]
  simp [rd_T41, List.getD_eq_getElem?_getD, h]
set_option maxHeartbeats 1000000 in
set_option maxRecDepth 100000 in
theorem labels_Compare.func (A0 : Option Addr) (c0 : Nat) (l0 : List (S41)) (A1 : Option Addr) (c1 : Nat) (l1 : List (S41)) (w : World) (hr0 : Kd.C k41 w A0 l0.length l0) (hr1 : Kd.C k41 w A1 l1.length l1) :
    Calls Try.prog 40 #[.slice A0 l0.length c0, .slice A1 l1.length c1, .func (.func 41) #[] #[]] w fun e w' => e = .returned (.int .i64 (labels_Compare.cmp l0 l1)) ∧ Below w.heap.size w w' := by
  have hm0 := hr0.2.1
  have hm1 := hr1.2.1
  have HR0 := Aside0.mk hr0
  have HR1 := Aside0.mk hr1
  clear hr0 hr1
  have hu41 := Try.underlying41
  go_enter Try.func40, Try.ntmps40
  go_wp2
  go_loopg [13] (l0.length) (fun kq v13 wr => ∃ (x : Nat), x ≤ l0.length ∧ x ≤ l1.length ∧ v13 = .int .i64 x ∧ Aside0 (labels_Compare.cmp l0 l1 = labels_Compare.cmp (l0.drop x) (l1.drop x)) ∧ l0.length ≤ kq + x ∧ Below w.heap.size w wr)
  case atStart => exact ⟨0, by omega, by omega, rfl, ⟨rfl⟩, by omega, Below.refl _ _⟩
  case round =>
    obtain ⟨x, hx, hx1, rfl, HN, hk, hB⟩ := hrel
    have HB := Aside0.mk hB
    clear hB
    by_cases hlt : x < l0.length
    · obtain ⟨ad, e, hc0, hc1⟩ := at_T41 HR0.out (x : Int) (by omega) (by omega)
      subst e
      have hd0 : wr.cell? (ad.add (x * 2)) = some (.string (rd_T41 l0 x).f0) := (HB.out.cell (World.block_lt_of_cell? w _ (by simpa using hc0))).trans (by simpa using hc0)
      have hd1 : wr.cell? ⟨(ad.add (x * 2)).block, (ad.add (x * 2)).off + 1, none⟩ = some (.string (rd_T41 l0 x).f1) := (HB.out.cell (World.block_lt_of_cell? w _ (by simpa using hc1))).trans (by simpa using hc1)
      clear hc0 hc1
      by_cases hlt1 : x < l1.length
      · obtain ⟨ae, e, hc0, hc1⟩ := at_T41 HR1.out (x : Int) (by omega) (by omega)
        subst e
        have he0 : wr.cell? (ae.add (x * 2)) = some (.string (rd_T41 l1 x).f0) := (HB.out.cell (World.block_lt_of_cell? w _ (by simpa using hc0))).trans (by simpa using hc0)
        have he1 : wr.cell? ⟨(ae.add (x * 2)).block, (ae.add (x * 2)).off + 1, none⟩ = some (.string (rd_T41 l1 x).f1) := (HB.out.cell (World.block_lt_of_cell? w _ (by simpa using hc1))).trans (by simpa using hc1)
        clear hc0 hc1
        have hf0 : ∀ O, (wr.alloc O).cell? (ae.add (x * 2)) = some (.string (rd_T41 l1 x).f0) := fun O => (((Below.refl _ wr).alloc (Nat.le_refl _) O).cell (World.block_lt_of_cell? wr _ he0)).trans he0
        have hf1 : ∀ O, (wr.alloc O).cell? ⟨(ae.add (x * 2)).block, (ae.add (x * 2)).off + 1, none⟩ = some (.string (rd_T41 l1 x).f1) := fun O => (((Below.refl _ wr).alloc (Nat.le_refl _) O).cell (World.block_lt_of_cell? wr _ he1)).trans he1
        clear he0 he1
        have hst : labels_Compare.cmp (l0.drop x) (l1.drop x) = if labels_Compare.one (rd_T41 l0 x) (rd_T41 l1 x) ≠ 0 then labels_Compare.one (rd_T41 l0 x) (rd_T41 l1 x) else labels_Compare.cmp (l0.drop (x + 1)) (l1.drop (x + 1)) := by
          rw [labels_Compare.drop_rd l0 x hlt, labels_Compare.drop_rd l1 x hlt1]
          rfl
        rw [hst] at HN
        clear hst
        have h1 := labels_Compare.one_is (rd_T41 l0 x) (rd_T41 l1 x)
        have H1 := Aside0.mk h1
        clear h1
        generalize labels_Compare.one (rd_T41 l0 x) (rd_T41 l1 x) = o at HN H1
        go_wp2_with fail
        refine (labels_Compare_1.calls 3 _ _ _ _ _ _ H1.out).mono ?_
        rintro e W1 ⟨rfl, hb1⟩
        have hB1 : Below w.heap.size w W1 := ((HB.out.alloc HB.out.size _).alloc (by have := HB.out.size; simp; omega) _).trans (hb1.mono (by have := HB.out.size; simp; omega))
        have HB1 := Aside0.mk hB1
        clear hB1 hb1 hd0 hd1 hf0 hf1
        by_cases ho : o = 0
        · have hb : (o != 0) = false := by simp [ho]
          have h2 := HN.out
          rw [if_neg (by simp [ho])] at h2
          have H2 := Aside0.mk h2
          clear h2 HN ho
          obtain ⟨g1, rfl⟩ : ∃ g1, gk = g1 + 1 := ⟨gk - 1, by omega⟩
          go_wp2
          go_roundg g1
          case rel => exact ⟨x + 1, by omega, by omega, by go_num, H2, by omega, HB1.out⟩
          case measure => omega
        · have hb : (o != 0) = true := by simp [ho]
          have h2 := HN.out
          rw [if_pos ho] at h2
          have H2 := Aside0.mk h2
          clear h2 HN ho
          go_wp2
          go_ret
          exact ⟨by rw [H2.out]; rfl, HB1.out⟩
      · have h2 := HN.out
        rw [labels_Compare.drop_rd l0 x hlt, List.drop_eq_nil_of_le (show l1.length ≤ x by omega)] at h2
        have H2 := Aside0.mk h2
        clear h2 HN
        go_wp2
        go_ret
        exact ⟨by rw [H2.out]; rfl, HB.out.alloc HB.out.size _⟩
    · have h2 := HN.out
      rw [List.drop_eq_nil_of_le (show l0.length ≤ x by omega)] at h2
      have H2 := Aside0.mk h2
      clear h2 HN
      by_cases hlen : l0.length < l1.length
      · have h3 := H2.out
        rw [labels_Compare.drop_rd l1 x (by omega)] at h3
        have H3 := Aside0.mk h3
        clear h3 H2
        go_wp2
        go_ret
        exact ⟨by rw [H3.out]; rfl, HB.out⟩
      · have h3 := H2.out
        rw [List.drop_eq_nil_of_le (show l1.length ≤ x by omega)] at h3
        have H3 := Aside0.mk h3
        clear h3 H2
        go_wp2
        go_ret
        exact ⟨by rw [H3.out]; rfl, HB.out⟩
theorem labels_Compare.calls (A0 : Option Addr) (c0 : Nat) (l0 : List (S41)) (A1 : Option Addr) (c1 : Nat) (l1 : List (S41)) (r : Int) (w : World) (hr0 : Kd.C k41 w A0 l0.length l0) (hc0 : l0.length ≤ c0) (hr1 : Kd.C k41 w A1 l1.length l1) (hc1 : l1.length ≤ c1) (h : labels_Compare.f l0 l1 = some r) :
    Calls Try.prog 24 #[.slice A0 l0.length c0, .slice A1 l1.length c1] w fun e w' => e = .returned (.int .i64 r) ∧ Below w.heap.size w w' := by
  obtain rfl : labels_Compare.cmp l0 l1 = r := by simpa [labels_Compare.f] using h
  clear h
  have HF := Aside0.mk (labels_Compare.func A0 c0 l0 A1 c1 l1 w hr0 hr1)
  clear hr0 hr1
  go_enter Try.func24, Try.ntmps24
  go_wp2_with (go_at_call 40; refine HF.out.mono ?_; rintro e W1 ⟨rfl, hb1⟩)
  go_ret
  exact ⟨rfl, hb1⟩

end Go.Proofs.Ytdbbfhmcbogknaa.PAll
