-- Written by a program of this seat (wip/tools), out of the translation. Not trusted: Lean checks it.
import Derived.Test.YtgnehcgaplnfkaaDoorPAllx0
namespace Go.Proofs.YtgnehcgaplnfkaaDoor.PAll
open Go.RowKit Go.Proofs.YtgnehcgaplnfkaaDoorW.PrintWords Go.Proofs.YtgnehcgaplnfkaaDoorW.PrintLast Go.Proofs.YtgnehcgaplnfkaaDoorW.PrintMore
attribute [local go_sem] max2_int min2_int max_two min_two max_three min_three max_four min_four   -- for this text's walks alone
set_option linter.unusedVariables false
set_option linter.unusedSimpArgs false

/-! ### labels_Get: function 35 -/
def labels_Get.get (a1 : ByteArray) : List S42 → ByteArray
  | [] => ⟨#[]⟩
  | x :: r => if x.f0.toList = a1.toList then x.f1 else labels_Get.get a1 r
def labels_Get.f (l0 : List S42) (a1 : ByteArray) : Option ByteArray := some (labels_Get.get a1 l0)
theorem labels_Get.get_hit (a1 : ByteArray) (l : List S42) : ∀ x : Nat, x < l.length → (∀ j : Nat, j < x → ¬ (rd_T42 l j).f0.toList = a1.toList) → (rd_T42 l x).f0.toList = a1.toList → labels_Get.get a1 l = (rd_T42 l x).f1 := by
  induction l with
  | nil => intro x hx; simp at hx
  | cons y r ih =>
    intro x hx hn he
    cases x with
    | zero =>
      have he' : y.f0.toList = a1.toList := he
      simp only [labels_Get.get]
      rw [if_pos he']
      rfl
    | succ x =>
      have h0 : ¬ y.f0.toList = a1.toList := hn 0 (by omega)
      simp only [labels_Get.get]
      rw [if_neg h0]
      exact ih x (by simpa using hx) (fun j hj => hn (j + 1) (by omega)) he
theorem labels_Get.get_miss (a1 : ByteArray) (l : List S42) : (∀ j : Nat, j < l.length → ¬ (rd_T42 l j).f0.toList = a1.toList) → labels_Get.get a1 l = ⟨#[]⟩ := by
  induction l with
  | nil => intro _; rfl
  | cons y r ih =>
    intro hn
    have h0 : ¬ y.f0.toList = a1.toList := hn 0 (by simp)
    simp only [labels_Get.get]
    rw [if_neg h0]
    exact ih (fun j hj => hn (j + 1) (by simpa using hj))
set_option maxHeartbeats 400000 in
theorem labels_Get.test (n v nm : ByteArray) (g : Nat) (w : World) (hg : w.cell? ⟨g, 0, none⟩ = some (.string nm)) :
    Calls Tryd.prog 62 #[.agg #[.string n, .string v], .pointer (some ⟨g, 0, none⟩)] w fun e w' => e = .returned (.bool (n.toList == nm.toList)) ∧ Below w.heap.size w w' := by
  have hlt := World.block_lt_of_cell? w _ hg
  have hne : g ≠ w.heap.size := by simp only at hlt; omega
  go_enter Tryd.func62, Tryd.ntmps62
  go_wp2
  go_ret
  exact ⟨rfl, (Below.refl _ w).alloc (Nat.le_refl _) _⟩
set_option maxHeartbeats 1000000 in
theorem labels_Get.index (A : Option Addr) (c : Nat) (l : List S42) (nm : ByteArray) (g : Nat) (w : World) (hr : Kd.C k42 w A l.length l) (hm : l.length ≤ 9223372036854775807) (hg : w.cell? ⟨g, 0, none⟩ = some (.string nm)) :
    Calls Tryd.prog 61 #[.slice A l.length c, .func (.func 62) #[] #[.pointer (some ⟨g, 0, none⟩)]] w fun e w' =>
      ((∃ x : Nat, x < l.length ∧ e = .returned (.int .i64 x) ∧ (∀ j : Nat, j < x → ¬ (rd_T42 l j).f0.toList = nm.toList) ∧ (rd_T42 l x).f0.toList = nm.toList) ∨
       (e = .returned (.int .i64 (-1)) ∧ ∀ j : Nat, j < l.length → ¬ (rd_T42 l j).f0.toList = nm.toList)) ∧ Below w.heap.size w w' := by
  have HR := Aside0.mk hr
  have HG := Aside0.mk hg
  have hgl := World.block_lt_of_cell? w _ hg
  clear hr hg
  have hu41 := Tryd.underlying42
  go_enter Tryd.func61, Tryd.ntmps61
  go_wp2
  go_loopg [8] (l.length) (fun kq v8 wr => ∃ (x : Nat), x ≤ l.length ∧ v8 = .int .i64 x ∧ Aside0 (∀ j : Nat, j < x → ¬ (rd_T42 l j).f0.toList = nm.toList) ∧ l.length ≤ kq + x ∧ Below w.heap.size w wr)
  case atStart => exact ⟨0, by omega, rfl, ⟨fun j hj => absurd hj (by omega)⟩, by omega, Below.refl _ _⟩
  case round =>
    obtain ⟨x, hx, rfl, HN, hk, hB⟩ := hrel
    have HB := Aside0.mk hB
    clear hB
    by_cases hlt : x < l.length
    · obtain ⟨ad, e, hc0, hc1⟩ := at_T42 HR.out (x : Int) (by omega) (by omega)
      subst e
      have hd0 : wr.cell? (ad.add (x * 2)) = some (.string (rd_T42 l x).f0) := (HB.out.cell (World.block_lt_of_cell? w _ (by simpa using hc0))).trans (by simpa using hc0)
      have hd1 : wr.cell? ⟨(ad.add (x * 2)).block, (ad.add (x * 2)).off + 1, none⟩ = some (.string (rd_T42 l x).f1) := (HB.out.cell (World.block_lt_of_cell? w _ (by simpa using hc1))).trans (by simpa using hc1)
      clear hc0 hc1
      have hg1 : wr.cell? ⟨g, 0, none⟩ = some (.string nm) := (HB.out.cell (by simpa using hgl)).trans HG.out
      have HT := Aside0.mk (labels_Get.test (rd_T42 l x).f0 (rd_T42 l x).f1 nm g wr hg1)
      clear hg1
      cases hb : ((rd_T42 l x).f0.toList == nm.toList) with
      | true =>
        rw [hb] at HT
        go_wp2_with (go_at_call 62; refine HT.out.mono ?_; rintro e W1 ⟨rfl, hb1⟩)
        go_ret
        exact ⟨.inl ⟨x, hlt, rfl, HN.out, by simpa using hb⟩, HB.out.trans (hb1.mono HB.out.size)⟩
      | false =>
        rw [hb] at HT
        obtain ⟨g1, rfl⟩ : ∃ g1, gk = g1 + 1 := ⟨gk - 1, by omega⟩
        go_wp2_with (go_at_call 62; refine HT.out.mono ?_; rintro e W1 ⟨rfl, hb1⟩)
        go_roundg g1
        case rel =>
          refine ⟨x + 1, by omega, by go_num, ⟨fun j hj => ?_⟩, by omega, HB.out.trans (hb1.mono HB.out.size)⟩
          by_cases hjx : j = x
          · subst hjx
            simpa using hb
          · exact HN.out j (by omega)
        case measure => omega
    · go_wp2
      go_ret
      exact ⟨.inr ⟨rfl, fun j hj => HN.out j (by omega)⟩, HB.out⟩
set_option maxHeartbeats 1000000 in
theorem labels_Get.calls (A0 : Option Addr) (c0 : Nat) (l0 : List (S42)) (a1 : ByteArray) (r : ByteArray) (w : World) (hr0 : Kd.C k42 w A0 l0.length l0) (hc0 : l0.length ≤ c0) (h : labels_Get.f l0 a1 = some r) :
    Calls Tryd.prog 35 #[.slice A0 l0.length c0, .string a1] w fun e w' => e = .returned (.string r) ∧ Below w.heap.size w w' := by
  obtain rfl : labels_Get.get a1 l0 = r := by simpa [labels_Get.f] using h
  clear h
  have HR := Aside0.mk hr0
  clear hr0
  have hm := HR.out.2.1
  have HI := fun W (hB : Below w.heap.size w W) (hg : W.cell? ⟨w.heap.size, 0, none⟩ = some (.string a1)) => labels_Get.index A0 c0 l0 a1 w.heap.size W (Kd.C_below HR.out hB) hm hg
  have HI' := Aside0.mk HI
  clear HI
  go_enter Tryd.func35, Tryd.ntmps35
  go_wp2_with fail
  refine (HI'.out _ ((Below.refl _ w).alloc (Nat.le_refl _) _) (by simp)).mono ?_
  rintro e W1 ⟨⟨x, hx, rfl, h1, h2⟩ | ⟨rfl, h1⟩, hb1⟩
  · have hB : Below w.heap.size w W1 := ((Below.refl _ w).alloc (Nat.le_refl _) _).trans (hb1.mono (by simp))
    have HB := Aside0.mk hB
    have H1 := Aside0.mk (labels_Get.get_hit a1 l0 x hx h1 h2)
    clear h1 h2 hb1 hB
    obtain ⟨ad, e, hc0, hc1⟩ := at_T42 HR.out (x : Int) (by omega) (by omega)
    subst e
    have hd1 : W1.cell? ⟨(ad.add (x * 2)).block, (ad.add (x * 2)).off + 1, none⟩ = some (.string (rd_T42 l0 x).f1) := (HB.out.cell (World.block_lt_of_cell? w _ (by simpa using hc1))).trans (by simpa using hc1)
    clear hc0 hc1
    go_wp2
    go_ret
    exact ⟨by rw [H1.out]; rfl, HB.out⟩
  · have hB : Below w.heap.size w W1 := ((Below.refl _ w).alloc (Nat.le_refl _) _).trans (hb1.mono (by simp))
    have H1 := Aside0.mk (labels_Get.get_miss a1 l0 h1)
    clear h1
    go_wp2
    go_ret
    exact ⟨by rw [H1.out]; rfl, hB⟩

end Go.Proofs.YtgnehcgaplnfkaaDoor.PAll
