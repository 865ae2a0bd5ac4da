-- Written by a program of this seat (wip/tools), out of the translation. Not trusted: Lean checks it.
import Derived.Test.YtgnehcgaplnfkaaDoorPAllx0
import Derived.Test.YtgnehcgaplnfkaaDoorPAllx3
import Derived.Test.YtgnehcgaplnfkaaDoorPAllx22
import Derived.Test.YtgnehcgaplnfkaaDoorPAllx34
import Derived.Test.YtgnehcgaplnfkaaDoorPAllx41
import Derived.Test.YtgnehcgaplnfkaaDoorPAllx42
namespace Go.Proofs.YtgnehcgaplnfkaaDoor.PAll
open Go.RowKit Go.Proofs.YtgnehcgaplnfkaaDoorW.PrintWords Go.Proofs.YtgnehcgaplnfkaaDoorW.PrintLast Go.Proofs.YtgnehcgaplnfkaaDoorW.PrintMore
attribute [local go_sem] max2_int min2_int max_two min_two max_three min_three max_four min_four   -- for this text's walks alone
set_option linter.unusedVariables false
set_option linter.unusedSimpArgs false

/-! ### tomb_Hits: function 26 -/
-- uses match_All
abbrev tomb_Hits.Dl := S77
abbrev tomb_Hits.Lb := S42
/-- A delete takes a sample of a block of a rank. -/
def tomb_Hits.HitP (l : List tomb_Hits.Lb) (t rank : Int) (x : tomb_Hits.Dl) : Prop := rank ≤ x.f3 ∧ x.f1 ≤ t ∧ t ≤ x.f2 ∧ ∀ y, y ∈ x.f0 → match_All.P l y
theorem tomb_Hits.not_hit {l : List tomb_Hits.Lb} {t rank : Int} {x : tomb_Hits.Dl} (h : ¬ (rank ≤ x.f3 ∧ x.f1 ≤ t ∧ t ≤ x.f2)) : (false = true) ↔ tomb_Hits.HitP l t rank x :=
  ⟨fun h9 => (by cases h9), fun h9 => absurd ⟨h9.1, h9.2.1, h9.2.2.1⟩ h⟩
set_option maxHeartbeats 1000000 in
theorem tomb_Hits.test (x : tomb_Hits.Dl) (A : Option Addr) (c : Nat) (B : Option Addr) (d : Nat) (l : List tomb_Hits.Lb) (t rank : Int) (gr gt gl : Nat) (w : World) (hgr : w.cell? ⟨gr, 0, none⟩ = some (.int .i64 rank)) (hgt : w.cell? ⟨gt, 0, none⟩ = some (.int .i64 t)) (hgl : w.cell? ⟨gl, 0, none⟩ = some (.slice B l.length d)) (hx : x.f0.length ≤ c) (gx : Kd.C k35 w A x.f0.length x.f0) (hr : Kd.C k42 w B l.length l) (hd : l.length ≤ d) (hG : strings_ToValidUTF8.Gd w) :
    Calls Tryd.prog 45 #[.agg #[.slice A x.f0.length c, .int .i64 x.f1, .int .i64 x.f2, .int .i64 x.f3], .pointer (some ⟨gr, 0, none⟩), .pointer (some ⟨gt, 0, none⟩), .pointer (some ⟨gl, 0, none⟩)] w fun e w' => match_One.Ret (tomb_Hits.HitP l t rank x) e ∧ Below w.heap.size w w' := by
  obtain ⟨Wa, hWa⟩ : ∃ Wa, Aside0 (w.alloc (.cells #[.slice A x.f0.length c, .int .i64 x.f1, .int .i64 x.f2, .int .i64 x.f3] 77) = Wa) := ⟨_, ⟨rfl⟩⟩
  have hbl : Below w.heap.size w Wa := by rw [← hWa.out]; exact below_alloc (Below.refl _ _) _
  have l1 := World.block_lt_of_cell? w _ hgr
  have l2 := World.block_lt_of_cell? w _ hgt
  have l3 := World.block_lt_of_cell? w _ hgl
  have n1 : gr ≠ w.heap.size := by simp only at l1; omega
  have n2 : gt ≠ w.heap.size := by simp only at l2; omega
  have n3 : gl ≠ w.heap.size := by simp only at l3; omega
  have HB := Aside0.mk hbl
  have HG := Aside0.mk (hG.below hbl)
  have HR := Aside0.mk (Kd.C_below hr hbl)
  have GX := Aside0.mk (Kd.C_below gx hbl)
  have HX := Aside0.mk hx
  have q1 : ∀ o : Obj, (w.alloc o).cell? ⟨gr, 0, none⟩ = some (.int .i64 rank) := fun o => ((below_alloc (Below.refl w.heap.size w) o).cell l1).trans hgr
  have q2 : ∀ o : Obj, (w.alloc o).cell? ⟨gt, 0, none⟩ = some (.int .i64 t) := fun o => ((below_alloc (Below.refl w.heap.size w) o).cell l2).trans hgt
  have q3 : ∀ o : Obj, (w.alloc o).cell? ⟨gl, 0, none⟩ = some (.slice B l.length d) := fun o => ((below_alloc (Below.refl w.heap.size w) o).cell l3).trans hgl
  clear hbl hG hr gx hx l1 l2 l3
  by_cases h1 : rank ≤ x.f3
  · by_cases h2 : x.f1 ≤ t
    · by_cases h3 : t ≤ x.f2
      · have HK : Aside0 (rank ≤ x.f3 ∧ x.f1 ≤ t ∧ t ≤ x.f2) := ⟨⟨h1, h2, h3⟩⟩
        have d1 : decide (rank ≤ x.f3) = true := decide_eq_true h1
        have d2 : decide (x.f1 ≤ t) = true := decide_eq_true h2
        have d3 : decide (t ≤ x.f2) = true := decide_eq_true h3
        clear h1 h2 h3
        go_enter Tryd.func45, Tryd.ntmps45
        go_wp2_with (go_at_call 23; rw [hWa.out]; (with_reducible refine (match_All.calls A c x.f0 B d l Wa GX.out HX.out HR.out hd HG.out).mono ?_); rintro e W1 ⟨⟨b, rfl, hb⟩, hB1⟩; have HB1 := Aside0.mk hB1; have HBB := Aside0.mk hb; clear hB1 hb)
        go_ret
        exact ⟨⟨b, rfl, HBB.out.trans ⟨fun h9 => ⟨HK.out.1, HK.out.2.1, HK.out.2.2, h9⟩, fun h9 => h9.2.2.2⟩⟩, below_then HB.out HB.out.size HB1.out⟩
      · have HK := Aside0.mk (tomb_Hits.not_hit (l := l) (t := t) (rank := rank) (x := x) (fun h9 => h3 h9.2.2))
        have d1 : decide (rank ≤ x.f3) = true := decide_eq_true h1
        have d2 : decide (x.f1 ≤ t) = true := decide_eq_true h2
        have d3 : decide (t ≤ x.f2) = false := decide_eq_false h3
        clear h1 h2 h3
        go_enter Tryd.func45, Tryd.ntmps45
        go_wp2
        go_ret
        exact ⟨⟨false, rfl, HK.out⟩, by rw [hWa.out]; exact HB.out⟩
    · have HK := Aside0.mk (tomb_Hits.not_hit (l := l) (t := t) (rank := rank) (x := x) (fun h9 => h2 h9.2.1))
      have d1 : decide (rank ≤ x.f3) = true := decide_eq_true h1
      have d2 : decide (x.f1 ≤ t) = false := decide_eq_false h2
      clear h1 h2
      go_enter Tryd.func45, Tryd.ntmps45
      go_wp2
      go_ret
      exact ⟨⟨false, rfl, HK.out⟩, by rw [hWa.out]; exact HB.out⟩
  · have HK := Aside0.mk (tomb_Hits.not_hit (l := l) (t := t) (rank := rank) (x := x) (fun h9 => h1 h9.1))
    have d1 : decide (rank ≤ x.f3) = false := decide_eq_false h1
    clear h1
    go_enter Tryd.func45, Tryd.ntmps45
    go_wp2
    go_ret
    exact ⟨⟨false, rfl, HK.out⟩, by rw [hWa.out]; exact HB.out⟩
set_option maxHeartbeats 2000000 in
theorem tomb_Hits.index (A : Option Addr) (c : Nat) (m : List tomb_Hits.Dl) (B : Option Addr) (d : Nat) (l : List tomb_Hits.Lb) (t rank : Int) (gr gt gl : Nat) (w : World) (hm0 : Kd.C k77 w A m.length m) (hm : m.length ≤ 9223372036854775807) (hgr : w.cell? ⟨gr, 0, none⟩ = some (.int .i64 rank)) (hgt : w.cell? ⟨gt, 0, none⟩ = some (.int .i64 t)) (hgl : w.cell? ⟨gl, 0, none⟩ = some (.slice B l.length d)) (hr : Kd.C k42 w B l.length l) (hd : l.length ≤ d) (hG : strings_ToValidUTF8.Gd w) :
    Calls Tryd.prog 69 #[.slice A m.length c, .func (.func 45) #[] #[.pointer (some ⟨gr, 0, none⟩), .pointer (some ⟨gt, 0, none⟩), .pointer (some ⟨gl, 0, none⟩)]] w fun e w' =>
      match_Can.RetA (∃ x, x ∈ m ∧ tomb_Hits.HitP l t rank x) e ∧ Below w.heap.size w w' := by
  have HM := Aside0.mk hm0
  have HG := Aside0.mk hG
  have HL := Aside0.mk hr
  have HC : Aside0 (w.cell? ⟨gr, 0, none⟩ = some (.int .i64 rank) ∧ w.cell? ⟨gt, 0, none⟩ = some (.int .i64 t) ∧ w.cell? ⟨gl, 0, none⟩ = some (.slice B l.length d)) := ⟨⟨hgr, hgt, hgl⟩⟩
  have HT : Aside0 (gr < w.heap.size ∧ gt < w.heap.size ∧ gl < w.heap.size) := ⟨⟨World.block_lt_of_cell? w _ hgr, World.block_lt_of_cell? w _ hgt, World.block_lt_of_cell? w _ hgl⟩⟩
  clear hm0 hG hr hgr hgt hgl
  go_enter Tryd.func69, Tryd.ntmps69
  go_wp2
  go_loopg [8] (m.length) (fun kq v8 wr => ∃ (x : Nat), x ≤ m.length ∧ v8 = .int .i64 x ∧ Aside0 (∀ j (hj : j < m.length), j < x → ¬ tomb_Hits.HitP l t rank (m[j]'hj)) ∧ m.length ≤ kq + x ∧ Below w.heap.size w wr)
  case atStart => exact ⟨0, by omega, rfl, ⟨fun j _ hj => absurd hj (by omega)⟩, by omega, Below.refl _ _⟩
  case round =>
    obtain ⟨x, hx, rfl, HN, hk, hB⟩ := hrel
    have HB := Aside0.mk hB
    clear hB
    by_cases hlt : x < m.length
    · obtain ⟨ad, A1, c1, e, f0, f1, f2, f3, g0, g1⟩ := at_T77 (Kd.C_below HM.out HB.out) (x : Int) (by omega) (by omega)
      subst e
      have HGr := Aside0.mk (HG.out.below HB.out)
      have HRD : Aside0 (rd_T77 m (x : Int) = m[x]'hlt) := ⟨by simp [rd_T77, hlt]⟩
      obtain ⟨y, hy⟩ : ∃ y, Aside0 (rd_T77 m (x : Int) = y) := ⟨_, ⟨rfl⟩⟩
      rw [hy.out] at f0 f1 f2 f3 g0 g1 HRD
      simp only [Int.toNat_natCast] at f0 f1 f2 f3
      have GX := Aside0.mk g1
      have HX := Aside0.mk g0
      have k1 := Aside0.mk ((HB.out.cell (p := ⟨gr, 0, none⟩) HT.out.1).trans HC.out.1)
      have k2 := Aside0.mk ((HB.out.cell (p := ⟨gt, 0, none⟩) HT.out.2.1).trans HC.out.2.1)
      have k3 := Aside0.mk ((HB.out.cell (p := ⟨gl, 0, none⟩) HT.out.2.2).trans HC.out.2.2)
      clear g0 g1
      obtain ⟨g1, rfl⟩ : ∃ g1, gk = g1 + 1 := ⟨gk - 1, by omega⟩
      go_wp2_with (go_at_call 45; (with_reducible refine (tomb_Hits.test y A1 c1 B d l t rank gr gt gl _ k1.out k2.out k3.out HX.out GX.out (Kd.C_below HL.out HB.out) hd HGr.out).mono ?_); rintro e W1 ⟨⟨b, rfl, hb⟩, hb1⟩; have HB1 := Aside0.mk hb1; have HBB := Aside0.mk hb; clear hb1 hb)
      · have hbt : b = true := by assumption
        go_ret
        refine ⟨⟨x, rfl, ⟨fun _ => ⟨y, by rw [HRD.out]; exact List.getElem_mem hlt, HBB.out.1 hbt⟩, fun _ => by omega⟩⟩, HB.out.trans (HB1.out.mono HB.out.size)⟩
      · have hbf : b = false := by assumption
        go_roundg g1
        case rel =>
          refine ⟨x + 1, by omega, by go_num, ⟨fun j hj hjx => ?_⟩, by omega, HB.out.trans (HB1.out.mono HB.out.size)⟩
          rcases Nat.lt_or_ge j x with h9 | h9
          · exact HN.out j hj h9
          · have : j = x := by omega
            subst this
            rw [← HRD.out]
            intro h8
            have h7 := HBB.out.2 h8
            rw [hbf] at h7
            cases h7
        case measure => omega
    · go_wp2
      go_ret
      refine ⟨⟨-1, rfl, ⟨fun h => absurd h (by decide), fun ⟨y, hy, hp⟩ => ?_⟩⟩, HB.out⟩
      exfalso
      obtain ⟨j, hj, rfl⟩ := List.getElem_of_mem hy
      exact HN.out j hj (by omega) hp
theorem tomb_Hits.contains (A : Option Addr) (c : Nat) (m : List tomb_Hits.Dl) (B : Option Addr) (d : Nat) (l : List tomb_Hits.Lb) (t rank : Int) (gr gt gl : Nat) (w : World) (hm0 : Kd.C k77 w A m.length m) (hgr : w.cell? ⟨gr, 0, none⟩ = some (.int .i64 rank)) (hgt : w.cell? ⟨gt, 0, none⟩ = some (.int .i64 t)) (hgl : w.cell? ⟨gl, 0, none⟩ = some (.slice B l.length d)) (hr : Kd.C k42 w B l.length l) (hd : l.length ≤ d) (hG : strings_ToValidUTF8.Gd w) :
    Calls Tryd.prog 44 #[.slice A m.length c, .func (.func 45) #[] #[.pointer (some ⟨gr, 0, none⟩), .pointer (some ⟨gt, 0, none⟩), .pointer (some ⟨gl, 0, none⟩)]] w fun e w' => match_One.Ret (∃ x, x ∈ m ∧ tomb_Hits.HitP l t rank x) e ∧ Below w.heap.size w w' := by
  have hm := hm0.2.1
  go_enter Tryd.func44, Tryd.ntmps44
  go_wp2_with (go_at_call 69; refine (tomb_Hits.index _ _ _ _ _ _ _ _ _ _ _ _ hm0 hm hgr hgt hgl hr hd hG).mono ?_; rintro e W1 ⟨⟨i, rfl, hi⟩, hb1⟩; have HI := Aside0.mk hi; clear hi)
  go_ret
  refine ⟨⟨_, rfl, ?_⟩, hb1⟩
  refine Iff.trans ?_ HI.out
  simp
theorem tomb_Hits.calls (A : Option Addr) (c : Nat) (m : List tomb_Hits.Dl) (B : Option Addr) (d : Nat) (l : List tomb_Hits.Lb) (t rank : Int) (w : World) (hr : Kd.C k77 w A m.length m) (hc : m.length ≤ c) (hl : Kd.C k42 w B l.length l) (hd : l.length ≤ d) (hG : strings_ToValidUTF8.Gd w) :
    Calls Tryd.prog 26 #[.slice A m.length c, .slice B l.length d, .int .i64 t, .int .i64 rank] w fun e w' => match_One.Ret (∃ x, x ∈ m ∧ tomb_Hits.HitP l t rank x) e ∧ Below w.heap.size w w' := by
  obtain ⟨Wa, hWa⟩ : ∃ Wa, Aside0 (((w.alloc (.cells #[.slice B l.length d] 33)).alloc (.cells #[.int .i64 t] 3)).alloc (.cells #[.int .i64 rank] 3) = Wa) := ⟨_, ⟨rfl⟩⟩
  have hbl : Below w.heap.size w Wa := by rw [← hWa.out]; exact below_alloc (below_alloc (below_alloc (Below.refl _ _) _) _) _
  obtain ⟨W1, hW1⟩ : ∃ W1, Aside0 (w.alloc (.cells #[.slice B l.length d] 33) = W1) := ⟨_, ⟨rfl⟩⟩
  have c1 : W1.cell? ⟨w.heap.size, 0, none⟩ = some (.slice B l.length d) := by rw [← hW1.out]; exact (blk_cell (blk_new w _) 0).trans rfl
  have s1 : W1.heap.size = w.heap.size + 1 := by rw [← hW1.out]; simp
  obtain ⟨W2, hW2⟩ : ∃ W2, Aside0 (W1.alloc (.cells #[.int .i64 t] 3) = W2) := ⟨_, ⟨rfl⟩⟩
  have c2 : W2.cell? ⟨w.heap.size + 1, 0, none⟩ = some (.int .i64 t) := by rw [← s1, ← hW2.out]; exact (blk_cell (blk_new W1 _) 0).trans rfl
  have b2 : Below W1.heap.size W1 W2 := by rw [← hW2.out]; exact below_alloc (Below.refl _ _) _
  have s2 : W2.heap.size = w.heap.size + 2 := by rw [← hW2.out]; simp [s1]
  have c12 : W2.cell? ⟨w.heap.size, 0, none⟩ = some (.slice B l.length d) := (b2.cell (p := ⟨w.heap.size, 0, none⟩) (by simp only; omega)).trans c1
  have e3 : Wa = W2.alloc (.cells #[.int .i64 rank] 3) := by rw [← hW2.out, ← hW1.out, hWa.out]
  have b3 : Below W2.heap.size W2 Wa := by rw [e3]; exact below_alloc (Below.refl _ _) _
  have hgr : Wa.cell? ⟨w.heap.size + 2, 0, none⟩ = some (.int .i64 rank) := by rw [← s2, e3]; exact (blk_cell (blk_new W2 _) 0).trans rfl
  have hgt : Wa.cell? ⟨w.heap.size + 1, 0, none⟩ = some (.int .i64 t) := (b3.cell (p := ⟨w.heap.size + 1, 0, none⟩) (by simp only; omega)).trans c2
  have hgl : Wa.cell? ⟨w.heap.size, 0, none⟩ = some (.slice B l.length d) := (b3.cell (p := ⟨w.heap.size, 0, none⟩) (by simp only; omega)).trans c12
  clear c1 c2 c12 e3 b2 b3 s1 s2 hW1 hW2
  have HB := Aside0.mk hbl
  have HG := Aside0.mk (hG.below hbl)
  have HR := Aside0.mk (Kd.C_below hr hbl)
  have HL := Aside0.mk (Kd.C_below hl hbl)
  have G1 := Aside0.mk hgl
  have G2 := Aside0.mk hgt
  have G3 := Aside0.mk hgr
  clear hbl hG hr hl hgl hgt hgr
  go_enter Tryd.func26, Tryd.ntmps26
  go_wp2_with (go_at_call 44; rw [hWa.out]; refine (tomb_Hits.contains A c m B d l t rank _ _ _ Wa HR.out G3.out G2.out G1.out HL.out hd HG.out).mono ?_; rintro e W1 ⟨⟨b, rfl, hb⟩, hb1⟩; have HBB := Aside0.mk hb; have HB1 := Aside0.mk hb1; clear hb hb1)
  go_ret
  exact ⟨⟨b, rfl, HBB.out⟩, below_then HB.out HB.out.size HB1.out⟩
-- in the form of the print
noncomputable def tomb_Hits.ans (m : List tomb_Hits.Dl) (l : List tomb_Hits.Lb) (t rank : Int) : Bool := regex_Match.dec (∃ x, x ∈ m ∧ tomb_Hits.HitP l t rank x)
noncomputable def tomb_Hits.f (l0 : List tomb_Hits.Dl) (l1 : List tomb_Hits.Lb) (a2 a3 : Int) : Option Bool := some (tomb_Hits.ans l0 l1 a2 a3)
theorem tomb_Hits.callsP (A0 : Option Addr) (c0 : Nat) (l0 : List tomb_Hits.Dl) (A1 : Option Addr) (c1 : Nat) (l1 : List tomb_Hits.Lb) (a2 a3 : Int) (r : Bool) (w : World) (hr0 : Kd.C k77 w A0 l0.length l0) (hc0 : l0.length ≤ c0) (hr1 : Kd.C k42 w A1 l1.length l1) (hc1 : l1.length ≤ c1) (hG : strings_ToValidUTF8.Gd w) (h : tomb_Hits.f l0 l1 a2 a3 = some r) :
    Calls Tryd.prog 26 #[.slice A0 l0.length c0, .slice A1 l1.length c1, .int .i64 a2, .int .i64 a3] w fun e w' => e = .returned (.bool r) ∧ Below w.heap.size w w' := by
  obtain rfl := Option.some.inj h
  refine (tomb_Hits.calls A0 c0 l0 A1 c1 l1 a2 a3 w hr0 hc0 hr1 hc1 hG).mono ?_
  rintro e w' ⟨⟨b, rfl, hb⟩, hB⟩
  have : b = tomb_Hits.ans l0 l1 a2 a3 := Bool.eq_iff_iff.2 (hb.trans (regex_Match.dec_iff _).symm)
  exact ⟨by rw [this], hB⟩

end Go.Proofs.YtgnehcgaplnfkaaDoor.PAll
