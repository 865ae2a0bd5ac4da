-- Written by a program of this seat (wip/tools), out of the translation. Not trusted: Lean checks it.
import Derived.Test.YtgnehcgaplnfkaaDoorPAllx0
namespace Go.Proofs.YtgnehcgaplnfkaaDoor.PAll
open Go.RowKit Go.Proofs.YtgnehcgaplnfkaaDoorW.PrintWords Go.Proofs.YtgnehcgaplnfkaaDoorW.PrintLast Go.Proofs.YtgnehcgaplnfkaaDoorW.PrintMore
attribute [local go_sem] max2_int min2_int max_two min_two max_three min_three max_four min_four   -- for this text's walks alone
set_option linter.unusedVariables false
set_option linter.unusedSimpArgs false

/-! ### regex_coder_take: function 84 -/
-- uses regex_shifted
/-- A pattern's reader: the code points that are left, the instructions, whether it failed. -/
structure regex_coder_take.CS where
  p : List Int
  code : List S62
  bad : Bool
/-- Code points that lie in block gp, whatever else is written. -/
def regex_coder_take.Runes (W : World) (gp : Nat) (A : Option Addr) (p : List Int) : Prop := (∃ cells, W.heap[gp]? = some (.cells cells 21 (0, 0))) ∧ ∀ W' : World, W'.heap[gp]? = W.heap[gp]? → (Kd.int .i32).C W' A p.length p
theorem regex_coder_take.Runes.move {W W' : World} {gp : Nat} {A : Option Addr} {p : List Int} (h : regex_coder_take.Runes W gp A p) (hm : W'.heap[gp]? = W.heap[gp]?) : regex_coder_take.Runes W' gp A p :=
  ⟨by obtain ⟨c, hc⟩ := h.1; exact ⟨c, hm.trans hc⟩, fun W2 h2 => h.2 W2 (h2.trans hm)⟩
/-- A reader at block g: its code points in block gp, its instructions in a row of the call's own (from base on). -/
structure regex_coder_take.St (w0 W : World) (g gp : Nat) (vc : Value) (s : regex_coder_take.CS) : Prop where
  below : Below w0.heap.size w0 W
  base : w0.heap.size ≤ g
  cells : ∃ A c, W.heap[g]? = some (.cells #[.slice A s.p.length c, vc, .bool s.bad] 90 (0, 0)) ∧ s.p.length ≤ c ∧ regex_coder_take.Runes W gp A s.p
  code : Kd.R k62 62 W w0.heap.size (fun _ => True) vc s.code
/-- All blocks but one stay. -/
def regex_coder_take.Kp (W W' : World) (g : Nat) : Prop := W'.heap.size = W.heap.size ∧ ∀ k, k ≠ g → W'.heap[k]? = W.heap[k]?
theorem regex_coder_take.Kp.refl (W : World) (g : Nat) : regex_coder_take.Kp W W g := ⟨rfl, fun _ _ => rfl⟩
theorem regex_coder_take.Kp.set (W : World) (g i : Nat) (u : Value) : regex_coder_take.Kp W (W.setCell ⟨g, i, none⟩ u) g := ⟨by simp [World.setCell], fun k hk => Below.heap_setCell W ⟨g, i, none⟩ u k hk⟩
theorem regex_coder_take.Kp.trans {W W' W'' : World} {g : Nat} (h : regex_coder_take.Kp W W' g) (h' : regex_coder_take.Kp W' W'' g) : regex_coder_take.Kp W W'' g := ⟨h'.1.trans h.1, fun k hk => (h'.2 k hk).trans (h.2 k hk)⟩
/-- What the walk reads of a reader. -/
theorem regex_coder_take.St.look {w0 W : World} {g gp : Nat} {vc : Value} {s : regex_coder_take.CS} (h : regex_coder_take.St w0 W g gp vc s) : ∃ A c, (W.cell? ⟨g, 0, none⟩ = some (.slice A s.p.length c) ∧ W.cell? ⟨g, 1, none⟩ = some vc ∧ W.cell? ⟨g, 2, none⟩ = some (.bool s.bad)) ∧ (W.frozen? ⟨g, 0, none⟩ = false ∧ W.frozen? ⟨g, 1, none⟩ = false ∧ W.frozen? ⟨g, 2, none⟩ = false) ∧ s.p.length ≤ c ∧ W.heap[g]? = some (.cells #[.slice A s.p.length c, vc, .bool s.bad] 90 (0, 0)) ∧ regex_coder_take.Runes W gp A s.p := by
  obtain ⟨A, c, hb, hl, hr⟩ := h.cells
  have h0 := blk_cell hb 0
  have h1 := blk_cell hb 1
  have h2 := blk_cell hb 2
  simp only [List.size_toArray, List.length_cons, List.length_nil, List.getElem?_toArray, List.getElem?_cons_zero, List.getElem?_cons_succ] at h0 h1 h2
  exact ⟨A, c, ⟨h0, h1, h2⟩, ⟨blk_frozen hb 0, blk_frozen hb 1, blk_frozen hb 2⟩, hl, hb, hr⟩
def regex_coder_take.step (s : regex_coder_take.CS) : Int × regex_coder_take.CS := match s.p with
  | [] => (0, { s with bad := true })
  | r :: q => (r, { s with p := q })
def regex_coder_take.f : Option Int := none
theorem regex_coder_take.ne_gp {W : World} {g gp : Nat} {cs : Array Value} {A : Option Addr} {p : List Int} (hb : W.heap[g]? = some (.cells cs 90 (0, 0))) (hr : regex_coder_take.Runes W gp A p) : gp ≠ g := by
  obtain ⟨c, hc⟩ := hr.1
  exact blk_ne hc hb (by decide)
/-- A field of the reader is written. -/
theorem regex_coder_take.St.set {w0 W : World} {g gp : Nat} {vc : Value} {s : regex_coder_take.CS} (h : regex_coder_take.St w0 W g gp vc s) {i : Nat} {u : Value} {s' : regex_coder_take.CS} {A : Option Addr} {c : Nat} {cs : Array Value}
    (hb : W.heap[g]? = some (.cells cs 90 (0, 0))) (hc : cs.setIfInBounds i u = #[.slice A s'.p.length c, vc, .bool s'.bad]) (hl : s'.p.length ≤ c) (hr : regex_coder_take.Runes W gp A s'.p) (hcode : s'.code = s.code) : regex_coder_take.St w0 (W.setCell ⟨g, i, none⟩ u) g gp vc s' where
  below := h.below.setCell h.base _
  base := h.base
  cells := ⟨A, c, by rw [blk_set hb i u, hc], hl, hr.move (Below.heap_setCell _ _ _ _ (regex_coder_take.ne_gp hb hr))⟩
  code := by
    rw [hcode]
    exact Kd.R_set h.code hb (by intro q hq; simp [k62, Kd.iso, Kd.pair, Kd.slice, Kd.int, Kd.scalar, Kd.bool, k95] at hq; omega) i u
set_option maxHeartbeats 2000000 in
set_option maxRecDepth 10000 in
theorem regex_coder_take.calls (w0 W : World) (g gp : Nat) (vc : Value) (s : regex_coder_take.CS) (h : regex_coder_take.St w0 W g gp vc s) :
    Calls Tryd.prog 84 #[.pointer (some ⟨g, 0, none⟩)] W fun e W' => e = .returned (.int .i32 (regex_coder_take.step s).1) ∧ regex_coder_take.St w0 W' g gp vc (regex_coder_take.step s).2 ∧ regex_coder_take.Kp W W' g := by
  obtain ⟨p, code, bad⟩ := s
  obtain ⟨A, c, hb, hl, hr⟩ := h.cells
  have h0 := blk_cell hb 0
  have h1 := blk_cell hb 1
  have h2 := blk_cell hb 2
  have f0 := blk_frozen hb 0
  have f2 := blk_frozen hb 2
  simp only at hb hl hr h0 h1 h2
  simp only [List.size_toArray, List.length_cons, List.length_nil, List.getElem?_toArray, List.getElem?_cons_zero, List.getElem?_cons_succ] at h0 h1 h2
  have HB := Aside0.mk hb
  have HS := Aside0.mk h
  have HR := Aside0.mk hr
  clear hb hr h
  cases p with
  | nil =>
    go_enter Tryd.func84, Tryd.ntmps84
    go_wp2
    go_ret
    exact ⟨rfl, HS.out.set (i := 2) (u := .bool true) (A := A) (c := c) HB.out rfl hl HR.out rfl, regex_coder_take.Kp.set _ _ _ _⟩
  | cons r q =>
    obtain ⟨ad, e, hx⟩ := Kd.at_int (HR.out.2 W rfl) 0 (by omega) (by simp)
    subst e
    have hx0 : W.cell? ad = some (.int .i32 r) := by simpa [rd, Addr.add] using hx
    clear hx
    have HR2 : Aside0 (regex_coder_take.Runes W gp (if c = 1 then some ad else some ⟨ad.block, ad.off + 1, none⟩) q) := ⟨by
      refine ⟨HR.out.1, fun W' hW' => ?_⟩
      have hd := Kd.C_drop (m := 1) (c := c) (HR.out.2 W' hW') (by simp) (by simpa using hl)
      have hsz : (Kd.int .i32).sz = 1 := rfl
      by_cases h9 : c = 1
      · simpa [h9, hsz, Addr.add] using hd
      · simpa [h9, hsz, Addr.add] using hd⟩
    simp only [List.length_cons] at hl
    have hl2 : q.length ≤ c - 1 := by omega
    go_enter Tryd.func84, Tryd.ntmps84
    go_wp2
    all_goals
      go_ret
      refine ⟨rfl, HS.out.set (i := 0) (s' := ⟨q, code, bad⟩) (c := c - 1) HB.out ?_ hl2 HR2.out rfl, regex_coder_take.Kp.set _ _ _ _⟩
      simp [h]

end Go.Proofs.YtgnehcgaplnfkaaDoor.PAll
