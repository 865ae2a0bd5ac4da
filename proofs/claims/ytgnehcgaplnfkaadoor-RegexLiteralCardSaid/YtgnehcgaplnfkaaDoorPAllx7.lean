-- Written by a program of this seat (wip/tools), out of the translation. Not trusted: Lean checks it.
import Derived.Test.YtgnehcgaplnfkaaDoorPAllx0
import Derived.Test.YtgnehcgaplnfkaaDoorPAllx6
namespace Go.Proofs.YtgnehcgaplnfkaaDoor.PAll
open Go.RowKit Go.Proofs.YtgnehcgaplnfkaaDoorW.PrintWords Go.Proofs.YtgnehcgaplnfkaaDoorW.PrintLast Go.Proofs.YtgnehcgaplnfkaaDoorW.PrintMore
attribute [local go_sem] max2_int min2_int max_two min_two max_three min_three max_four min_four   -- for this text's walks alone
set_option linter.unusedVariables false
set_option linter.unusedSimpArgs false

/-! ### regex_coder_put: function 54 -/
-- uses regex_coder_take
def regex_coder_put.f : Option Int := none
theorem regex_coder_put.info : (Tryd.prog.info? 62).map (fun i => (i.zero, i.size, i.bytes)) = some (some (.agg #[.int .i64 0, .slice none 0 0, .bool false, .int .i64 0, .int .i64 0]), 5, 56) := by kernel_rfl
/-- All but the reader's block and its own row stays. -/
structure regex_coder_put.Fr (W W' : World) (g : Nat) (vc vc' : Value) : Prop where
  size : W.heap.size ≤ W'.heap.size
  kept : ∀ k, k < W.heap.size → k ≠ g → some k ≠ vc.ownBlock → W'.heap[k]? = W.heap[k]?
  row : vc'.ownBlock = vc.ownBlock ∨ ∃ b, vc'.ownBlock = some b ∧ W.heap.size ≤ b
/-- What a row reads, element by element, as what was made. -/
theorem regex_coder_put.reads_M {α : Type} {d : Kd α} {e base : Nat} {ok : Nat → Prop} {w : World} {v : Value} {xs : List α} (h : d.R e w base ok v xs) :
    ∃ A c, v = .slice A xs.length c ∧ xs.length ≤ c ∧ ReadsRow (d.M w base (fun k => ∃ q, q ∈ d.E ∧ ∃ cells, w.heap[k]? = some (.cells cells q (0, 0)))) d.sz w A xs.length xs := by
  have h2 : OwnRow (d.M w base (fun k => ∃ q, q ∈ d.E ∧ ∃ cells, w.heap[k]? = some (.cells cells q (0, 0)))) e d.sz w base v xs :=
    h.2.imp_ (fun _ _ hp => d.M_mono (fun k hk => hk.2.2.2) (d.M_bound hp))
  exact h2.reads
theorem regex_coder_put.E_inst : k62.E = [95] := by
  simp [k62, Kd.iso, Kd.pair, Kd.slice, Kd.int, Kd.scalar, Kd.bool, k95]
set_option maxHeartbeats 2000000 in
set_option maxRecDepth 10000 in
theorem regex_coder_put.calls (w0 W : World) (g gp : Nat) (vc vl : Value) (s : regex_coder_take.CS) (l : List S62) (h : regex_coder_take.St w0 W g gp vc s) (hl : Kd.R k62 62 W w0.heap.size (fun _ => True) vl l) (hsz : s.code.length + l.length ≤ 1000000) :
    Calls Tryd.prog 54 #[.pointer (some ⟨g, 0, none⟩), vl] W fun e W' => e = .returned (.tuple #[]) ∧ ∃ vc', regex_coder_take.St w0 W' g gp vc' ⟨s.p, s.code ++ l, s.bad⟩ ∧ regex_coder_put.Fr W W' g vc vc' := by
  obtain ⟨p, code, bad⟩ := s
  obtain ⟨A, c, hb, hlc, hr⟩ := h.cells
  have h1 := blk_cell hb 1
  have f1 := blk_frozen hb 1
  simp only [List.size_toArray, List.length_cons, List.length_nil, List.getElem?_toArray, List.getElem?_cons_zero, List.getElem?_cons_succ] at h1
  obtain ⟨Al, cl, el, hcl, hrl⟩ := regex_coder_put.reads_M hl
  subst el
  have HB := Aside0.mk hb
  have HS := Aside0.mk h
  have HR := Aside0.mk hr
  have HL := Aside0.mk hrl
  have HSZ := Aside0.mk hsz
  clear hb hr h hl hrl hsz
  go_enter Tryd.func54, Tryd.ntmps54
  go_wp2_with ((with_reducible refine gate_builtin (b := .append) (xs := #[.tmp 8, .tmp 9]) rfl ?_); at_builtin; refine Kd.R_append_rows k62 (w0 := w0) w0.heap.size rfl (.tmp 8) (.tmp 9) 56 62 (.agg #[.int .i64 0, .slice none 0 0, .bool false, .int .i64 0, .int .i64 0]) 56 rfl Tryd.underlying56 regex_coder_put.info rfl (by decide) (by omega) _ code l _ _ _ (fun _ => True) _ rfl rfl HS.out.code HL.out (fun _ _ h => h) ?hokp (fun _ _ => trivial) HS.out.below HS.out.below.size ?hbig ?_; (case hbig => have := HSZ.out; simp only at this; omega); (case hokp => intro k hk; refine ⟨trivial, fun he => ?_⟩; obtain ⟨q, hq, cells, hc⟩ := hk; rw [regex_coder_put.E_inst] at hq; simp at hq; subst hq; exact Kd.R_ne HS.out.code hc (by decide) he.symm.symm); intro v1 W1 hR1 hB1 hg1 hat1
               have hg : W.grownBy W1 vc.ownBlock := hg1
               have hat : v1.ownBlock = vc.ownBlock ∨ ∃ b, v1.ownBlock = some b ∧ W.heap.size ≤ b := hat1
               have hb1 := blk_grown HB.out hg (Kd.R_ne HS.out.code HB.out (by decide))
               have h3 := blk_cell hb1 1
               have f3 := blk_frozen hb1 1
               obtain ⟨cz, hcz⟩ := HR.out.1
               have hgp : W1.heap[gp]? = W.heap[gp]? := (blk_grown hcz hg (Kd.R_ne HS.out.code hcz (by decide))).trans hcz.symm
               obtain ⟨A1, c1, e1⟩ := Kd.R_slice hR1
               subst e1
               have HB1 := Aside0.mk hb1
               have HG := Aside0.mk hg
               have HAT := Aside0.mk hat
               have HGP := Aside0.mk hgp
               have HR1 := Aside0.mk hR1
               have HBL := Aside0.mk hB1
               clear hg1 hat1 hg hat hb1 hcz hgp hR1 hB1
               simp only [List.size_toArray, List.length_cons, List.length_nil, List.getElem?_toArray, List.getElem?_cons_zero, List.getElem?_cons_succ] at h3)
  go_end0
  refine ⟨rfl, .slice A1 (code ++ l).length c1, ⟨HBL.out.setCell HS.out.base _, HS.out.base, ⟨A, c, ?_, hlc, ?_⟩, ?_⟩, ⟨?_, ?_, HAT.out⟩⟩
  · rw [blk_set HB1.out 1 _]
    simp
  · exact HR.out.move ((Below.heap_setCell _ _ _ _ (regex_coder_take.ne_gp HB.out HR.out)).trans HGP.out)
  · exact Kd.R_set HR1.out HB1.out (by intro q hq; rw [regex_coder_put.E_inst] at hq; simp at hq; omega) 1 _
  · have := HG.out.size
    simpa [World.setCell] using this
  · intro k hk h1 h2
    exact (Below.heap_setCell _ _ _ _ h1).trans (HG.out.block k hk h2)
/-- One instruction's literal. -/
theorem regex_coder_put.one {w0 W : World} {vs : Value} {op x y : Int} {no : Bool} {l : List S95} (hbel : Below w0.heap.size w0 W) (hs : Kd.R k95 95 W w0.heap.size (fun _ => True) vs l) :
    Kd.R k62 62 (W.alloc (.cells #[.int .i64 op, vs, .bool no, .int .i64 x, .int .i64 y] 62)) w0.heap.size (fun _ => True) (.slice (some ⟨W.heap.size, 0, none⟩) 1 1) [⟨op, l, no, x, y⟩] := by
  have hbl : Below W.heap.size W (W.alloc (.cells #[.int .i64 op, vs, .bool no, .int .i64 x, .int .i64 y] 62)) := below_alloc (Below.refl _ _) _
  have hs2 : Kd.R k95 95 (W.alloc (.cells #[.int .i64 op, vs, .bool no, .int .i64 x, .int .i64 y] 62)) w0.heap.size (fun k => True ∧ some k ≠ (Value.slice (some ⟨W.heap.size, 0, none⟩) 1 1).ownBlock) vs l :=
    Kd.R_mono (Kd.R_below (Kd.R_mono (Kd.R_bound hs) (fun k hk => hk.2.2.1)) hbl) (fun k hk => ⟨trivial, fun he => by
      have h3 : k = W.heap.size := by simpa [Value.ownBlock] using he
      omega⟩)
  refine ⟨fun _ _ => trivial, [.int .i64 op, vs, .bool no, .int .i64 x, .int .i64 y], ?_, ?_⟩
  · exact World.ownsRow_lit (base := w0.heap.size) (e := 62) (size := 5) W #[.int .i64 op, vs, .bool no, .int .i64 x, .int .i64 y] 1 hbel.size (by decide) rfl
  · refine ⟨rfl, fun j q hj => ?_⟩
    cases j with
    | zero =>
      simp only [List.getElem?_cons_zero, Option.some.injEq] at hj
      subst hj
      exact k62_mkM _ _ _ ⟨op, l, no, x, y⟩ hs2
    | succ j => simp at hj
/-- One instruction is put behind. -/
theorem regex_coder_put.put1a {w0 W : World} {g gp : Nat} {vc vs : Value} {s : regex_coder_take.CS} {op x y : Int} {no : Bool} {l : List S95} {a : Nat} (ha : a = W.heap.size) (h : regex_coder_take.St w0 W g gp vc s) (hs : Kd.R k95 95 W w0.heap.size (fun _ => True) vs l) (hsz : s.code.length + 1 ≤ 1000000) :
    Calls Tryd.prog 54 #[.pointer (some ⟨g, 0, none⟩), .slice (some ⟨a, 0, none⟩) 1 1] (W.alloc (.cells #[.int .i64 op, vs, .bool no, .int .i64 x, .int .i64 y] 62)) fun e W' => e = .returned (.tuple #[]) ∧ ∃ vc', regex_coder_take.St w0 W' g gp vc' ⟨s.p, s.code ++ [⟨op, l, no, x, y⟩], s.bad⟩ ∧ regex_coder_put.Fr W W' g vc vc' := by
  subst ha
  have hbl : Below W.heap.size W (W.alloc (.cells #[.int .i64 op, vs, .bool no, .int .i64 x, .int .i64 y] 62)) := below_alloc (Below.refl _ _) _
  have hst : regex_coder_take.St w0 (W.alloc (.cells #[.int .i64 op, vs, .bool no, .int .i64 x, .int .i64 y] 62)) g gp vc s := by
    obtain ⟨A, c, h1, h2, h3⟩ := h.cells
    obtain ⟨cz, hcz⟩ := h3.1
    exact ⟨below_then h.below h.below.size hbl, h.base, ⟨A, c, blk_below h1 hbl, h2, h3.move ((blk_below hcz hbl).trans hcz.symm)⟩, Kd.R_below h.code hbl⟩
  refine (regex_coder_put.calls w0 _ g gp vc (.slice (some ⟨W.heap.size, 0, none⟩) 1 1) s [⟨op, l, no, x, y⟩] hst (regex_coder_put.one h.below hs) hsz).mono ?_
  rintro e W' ⟨rfl, vc', h1, h2⟩
  refine ⟨rfl, vc', h1, ⟨Nat.le_trans hbl.size h2.size, fun k hk h3 h4 => (h2.kept k (Nat.lt_of_lt_of_le hk hbl.size) h3 h4).trans (hbl.block k hk), ?_⟩⟩
  rcases h2.row with h9 | ⟨b, h9, h8⟩
  · exact Or.inl h9
  · exact Or.inr ⟨b, h9, Nat.le_trans hbl.size h8⟩
theorem regex_coder_put.put1 {w0 W : World} {g gp : Nat} {vc vs : Value} {s : regex_coder_take.CS} {op x y : Int} {no : Bool} {l : List S95} (h : regex_coder_take.St w0 W g gp vc s) (hs : Kd.R k95 95 W w0.heap.size (fun _ => True) vs l) (hsz : s.code.length + 1 ≤ 1000000) :
    Calls Tryd.prog 54 #[.pointer (some ⟨g, 0, none⟩), .slice (some ⟨W.heap.size, 0, none⟩) 1 1] (W.alloc (.cells #[.int .i64 op, vs, .bool no, .int .i64 x, .int .i64 y] 62)) fun e W' => e = .returned (.tuple #[]) ∧ ∃ vc', regex_coder_take.St w0 W' g gp vc' ⟨s.p, s.code ++ [⟨op, l, no, x, y⟩], s.bad⟩ ∧ regex_coder_put.Fr W W' g vc vc' := regex_coder_put.put1a rfl h hs hsz
/-- One span's literal. -/
theorem regex_coder_put.span1 {w0 W : World} {a : Nat} {lo hi : Int} (ha : a = W.heap.size) (hbel : Below w0.heap.size w0 W) :
    Kd.R k95 95 (W.alloc (.cells #[.int .i32 lo, .int .i32 hi] 95)) w0.heap.size (fun _ => True) (.slice (some ⟨a, 0, none⟩) 1 1) [⟨lo, hi⟩] := by
  subst ha
  refine ⟨fun _ _ => trivial, [.int .i32 lo, .int .i32 hi], ?_, ?_⟩
  · exact World.ownsRow_lit (base := w0.heap.size) (e := 95) (size := 2) W #[.int .i32 lo, .int .i32 hi] 1 hbel.size (by decide) rfl
  · refine ⟨rfl, fun j q hj => ?_⟩
    cases j with
    | zero =>
      simp only [List.getElem?_cons_zero, Option.some.injEq] at hj
      subst hj
      exact k95_mkM _ _ _ ⟨lo, hi⟩
    | succ j => simp at hj

end Go.Proofs.YtgnehcgaplnfkaaDoor.PAll
