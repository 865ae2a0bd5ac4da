-- Written by a program of this seat (wip/tools), out of the translation. Not trusted: Lean checks it.
import Derived.Test.YtgnehcgaplnfkaaDoorPAllx0
namespace Go.Proofs.YtgnehcgaplnfkaaDoor.PAll
open Go.RowKit Go.Proofs.YtgnehcgaplnfkaaDoorW.PrintWords Go.Proofs.YtgnehcgaplnfkaaDoorW.PrintLast Go.Proofs.YtgnehcgaplnfkaaDoorW.PrintMore
attribute [local go_sem] max2_int min2_int max_two min_two max_three min_three max_four min_four   -- for this text's walks alone
set_option linter.unusedVariables false
set_option linter.unusedSimpArgs false

/-! ### regex_inst: function 112 -/
def regex_inst.f (l0 : List S62) : Option (List S62) := none
theorem regex_inst.info : (Tryd.prog.info? 62).map (fun i => (i.zero, i.size, i.bytes)) = some (some (.agg #[.int .i64 0, .slice none 0 0, .bool false, .int .i64 0, .int .i64 0]), 5, 56) := by kernel_rfl
theorem regex_inst.E_inst : k62.E = [95] := by
  simp [k62, Kd.iso, Kd.pair, Kd.slice, Kd.int, Kd.scalar, Kd.bool, k95]
/-- A block of a type that a row's elements lead to. -/
def regex_inst.Deep (W : World) (k : Nat) : Prop := ∃ q, q ∈ k62.E ∧ ∃ cells, W.heap[k]? = some (.cells cells q (0, 0))
def regex_inst.ReadsM (w0 W : World) (A : Option Addr) (l : List S62) : Prop := ReadsRow (k62.M W w0.heap.size (regex_inst.Deep W)) 5 W A l.length l
/-- What a row reads, element by element, as what was made. -/
theorem regex_inst.reads_M {w0 W : World} {v : Value} {ok : Nat → Prop} {l : List S62} (h : Kd.R k62 62 W w0.heap.size ok v l) : ∃ A c, v = .slice A l.length c ∧ l.length ≤ c ∧ regex_inst.ReadsM w0 W A l := by
  have h2 : OwnRow (k62.M W w0.heap.size (regex_inst.Deep W)) 62 5 W w0.heap.size v l := OwnRow.imp_ h.2 (fun _ _ hp => k62.M_mono (fun k hk => hk.2.2.2) (k62.M_bound hp))
  exact h2.reads
theorem regex_inst.ReadsM.below {w0 W W' : World} {A : Option Addr} {l : List S62} (h : regex_inst.ReadsM w0 W A l) (hb : Below W.heap.size W W') : regex_inst.ReadsM w0 W' A l :=
  ReadsRow.imp_ h hb (fun _ _ hp => k62.M_mono (fun k hk => by
    obtain ⟨q, hq, cells, hc⟩ := hk
    exact ⟨q, hq, cells, blk_below hc hb⟩) (Kd.M_below hp hb))
theorem regex_inst.ReadsM.drop {w0 W : World} {A : Option Addr} {l : List S62} {m c : Nat} (h : regex_inst.ReadsM w0 W A l) (hm : m ≤ l.length) (hc : l.length ≤ c) : regex_inst.ReadsM w0 W (if c = m then A else A.map (·.add (m * 5))) (l.drop m) := by
  have hl : (l.drop m).length = l.length - m := List.length_drop
  refine ⟨rfl, by rw [hl]; have := h.2.1; omega, fun hp => ?_⟩
  rw [hl] at hp
  obtain ⟨ad, rfl, hcell⟩ := h.2.2 (by omega)
  rw [if_neg (by omega)]
  refine ⟨ad.add (m * 5), rfl, fun j p hj => ?_⟩
  rw [List.getElem?_drop] at hj
  obtain ⟨cs, h1, h2, h3⟩ := hcell (m + j) p hj
  refine ⟨cs, h1, h2, fun i u hu => ?_⟩
  have h4 := h3 i u hu
  rw [add_add, show m * 5 + (j * 5 + i) = (m + j) * 5 + i by omega]
  exact h4
theorem regex_inst.not_own {w0 W : World} {v : Value} {ok : Nat → Prop} {l : List S62} (h : Kd.R k62 62 W w0.heap.size ok v l) {k : Nat} (hk : regex_inst.Deep W k) : some k ≠ v.ownBlock := by
  obtain ⟨q, hq, cells, hc⟩ := hk
  rw [regex_inst.E_inst] at hq
  simp at hq
  subst hq
  exact Kd.R_ne h hc (by decide)
/-- A number in an element of a row is written. -/
theorem regex_inst.store {w0 W : World} {gb n cv : Nat} {xs : List S62} (i j : Nat) (z : Int) (hj : j = 3 ∨ j = 4) (HO : Kd.R k62 62 W w0.heap.size (fun _ => True) (.slice (some ⟨gb, 0, none⟩) n cv) xs) (x : S62) (hx : xs[i]? = some x) (x' : S62)
    (hx' : x' = if j = 3 then ⟨x.f0, x.f1, x.f2, z, x.f4⟩ else ⟨x.f0, x.f1, x.f2, x.f3, z⟩) :
    W.cell? ⟨gb, i * 5 + j, none⟩ = some (.int .i64 (if j = 3 then x.f3 else x.f4)) ∧ W.frozen? ⟨gb, i * 5 + j, none⟩ = false ∧
      Kd.R k62 62 (W.setCell ⟨gb, i * 5 + j, none⟩ (.int .i64 z)) w0.heap.size (fun _ => True) (.slice (some ⟨gb, 0, none⟩) n cv) (xs.set i x') ∧ W.grownBy (W.setCell ⟨gb, i * 5 + j, none⟩ (.int .i64 z)) (some gb) := by
  have hn : n = xs.length := (Kd.R_reads' HO).1
  have hlt : i < xs.length := (List.getElem?_eq_some_iff.1 hx).1
  obtain ⟨c, hcl, hM, hcc⟩ := Kd.R_get HO z62 (i : Int) (by omega) (by omega)
  have hxx : xs.getD ((i : Int)).toNat z62 = x := by simp [List.getD_eq_getElem?_getD, hx]
  rw [hxx] at hM
  obtain ⟨v1, hc, hsp⟩ := k62_openM hM
  have hadd : ∀ m : Nat, (⟨gb, 0, none⟩ : Addr).add (((i : Int)).toNat * k62.sz + m) = ⟨gb, i * 5 + m, none⟩ := by
    intro m
    have e : k62.sz = 5 := rfl
    rw [e, Int.toNat_natCast]
    unfold Addr.add
    split
    · rename_i h0
      rw [h0]
    · simp
  have hcell : ∀ m u, c[m]? = some u → W.cell? ⟨gb, i * 5 + m, none⟩ = some u := fun m u hu => by
    have h9 := hcc m u hu
    rwa [hadd m] at h9
  have hseg := Kd.R_seg (okp := fun k => True ∧ k ≠ gb) (x' := x') (seg := [.int .i64 z]) (c := c) (j := j) HO (i : Int) (by omega) (by omega) hcl (by
      intro m u hu
      have e : k62.sz = 5 := rfl
      rw [e, Int.toNat_natCast]
      exact hcell m u hu) (by have e : k62.sz = 5 := rfl; rw [e]; simp only [List.length_cons, List.length_nil]; omega) (by
      have hsp2 : Kd.R k95 95 W w0.heap.size (fun k => True ∧ k ≠ gb) v1 x.f1 := Kd.R_mono hsp (fun k hk => ⟨trivial, fun he => hk.2 (by rw [he]; rfl)⟩)
      subst hc
      rcases hj with rfl | rfl
      · rw [hx']
        exact k62_mkM _ _ _ ⟨x.f0, x.f1, x.f2, z, x.f4⟩ hsp2
      · rw [hx']
        exact k62_mkM _ _ _ ⟨x.f0, x.f1, x.f2, x.f3, z⟩ hsp2) (fun k hk => hk)
  have e : ((i : Int)).toNat * k62.sz + j = i * 5 + j := by
    have e : k62.sz = 5 := rfl
    rw [e, Int.toNat_natCast]
  rw [e, Int.toNat_natCast] at hseg
  refine ⟨?_, ?_, hseg.1, hseg.2⟩
  · rcases hj with rfl | rfl
    · exact hcell 3 _ (by rw [hc]; rfl)
    · exact hcell 4 _ (by rw [hc]; rfl)
  · obtain ⟨_, inner, ho, _⟩ := HO
    rcases ho.2 with ⟨hv, _⟩ | ⟨g', cap', cur, hv, _, hh, _⟩
    · cases hv
    · injection hv with ha _ _
      injection ha with ha
      injection ha with hg'
      subst hg'
      exact blk_frozen hh _
theorem regex_inst.form {w0 W : World} {n c : Nat} {A : Option Addr} {ok : Nat → Prop} {xs : List S62} (h : Kd.R k62 62 W w0.heap.size ok (.slice A n c) xs) (hn : 0 < n) : ∃ g, A = some ⟨g, 0, none⟩ := by
  obtain ⟨_, _, ho, _⟩ := h
  rcases ho.2 with ⟨hv, h0⟩ | ⟨g, cap, cur, hv, _⟩
  · injection hv with _ h1
    omega
  · injection hv with h1
    exact ⟨g, h1⟩
set_option maxHeartbeats 1000000 in
theorem regex_inst.calls (w0 W : World) (A0 : Option Addr) (c0 : Nat) (l : List S62) (hbel : Below w0.heap.size w0 W) (hr : regex_inst.ReadsM w0 W A0 l) (hc0 : l.length ≤ c0) (hsz : l.length ≤ 1000000) :
    Calls Tryd.prog 112 #[.slice A0 l.length c0] W fun e W' => ∃ v : Value, e = .returned v ∧ Kd.R k62 62 W' w0.heap.size (fun _ => True) v l ∧ Below W.heap.size W W' ∧ (∀ k, v.ownBlock = some k → W.heap.size ≤ k) := by
  have HR := Aside0.mk hr
  have HL := Aside0.mk hbel
  have HSZ := Aside0.mk hsz
  clear hr hbel hsz
  cases hA : A0 with
  | none =>
    rw [hA] at HR
    have h0 : l = [] := by
      cases l with
      | nil => rfl
      | cons x q => obtain ⟨ad, e, _⟩ := HR.out.2.2 (by simp); cases e
    subst h0
    have hnil : ∀ W, (binOp .eql 56 (.slice none 0 c0) (.slice none 0 0)).run Tryd.prog W = .ok (.bool true) W := fun W => Lib.run_eql_slice_nil W 56 62 none 0 c0 0 0 Tryd.underlying56
    show Calls Tryd.prog 112 #[.slice none 0 c0] W _
    go_enter Tryd.func112, Tryd.ntmps112
    go_wp2
    go_ret
    exact ⟨_, rfl, Kd.R_nil _ _ _ _ _, Below.refl _ _, fun k hk => by simp [Value.ownBlock, Array.getD] at hk⟩
  | some ad =>
    rw [hA] at HR
    have hnil : ∀ W, (binOp .eql 56 (.slice (some ad) l.length c0) (.slice none 0 0)).run Tryd.prog W = .ok (.bool false) W := fun W => Lib.run_eql_slice_nil W 56 62 (some ad) l.length c0 0 0 Tryd.underlying56
    go_enter Tryd.func112, Tryd.ntmps112
    go_wp2_with (first
      | ((with_reducible refine gate_dst (N := 5) rfl ?_); refine Kd.R_lit k62 (w0 := w0) w0.heap.size 62 ?hg (N := 5) ?hd (xs := ([] : List S62)) (inner := []) (ok := fun _ => True) (okp := fun _ => True) ?hr ?hp (fun _ hk => hk) trivial HL.out HL.out.size (by simp) ?_; (case hd => rfl); (case hg => rfl); (case hr => first | (go_simp; done) | (go_simp; rfl)); (case hp => exact (Reps.none _ _)); intro v1 w3 ho hb hg_ hnew_; have HO := Aside0.mk ho; have HB := Aside0.mk hb; have HG := Aside0.mk hg_; have HN := Aside0.mk hnew_; clear ho hb hg_ hnew_)
      | ((with_reducible refine gate_builtin (b := .append) (xs := #[.tmp 5, .tmp 6]) rfl ?_); at_builtin; refine Kd.R_append_rows k62 (w0 := w0) w0.heap.size rfl (.tmp 5) (.tmp 6) 56 62 (.agg #[.int .i64 0, .slice none 0 0, .bool false, .int .i64 0, .int .i64 0]) 56 rfl Tryd.underlying56 regex_inst.info rfl (by decide) (by omega) _ [] l _ _ _ (fun _ => True) _ rfl rfl HO.out (HR.out.below ⟨HG.out.os, HG.out.tape, HG.out.output, HG.out.size, fun k hk => HG.out.block k hk (by simp)⟩) (fun _ _ h => h) (fun k hk => ⟨trivial, regex_inst.not_own HO.out hk⟩) (fun _ _ => trivial) HB.out HB.out.size ?hbig ?_; (case hbig => have := HSZ.out; simp; omega); intro v4 w5 ho4 hb4 hg4 hat4; have HO4 := Aside0.mk ho4; have HG4 := Aside0.mk hg4; have HAT4 := Aside0.mk hat4; clear ho4 hb4 hg4 hat4))
    have hv4 : w3.grownBy w5 v1.ownBlock := HG4.out
    have hat : v4.ownBlock = v1.ownBlock ∨ ∃ b, v4.ownBlock = some b ∧ w3.heap.size ≤ b := HAT4.out
    obtain ⟨b, hb1, hb2⟩ := HN.out
    have hs3 := HG.out.size
    go_ret
    refine ⟨v4, rfl, HO4.out, ⟨hv4.os.trans HG.out.os, hv4.tape.trans HG.out.tape, hv4.output.trans HG.out.output, Nat.le_trans hs3 hv4.size, fun k hk => ?_⟩, fun k hk => ?_⟩
    · rw [hb1] at hv4
      exact (hv4.block k (by omega) (by intro he; injection he with he; omega)).trans (HG.out.block k hk (by simp))
    · rcases hat with h9 | ⟨b2, h9, h8⟩
      · rw [h9, hb1] at hk
        injection hk with hk
        omega
      · rw [h9] at hk
        injection hk with hk
        omega

end Go.Proofs.YtgnehcgaplnfkaaDoor.PAll
