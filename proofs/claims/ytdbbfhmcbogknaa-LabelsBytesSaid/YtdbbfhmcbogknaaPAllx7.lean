-- Written by a program of this seat (wip/tools), out of the translation. Not trusted: Lean checks it.
import Derived.Test.YtdbbfhmcbogknaaPAllx0
namespace Go.Proofs.Ytdbbfhmcbogknaa.PAll
open Go.RowKit Go.Proofs.YtdbbfhmcbogknaaW.PrintWords Go.Proofs.YtdbbfhmcbogknaaW.PrintLast Go.Proofs.YtdbbfhmcbogknaaW.PrintMore
attribute [local go_sem] max2_int min2_int max_two min_two max_three min_three max_four min_four   -- for this text's walks alone
set_option linter.unusedVariables false
set_option linter.unusedSimpArgs false

/-! ### labels_Quote: function 12 -/
def labels_Quote.f (a0 : ByteArray) : Option ByteArray := if (Base.quoteL a0.data.toList).length ≤ 140737488355328 then some (Base.quoteS a0) else none
theorem labels_Quote.check_used (b : Nat) (w : World) (h0 : w.cell? ⟨b, 0, none⟩ = some (.pointer (some ⟨b, 0, none⟩))) :
    Calls Try.prog 57 #[.pointer (some ⟨b, 0, none⟩)] w fun e w' => e = .returned (.tuple #[]) ∧ w' = w := by
  obtain ⟨j, hj, _⟩ := Option.map_eq_some_iff.1 (Try.Builder_Extra_169).toX72.sizeBuilder
  have u70 := run_underlying (P := Try.prog) Try.underlying54
  go_enter Try.func57, Try.ntmps57
  go_wp2
  rw [Lib.run_neq_ptr_same w _ Try.underlying54 hj]
  go_wp2
  go_end0
  exact ⟨rfl, rfl⟩
theorem labels_Quote.check_fresh (b : Nat) (w : World) (h0 : w.cell? ⟨b, 0, none⟩ = some (.pointer none)) (hsh : w.shape? b = some (56, 2)) (hfz : w.frozen? ⟨b, 0, none⟩ = false) :
    Calls Try.prog 57 #[.pointer (some ⟨b, 0, none⟩)] w fun e w' => e = .returned (.tuple #[]) ∧ w' = w.setCell ⟨b, 0, none⟩ (.pointer (some ⟨b, 0, none⟩)) := by
  obtain ⟨j, hj, hjs⟩ := Option.map_eq_some_iff.1 (Try.Builder_Extra_169).toX72.sizeBuilder
  go_enter Try.func57, Try.ntmps57
  go_wp2
  rw [Lib.run_to_unsafe w ⟨b, 0, none⟩ Try.underlying54 Try.underlying88 hj (by rw [hjs]; decide) hsh (Nat.zero_lt_succ 1)]
  simp only [Result.andThen]
  rw [Oper.upon_value]
  go_wp2
  rw [run_callFunc_extern Try.func64 (by kernel_rfl) (by kernel_rfl) (by kernel_rfl) (e := Extern.AbiNoEscape.same) (by kernel_rfl)]
  rw [Lib.run_noEscape]
  simp only [Result.andThen]
  rw [Oper.upon_value]
  go_wp2
  rw [Lib.run_from_unsafe w ⟨b, 0, none⟩ Try.underlying88 Try.underlying54 hj hsh (Try.Builder_Extra_169).toX72.liesBuilder]
  simp only [Result.andThen]
  rw [Oper.upon_value]
  go_wp2
  go_end0
  exact ⟨rfl, rfl⟩
/-- A builder that the call made, its bytes l, its row v. -/
def labels_Quote.Bld (B b : Nat) (p v : Value) (l : List UInt8) (w : World) : Prop :=
  B ≤ b ∧ w.heap[b]? = some (.cells #[p, v] 56 (0, 0)) ∧ w.ownsRow B 5 1 v (Lib.byteCells l).length (Lib.byteCells l) ∧ v.ownBlock ≠ some b
/-- What a write leaves alone. -/
def labels_Quote.Left (b : Nat) (v v' : Value) (w w' : World) : Prop :=
  (∀ i, i < w.heap.size → i ≠ b → some i ≠ v.ownBlock → w'.heap[i]? = w.heap[i]?) ∧ (v'.ownBlock = v.ownBlock ∨ ∃ k, v'.ownBlock = some k ∧ w.heap.size ≤ k)
theorem labels_Quote.check (B b : Nat) (p v : Value) (l : List UInt8) (w : World) (h : labels_Quote.Bld B b p v l w) (hp : p = .pointer none ∨ p = .pointer (some ⟨b, 0, none⟩)) :
    Calls Try.prog 57 #[.pointer (some ⟨b, 0, none⟩)] w fun e w' => e = .returned (.tuple #[]) ∧ (labels_Quote.Bld B b (.pointer (some ⟨b, 0, none⟩)) v l w' ∧ Below B w w' ∧ w'.heap.size = w.heap.size ∧ ∀ i, i ≠ b → w'.heap[i]? = w.heap[i]?) := by
  obtain ⟨hB, hb, ho, hne⟩ := h
  rcases hp with rfl | rfl
  · have hA : Lib.BuilderAt 56 5 B b (.pointer none) (Lib.byteCells l) w := ⟨hB, v, hb, ho, hne⟩
    refine (labels_Quote.check_fresh b w hA.cell0 hA.shape hA.frozen0).mono ?_
    rintro e w' ⟨rfl, rfl⟩
    have hlt : b < w.heap.size := hA.lt
    have hother : ∀ i, i ≠ b → (w.setCell ⟨b, 0, none⟩ (.pointer (some ⟨b, 0, none⟩))).heap[i]? = w.heap[i]? := fun i hi => Below.heap_setCell w ⟨b, 0, none⟩ _ i hi
    refine ⟨rfl, ⟨hB, ?_, ?_, hne⟩, (Below.refl B w).setCell (p := ⟨b, 0, none⟩) hB _, by simp, hother⟩
    · simp [World.setCell, Array.getElem?_modify, hb]
    · refine own_move ho (fun k hk => hother k ?_)
      rintro rfl
      exact hne hk
  · have hA : Lib.BuilderAt 56 5 B b (.pointer (some ⟨b, 0, none⟩)) (Lib.byteCells l) w := ⟨hB, v, hb, ho, hne⟩
    refine (labels_Quote.check_used b w hA.cell0).mono ?_
    rintro e w' ⟨rfl, rfl⟩
    exact ⟨rfl, ⟨hB, hb, ho, hne⟩, Below.refl B _, rfl, fun _ _ => rfl⟩
set_option maxHeartbeats 1000000 in
theorem labels_Quote.write (B b : Nat) (p v : Value) (l : List UInt8) (c : UInt8) (w : World) (h : labels_Quote.Bld B b p v l w) (hp : p = .pointer none ∨ p = .pointer (some ⟨b, 0, none⟩)) (hlen : l.length + 1 ≤ 140737488355328) (hBw : B ≤ w.heap.size) :
    Calls Try.prog 37 #[.pointer (some ⟨b, 0, none⟩), .int .u8 c.toNat] w fun e w' => e = .returned .nilIface ∧ ∃ v', labels_Quote.Bld B b (.pointer (some ⟨b, 0, none⟩)) v' (l ++ [c]) w' ∧ Below B w w' ∧ labels_Quote.Left b v v' w w' := by
  go_enter Try.func37, Try.ntmps37
  go_wp2_with (go_at_call 57; refine (labels_Quote.check B b p v l _ h hp).mono ?_)
  rintro e w1 ⟨rfl, h1, hb1, hz1, hk1⟩
  obtain ⟨hB, hbk, hown, hne⟩ := h1
  have c1 : w1.cell? ⟨b, 1, none⟩ = some v := by rw [Lib.cell_of_heap hbk]; rfl
  have hll : (Lib.byteCells l).length = l.length := Lib.byteCells_length l
  have HL := Aside0.mk hll
  clear hll
  have HK := Aside0.mk hk1
  have HZ := Aside0.mk hz1
  clear hk1 hz1
  go_wp2_with (at_builtin; refine print_append (w0 := w) B rfl (.tmp 11) (.tmp 13) 29 5 (.int .u8 0) 1 rfl Try.underlying29 (Try.Builder_Extra_169).infoByte rfl (by decide) v (Lib.byteCells l) (.int .u8 c.toNat) rfl rfl rfl hown hb1 ?c5 ?c4 ?_)
  case c5 => have := hb1.size; omega
  case c4 => rw [HL.out]; omega
  intro v' w2 hown' hbel hgrow hat
  have hlt : b < w1.heap.size := by
    rcases Nat.lt_or_ge b w1.heap.size with h' | h'
    · exact h'
    · simp [Array.getElem?_eq_none h'] at hbk
  have hb2 : w2.heap[b]? = some (.cells #[.pointer (some ⟨b, 0, none⟩), v] 56 (0, 0)) := by
    rw [hgrow.block b hlt (fun e => hne e.symm)]
    exact hbk
  have d1 : w2.cell? ⟨b, 1, none⟩ = some v := by rw [Lib.cell_of_heap hb2]; rfl
  have f1 : w2.frozen? ⟨b, 1, none⟩ = false := Lib.frozen_of_heap hb2 1
  obtain ⟨g, cap, rfl⟩ : ∃ g cap, v' = .slice (some ⟨g, 0, none⟩) (l.length + 1) cap := by
    rcases hown'.2 with ⟨_, h0⟩ | ⟨g, cap, cur, hv, _⟩
    · simp at h0
    · have hv2 : v' = .slice (some ⟨g, 0, none⟩) ((Lib.byteCells l).length + 1) cap := by simpa using hv
      rw [HL.out] at hv2
      exact ⟨g, cap, hv2⟩
  have H2 := Aside0.mk hown'
  have HB2 := Aside0.mk hbel
  have HG2 := Aside0.mk hgrow
  have HA2 := Aside0.mk hat
  have HN := Aside0.mk hne
  clear hown' hbel hgrow hat hne hown
  have hg2 : g ≠ b := by
    rintro rfl
    rcases HA2.out with h1 | ⟨k, h1, h2⟩
    · exact HN.out (by rw [← h1]; rfl)
    · have h3 : g = k := by simpa [Value.ownBlock] using h1
      omega
  go_wp2
  go_ret
  refine ⟨rfl, .slice (some ⟨g, 0, none⟩) (l.length + 1) cap, ⟨hB, ?_, ?_, ?_⟩, HB2.out.setCell (p := ⟨b, 1, none⟩) hB _, ?_, ?_⟩
  · simp [World.setCell, Array.getElem?_modify, hb2]
  · have hbc : Lib.byteCells (l ++ [c]) = Lib.byteCells l ++ [Value.int .u8 c.toNat] := by rw [Lib.byteCells_append]; rfl
    rw [hbc]
    have h4 : w2.ownsRow B 5 1 (.slice (some ⟨g, 0, none⟩) (l.length + 1) cap) (Lib.byteCells l ++ [Value.int .u8 c.toNat]).length (Lib.byteCells l ++ [Value.int .u8 c.toNat]) := by simpa using H2.out
    refine own_move h4 (fun k hk => Below.heap_setCell w2 ⟨b, 1, none⟩ _ k ?_)
    have h3 : g = k := by simpa [Value.ownBlock] using hk
    rintro rfl
    exact hg2 h3
  · simpa [Value.ownBlock] using hg2
  · intro i hi hib hiv
    rw [Below.heap_setCell w2 ⟨b, 1, none⟩ _ i hib, HG2.out.block i (by rw [HZ.out]; exact hi) hiv]
    exact HK.out i hib
  · rcases HA2.out with h1 | ⟨k, h1, h2⟩
    · exact .inl h1
    · exact .inr ⟨k, h1, by rw [← HZ.out]; exact h2⟩
theorem labels_Quote.write_z (B b : Nat) (p v : Value) (l : List UInt8) (c : UInt8) (z : Int) (w : World) (hz : (c.toNat : Int) = z) (h : labels_Quote.Bld B b p v l w) (hp : p = .pointer none ∨ p = .pointer (some ⟨b, 0, none⟩)) (hlen : l.length + 1 ≤ 140737488355328) (hBw : B ≤ w.heap.size) :
    Calls Try.prog 37 #[.pointer (some ⟨b, 0, none⟩), .int .u8 z] w fun e w' => e = .returned .nilIface ∧ ∃ v', labels_Quote.Bld B b (.pointer (some ⟨b, 0, none⟩)) v' (l ++ [c]) w' ∧ Below B w w' ∧ labels_Quote.Left b v v' w w' := by
  subst hz
  exact labels_Quote.write B b p v l c w h hp hlen hBw
theorem labels_Quote.cell_same (w w' : World) (D j : Nat) (h : w'.heap[D]? = w.heap[D]?) : w'.cell? ⟨D, j, none⟩ = w.cell? ⟨D, j, none⟩ := by
  simp [World.cell?, h]
theorem labels_Quote.byte_at (s : ByteArray) (x : Nat) (h : x < s.size) : ∃ c : UInt8, (c.toNat : Int) = bt s x ∧ s.data.toList.take (x + 1) = s.data.toList.take x ++ [c] := by
  have h' : x < s.data.toList.length := by rw [data_length]; exact h
  refine ⟨s.data.toList[x], ?_, ?_⟩
  · have h2 := bt_at s x (by simpa using h)
    rw [← h2]
    rfl
  · rw [List.take_succ_eq_append_getElem h']
theorem labels_Quote.part_le (l : List UInt8) (x : Nat) : ((34 : UInt8) :: (l.take x).flatMap Base.quoteByte).length + 1 ≤ (Base.quoteL l).length := by
  have h1 : (l.take x).flatMap Base.quoteByte ++ (l.drop x).flatMap Base.quoteByte = l.flatMap Base.quoteByte := by
    rw [← List.flatMap_append, List.take_append_drop]
  have h2 : (Base.quoteL l).length = (l.flatMap Base.quoteByte).length + 2 := by simp [Base.quoteL]
  rw [h2, ← h1]
  simp
/-- The builder (block B) and a row of bytes beside it (block D). -/
def labels_Quote.Inv (B D : Nat) (H : Option Obj) (w : World) (v : Value) (l : List UInt8) (wr : World) : Prop :=
  labels_Quote.Bld B B (.pointer (some ⟨B, 0, none⟩)) v l wr ∧ Below B w wr ∧ wr.heap[D]? = H ∧ v.ownBlock ≠ some D ∧ D < wr.heap.size
theorem labels_Quote.inv_write (B D : Nat) (H : Option Obj) (w : World) (v : Value) (l : List UInt8) (wr : World) (h : labels_Quote.Inv B D H w v l wr) (hBD : B < D) (c : UInt8) (z : Int) (hz : (c.toNat : Int) = z) (hlen : l.length + 1 ≤ 140737488355328) :
    Calls Try.prog 37 #[.pointer (some ⟨B, 0, none⟩), .int .u8 z] wr fun e w' => e = .returned .nilIface ∧ ∃ v', labels_Quote.Inv B D H w v' (l ++ [c]) w' := by
  obtain ⟨h1, h2, h3, h4, h5⟩ := h
  refine (labels_Quote.write_z B B _ v l c z wr hz h1 (.inr rfl) hlen (by omega)).mono ?_
  rintro e w' ⟨rfl, v', g1, g2, g3, g4⟩
  refine ⟨rfl, v', g1, h2.trans g2, ?_, ?_, ?_⟩
  · rw [g3 D h5 (by omega) (fun e => h4 e.symm)]
    exact h3
  · rcases g4 with g4 | ⟨k, g4, g5⟩
    · rw [g4]; exact h4
    · rw [g4]
      intro e
      have : k = D := Option.some.inj e
      omega
  · have hs := g1.2.2.1
    have h6 : ∀ i, i < wr.heap.size → i ≠ B → some i ≠ v.ownBlock → w'.heap[i]? = wr.heap[i]? := g3
    have h7 := h6 D h5 (by omega) (fun e => h4 e.symm)
    rcases Nat.lt_or_ge D w'.heap.size with h8 | h8
    · exact h8
    · rw [Array.getElem?_eq_none h8, Array.getElem?_eq_getElem h5] at h7
      exact absurd h7 (by simp)
set_option maxHeartbeats 4000000 in
theorem labels_Quote.calls (a0 : ByteArray) (r : ByteArray) (w : World) (h : labels_Quote.f a0 = some r) :
    Calls Try.prog 12 #[.string a0] w fun e w' => e = .returned (.string r) ∧ Below w.heap.size w w' := by
  unfold labels_Quote.f at h
  by_cases hlim : (Base.quoteL a0.data.toList).length ≤ 140737488355328
  · rw [if_pos hlim] at h
    obtain rfl := Option.some.inj h
    clear h
    have HLIM := Aside0.mk hlim
    clear hlim
    have hsz : a0.size ≤ 140737488355328 := by
      have h1 : ∀ l : List UInt8, l.length ≤ (l.flatMap Base.quoteByte).length := by
        intro l
        induction l with
        | nil => simp
        | cons x q ih =>
          have h3 : 1 ≤ (Base.quoteByte x).length := by unfold Base.quoteByte; split <;> simp
          simp only [List.flatMap_cons, List.length_append, List.length_cons]
          omega
      have h2 := h1 a0.data.toList
      have h4 := HLIM.out
      simp only [Base.quoteL, List.length_cons, List.length_append, List.length_nil] at h4
      rw [data_length] at h2
      omega
    have kb := fun W => print_bytes (P := Try.prog) 9 29 5 Try.underlying9 Try.underlying29 Try.underlying5 a0 W
    have hB0 : labels_Quote.Bld w.heap.size w.heap.size (.pointer none) (.slice none 0 0) [] (w.alloc (.cells #[.pointer none, .slice none 0 0] 56)) :=
      ⟨Nat.le_refl _, heap_alloc_new w _, own_nil _ _ _ _, by simp [Value.ownBlock]⟩
    have HB0 := Aside0.mk hB0
    clear hB0
    go_enter Try.func12, Try.ntmps12
    go_wp2_with fail
    refine (labels_Quote.write_z w.heap.size w.heap.size _ _ [] 34 34 _ rfl HB0.out (.inl rfl) (by simp) (by simp)).mono ?_
    rintro e w1 ⟨rfl, v1, hb1, hw1, hl1⟩
    have hsz1 : w.heap.size + 1 ≤ w1.heap.size := by
      have := hw1.size
      simpa using this
    have H1 := Aside0.mk hb1
    have HW1 := Aside0.mk (((Below.refl _ w).alloc (Nat.le_refl _) (.cells #[.pointer none, .slice none 0 0] 56)).trans hw1)
    clear hb1 hw1 hl1 HB0
    have hrd := bytes_reads w1 5 a0 (by omega)
    have hcell : ∀ j : Nat, j < a0.size → (Lib.bytesWorld w1 5 a0).cell? ⟨w1.heap.size, j, none⟩ = some (.int .u8 (bt a0 j)) := by
      intro j hj
      obtain ⟨ad, e, hc⟩ := hrd.2.2 (by omega)
      cases e
      have h5 := hc j hj
      rw [add_plain] at h5
      rw [h5, ← rd_bytesOf]
      simp [rd]
    have HCELL := Aside0.mk hcell
    clear hcell hrd
    have H2 : Aside0 (labels_Quote.Bld w.heap.size w.heap.size (.pointer (some ⟨w.heap.size, 0, none⟩)) v1 [34] (Lib.bytesWorld w1 5 a0)) := by
      obtain ⟨g1, g2, g3, g4⟩ := H1.out
      have hold : ∀ i, i < w1.heap.size → (Lib.bytesWorld w1 5 a0).heap[i]? = w1.heap[i]? := fun i hi => Lib.bytesWorld_at_old w1 5 a0 i hi
      exact ⟨⟨g1, by rw [hold _ (by omega)]; exact g2, own_move g3 (fun k hk => hold k (own_lt g3 k hk)), g4⟩⟩
    have hD : v1.ownBlock ≠ some w1.heap.size := by
      intro hk
      have := own_lt H1.out.2.2.1 _ hk
      omega
    have HD := Aside0.mk hD
    clear hD H1
    have HSZ : Aside0 (w1.heap.size < (Lib.bytesWorld w1 5 a0).heap.size) := ⟨by rw [Lib.bytesWorld_size]; omega⟩
    have HW2 : Aside0 (Below w.heap.size w (Lib.bytesWorld w1 5 a0)) := ⟨bytes_below HW1.out (by omega) _ _⟩
    go_wp2_with fail
    have HI0 : Aside0 (labels_Quote.Inv w.heap.size w1.heap.size ((Lib.bytesWorld w1 5 a0).heap[w1.heap.size]?) w v1 [34] (Lib.bytesWorld w1 5 a0)) := ⟨H2.out, HW2.out, rfl, HD.out, HSZ.out⟩
    clear H2 HW2 HD HSZ
    have hBD : w.heap.size < w1.heap.size := by omega
    go_loopg [10] (a0.size) (fun kq v10 wr => ∃ (x : Nat) (v : Value), x ≤ a0.size ∧ v10 = .int .i64 x ∧ a0.size ≤ kq + x ∧ Aside0 (labels_Quote.Inv w.heap.size w1.heap.size ((Lib.bytesWorld w1 5 a0).heap[w1.heap.size]?) w v (34 :: (a0.data.toList.take x).flatMap Base.quoteByte) wr))
    case atStart => exact ⟨0, v1, by omega, rfl, by omega, ⟨by simpa using HI0.out⟩⟩
    case round =>
      obtain ⟨x, v, hx, rfl, hk, HR⟩ := hrel
      by_cases hlt : x < a0.size
      · obtain ⟨g1, rfl⟩ : ∃ g1, gk = g1 + 1 := ⟨gk - 1, by omega⟩
        obtain ⟨c, hc, htk⟩ := labels_Quote.byte_at a0 x hlt
        have HT := Aside0.mk htk
        have HC := Aside0.mk hc
        clear htk hc
        have hcl : wr.cell? ⟨w1.heap.size, x, none⟩ = some (.int .u8 (bt a0 x)) := by
          rw [labels_Quote.cell_same _ _ _ _ HR.out.2.2.1]
          exact HCELL.out x hlt
        have hpl := Aside0.mk (labels_Quote.part_le a0.data.toList x)
        have hpl2 := Aside0.mk (labels_Quote.part_le a0.data.toList (x + 1))
        have hlen1 : Aside0 (((34 : UInt8) :: (a0.data.toList.take x).flatMap Base.quoteByte).length + 1 ≤ 140737488355328) := ⟨Nat.le_trans hpl.out HLIM.out⟩
        have hrng := bt_range a0 x
        generalize bt a0 x = z at HC hcl hrng
        have hstep : Aside0 (z = 34 ∨ z = 92 → (34 : UInt8) :: (a0.data.toList.take (x + 1)).flatMap Base.quoteByte = ((34 : UInt8) :: (a0.data.toList.take x).flatMap Base.quoteByte) ++ [92] ++ [c]) := ⟨by
          intro hz
          have h7 : Base.quoteByte c = [92, c] := by
            unfold Base.quoteByte
            rw [if_pos]
            rcases hz with hz | hz
            · left; rw [hz] at HC; have := HC.out; exact UInt8.toNat_inj.1 (by simpa using (by omega : c.toNat = 34))
            · right; rw [hz] at HC; have := HC.out; exact UInt8.toNat_inj.1 (by simpa using (by omega : c.toNat = 92))
          rw [HT.out, List.flatMap_append]
          simp [h7]⟩
        have hstep1 : Aside0 (¬ z = 34 → ¬ z = 92 → (34 : UInt8) :: (a0.data.toList.take (x + 1)).flatMap Base.quoteByte = ((34 : UInt8) :: (a0.data.toList.take x).flatMap Base.quoteByte) ++ [c]) := ⟨by
          intro hz1 hz2
          have h7 : Base.quoteByte c = [c] := by
            unfold Base.quoteByte
            rw [if_neg]
            rintro (h8 | h8)
            · apply hz1; rw [← HC.out, h8]; rfl
            · apply hz2; rw [← HC.out, h8]; rfl
          rw [HT.out, List.flatMap_append]
          simp [h7]⟩
        have hlen2 : Aside0 (z = 34 ∨ z = 92 → (((34 : UInt8) :: (a0.data.toList.take x).flatMap Base.quoteByte) ++ [92]).length + 1 ≤ 140737488355328) := ⟨by
          intro hz
          have h8 := hpl2.out
          rw [hstep.out hz] at h8
          have h9 := HLIM.out
          simp only [List.length_append, List.length_cons, List.length_nil] at h8 ⊢
          omega⟩
        by_cases hq : z = 34 ∨ z = 92
        · have HQ := Aside0.mk hq
          have fin : ∀ (W : World), Aside0 (labels_Quote.Inv w.heap.size w1.heap.size ((Lib.bytesWorld w1 5 a0).heap[w1.heap.size]?) w v (34 :: (a0.data.toList.take x).flatMap Base.quoteByte) W) → True := fun _ _ => trivial
          clear fin
          by_cases h34 : z = 34
          · have hb : (z == 34) = true := by simp [h34]
            clear hq h34
            go_wp2_with fail
            refine (labels_Quote.inv_write _ _ _ w v _ _ HR.out hBD 92 92 rfl hlen1.out).mono ?_
            rintro e W1 ⟨rfl, v2, hI2⟩
            have HI2 := Aside0.mk hI2
            clear hI2
            go_wp2_with fail
            refine (labels_Quote.inv_write _ _ _ w v2 _ _ HI2.out hBD c z HC.out (hlen2.out HQ.out)).mono ?_
            rintro e W2 ⟨rfl, v3, hI3⟩
            rw [← hstep.out HQ.out] at hI3
            have HI3 := Aside0.mk hI3
            clear hI3
            go_wp2
            go_roundg g1
            case rel => exact ⟨x + 1, v3, by omega, by go_num, by omega, HI3⟩
            case measure => omega
          · have h92 : z = 92 := by omega
            have hb : (z == 34) = false := by simp [h34]
            have hb2 : (z == 92) = true := by simp [h92]
            clear hq h34 h92
            go_wp2_with fail
            refine (labels_Quote.inv_write _ _ _ w v _ _ HR.out hBD 92 92 rfl hlen1.out).mono ?_
            rintro e W1 ⟨rfl, v2, hI2⟩
            have HI2 := Aside0.mk hI2
            clear hI2
            go_wp2_with fail
            refine (labels_Quote.inv_write _ _ _ w v2 _ _ HI2.out hBD c z HC.out (hlen2.out HQ.out)).mono ?_
            rintro e W2 ⟨rfl, v3, hI3⟩
            rw [← hstep.out HQ.out] at hI3
            have HI3 := Aside0.mk hI3
            clear hI3
            go_wp2
            go_roundg g1
            case rel => exact ⟨x + 1, v3, by omega, by go_num, by omega, HI3⟩
            case measure => omega
        · have h34 : ¬ z = 34 := by omega
          have h92 : ¬ z = 92 := by omega
          have hb : (z == 34) = false := by simp [h34]
          have hb2 : (z == 92) = false := by simp [h92]
          have HE := Aside0.mk (hstep1.out h34 h92)
          clear hq h34 h92
          go_wp2_with fail
          refine (labels_Quote.inv_write _ _ _ w v _ _ HR.out hBD c z HC.out hlen1.out).mono ?_
          rintro e W1 ⟨rfl, v2, hI2⟩
          rw [← HE.out] at hI2
          have HI2 := Aside0.mk hI2
          clear hI2
          go_wp2
          go_roundg g1
          case rel => exact ⟨x + 1, v2, by omega, by go_num, by omega, HI2⟩
          case measure => omega
      · have hlen1 : Aside0 (((34 : UInt8) :: (a0.data.toList.take x).flatMap Base.quoteByte).length + 1 ≤ 140737488355328) := ⟨Nat.le_trans (labels_Quote.part_le a0.data.toList x) HLIM.out⟩
        have hfull : a0.data.toList.take x = a0.data.toList := List.take_of_length_le (by rw [data_length]; omega)
        rw [hfull] at HR hlen1
        clear hfull
        go_wp2_with fail
        refine (labels_Quote.inv_write _ _ _ w v _ _ HR.out hBD 34 34 rfl hlen1.out).mono ?_
        rintro e W1 ⟨rfl, v2, hI2⟩
        have HI2 : Aside0 (labels_Quote.Inv w.heap.size w1.heap.size ((Lib.bytesWorld w1 5 a0).heap[w1.heap.size]?) w v2 (Base.quoteL a0.data.toList) W1) := ⟨by simpa [Base.quoteL] using hI2⟩
        clear hI2
        have hbf : Lib.IsBuilderF 56 5 w.heap.size w.heap.size (Lib.byteCells (Base.quoteL a0.data.toList)) W1 := Lib.IsBuilderF.of (.inr ⟨HI2.out.1.1, v2, HI2.out.1.2.1, HI2.out.1.2.2.1, HI2.out.1.2.2.2⟩)
        have HBF := Aside0.mk hbf
        clear hbf
        go_wp2_with fail
        refine (Try.Builder_String_any_k w.heap.size w.heap.size (Base.quoteL a0.data.toList) W1 HBF.out HI2.out.2.1.size).mono ?_
        rintro e W2 ⟨rfl, _, hb3, _⟩
        have HB3 := Aside0.mk (HI2.out.2.1.trans hb3)
        clear hb3
        go_wp2
        go_ret
        exact ⟨rfl, HB3.out⟩
  · rw [if_neg hlim] at h
    exact absurd h (by simp)

end Go.Proofs.Ytdbbfhmcbogknaa.PAll
