-- Written by a program of this seat (wip/tools), out of the translation. Not trusted: Lean checks it.
import Derived.Test.YtgnehcgaplnfkaaDoorPAllx0
import Derived.Test.YtgnehcgaplnfkaaDoorPAllx63
namespace Go.Proofs.YtgnehcgaplnfkaaDoor.PAll
open Go.RowKit Go.Proofs.YtgnehcgaplnfkaaDoorW.PrintWords Go.Proofs.YtgnehcgaplnfkaaDoorW.PrintLast Go.Proofs.YtgnehcgaplnfkaaDoorW.PrintMore
attribute [local go_sem] max2_int min2_int max_two min_two max_three min_three max_four min_four   -- for this text's walks alone
set_option linter.unusedVariables false
set_option linter.unusedSimpArgs false

/-! ### slices_Concat_byte_byte: function 105 -/
-- uses slices_Grow_byte_byte
def slices_Concat_byte_byte.f (l0 : List (List Int)) : Option (List Int) := none
theorem slices_Concat_byte_byte.info : (Tryd.prog.info? 5).map (fun i => (i.zero, i.size, i.bytes)) = some (some (.int .u8 0), 1, 1) := by kernel_rfl
/-- What is handed over: slices of bytes, as cells. -/
def slices_Concat_byte_byte.Parts (w : World) (vs : List (Value × List Int)) : Prop := ∀ p ∈ vs, ∃ A c, p.1 = .slice A p.2.length c ∧ p.2.length ≤ c ∧ Kd.C (Kd.int .u8) w A p.2.length p.2
def slices_Concat_byte_byte.len (vs : List (Value × List Int)) : Nat := (vs.flatMap (·.2)).length
theorem slices_Concat_byte_byte.len_take (vs : List (Value × List Int)) (i : Nat) (h : i < vs.length) : slices_Concat_byte_byte.len (vs.take (i + 1)) = slices_Concat_byte_byte.len (vs.take i) + vs[i].2.length := by
  simp only [slices_Concat_byte_byte.len]
  rw [List.take_succ_eq_append_getElem h, List.flatMap_append, List.length_append]
  simp
theorem slices_Concat_byte_byte.len_le (vs : List (Value × List Int)) (i : Nat) : slices_Concat_byte_byte.len (vs.take i) ≤ slices_Concat_byte_byte.len vs := by
  simp only [slices_Concat_byte_byte.len]
  conv => rhs; rw [← List.take_append_drop i vs]
  rw [List.flatMap_append, List.length_append]
  omega
set_option maxHeartbeats 4000000 in
set_option maxRecDepth 100000 in
theorem slices_Concat_byte_byte.calls (g : Nat) (vs : List (Value × List Int)) (w : World) (hblk : w.heap[g]? = some (.cells (vs.map (·.1)).toArray 81 (0, 0))) (hp : slices_Concat_byte_byte.Parts w vs) (hn : vs.length ≤ 1000) (hl : slices_Concat_byte_byte.len vs ≤ 140737488355328) :
    Calls Tryd.prog 105 #[.slice (some ⟨g, 0, none⟩) vs.length vs.length] w fun e w' => ∃ v : Value, e = .returned v ∧ Kd.R (Kd.int .u8) 5 w' w.heap.size (fun _ => True) v (vs.flatMap (·.2)) ∧ Below w.heap.size w w' := by
  have HK := Aside0.mk hblk
  have HP := Aside0.mk hp
  have HL := Aside0.mk hl
  clear hblk hp hl
  have HB0 := Aside0.mk (Below.refl w.heap.size w)
  go_enter Tryd.func105, Tryd.ntmps105
  go_wp2
  go_loopg [3, 11] (vs.length) (fun kq v3 v11 wr => ∃ (i : Nat), i ≤ vs.length ∧ v11 = .int .i64 i ∧ v3 = .int .i64 (slices_Concat_byte_byte.len (vs.take i) : Nat) ∧ vs.length ≤ kq + i ∧ Aside0 (Below w.heap.size w wr))
  case atStart => exact ⟨0, by omega, rfl, rfl, by omega, HB0⟩
  case round =>
    obtain ⟨i, hi, rfl, rfl, hk, HB⟩ := hrel
    by_cases hlt : i < vs.length
    · obtain ⟨g1, rfl⟩ : ∃ g1, gk = g1 + 1 := ⟨gk - 1, by omega⟩
      obtain ⟨A, c, e, hle, hC⟩ := HP.out vs[i] (List.getElem_mem hlt)
      have HC := Aside0.mk (Kd.C_below hC HB.out)
      have hcell : wr.cell? ⟨g, i, none⟩ = some (.slice A vs[i].2.length c) := by
        have h1 := blk_cell (blk_below HK.out HB.out) i
        rw [h1]
        simp [hlt, e]
      have hle2 : slices_Concat_byte_byte.len (vs.take i) + vs[i].2.length ≤ 140737488355328 := by
        have h1 := slices_Concat_byte_byte.len_le vs (i + 1)
        rw [slices_Concat_byte_byte.len_take vs i hlt] at h1
        have := HL.out
        omega
      have hnext : Aside0 (slices_Concat_byte_byte.len (vs.take i) + vs[i].2.length = slices_Concat_byte_byte.len (vs.take (i + 1))) := ⟨(slices_Concat_byte_byte.len_take vs i hlt).symm⟩
      clear e hC
      generalize vs[i].2.length = m at hcell hle hle2 hnext HC
      generalize slices_Concat_byte_byte.len (vs.take i) = acc at hle2 hnext
      have hneg : ¬ ((acc : Int) + (m : Int) < 0) := by omega
      go_wp2
      go_roundg g1
      case rel => exact ⟨i + 1, by omega, by go_num, (by rw [← hnext.out]; go_num), by omega, HB⟩
      case measure => omega
    · have hin : i = vs.length := by omega
      have hfull : slices_Concat_byte_byte.len (vs.take i) = slices_Concat_byte_byte.len vs := by rw [hin, List.take_length]
      rw [hfull]
      obtain ⟨T, hT⟩ : ∃ T, Aside0 (slices_Concat_byte_byte.len vs = T) := ⟨_, ⟨rfl⟩⟩
      rw [hT.out]
      have hT2 : T ≤ 140737488355328 := by rw [← hT.out]; exact HL.out
      clear hfull
      go_wp2_with (go_at_call 118; (with_reducible refine (slices_Grow_byte_byte.calls_nil T _ hT2).mono ?_); rintro e w3 ⟨v6, rfl, hR3, hB3⟩; have HB3 := Aside0.mk (below_step HB.out hB3); have HR3 := Aside0.mk (Kd.R_lower hR3 HB.out.size); clear hR3 hB3)
      go_loopg [6, 27] (vs.length) (fun kq v6 v27 wr => ∃ (i : Nat), i ≤ vs.length ∧ v27 = .int .i64 i ∧ Aside0 (Kd.R (Kd.int .u8) 5 wr w.heap.size (fun _ => True) v6 ((vs.take i).flatMap (·.2))) ∧ vs.length ≤ kq + i ∧ Aside0 (Below w.heap.size w wr))
      case atStart => exact ⟨0, by omega, rfl, HR3, by omega, HB3⟩
      case round =>
        clear HR3 HB3 HB
        obtain ⟨j, hj, rfl, HR, hkj, HB⟩ := hrel
        by_cases hlt2 : j < vs.length
        · obtain ⟨g1, rfl⟩ : ∃ g1, gk = g1 + 1 := ⟨gk - 1, by omega⟩
          obtain ⟨A, c, e, hle, hC⟩ := HP.out vs[j] (List.getElem_mem hlt2)
          have HC := Aside0.mk (Kd.C_below hC HB.out)
          have hcell : wr.cell? ⟨g, j, none⟩ = some (.slice A vs[j].2.length c) := by
            have h1 := blk_cell (blk_below HK.out HB.out) j
            rw [h1]
            simp [hlt2, e]
          have hle2 : ((vs.take j).flatMap (·.2)).length + vs[j].2.length ≤ 140737488355328 := by
            have h1 := slices_Concat_byte_byte.len_le vs (j + 1)
            rw [slices_Concat_byte_byte.len_take vs j hlt2] at h1
            have := HL.out
            simp only [slices_Concat_byte_byte.len] at h1 this
            omega
          have hnext : Aside0 ((vs.take j).flatMap (·.2) ++ vs[j].2 = (vs.take (j + 1)).flatMap (·.2)) := ⟨by
            rw [List.take_succ_eq_append_getElem hlt2, List.flatMap_append]
            simp⟩
          clear e hC
          generalize vs[j].2 = ys at hcell hle hle2 hnext HC
          generalize (vs.take j).flatMap (·.2) = pre at HR hle2 hnext
          go_wp2_with (at_builtin; refine Kd.R_append_row (w0 := w) (Value.int .u8) (0 : Int) (h1 := fun _ => rfl) w.heap.size rfl (.tmp 31) (.tmp 32) 81 5 (.int .u8 0) 1 rfl Tryd.underlying81 slices_Concat_byte_byte.info rfl (by decide) _ pre ys A ys.length c (fun _ => True) rfl rfl (fun _ _ => trivial) HR.out HC.out HB.out HB.out.size ?_ ?_)
          · omega
          · intro v1 w7 hR7 hB7 _ _
            have HR7 := Aside0.mk hR7
            have HB7 := Aside0.mk hB7
            clear hR7 hB7
            go_wp2
            go_roundg g1
            case rel => exact ⟨j + 1, by omega, by go_num, ⟨by rw [← hnext.out]; exact HR7.out⟩, by omega, HB7⟩
            case measure => omega
        · have hjn : j = vs.length := by omega
          have hfull : Aside0 ((vs.take j).flatMap (·.2) = vs.flatMap (·.2)) := ⟨by rw [hjn, List.take_length]⟩
          go_wp2
          go_ret
          exact ⟨_, rfl, by rw [← hfull.out]; exact HR.out, HB.out⟩

end Go.Proofs.YtgnehcgaplnfkaaDoor.PAll
