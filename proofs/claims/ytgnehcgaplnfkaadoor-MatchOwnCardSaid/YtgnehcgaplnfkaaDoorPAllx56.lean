-- Written by a program of this seat (wip/tools), out of the translation. Not trusted: Lean checks it.
import Derived.Test.YtgnehcgaplnfkaaDoorPAllx0
import Derived.Test.YtgnehcgaplnfkaaDoorPAllx3
import Derived.Test.YtgnehcgaplnfkaaDoorPAllx49
import Derived.Test.YtgnehcgaplnfkaaDoorPAllx55
namespace Go.Proofs.YtgnehcgaplnfkaaDoor.PAll
open Go.RowKit Go.Proofs.YtgnehcgaplnfkaaDoorW.PrintWords Go.Proofs.YtgnehcgaplnfkaaDoorW.PrintLast Go.Proofs.YtgnehcgaplnfkaaDoorW.PrintMore
attribute [local go_sem] max2_int min2_int max_two min_two max_three min_three max_four min_four   -- for this text's walks alone
set_option linter.unusedVariables false
set_option linter.unusedSimpArgs false

/-! ### match_Parse: function 39 -/
-- uses match_begin match_Can
def match_Parse.f : Option Int := none
def match_Parse.two : List S35 := [⟨1, ⟨#[97]⟩, ⟨#[120]⟩⟩, ⟨4, ⟨#[98]⟩, ⟨#[121, 46, 42]⟩⟩]
theorem match_Parse.can_two : match_Can.CanB match_Parse.two = true := by kernel_rfl
theorem match_Parse.info : (Tryd.prog.info? 35).map (fun i => (i.zero, i.size, i.bytes)) = some (some (.agg #[.int .i64 0, .string ⟨#[]⟩, .string ⟨#[]⟩]), 3, 40) := by kernel_rfl
set_option maxRecDepth 20000 in
set_option maxHeartbeats 8000000 in
theorem match_Parse.told (w : World) (hG : strings_ToValidUTF8.Gd w) : Calls Tryd.prog 39 #[.string ⟨#[123, 97, 61, 34, 120, 34, 44, 98, 33, 126, 34, 121, 46, 42, 34, 125]⟩] w fun e w' => (∃ v, e = .returned (.tuple #[v, .int .i64 0]) ∧ Kd.R k35 35 w' w.heap.size (fun _ => True) v match_Parse.two) ∧ Below w.heap.size w w' := by
  have HG := Aside0.mk hG
  clear hG
  go_enter Tryd.func39, Tryd.ntmps39
  go_wp2_with (first
    | (go_at_call 66; (with_reducible refine (match_begin.cut ⟨#[123, 97, 61, 34, 120, 34, 44, 98, 33, 126, 34, 121, 46, 42, 34, 125]⟩ ⟨#[123]⟩ w ⟨#[97, 61, 34, 120, 34, 44, 98, 33, 126, 34, 121, 46, 42, 34, 125]⟩ true (by kernel_rfl)).mono ?_); rintro e W0 ⟨rfl, hW0⟩; rw [hW0]))
  refine wp_loop_rounds 3 ?_
  rw [rounds_succ]
  go_wp2_with (first
    | (go_at_call 67; (with_reducible refine (match_begin.one w).mono ?_); rintro e W1 ⟨rfl, hB1⟩
       have HSZ1 : Aside0 ((W1.alloc (.cells #[.int .i64 1, .string ⟨#[97]⟩, .string ⟨#[120]⟩] 35)).heap.size = W1.heap.size + 1) := ⟨by simp⟩
       have HBX1 : Aside0 (Below w.heap.size w (W1.alloc (.cells #[.int .i64 1, .string ⟨#[97]⟩, .string ⟨#[120]⟩] 35))) := ⟨hB1.alloc hB1.size _⟩
       clear hB1)
    | ((with_reducible refine gate_builtin (b := .append) (xs := #[.tmp 30, .tmp 32]) rfl ?_); at_builtin
       refine Kd.R_append k35 (w0 := w) w.heap.size rfl (.tmp 30) (.tmp 32) 38 35 (.agg #[.int .i64 0, .string ⟨#[]⟩, .string ⟨#[]⟩]) 40 rfl Tryd.underlying38 match_Parse.info rfl (by decide) (by decide) _ [] (⟨1, ⟨#[97]⟩, ⟨#[120]⟩⟩ : S35) [.int .i64 1, .string ⟨#[97]⟩, .string ⟨#[120]⟩] (fun _ => True) (fun _ => False) rfl (by rw [HSZ1.out]; rfl) (k35_mkM _ _ _ (⟨1, ⟨#[97]⟩, ⟨#[120]⟩⟩ : S35)) (fun _ hk => hk.elim) (fun _ _ => trivial) (Kd.R_nil _ _ _ _ _) ?hbel ?hbase (by decide) ?_
       (case hbel => exact HBX1.out)
       (case hbase => exact HBX1.out.size)
       intro v3 W3 hR3 hB3 hg3 hat3
       obtain ⟨A3, c3, e3⟩ := Kd.R_slice hR3
       subst e3
       have HR3 := Aside0.mk hR3
       have HB3 := Aside0.mk hB3
       clear hR3 hB3 hg3 hat3)
    | (go_at_call 66; (with_reducible refine (match_begin.cut ⟨#[44, 98, 33, 126, 34, 121, 46, 42, 34, 125]⟩ ⟨#[44]⟩ W3 ⟨#[98, 33, 126, 34, 121, 46, 42, 34, 125]⟩ true (by kernel_rfl)).mono ?_); rintro e W4 ⟨rfl, hW4⟩; rw [hW4]))
  rw [rounds_succ]
  go_wp2_with (first
    | (go_at_call 67; (with_reducible refine (match_begin.two W3).mono ?_); rintro e W5 ⟨rfl, hB5⟩
       have HSZ5 : Aside0 ((W5.alloc (.cells #[.int .i64 4, .string ⟨#[98]⟩, .string ⟨#[121, 46, 42]⟩] 35)).heap.size = W5.heap.size + 1) := ⟨by simp⟩
       have hb5 : Below w.heap.size w W5 := below_then HB3.out HB3.out.size hB5
       have HBX5 : Aside0 (Below w.heap.size w (W5.alloc (.cells #[.int .i64 4, .string ⟨#[98]⟩, .string ⟨#[121, 46, 42]⟩] 35))) := ⟨hb5.alloc hb5.size _⟩
       have HR5 := Aside0.mk (Kd.R_below (Kd.R_below HR3.out hB5) (below_alloc (Below.refl _ _) (.cells #[.int .i64 4, .string ⟨#[98]⟩, .string ⟨#[121, 46, 42]⟩] 35)))
       clear hB5 hb5)
    | ((with_reducible refine gate_builtin (b := .append) (xs := #[.tmp 30, .tmp 32]) rfl ?_); at_builtin
       refine Kd.R_append k35 (w0 := w) w.heap.size rfl (.tmp 30) (.tmp 32) 38 35 (.agg #[.int .i64 0, .string ⟨#[]⟩, .string ⟨#[]⟩]) 40 rfl Tryd.underlying38 match_Parse.info rfl (by decide) (by decide) _ [(⟨1, ⟨#[97]⟩, ⟨#[120]⟩⟩ : S35)] (⟨4, ⟨#[98]⟩, ⟨#[121, 46, 42]⟩⟩ : S35) [.int .i64 4, .string ⟨#[98]⟩, .string ⟨#[121, 46, 42]⟩] (fun _ => True) (fun _ => False) rfl (by rw [HSZ5.out]; rfl) (k35_mkM _ _ _ (⟨4, ⟨#[98]⟩, ⟨#[121, 46, 42]⟩⟩ : S35)) (fun _ hk => hk.elim) (fun _ _ => trivial) HR5.out ?hbel ?hbase (by decide) ?_
       (case hbel => exact HBX5.out)
       (case hbase => exact HBX5.out.size)
       intro v7 W7 hR7 hB7 hg7 hat7
       obtain ⟨A7, c7, e7⟩ := Kd.R_slice hR7
       subst e7
       have HR7 : Aside0 (Kd.R k35 35 W7 w.heap.size (fun _ => True) (.slice A7 2 c7) match_Parse.two) := ⟨hR7⟩
       have HB7 := Aside0.mk hB7
       have HG7 := Aside0.mk (HG.out.below hB7)
       clear hR7 hB7 hg7 hat7)
    | (go_at_call 19
       have hcan := match_Can.calls A7 c7 match_Parse.two W7 (Kd.R_reads' HR7.out).2.2 (Kd.R_reads' HR7.out).2.1 HG7.out
       rw [match_Parse.can_two] at hcan
       refine hcan.mono ?_
       clear hcan
       rintro e W8 ⟨rfl, hB8⟩
       have HB8 := Aside0.mk hB8
       clear hB8))
  go_ret2
  exact ⟨⟨.slice A7 2 c7, rfl, Kd.R_below HR7.out HB8.out⟩, below_then HB7.out HB7.out.size HB8.out⟩

end Go.Proofs.YtgnehcgaplnfkaaDoor.PAll
