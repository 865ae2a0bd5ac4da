/- How matchers, deletes and whole numbers that came in are read. -/
import Derived.Test.YtgnehcgaplnfkaaDoorOpenS
namespace Go.Proofs.YtgnehcgaplnfkaaDoor.Opens
open Go.Deep Go.Proofs.YtgnehcgaplnfkaaDoor.PAll Go.Proofs.YtgnehcgaplnfkaaDoorW.PrintWords Go.Proofs.YtgnehcgaplnfkaaDoorW.PrintLast Go.ChangeShapes
set_option linter.unusedVariables false
instance : Inhabited S35 := ⟨z35⟩
instance : Inhabited S77 := ⟨z77⟩
theorem opens_matcher : Opens Tryd.prog 35 k35 (fun x => (Lit.int .i64 x.f0).wf = true ∧ x.f1.size ≤ 140737488351232 ∧ x.f2.size ≤ 140737488351232) :=
  opens_iso (d := Kd.pair (Kd.int .i64) (Kd.pair Kd.string Kd.string)) (fun x : S35 => (x.f0, x.f1, x.f2)) (fun p => ⟨p.1, p.2.1, p.2.2⟩) (fun _ => rfl)
    (opens_struct Tryd.underlying35 (opensF_cons (opens_int Tryd.underlying3) (opensF_cons (opens_string Tryd.underlying9) (opensF_one (opens_string Tryd.underlying9) rfl (by kernel_rfl)) rfl (by kernel_rfl)) rfl (by kernel_rfl)) (by kernel_rfl))
theorem opens_delete : Opens Tryd.prog 77 k77 (fun x => (x.f0.length * 40 ≤ 140737488351232 ∧ ∀ y ∈ x.f0, (Lit.int .i64 y.f0).wf = true ∧ y.f1.size ≤ 140737488351232 ∧ y.f2.size ≤ 140737488351232) ∧ (Lit.int .i64 x.f1).wf = true ∧ (Lit.int .i64 x.f2).wf = true ∧ (Lit.int .i64 x.f3).wf = true) :=
  opens_iso (d := Kd.pair (Kd.slice 35 k35) (Kd.pair (Kd.int .i64) (Kd.pair (Kd.int .i64) (Kd.int .i64)))) (fun x : S77 => (x.f0, x.f1, x.f2, x.f3)) (fun p => ⟨p.1, p.2.1, p.2.2.1, p.2.2.2⟩) (fun _ => rfl)
    (opens_struct Tryd.underlying77 (opensF_cons (opens_slice _ opens_matcher Tryd.underlying38 (by kernel_rfl) (by kernel_rfl)) (opensF_cons (opens_int Tryd.underlying3) (opensF_cons (opens_int Tryd.underlying3) (opensF_one (opens_int Tryd.underlying3) rfl (by kernel_rfl)) rfl (by kernel_rfl)) rfl (by kernel_rfl)) rfl (by kernel_rfl)) (by kernel_rfl))
theorem opens_i64 : Opens Tryd.prog 3 (Kd.int .i64) (fun n => (Lit.int .i64 n).wf = true) := opens_int Tryd.underlying3
instance : Inhabited S42 := ⟨z42⟩
theorem opens_label : Opens Tryd.prog 42 k42 (fun x => x.f0.size ≤ 140737488351232 ∧ x.f1.size ≤ 140737488351232) :=
  opens_iso (d := Kd.pair Kd.string Kd.string) (fun x : S42 => (x.f0, x.f1)) (fun p => ⟨p.1, p.2⟩) (fun _ => rfl)
    (opens_struct Tryd.underlying42 (opensF_cons (opens_string Tryd.underlying9) (opensF_one (opens_string Tryd.underlying9) rfl (by kernel_rfl)) rfl (by kernel_rfl)) (by kernel_rfl))
end Go.Proofs.YtgnehcgaplnfkaaDoor.Opens
