/- For every text of bulk at most 1,048,576: the law LabelsQuote returns true (any text quoted, what any text begins with, and what was quoted is read back), and the text reads behind the call as it read before. Condition: the bulk, as the given second form has it. -/
import Derived.Test.YtdbbfhmcbogknaaRows
import Derived.Test.YtdbbfhmcbogknaaLaws2
import Derived.Test.YtdbbfhmcbogknaaPAllx18
import Derived.WalkKit
import Derived.ProofKit
import Derived.OpenShut
import Derived.ShutString
import Derived.JoinedCond
namespace Go.Proofs.Ytdbbfhmcbogknaa.labelsQuote
open Go.ChangeShapes Go.WideShapes Go.ChangeAt Go.RowKit Go.Proofs.Ytdbbfhmcbogknaa.PAll Go.Proofs.YtdbbfhmcbogknaaW.PrintWords Go.Proofs.YtdbbfhmcbogknaaW.PrintLast
open Go.ChangeMaps (open_string shut_string)
set_option linter.unusedVariables false

theorem pure_ev (a0 : ByteArray) (h : a0.size ≤ 1048576) : Ev (fun k => dryrotlaw07_LabelsQuote.f k a0) true := by
  have hq := Laws.quoteS_size a0
  have hu := Laws.unquote_some (s := a0) (by omega)
  have hqs := Laws.quote_some (s := a0) (by omega)
  have hsz : (Base.quoteS a0 ++ a0).size = (Base.quoteS a0).size + a0.size := by
    rw [Base.size_list, Base.append_data, List.length_append, ← Base.size_list, ← Base.size_list]
  have hu2 := Laws.unquote_some (s := Base.quoteS a0 ++ a0) (by rw [hsz]; omega)
  rw [Laws.unq_quote] at hu2
  obtain ⟨K1, h1⟩ := Laws.runq_ev a0 (by omega)
  obtain ⟨K2, h2⟩ := Laws.rquote_ev a0 (by omega)
  obtain ⟨K3, h3⟩ := Laws.awake_ev
  refine ⟨max K1 (max K2 K3), fun k hk => ?_⟩
  have e1 := h1 k (by omega)
  have e2 := h2 k (by omega)
  have e3 := h3 k (by omega)
  simp only [dryrotlaw07_LabelsQuote.f, hu, hqs, hu2, e1, e2, e3, Option.bind_some]
  rw [if_pos (by omega)]
  simp

theorem own : ownKnob Try.prog.godebug = none := by kernel_rfl
/-- What the bound gives: the text's length. -/
theorem short {H : Type} {s : ByteArray} (hk : Rows.uptoSmall H [.lit (.string s.data.toList)] = true) : s.size ≤ 1048576 := by
  have h : Rows.uptoBulkAll [DataW.lit (H := H) (.string s.data.toList)] ≤ 1048576 := of_decide_eq_true hk
  simp only [Rows.uptoBulkAll, Rows.uptoBulk] at h
  have e : s.data.toList.length = s.size := by rw [Array.length_toList]; rfl
  omega
theorem walk (s : ByteArray) (w : World) (hs : s.size ≤ 1048576) :
    Calls Try.prog 3 #[.string s] w fun e w' => e = .returned (.bool true) ∧ Below w.heap.size w w' := by
  obtain ⟨k, h⟩ := (pure_ev s hs).rounds
  exact dryrotlaw07_LabelsQuote.calls k s true w h
theorem contract (H : Type) (enc : TypeId × Value → H) (W : World) (base : Nat) (args : Array Value) (ds gs : List (DataW H)) (before : List MemPlace)
    (hval : ∀ (j : Nat) t v, Try.f3.params[j]? = some t → args[j]? = some v → Value.okWide Try.prog W .any base t v)
    (hW : DataW.Whole enc Try.prog Try.f3.params.toList Rows.labelsQuoteSpec.vars false W args.toList ds gs before) (hk : Rows.uptoSmall H (ds ++ gs) = true) :
    Calls Try.prog 3 args W fun e W' => ∃ v, e = .returned v ∧ Rows.labelsQuoteSpec.post enc Try.prog Try.f3 false true false false W args v W' := by
  have hW' := hW
  obtain ⟨p, q, hA0, hV, rfl, hfz, hnd⟩ := hW
  have hA : DataW.TrodAll enc Try.prog W 0 (fun _ => true) true Try.f3.params.toList args.toList ds p := hA0
  rw [Try.params3] at hA hval
  obtain ⟨v0, vs0, d0, ds0, p0, q0, hargs, rfl, rfl, h0, r0⟩ := trodAll_cons hA
  obtain ⟨rfl, rfl, rfl⟩ := trodAll_nil r0
  obtain rfl : args = #[v0] := by cases args; simp_all
  obtain ⟨rfl, rfl⟩ := trodVars_none hV
  obtain ⟨s, rfl, rfl, rfl, hmax⟩ := open_string Try.underlying9 (hval 0 9 v0 rfl rfl) h0
  clear hA0
  simp only [List.append_nil] at hW' hk
  refine (walk s W (short hk)).mono fun e W' ⟨he, bel⟩ => ?_
  subst he
  exact ⟨_, rfl, _, _, _, [], _, [], hW', trodAll_mk1 (shut_bool Try.underlying4 _), (trodAll_cons_mk (shut_string Try.underlying9 hmax) trodAll_mk0), rfl, bel.frame _, fun h => by cases h⟩

set_option maxRecDepth 100000 in
theorem lifted (os : Os) (started : os.Started) (H : Type) (enc : TypeId × Value → H) (F : Stop.Interp) :
    ReturnsInHanded {} Try.checked os 3 .any ((Rows.OpenSpec.upto Rows.labelsQuoteSpec).pre6 enc Try.prog Try.f3 Rows.labelsQuoteUptoRow.domain false) (((Rows.OpenSpec.upto Rows.labelsQuoteSpec).at F).post enc Try.prog Try.f3 false true false false) := by
  refine returnsInHanded_of_cond (C := Try.checked) (s := Rows.OpenSpec.upto Rows.labelsQuoteSpec) (k := Rows.uptoSmall) rfl own started (by kernel_rfl) Try.func3
    (OpenSpec.witness (enc := enc) (C := Try.checked) (s := Rows.OpenSpec.upto Rows.labelsQuoteSpec) (k := Rows.uptoSmall) rfl false ⟨#[], #[.string .empty], []⟩ 8 (by kernel_rfl) (by kernel_rfl) (by kernel_rfl)
      (x := ([.lit (.string [])], [], [])) (by kernel_rfl) rfl (by kernel_rfl)) ?_
  intro W base args ds gs before hval hW _ hk _
  exact contract H enc W base args ds gs before hval hW hk
theorem proved : Rows.LabelsQuoteUptoSaid :=
  OpenClaim.holds_of_cond 3 Try.f3 rfl rfl rfl rfl rfl rfl rfl ⟨rfl, rfl, rfl, rfl, rfl⟩ rfl rfl rfl rfl rfl (by kernel_rfl) Try.func3 (by kernel_rfl)
    (of_decide_eq_true (by kernel_rfl)) (by unfold Func.isWrapper; first | (rw [if_pos (by decide +kernel)]; kernel_rfl) | (rw [if_neg (by decide +kernel)]; exact ⟨rfl, rfl⟩))
    (fun os started H enc _ F => lifted os started H enc F)
end Go.Proofs.Ytdbbfhmcbogknaa.labelsQuote
namespace Go.Proofs.Ytdbbfhmcbogknaa
theorem labelsQuoteUpto_holds : Rows.LabelsQuoteUptoSaid := labelsQuote.proved
end Go.Proofs.Ytdbbfhmcbogknaa
