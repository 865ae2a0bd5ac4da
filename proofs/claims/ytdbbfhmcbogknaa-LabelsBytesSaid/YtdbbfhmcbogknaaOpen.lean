/- How what came in as data is read: slices of values of a kind. -/
import Derived.Test.YtdbbfhmcbogknaaPAllx0
import Derived.Deep.Slices
import Derived.ChangeSame
import Derived.WideShapes
import Derived.OpenShut
namespace Go.Proofs.Ytdbbfhmcbogknaa.Opens
open Go.Deep Go.Proofs.Ytdbbfhmcbogknaa.PAll Go.Proofs.YtdbbfhmcbogknaaW.PrintWords Go.Proofs.YtdbbfhmcbogknaaW.PrintLast Go.ChangeShapes
set_option linter.unusedVariables false

/-- Whatever reads as data of type t is a value of kind d, with Q. -/
def Opens {α : Type} (P : Program) (t : TypeId) (d : Kd α) (Q : α → Prop) : Prop :=
  ∀ (H : Type) (enc : TypeId × Value → H) (w : World) (fuel : Nat) (cs : List Value) (x : DataW H × List MemPlace),
    DataW.trod enc P w 0 (fun _ => true) true fuel t cs = some x → ∃ v, d.K w v cs ∧ Q v

theorem opens_string {P : Program} {t : TypeId} (ht : P.underlying t = some .string) : Opens P t Kd.string (fun s => s.size ≤ maxLen) := by
  intro H enc w fuel cs x h
  obtain ⟨s, rfl, _, hs⟩ := DataW.trod_string ht h
  exact ⟨s, rfl, hs⟩
theorem opens_int {P : Program} {t : TypeId} {k : IntKind} (ht : P.underlying t = some (.int k)) : Opens P t (Kd.int k) (fun n => (Lit.int k n).wf = true) := by
  intro H enc w fuel cs x h
  obtain ⟨n, rfl, _, hn⟩ := DataW.trod_int ht h
  exact ⟨n, rfl, hn⟩
theorem opens_iso {α β : Type} {P : Program} {t : TypeId} {d : Kd α} {Q : α → Prop} (f : β → α) (g : α → β) (hg : ∀ a, f (g a) = a) (hd : Opens P t d Q) : Opens P t (Kd.iso d f) (fun x => Q (f x)) := by
  intro H enc w fuel cs x h
  obtain ⟨v, h1, h2⟩ := hd H enc w fuel cs x h
  exact ⟨g v, by show d.K w (f (g v)) cs; rw [hg]; exact h1, by show Q (f (g v)); rw [hg]; exact h2⟩
theorem opens_pair {α β : Type} {P : Program} {t : TypeId} {d0 : Kd α} {d1 : Kd β} {Q0 : α → Prop} {Q1 : β → Prop} {f0 f1 : Field} (ht : P.underlying t = some (.struct #[f0, f1]))
    (h0 : Opens P f0.type d0 Q0) (h1 : Opens P f1.type d1 Q1) (o0 : f0.offset = 0) (o1 : f1.offset = d0.sz) (c0 : P.cellsOf f0.type = d0.sz) (c1 : P.cellsOf f1.type = d1.sz)
    (c : P.cellsOf t = d0.sz + d1.sz) : Opens P t (Kd.pair d0 d1) (fun p => Q0 p.1 ∧ Q1 p.2) := by
  intro H enc w fuel cs x h
  obtain ⟨y0, y1, n, rfl, hl, e0, e1⟩ := trod_struct2 ht h
  obtain ⟨v0, k0, q0⟩ := h0 H enc w n _ y0 e0
  obtain ⟨v1, k1, q1⟩ := h1 H enc w n _ y1 e1
  rw [o0, c0, List.drop_zero] at k0
  rw [o1, c1] at k1
  refine ⟨(v0, v1), ⟨_, _, ?_, k0, k1⟩, q0, q1⟩
  rw [List.take_of_length_le (l := cs.drop d0.sz) (by rw [List.length_drop, hl, c]; omega), List.take_append_drop]
/-- A slice of what opens. -/
theorem opens_slice_at {α : Type} [Inhabited α] {P : Program} {t e : TypeId} {d : Kd α} {Q : α → Prop} (hd : Opens P e d Q) (ht : P.underlying t = some (.slice e)) (hsz : P.cellsOf e = d.sz)
    {H : Type} {enc : TypeId × Value → H} {w : World} {fuel : Nat} {cs : List Value} {x : DataW H × List MemPlace} (h : DataW.trod enc P w 0 (fun _ => true) true fuel t cs = some x) :
    ∃ (A : Option Addr) (c : Nat) (xs : List α), cs = [.slice A xs.length c] ∧ xs.length ≤ c ∧ c ≤ maxLen ∧ d.C w A xs.length xs ∧ ∀ y ∈ xs, Q y := by
  rcases open_slice ht h with ⟨rfl, _⟩ | ⟨a, len, cap, m, n, D, Pl, rfl, hb, hl, hm, hme, _, hel⟩
  · exact ⟨none, 0, [], rfl, Nat.le_refl _, Nat.zero_le _, ⟨rfl, Nat.zero_le _, fun h => absurd h (by simp)⟩, fun y hy => by cases hy⟩
  · have hlm : len ≤ m := by
      rw [hme]
      simp
      exact hl
    obtain ⟨V, hV⟩ := choose_lt (α := α) (n := len) (p := fun i v => Q v ∧ ∃ cs', w.cells? 0 (a.add (i * P.cellsOf e)) (P.cellsOf e) = some cs' ∧ d.K w v cs') (fun i hi => by
      obtain ⟨cs', h1, h2⟩ := hel i (by omega)
      obtain ⟨v, hv, hq⟩ := hd _ _ _ _ _ _ h2
      exact ⟨v, hq, cs', h1, hv⟩)
    have hlen : ((List.range len).map V).length = len := by simp
    refine ⟨some a, cap, (List.range len).map V, by rw [hlen], by rw [hlen]; exact hl, hm, ?_, ?_⟩
    · refine ⟨rfl, by rw [hlen]; have : maxLen ≤ 9223372036854775807 := by decide
                      omega, fun _ => ⟨a, rfl, fun j p hp => ?_⟩⟩
      have hj : j < len := by
        have := (List.getElem?_eq_some_iff.1 hp).1
        omega
      simp [hj] at hp
      subst hp
      obtain ⟨_, cs', h1, h2⟩ := hV j hj
      obtain ⟨_, hl', hc⟩ := World.cells?_some h1
      refine ⟨cs', by rw [hl', hsz], h2, fun i u hu => ?_⟩
      have hi : i < P.cellsOf e := by
        have := (List.getElem?_eq_some_iff.1 hu).1
        omega
      have e2 := hc i hi
      rw [hu] at e2
      rw [← e2, ← hsz, Go.Deep.add_add]
    · intro y hy
      simp only [List.mem_map, List.mem_range] at hy
      obtain ⟨i, hi, rfl⟩ := hy
      exact (hV i hi).1
theorem opens_slice {α : Type} [Inhabited α] {P : Program} {t e : TypeId} {d : Kd α} {Q : α → Prop} (n : Nat) (hd : Opens P e d Q) (ht : P.underlying t = some (.slice e)) (hsz : P.cellsOf e = d.sz) :
    Opens P t (Kd.slice n d) (fun xs => xs.length ≤ maxLen ∧ ∀ y ∈ xs, Q y) := by
  intro H enc w fuel cs x h
  obtain ⟨A, c, xs, rfl, h1, h2, h3, h4⟩ := opens_slice_at hd ht hsz h
  exact ⟨xs, ⟨A, c, rfl, h1, h3⟩, by omega, h4⟩
instance : Inhabited S41 := ⟨z41⟩
theorem opens_label : Opens Try.prog 41 k41 (fun x => x.f0.size ≤ maxLen ∧ x.f1.size ≤ maxLen) :=
  opens_iso (d := Kd.pair Kd.string Kd.string) (fun x : S41 => (x.f0, x.f1)) (fun p => ⟨p.1, p.2⟩) (fun _ => rfl)
    (opens_pair Try.underlying41 (opens_string Try.underlying9) (opens_string Try.underlying9) rfl rfl (by kernel_rfl) (by kernel_rfl) (by kernel_rfl))
theorem opens_u8 : Opens Try.prog 5 (Kd.int .u8) (fun n => 0 ≤ n ∧ n < 256) := by
  intro H enc w fuel cs x h
  obtain ⟨v, h1, h2⟩ := opens_int Try.underlying5 H enc w fuel cs x h
  refine ⟨v, h1, ?_⟩
  have := Go.bounds_u8 h2
  show 0 ≤ v ∧ v < 256
  omega
/-- An argument that is a slice. -/
theorem open_slice_arg {α : Type} [Inhabited α] {P : Program} {t e : TypeId} {d : Kd α} {Q : α → Prop} (hd : Opens P e d Q) (ht : P.underlying t = some (.slice e)) (hsz : P.cellsOf e = d.sz)
    {H : Type} {enc : TypeId × Value → H} {W w : World} {r : Reach} {b0 : Nat} {v : Value} {x : DataW H} {p : List MemPlace} (hval : Value.okWide P W r b0 t v) (h : DataW.Trod enc P w 0 (fun _ => true) true t v x p) :
    ∃ (A : Option Addr) (c : Nat) (xs : List α), v = .slice A xs.length c ∧ xs.length ≤ c ∧ c ≤ maxLen ∧ d.C w A xs.length xs ∧ ∀ y ∈ xs, Q y := by
  obtain ⟨a, len, cap, rfl⟩ := Go.WideShapes.okWide_slice ht hval
  obtain ⟨fuel, h⟩ := h
  obtain ⟨A, c, xs, e, h1, h2, h3, h4⟩ := opens_slice_at hd ht hsz h
  injection e with e
  exact ⟨A, c, xs, e, h1, h2, h3, h4⟩
end Go.Proofs.Ytdbbfhmcbogknaa.Opens
