/- How what came in as data is read, and how large it may be: strings, whole numbers, structs, slices, in each other. -/
import Derived.Test.YtgnehcgaplnfkaaDoorPAllx0
import Derived.Deep.Slices
import Derived.ChangeSame
import Derived.WideShapes
import Derived.OpenShut
import Derived.SizedLaws
namespace Go.Proofs.YtgnehcgaplnfkaaDoor.Opens
open Go.Deep Go.Proofs.YtgnehcgaplnfkaaDoor.PAll Go.Proofs.YtgnehcgaplnfkaaDoorW.PrintWords Go.Proofs.YtgnehcgaplnfkaaDoorW.PrintLast Go.ChangeShapes
set_option linter.unusedVariables false

/-- Whatever reads as data of type t, each part of it no longer than a machine can hold, is a value of kind d, with Q. -/
def Opens {α : Type} (P : Program) (t : TypeId) (d : Kd α) (Q : α → Prop) : Prop :=
  ∀ (H : Type) (enc : TypeId × Value → H) (w : World) (fuel : Nat) (cs : List Value) (x : DataW H × List MemPlace),
    DataW.trod enc P w 0 (fun _ => true) true fuel t cs = some x → (∀ n ∈ x.1.weights P t, n ≤ reachBytes) → ∃ v, d.K w v cs ∧ Q v

theorem opens_string {P : Program} {t : TypeId} (ht : P.underlying t = some .string) : Opens P t Kd.string (fun s => s.size ≤ 140737488351232) := by
  intro H enc w fuel cs x h hz
  obtain ⟨s, rfl, rfl, hs⟩ := DataW.trod_string ht h
  refine ⟨s, rfl, ?_⟩
  have := hz s.data.toList.length (by simp [DataW.weights])
  rwa [data_length] at this
theorem opens_int {P : Program} {t : TypeId} {k : IntKind} (ht : P.underlying t = some (.int k)) : Opens P t (Kd.int k) (fun n => (Lit.int k n).wf = true) := by
  intro H enc w fuel cs x h _
  obtain ⟨n, rfl, _, hn⟩ := DataW.trod_int ht h
  exact ⟨n, rfl, hn⟩
theorem opens_iso {α β : Type} {P : Program} {t : TypeId} {d : Kd α} {Q : α → Prop} (f : β → α) (g : α → β) (hg : ∀ a, f (g a) = a) (hd : Opens P t d Q) : Opens P t (Kd.iso d f) (fun x => Q (f x)) := by
  intro H enc w fuel cs x h hz
  obtain ⟨v, h1, h2⟩ := hd H enc w fuel cs x h hz
  exact ⟨g v, by show d.K w (f (g v)) cs; rw [hg]; exact h1, by show Q (f (g v)); rw [hg]; exact h2⟩
/-- Fields, from an offset on. -/
def OpensF {α : Type} (P : Program) (fs : List Field) (o : Nat) (d : Kd α) (Q : α → Prop) : Prop :=
  ∀ (H : Type) (enc : TypeId × Value → H) (w : World) (fuel : Nat) (cs : List Value) (ys : List (DataW H × List MemPlace)),
    cs.length = o + d.sz → ys.length = fs.length → (∀ (i : Nat) (f : Field), fs[i]? = some f → DataW.trod enc P w 0 (fun _ => true) true fuel f.type ((cs.drop f.offset).take (P.cellsOf f.type)) = ys[i]?) →
    (∀ n ∈ DataW.weightsEach P (fs.map (·.type)) (ys.map (·.1)), n ≤ reachBytes) → ∃ v, d.K w v (cs.drop o) ∧ Q v
theorem opensF_one {α : Type} {P : Program} {f : Field} {o : Nat} {d : Kd α} {Q : α → Prop} (hd : Opens P f.type d Q) (ho : f.offset = o) (hc : P.cellsOf f.type = d.sz) : OpensF P [f] o d Q := by
  intro H enc w fuel cs ys hl hy h hz
  match ys, hy with
  | [y], _ =>
    have h0 := h 0 f rfl
    simp only [List.getElem?_cons_zero] at h0
    rw [ho, hc, List.take_of_length_le (by rw [List.length_drop]; omega)] at h0
    exact hd H enc w fuel _ y h0 (fun n hn => hz n (by simp [DataW.weightsEach, hn]))
theorem opensF_cons {α β : Type} {P : Program} {f : Field} {fs : List Field} {o : Nat} {d0 : Kd α} {d1 : Kd β} {Q0 : α → Prop} {Q1 : β → Prop} (h0 : Opens P f.type d0 Q0) (h1 : OpensF P fs (o + d0.sz) d1 Q1) (ho : f.offset = o) (hc : P.cellsOf f.type = d0.sz) :
    OpensF P (f :: fs) o (Kd.pair d0 d1) (fun p => Q0 p.1 ∧ Q1 p.2) := by
  intro H enc w fuel cs ys hl hy h hz
  have hsz : (Kd.pair d0 d1).sz = d0.sz + d1.sz := rfl
  rw [hsz] at hl
  match ys, hy with
  | y :: ys, hy =>
    have g0 := h 0 f rfl
    simp only [List.getElem?_cons_zero] at g0
    rw [ho, hc] at g0
    obtain ⟨v0, k0, q0⟩ := h0 H enc w fuel _ y g0 (fun n hn => hz n (by simp [DataW.weightsEach, hn]))
    obtain ⟨v1, k1, q1⟩ := h1 H enc w fuel cs ys (by omega) (by simpa using hy) (fun i g hg => by
      have := h (i + 1) g (by simpa using hg)
      simpa using this) (fun n hn => hz n (by simp only [List.map_cons, DataW.weightsEach, List.mem_append]; exact Or.inr hn))
    refine ⟨(v0, v1), ⟨_, _, ?_, k0, k1⟩, q0, q1⟩
    rw [← List.drop_drop, List.take_append_drop]
theorem opens_struct {α : Type} {P : Program} {t : TypeId} {fs : List Field} {d : Kd α} {Q : α → Prop} (ht : P.underlying t = some (.struct fs.toArray)) (h : OpensF P fs 0 d Q) (hc : P.cellsOf t = d.sz) : Opens P t d Q := by
  intro H enc w fuel cs x hx hz
  obtain ⟨xs, n, _, rfl, hl, hlen, hf⟩ := DataW.trod_struct ht hx
  have h2 := h H enc w n cs xs (by omega) (by simpa using hlen) (fun i f hi => hf i f (by simpa using hi)) (fun m hm => hz m (by simp only [DataW.weights, ht]; simpa using hm))
  simpa using h2
/-- A slice of what opens. -/
theorem weightsAll_mem {H : Type} {P : Program} {e : TypeId} : ∀ {l : List (DataW H)} {d : DataW H}, d ∈ l → ∀ n ∈ d.weights P e, n ∈ DataW.weightsAll P e l
  | a :: l, d, hd, n, hn => by
    simp only [DataW.weightsAll, List.mem_append]
    rcases List.mem_cons.1 hd with rfl | hd
    · exact Or.inl hn
    · exact Or.inr (weightsAll_mem hd n hn)
theorem opens_slice_at {α : Type} [Inhabited α] {P : Program} {t e : TypeId} {d : Kd α} {Q : α → Prop} {B : Nat} (hd : Opens P e d Q) (ht : P.underlying t = some (.slice e)) (hsz : P.cellsOf e = d.sz) (hB : P.bytesOf e = B)
    {H : Type} {enc : TypeId × Value → H} {w : World} {fuel : Nat} {cs : List Value} {x : DataW H × List MemPlace} (h : DataW.trod enc P w 0 (fun _ => true) true fuel t cs = some x) (hz : ∀ n ∈ x.1.weights P t, n ≤ reachBytes) :
    ∃ (A : Option Addr) (c : Nat) (xs : List α), cs = [.slice A xs.length c] ∧ xs.length ≤ c ∧ c ≤ maxLen ∧ d.C w A xs.length xs ∧ xs.length * B ≤ 140737488351232 ∧ ∀ y ∈ xs, Q y := by
  rcases open_slice ht h with ⟨rfl, _⟩ | ⟨a, len, cap, m, n, D, Pl, rfl, hb, hl, hm, hme, hx, hel⟩
  · exact ⟨none, 0, [], rfl, Nat.le_refl _, Nat.zero_le _, ⟨rfl, Nat.zero_le _, fun h => absurd h (by simp)⟩, by simp, fun y hy => by cases hy⟩
  · have hlm : len ≤ m := by
      rw [hme]
      simp
      exact hl
    subst hx
    simp only [DataW.weights, ht] at hz
    obtain ⟨V, hV⟩ := choose_lt (α := α) (n := len) (p := fun i v => Q v ∧ ∃ cs', w.cells? 0 (a.add (i * P.cellsOf e)) (P.cellsOf e) = some cs' ∧ d.K w v cs') (fun i hi => by
      obtain ⟨cs', h1, h2⟩ := hel i (by omega)
      obtain ⟨v, hv, hq⟩ := hd _ _ _ _ _ _ h2 (fun k hk => hz k (List.mem_cons_of_mem _ (List.mem_append_left _ (weightsAll_mem (List.mem_map.2 ⟨i, List.mem_range.2 hi, rfl⟩) k hk))))
      exact ⟨v, hq, cs', h1, hv⟩)
    have hlen : ((List.range len).map V).length = len := by simp
    have hbulk : len * B ≤ 140737488351232 := by
      have h9 := hz _ (List.mem_cons_self ..)
      rw [hB] at h9
      have h8 : len ≤ ((List.range len).map D).length + ((List.range (m - len)).map fun j => D (len + j)).length := by simp
      exact Nat.le_trans (Nat.mul_le_mul_right _ h8) h9
    refine ⟨some a, cap, (List.range len).map V, by rw [hlen], by rw [hlen]; exact hl, hm, ?_, by rw [hlen]; exact hbulk, ?_⟩
    · refine ⟨rfl, by rw [hlen]; have : maxLen ≤ 9223372036854775807 := by decide
                      omega, fun _ => ⟨a, rfl, fun j p hp => ?_⟩⟩
      have hj : j < len := by
        have := (List.getElem?_eq_some_iff.1 hp).1
        omega
      simp [hj] at hp
      subst hp
      obtain ⟨_, cs', h1, h2⟩ := hV j hj
      obtain ⟨_, hl', hc⟩ := World.cells?_some h1
      refine ⟨cs', by rw [hl', hsz], h2, fun i u hu => ?_⟩
      have hi : i < P.cellsOf e := by
        have := (List.getElem?_eq_some_iff.1 hu).1
        omega
      have e2 := hc i hi
      rw [hu] at e2
      rw [← e2, ← hsz, Go.Deep.add_add]
    · intro y hy
      simp only [List.mem_map, List.mem_range] at hy
      obtain ⟨i, hi, rfl⟩ := hy
      exact (hV i hi).1
theorem opens_slice {α : Type} [Inhabited α] {P : Program} {t e : TypeId} {d : Kd α} {Q : α → Prop} {B : Nat} (n : Nat) (hd : Opens P e d Q) (ht : P.underlying t = some (.slice e)) (hsz : P.cellsOf e = d.sz) (hB : P.bytesOf e = B) :
    Opens P t (Kd.slice n d) (fun xs => xs.length * B ≤ 140737488351232 ∧ ∀ y ∈ xs, Q y) := by
  intro H enc w fuel cs x h hz
  obtain ⟨A, c, xs, rfl, h1, h2, h3, h4, h5⟩ := opens_slice_at hd ht hsz hB h hz
  exact ⟨xs, ⟨A, c, rfl, h1, h3⟩, h4, h5⟩
/-- An argument that is a slice. -/
theorem open_slice_arg {α : Type} [Inhabited α] {P : Program} {t e : TypeId} {d : Kd α} {Q : α → Prop} {B : Nat} (hd : Opens P e d Q) (ht : P.underlying t = some (.slice e)) (hsz : P.cellsOf e = d.sz) (hB : P.bytesOf e = B)
    {H : Type} {enc : TypeId × Value → H} {W w : World} {r : Reach} {b0 : Nat} {v : Value} {x : DataW H} {p : List MemPlace} {ts : List TypeId} {ds : List (DataW H)} {j : Nat}
    (hsized : (DataW.weightsEach P ts ds).all (· ≤ reachBytes) = true) (hj : ts[j]? = some t) (hx : ds[j]? = some x) (hval : Value.okWide P W r b0 t v) (h : DataW.Trod enc P w 0 (fun _ => true) true t v x p) :
    ∃ (A : Option Addr) (c : Nat) (xs : List α), v = .slice A xs.length c ∧ xs.length ≤ c ∧ c ≤ maxLen ∧ d.C w A xs.length xs ∧ xs.length * B ≤ 140737488351232 ∧ ∀ y ∈ xs, Q y := by
  obtain ⟨a, len, cap, rfl⟩ := Go.WideShapes.okWide_slice ht hval
  obtain ⟨fuel, h⟩ := h
  obtain ⟨A, c, xs, e, h1, h2, h3, h4, h5⟩ := opens_slice_at hd ht hsz hB h (fun n hn => by
    have h9 := List.all_eq_true.1 hsized n (DataW.weights_mem_each hj hx n hn)
    simpa using h9)
  injection e with e
  exact ⟨A, c, xs, e, h1, h2, h3, h4, h5⟩
end Go.Proofs.YtgnehcgaplnfkaaDoor.Opens
