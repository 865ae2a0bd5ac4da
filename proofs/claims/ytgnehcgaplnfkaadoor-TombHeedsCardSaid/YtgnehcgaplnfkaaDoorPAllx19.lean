-- Written by a program of this seat (wip/tools), out of the translation. Not trusted: Lean checks it.
import Derived.Test.YtgnehcgaplnfkaaDoorPAllx0
import Derived.Test.YtgnehcgaplnfkaaDoorPAllx4
namespace Go.Proofs.YtgnehcgaplnfkaaDoor.PAll
open Go.RowKit Go.Proofs.YtgnehcgaplnfkaaDoorW.PrintWords Go.Proofs.YtgnehcgaplnfkaaDoorW.PrintLast Go.Proofs.YtgnehcgaplnfkaaDoorW.PrintMore
attribute [local go_sem] max2_int min2_int max_two min_two max_three min_three max_four min_four   -- for this text's walks alone
set_option linter.unusedVariables false
set_option linter.unusedSimpArgs false

/-! ### regex_follow: function 31 -/
-- uses regex_inst
def regex_follow.f : Option Int := none
abbrev regex_follow.I := S62
/-- An instruction leads to another one without a code point. -/
def regex_follow.Eps (code : List regex_follow.I) (i j : Nat) : Prop := ∃ x, code[i]? = some x ∧ ((x.f0 = 2 ∧ (x.f3 = (j : Int) ∨ x.f4 = (j : Int))) ∨ (x.f0 = 3 ∧ x.f3 = (j : Int)))
def regex_follow.RN (code : List regex_follow.I) : Nat → Nat → Nat → Prop
  | 0, i, j => i = j
  | n + 1, i, k => ∃ j, regex_follow.RN code n i j ∧ regex_follow.Eps code j k
def regex_follow.Reach (code : List regex_follow.I) (i j : Nat) : Prop := ∃ n, regex_follow.RN code n i j
theorem regex_follow.Reach.refl (code : List regex_follow.I) (i : Nat) : regex_follow.Reach code i i := ⟨0, rfl⟩
theorem regex_follow.Reach.step {code : List regex_follow.I} {i j k : Nat} (h : regex_follow.Reach code i j) (e : regex_follow.Eps code j k) : regex_follow.Reach code i k := by
  obtain ⟨n, hn⟩ := h
  exact ⟨n + 1, j, hn, e⟩
theorem regex_follow.Reach.trans {code : List regex_follow.I} {i j k : Nat} (h : regex_follow.Reach code i j) (h2 : regex_follow.Reach code j k) : regex_follow.Reach code i k := by
  obtain ⟨n, hn⟩ := h2
  induction n generalizing k with
  | zero =>
    have : j = k := hn
    rw [← this]
    exact h
  | succ n ih =>
    obtain ⟨m, h1, h3⟩ := hn
    exact (ih h1).step h3
/-- All places that a program names are its own. -/
structure regex_follow.WF (code : List regex_follow.I) : Prop where
  split : ∀ (i : Nat) (x : regex_follow.I), code[i]? = some x → x.f0 = 2 → 0 ≤ x.f3 ∧ x.f3 < code.length ∧ 0 ≤ x.f4 ∧ x.f4 < code.length
  jump : ∀ (i : Nat) (x : regex_follow.I), code[i]? = some x → x.f0 = 3 → 0 ≤ x.f3 ∧ x.f3 < code.length
  rune : ∀ (i : Nat) (x : regex_follow.I), code[i]? = some x → x.f0 = 1 → i + 1 < code.length
def regex_follow.sn (seen : List Bool) (i : Nat) : Prop := seen[i]? = some true
/-- Marks, with all that a place leads to. -/
structure regex_follow.Fol (code : List regex_follow.I) (seen : List Bool) (a0 : Nat) (seen' : List Bool) : Prop where
  len : seen'.length = seen.length
  sub : ∀ i, regex_follow.sn seen i → regex_follow.sn seen' i
  here : regex_follow.sn seen' a0
  origin : ∀ i, regex_follow.sn seen' i → ¬ regex_follow.sn seen i → regex_follow.Reach code a0 i
  closed : ∀ i j, regex_follow.sn seen' i → ¬ regex_follow.sn seen i → regex_follow.Eps code i j → regex_follow.sn seen' j
/-- .. but for a place that is still to be followed. -/
structure regex_follow.Pend (code : List regex_follow.I) (seen : List Bool) (a0 : Nat) (cur : List Bool) (a : Nat) : Prop where
  len : cur.length = seen.length
  sub : ∀ i, regex_follow.sn seen i → regex_follow.sn cur i
  start : regex_follow.sn cur a0 ∨ a = a0
  way : regex_follow.Reach code a0 a
  origin : ∀ i, regex_follow.sn cur i → ¬ regex_follow.sn seen i → regex_follow.Reach code a0 i
  closed : ∀ i j, regex_follow.sn cur i → ¬ regex_follow.sn seen i → regex_follow.Eps code i j → regex_follow.sn cur j ∨ j = a
theorem regex_follow.Pend.first (code : List regex_follow.I) (seen : List Bool) (a0 : Nat) : regex_follow.Pend code seen a0 seen a0 :=
  ⟨rfl, fun _ h => h, Or.inr rfl, regex_follow.Reach.refl code a0, fun _ h h2 => absurd h h2, fun _ _ h h2 => absurd h h2⟩
theorem regex_follow.Pend.done {code : List regex_follow.I} {seen cur : List Bool} {a0 a : Nat} (h : regex_follow.Pend code seen a0 cur a) (hs : regex_follow.sn cur a) : regex_follow.Fol code seen a0 cur := by
  refine ⟨h.len, h.sub, ?_, h.origin, fun i j h1 h2 h3 => ?_⟩
  · rcases h.start with h9 | h9
    · exact h9
    · rw [← h9]
      exact hs
  · rcases h.closed i j h1 h2 h3 with h9 | h9
    · exact h9
    · rw [h9]
      exact hs
theorem regex_follow.sn_set {cur : List Bool} {a : Nat} (ha : a < cur.length) (i : Nat) : regex_follow.sn (cur.set a true) i ↔ (regex_follow.sn cur i ∨ i = a) := by
  unfold regex_follow.sn
  by_cases h : i = a
  · subst h
    simp [ha]
  · rw [List.getElem?_set_ne (fun h9 => h h9.symm)]
    simp [h]
/-- A place is marked that leads nowhere. -/
theorem regex_follow.Pend.stop {code : List regex_follow.I} {seen cur : List Bool} {a0 a : Nat} (h : regex_follow.Pend code seen a0 cur a) (ha : a < cur.length) (hn : ∀ j, ¬ regex_follow.Eps code a j) : regex_follow.Pend code seen a0 (cur.set a true) a := by
  refine ⟨by rw [List.length_set]; exact h.len, fun i hi => (regex_follow.sn_set ha i).2 (Or.inl (h.sub i hi)), ?_, h.way, fun i h1 h2 => ?_, fun i j h1 h2 h3 => ?_⟩
  · rcases h.start with h9 | h9
    · exact Or.inl ((regex_follow.sn_set ha a0).2 (Or.inl h9))
    · exact Or.inr h9
  · rcases (regex_follow.sn_set ha i).1 h1 with h9 | rfl
    · exact h.origin i h9 h2
    · exact h.way
  · rcases (regex_follow.sn_set ha i).1 h1 with h9 | rfl
    · rcases h.closed i j h9 h2 h3 with h8 | h8
      · exact Or.inl ((regex_follow.sn_set ha j).2 (Or.inl h8))
      · exact Or.inr h8
    · exact absurd h3 (hn j)
/-- .. that leads to one place. -/
theorem regex_follow.Pend.one {code : List regex_follow.I} {seen cur : List Bool} {a0 a b : Nat} (h : regex_follow.Pend code seen a0 cur a) (ha : a < cur.length) (hb : regex_follow.Eps code a b) (hn : ∀ j, regex_follow.Eps code a j → j = b) : regex_follow.Pend code seen a0 (cur.set a true) b := by
  refine ⟨by rw [List.length_set]; exact h.len, fun i hi => (regex_follow.sn_set ha i).2 (Or.inl (h.sub i hi)), ?_, h.way.step hb, fun i h1 h2 => ?_, fun i j h1 h2 h3 => ?_⟩
  · rcases h.start with h9 | h9
    · exact Or.inl ((regex_follow.sn_set ha a0).2 (Or.inl h9))
    · exact Or.inl ((regex_follow.sn_set ha a0).2 (Or.inr h9.symm))
  · rcases (regex_follow.sn_set ha i).1 h1 with h9 | rfl
    · exact h.origin i h9 h2
    · exact h.way
  · rcases (regex_follow.sn_set ha i).1 h1 with h9 | rfl
    · rcases h.closed i j h9 h2 h3 with h8 | h8
      · exact Or.inl ((regex_follow.sn_set ha j).2 (Or.inl h8))
      · exact Or.inl ((regex_follow.sn_set ha j).2 (Or.inr h8))
    · exact Or.inr (hn j h3)
/-- .. that leads to two places, of which the first is followed. -/
theorem regex_follow.Pend.two {code : List regex_follow.I} {seen cur cur2 : List Bool} {a0 a x y : Nat} (h : regex_follow.Pend code seen a0 cur a) (ha : a < cur.length) (hx : regex_follow.Eps code a x) (hy : regex_follow.Eps code a y) (hn : ∀ j, regex_follow.Eps code a j → j = x ∨ j = y) (hf : regex_follow.Fol code (cur.set a true) x cur2) : regex_follow.Pend code seen a0 cur2 y := by
  have hsub : ∀ i, regex_follow.sn cur i ∨ i = a → regex_follow.sn cur2 i := fun i hi => hf.sub i ((regex_follow.sn_set ha i).2 hi)
  refine ⟨by rw [hf.len, List.length_set]; exact h.len, fun i hi => hsub i (Or.inl (h.sub i hi)), ?_, h.way.step hy, fun i h1 h2 => ?_, fun i j h1 h2 h3 => ?_⟩
  · rcases h.start with h9 | h9
    · exact Or.inl (hsub a0 (Or.inl h9))
    · exact Or.inl (hsub a0 (Or.inr h9.symm))
  · by_cases h9 : regex_follow.sn (cur.set a true) i
    · rcases (regex_follow.sn_set ha i).1 h9 with h8 | rfl
      · exact h.origin i h8 h2
      · exact h.way
    · exact (h.way.step hx).trans (hf.origin i h1 h9)
  · by_cases h9 : regex_follow.sn (cur.set a true) i
    · rcases (regex_follow.sn_set ha i).1 h9 with h8 | rfl
      · rcases h.closed i j h8 h2 h3 with h7 | h7
        · exact Or.inl (hsub j (Or.inl h7))
        · exact Or.inl (hsub j (Or.inr h7))
      · rcases hn j h3 with rfl | rfl
        · exact Or.inl hf.here
        · exact Or.inr rfl
    · exact Or.inl (hf.closed i j h1 h9 h3)
/-- How many are not marked. -/
def regex_follow.cnt : List Bool → Nat
  | [] => 0
  | b :: l => (if b = true then 0 else 1) + regex_follow.cnt l
theorem regex_follow.cnt_set : ∀ (l : List Bool) (i : Nat), l[i]? = some false → regex_follow.cnt (l.set i true) + 1 = regex_follow.cnt l := by
  intro l
  induction l with
  | nil => intro i h; simp at h
  | cons b l ih =>
    intro i h
    cases i with
    | zero =>
      have hb : b = false := by simpa using h
      subst hb
      simp [regex_follow.cnt]
      omega
    | succ i =>
      have := ih i (by simpa using h)
      simp only [List.set_cons_succ, regex_follow.cnt]
      omega
theorem regex_follow.cnt_le : ∀ (a b : List Bool), a.length = b.length → (∀ i, regex_follow.sn a i → regex_follow.sn b i) → regex_follow.cnt b ≤ regex_follow.cnt a := by
  intro a
  induction a with
  | nil =>
    intro b h _
    cases b with
    | nil => exact Nat.le_refl _
    | cons c b => simp at h
  | cons x a ih =>
    intro b h hs
    cases b with
    | nil => simp at h
    | cons c b =>
      have h1 := ih b (by simpa using h) (fun i hi => by
        have h2 := hs (i + 1) (by unfold regex_follow.sn at *; simpa using hi)
        unfold regex_follow.sn at *
        simpa using h2)
      have h3 : x = true → c = true := fun hx => by
        have h2 := hs 0 (by unfold regex_follow.sn; simp [hx])
        unfold regex_follow.sn at h2
        simpa using h2
      simp only [regex_follow.cnt]
      cases x <;> cases c <;> simp_all
      omega
theorem regex_follow.cnt_bound {n : Nat} : ∀ (l : List Bool), l.length ≤ n → regex_follow.cnt l ≤ n := by
  intro l h
  refine Nat.le_trans ?_ h
  clear h
  induction l with
  | nil => exact Nat.le_refl _
  | cons b l ih =>
    simp only [regex_follow.cnt, List.length_cons]
    split <;> omega
/-- An instruction's cells. -/
theorem regex_follow.cells5 {w0 W : World} {gb n c : Nat} {code : List regex_follow.I} (h : Kd.R k62 62 W w0.heap.size (fun _ => True) (.slice (some ⟨gb, 0, none⟩) n c) code) (i : Nat) (x : regex_follow.I) (hx : code[i]? = some x) :
    ∃ A m, W.cell? ⟨gb, i * 5, none⟩ = some (.int .i64 x.f0) ∧ W.cell? ⟨gb, i * 5 + 1, none⟩ = some (.slice A x.f1.length m) ∧ W.cell? ⟨gb, i * 5 + 2, none⟩ = some (.bool x.f2) ∧ W.cell? ⟨gb, i * 5 + 3, none⟩ = some (.int .i64 x.f3) ∧ W.cell? ⟨gb, i * 5 + 4, none⟩ = some (.int .i64 x.f4) ∧ Kd.R k95 95 W w0.heap.size (fun _ => True) (.slice A x.f1.length m) x.f1 := by
  have hlt : i < code.length := (List.getElem?_eq_some_iff.1 hx).1
  have hn : n = code.length := (Kd.R_reads' h).1
  obtain ⟨cs, hcl, hM, hcc⟩ := Kd.R_get h z62 (i : Int) (by omega) (by omega)
  have hxx : code.getD ((i : Int)).toNat z62 = x := by simp [List.getD_eq_getElem?_getD, hx]
  rw [hxx] at hM
  obtain ⟨v1, hc, hsp⟩ := k62_openM hM
  obtain ⟨A, m, e⟩ := Kd.R_slice hsp
  subst e
  have hadd : ∀ m : Nat, (⟨gb, 0, none⟩ : Addr).add (((i : Int)).toNat * k62.sz + m) = ⟨gb, i * 5 + m, none⟩ := by
    intro m
    have e : k62.sz = 5 := rfl
    rw [e, Int.toNat_natCast]
    unfold Addr.add
    split
    · rename_i h0
      rw [h0]
    · simp
  have hcell : ∀ m u, cs[m]? = some u → W.cell? ⟨gb, i * 5 + m, none⟩ = some u := fun m u hu => by
    have h9 := hcc m u hu
    rwa [hadd m] at h9
  refine ⟨A, m, hcell 0 _ (by rw [hc]; rfl), hcell 1 _ (by rw [hc]; rfl), hcell 2 _ (by rw [hc]; rfl), hcell 3 _ (by rw [hc]; rfl), hcell 4 _ (by rw [hc]; rfl), Kd.R_mono hsp (fun _ _ => trivial)⟩
theorem regex_follow.typed {w0 W : World} {bs n c : Nat} {seen : List Bool} (h : Kd.R Kd.bool 4 W w0.heap.size (fun _ => True) (.slice (some ⟨bs, 0, none⟩) n c) seen) : w0.heap.size ≤ bs ∧ ∃ cells, W.heap[bs]? = some (.cells cells 4 (0, 0)) := by
  obtain ⟨inner, ho⟩ := Kd.R_own h
  exact ⟨own_base ho bs rfl, own_typed ho bs rfl⟩
theorem regex_follow.code_grown {w0 W W' : World} {bs : Nat} {cells : Array Value} {v : Value} {code : List regex_follow.I} (h : Kd.R k62 62 W w0.heap.size (fun _ => True) v code) (hb : W.heap[bs]? = some (.cells cells 4 (0, 0))) (hg : W.grownBy W' (some bs)) : Kd.R k62 62 W' w0.heap.size (fun _ => True) v code :=
  Kd.R_mono (Kd.R_grown (Kd.R_types h hb (by intro q hq; rw [regex_inst.E_inst] at hq; simp at hq; omega)) hg (fun k hk he => hk.2 (by injection he))) (fun _ _ => trivial)
theorem regex_follow.grown_trans {W W' W'' : World} {row : Option Nat} (h : W.grownBy W' row) (h' : W'.grownBy W'' row) : W.grownBy W'' row :=
  ⟨h'.os.trans h.os, h'.tape.trans h.tape, h'.output.trans h.output, Nat.le_trans h.size h'.size, fun k hk hr => (h'.block k (Nat.lt_of_lt_of_le hk h.size) hr).trans (h.block k hk hr)⟩
set_option maxHeartbeats 4000000 in
set_option maxRecDepth 10000 in
theorem regex_follow.calls (m : Nat) : ∀ (w0 W : World) (gb cc bs cs n a0 : Nat) (code : List regex_follow.I) (seen : List Bool), Below w0.heap.size w0 W → Kd.R k62 62 W w0.heap.size (fun _ => True) (.slice (some ⟨gb, 0, none⟩) n cc) code → Kd.R Kd.bool 4 W w0.heap.size (fun _ => True) (.slice (some ⟨bs, 0, none⟩) n cs) seen → regex_follow.WF code → a0 < n → regex_follow.cnt seen ≤ m →
    Calls Tryd.prog 31 #[.slice (some ⟨gb, 0, none⟩) n cc, .slice (some ⟨bs, 0, none⟩) n cs, .int .i64 (a0 : Int)] W fun e W' => e = .returned (.tuple #[]) ∧ ∃ seen', regex_follow.Fol code seen a0 seen' ∧ Kd.R Kd.bool 4 W' w0.heap.size (fun _ => True) (.slice (some ⟨bs, 0, none⟩) n cs) seen' ∧ W.grownBy W' (some bs) := by
  induction m using Nat.strongRecOn with
  | ind m IH =>
  intro w0 W gb cc bs cs n a0 code seen hbel hcode hseen hwf ha0 hm
  obtain ⟨hbase, cells0, hty⟩ := regex_follow.typed hseen
  have HC := Aside0.mk hcode
  have HB := Aside0.mk hbel
  have HT := Aside0.mk hty
  have HW := Aside0.mk hwf
  have hcn : code.length = n := (Kd.R_reads' hcode).1.symm
  have hsn : seen.length = n := (Kd.R_reads' hseen).1.symm
  have HS := Aside0.mk hseen
  have HIH := Aside0.mk IH
  have hgne : gb ≠ bs := by
    rintro rfl
    obtain ⟨inner, ho⟩ := Kd.R_own hcode
    obtain ⟨c2, h2⟩ := own_typed ho gb rfl
    exact blk_ne h2 hty (by decide) rfl
  clear hcode hbel hty hwf hseen IH
  go_enter Tryd.func31, Tryd.ntmps31
  go_wp2
  go_loopg [2] (regex_follow.cnt seen + 1) (fun kq v2 wr => ∃ (a : Nat) (cur : List Bool), v2 = .int .i64 (a : Int) ∧ a < n ∧ Aside0 (Kd.R Kd.bool 4 wr w0.heap.size (fun _ => True) (.slice (some ⟨bs, 0, none⟩) n cs) cur) ∧ Aside0 (W.grownBy wr (some bs)) ∧ Aside0 (regex_follow.Pend code seen a0 cur a) ∧ regex_follow.cnt cur + 1 ≤ kq ∧ regex_follow.cnt cur ≤ regex_follow.cnt seen)
  case atStart => exact ⟨a0, seen, rfl, ha0, HS, ⟨World.grownBy.refl _ _⟩, ⟨regex_follow.Pend.first code seen a0⟩, by omega, Nat.le_refl _⟩
  case round =>
    obtain ⟨a, cur, rfl, han, HR, HG, HP, hk, hks⟩ := hrel
    have hcl : cur.length = n := (Kd.R_reads' HR.out).1.symm
    obtain ⟨b, hb⟩ : ∃ b, cur[a]? = some b := ⟨cur[a]'(by omega), List.getElem?_eq_getElem (by omega)⟩
    obtain ⟨c1, f1⟩ := Kd.R_celln false HR.out (a : Int) (by omega) (by omega)
    have hrd : rdOf false cur (a : Int) = b := by simp [rdOf, hb]
    rw [hrd, Int.toNat_natCast] at c1
    rw [Int.toNat_natCast] at f1
    have HBB := Aside0.mk hb
    clear hrd hb
    cases b with
    | true =>
      go_wp2
      go_end0
      exact ⟨rfl, cur, HP.out.done HBB.out, HR.out, HG.out⟩
    | false =>
      obtain ⟨g1, rfl⟩ : ∃ g1, gk = g1 + 1 := ⟨gk - 1, by omega⟩
      have HCr : Aside0 (Kd.R k62 62 wr w0.heap.size (fun _ => True) (.slice (some ⟨gb, 0, none⟩) n cc) code) := ⟨regex_follow.code_grown HC.out HT.out HG.out⟩
      obtain ⟨⟨op, sp, no, x, y⟩, hx⟩ : ∃ x, code[a]? = some x := ⟨code[a]'(by omega), List.getElem?_eq_getElem (by omega)⟩
      obtain ⟨hput, hgr⟩ := Kd.R_putg HR.out (a : Int) true
      rw [Int.toNat_natCast] at hput hgr
      obtain ⟨cells1, hty1⟩ := (regex_follow.typed HR.out).2
      have hcode1 := regex_follow.code_grown HCr.out hty1 hgr
      obtain ⟨A1, m1, e0, e1, e2, e3, e4, _⟩ := regex_follow.cells5 hcode1 a _ hx
      simp only at e0 e1 e2 e3 e4
      have HPUT := Aside0.mk hput
      have HGR := Aside0.mk hgr
      have HC1 := Aside0.mk hcode1
      have HX := Aside0.mk hx
      have hcs : Aside0 (regex_follow.cnt (cur.set a true) + 1 = regex_follow.cnt cur) := ⟨regex_follow.cnt_set cur a HBB.out⟩
      clear hput hgr hcode1 hty1 hx
      by_cases h2 : op = 2
      · subst h2
        obtain ⟨w1, w2, w3, w4⟩ := HW.out.split a _ HX.out rfl
        simp only at w1 w2 w3 w4
        obtain ⟨xn, rfl⟩ := Int.eq_ofNat_of_zero_le w1
        obtain ⟨yn, rfl⟩ := Int.eq_ofNat_of_zero_le w3
        have hxn : xn < n := by omega
        have hyn : yn < n := by omega
        clear w1 w2 w3 w4
        have hex : Aside0 (regex_follow.Eps code a xn) := ⟨⟨_, HX.out, Or.inl ⟨rfl, Or.inl rfl⟩⟩⟩
        have hey : Aside0 (regex_follow.Eps code a yn) := ⟨⟨_, HX.out, Or.inl ⟨rfl, Or.inr rfl⟩⟩⟩
        have hall : Aside0 (∀ j, regex_follow.Eps code a j → j = xn ∨ j = yn) := ⟨fun j ⟨z, hz, hj⟩ => by
          rw [HX.out] at hz
          injection hz with hz
          subst hz
          rcases hj with ⟨_, h9 | h9⟩ | ⟨h9, _⟩
          · exact Or.inl (Int.ofNat.inj h9.symm)
          · exact Or.inr (Int.ofNat.inj h9.symm)
          · exact absurd h9 (show ¬ (2 : Int) = 3 by decide)⟩
        obtain ⟨w5, hw5⟩ : ∃ w5, Aside0 ((wr.setCell ⟨bs, a, none⟩ (.bool true)).alloc (.cells #[.int .i64 2, .slice A1 sp.length m1, .bool no, .int .i64 xn, .int .i64 yn] 62) = w5) := ⟨_, ⟨rfl⟩⟩
        have hbw : Aside0 (Below (wr.setCell ⟨bs, a, none⟩ (.bool true)).heap.size (wr.setCell ⟨bs, a, none⟩ (.bool true)) w5) := ⟨by rw [← hw5.out]; exact below_alloc (Below.refl _ _) _⟩
        have hbox : Aside0 (w5.heap[wr.heap.size]? = some (.cells #[.int .i64 2, .slice A1 sp.length m1, .bool no, .int .i64 xn, .int .i64 yn] 62 (0, 0))) := ⟨by
          have h9 := blk_new (wr.setCell ⟨bs, a, none⟩ (.bool true)) (.cells #[.int .i64 2, .slice A1 sp.length m1, .bool no, .int .i64 xn, .int .i64 yn] 62)
          rw [hw5.out] at h9
          simpa using h9⟩
        have hgw5 : Aside0 (W.grownBy w5 (some bs)) := ⟨regex_follow.grown_trans (regex_follow.grown_trans HG.out HGR.out) (grown_of_below hbw.out _)⟩
        have hbs : Aside0 (bs < wr.heap.size) := ⟨by
          obtain ⟨_, c9, h9⟩ := regex_follow.typed HR.out
          exact blk_lt h9⟩
        go_wp2_with (first
          | (go_at_call 31; rw [hw5.out]
             have hre := HIH.out (regex_follow.cnt (cur.set a true)) (by have := hcs.out; omega) w0 w5 gb cc bs cs n xn code (cur.set a true) (pw_below_grown HB.out (some bs) HB.out.size hgw5.out (fun k hk => by injection hk with hk; omega)) (Kd.R_below HC1.out hbw.out) (Kd.R_below HPUT.out hbw.out) HW.out hxn (Nat.le_refl _)
             (with_reducible refine hre.mono ?_)
             clear hre
             rintro e w6 ⟨rfl, cur2, hf, hr6, hg6⟩
             have hb6 := blk_grown hbox.out hg6 (fun he => by injection he with he; have := hbs.out; omega)
             have k4 := blk_cell hb6 4
             simp only [List.size_toArray, List.length_cons, List.length_nil, List.getElem?_toArray, List.getElem?_cons_zero, List.getElem?_cons_succ] at k4
             have hle : Aside0 (regex_follow.cnt cur2 ≤ regex_follow.cnt (cur.set a true)) := ⟨regex_follow.cnt_le _ _ hf.len.symm hf.sub⟩
             have HF := Aside0.mk hf
             have HR6 := Aside0.mk hr6
             have HG6 := Aside0.mk hg6
             clear hf hr6 hg6 hb6))
        go_roundg g1
        case rel =>
          refine ⟨yn, cur2, rfl, hyn, HR6, ⟨regex_follow.grown_trans hgw5.out HG6.out⟩, ⟨HP.out.two (by omega) hex.out hey.out hall.out HF.out⟩, ?_, ?_⟩
          · have := hcs.out
            have := hle.out
            omega
          · have := hcs.out
            have := hle.out
            omega
        case measure => omega
      by_cases h3 : op = 3
      · subst h3
        obtain ⟨w1, w2⟩ := HW.out.jump a _ HX.out rfl
        simp only at w1 w2
        obtain ⟨xn, rfl⟩ := Int.eq_ofNat_of_zero_le w1
        have hxn : xn < n := by omega
        clear w1 w2
        have hex : Aside0 (regex_follow.Eps code a xn) := ⟨⟨_, HX.out, Or.inr ⟨rfl, rfl⟩⟩⟩
        have hall : Aside0 (∀ j, regex_follow.Eps code a j → j = xn) := ⟨fun j ⟨z, hz, hj⟩ => by
          rw [HX.out] at hz
          injection hz with hz
          subst hz
          rcases hj with ⟨h9, _⟩ | ⟨_, h9⟩
          · exact absurd h9 (show ¬ (3 : Int) = 2 by decide)
          · exact Int.ofNat.inj h9.symm⟩
        clear h2
        go_wp2
        go_roundg g1
        case rel =>
          refine ⟨xn, cur.set a true, rfl, hxn, ⟨?_⟩, ⟨?_⟩, ⟨HP.out.one (by omega) hex.out hall.out⟩, ?_, ?_⟩
          · exact Kd.R_below HPUT.out (below_alloc (Below.refl _ _) _)
          · exact regex_follow.grown_trans (regex_follow.grown_trans HG.out HGR.out) (World.grownBy_alloc _ _ _)
          · have := hcs.out
            omega
          · have := hcs.out
            omega
        case measure => omega
      · have b2 : (op == 2) = false := by simp [h2]
        have b3 : (op == 3) = false := by simp [h3]
        have hst : Aside0 (∀ j, ¬ regex_follow.Eps code a j) := ⟨fun j ⟨z, hz, hj⟩ => by
          rw [HX.out] at hz
          injection hz with hz
          subst hz
          rcases hj with ⟨h9, _⟩ | ⟨h9, _⟩
          · exact h2 h9
          · exact h3 h9⟩
        clear h2 h3
        go_wp2
        go_roundg g1
        case rel =>
          refine ⟨a, cur.set a true, rfl, han, ⟨?_⟩, ⟨?_⟩, ⟨HP.out.stop (by omega) hst.out⟩, ?_, ?_⟩
          · exact Kd.R_below HPUT.out (below_alloc (Below.refl _ _) _)
          · exact regex_follow.grown_trans (regex_follow.grown_trans HG.out HGR.out) (World.grownBy_alloc _ _ _)
          · have := hcs.out
            omega
          · have := hcs.out
            omega
        case measure => omega

end Go.Proofs.YtgnehcgaplnfkaaDoor.PAll
