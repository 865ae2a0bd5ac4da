-- Written by a program of this seat (wip/tools), out of the translation. Not trusted: Lean checks it.
import Derived.Test.YtgnehcgaplnfkaaDoorPAllx0
import Derived.Test.YtgnehcgaplnfkaaDoorPAllx3
import Derived.Test.YtgnehcgaplnfkaaDoorPAllx4
import Derived.Test.YtgnehcgaplnfkaaDoorPAllx18
import Derived.Test.YtgnehcgaplnfkaaDoorPAllx19
import Derived.Test.YtgnehcgaplnfkaaDoorPAllx20
import Derived.Test.YtgnehcgaplnfkaaDoorPAllx21
namespace Go.Proofs.YtgnehcgaplnfkaaDoor.PAll
open Go.RowKit Go.Proofs.YtgnehcgaplnfkaaDoorW.PrintWords Go.Proofs.YtgnehcgaplnfkaaDoorW.PrintLast Go.Proofs.YtgnehcgaplnfkaaDoorW.PrintMore
attribute [local go_sem] max2_int min2_int max_two min_two max_three min_three max_four min_four   -- for this text's walks alone
set_option linter.unusedVariables false
set_option linter.unusedSimpArgs false

/-! ### regex_Match: function 12 -/
-- uses regex_Check regex_parse regex_follow regex_inst_fits
/-- Places after a code point. -/
def regex_Match.Step (code : List S62) (r : Int) (S : Nat → Prop) (j : Nat) : Prop := ∃ (i : Nat) (x : S62), S i ∧ code[i]? = some x ∧ x.f0 = 1 ∧ regex_inst_fits.fitsB x.f2 x.f1 r = true ∧ regex_follow.Reach code (i + 1) j
def regex_Match.RunS (code : List S62) : List Int → (Nat → Prop) → Nat → Prop
  | [], S => S
  | r :: l, S => regex_Match.RunS code l (regex_Match.Step code r S)
/-- A program fits code points. -/
def regex_Match.Acc (code : List S62) (l : List Int) : Prop := regex_Match.RunS code l (regex_follow.Reach code 0) (code.length - 1)
theorem regex_Match.RunS_ext (code : List S62) : ∀ (l : List Int) (S S' : Nat → Prop), (∀ i, S i ↔ S' i) → ∀ i, regex_Match.RunS code l S i ↔ regex_Match.RunS code l S' i := by
  intro l
  induction l with
  | nil => exact fun S S' h => h
  | cons r l ih =>
    intro S S' h
    refine ih _ _ (fun j => ⟨?_, ?_⟩)
    · rintro ⟨i, x, h1, h2⟩
      exact ⟨i, x, (h i).1 h1, h2⟩
    · rintro ⟨i, x, h1, h2⟩
      exact ⟨i, x, (h i).2 h1, h2⟩
def regex_Match.Closed (code : List S62) (seen : List Bool) : Prop := ∀ i j, regex_follow.sn seen i → regex_follow.Eps code i j → regex_follow.sn seen j
theorem regex_Match.closed_reach {code : List S62} {seen : List Bool} (h : regex_Match.Closed code seen) {i j : Nat} (hi : regex_follow.sn seen i) (hr : regex_follow.Reach code i j) : regex_follow.sn seen j := by
  obtain ⟨n, hn⟩ := hr
  induction n generalizing j with
  | zero =>
    have : i = j := hn
    rwa [← this]
  | succ n ih =>
    obtain ⟨k, h1, h2⟩ := hn
    exact h k j (ih h1) h2
/-- What is followed from a place onto closed marks. -/
theorem regex_Match.fol_iff {code : List S62} {seen seen' : List Bool} {a : Nat} (hc : regex_Match.Closed code seen) (hf : regex_follow.Fol code seen a seen') : regex_Match.Closed code seen' ∧ ∀ j, regex_follow.sn seen' j ↔ (regex_follow.sn seen j ∨ regex_follow.Reach code a j) := by
  have hcl : regex_Match.Closed code seen' := fun i j hi he => by
    by_cases h : regex_follow.sn seen i
    · exact hf.sub j (hc i j h he)
    · exact hf.closed i j hi h he
  refine ⟨hcl, fun j => ⟨fun hj => ?_, fun hj => ?_⟩⟩
  · by_cases h : regex_follow.sn seen j
    · exact Or.inl h
    · exact Or.inr (hf.origin j hj h)
  · rcases hj with h | h
    · exact hf.sub j h
    · exact regex_Match.closed_reach hcl hf.here h
theorem regex_Match.infoB : (Tryd.prog.info? 4).map (fun i => (i.zero, i.size, i.bytes)) = some (some (.bool false), 1, 1) := by kernel_rfl
theorem regex_Match.empty_sn (n i : Nat) : ¬ regex_follow.sn (List.replicate n false) i := by
  unfold regex_follow.sn
  intro h
  rw [List.getElem?_replicate] at h
  split at h <;> simp at h
/-- A row of marks lies in its own block alone. -/
theorem regex_Match.own_bool {w0 W : World} {bs n c : Nat} {ok : Nat → Prop} {seen : List Bool} (h : Kd.R Kd.bool 4 W w0.heap.size ok (.slice (some ⟨bs, 0, none⟩) n c) seen) : Kd.R Kd.bool 4 W w0.heap.size (fun k => k = bs) (.slice (some ⟨bs, 0, none⟩) n c) seen :=
  ⟨fun k hk => by
    have : bs = k := by simpa [Value.ownBlock] using hk
    exact this.symm, OwnRow.imp_ h.2 (fun _ _ hp => hp)⟩
theorem regex_Match.bool_far {w0 W W' : World} {bs bt n c : Nat} {seen : List Bool} (h : Kd.R Kd.bool 4 W w0.heap.size (fun _ => True) (.slice (some ⟨bs, 0, none⟩) n c) seen) (hne : bs ≠ bt) (hg : W.grownBy W' (some bt)) : Kd.R Kd.bool 4 W' w0.heap.size (fun _ => True) (.slice (some ⟨bs, 0, none⟩) n c) seen :=
  Kd.R_mono (Kd.R_grown (regex_Match.own_bool h) hg (fun k hk he => by subst hk; injection he with he; exact hne he)) (fun _ _ => trivial)
theorem regex_Match.bool_form {w0 W : World} {v : Value} {n : Nat} {seen : List Bool} (h : Kd.R Kd.bool 4 W w0.heap.size (fun _ => True) v seen) (hl : seen.length = n) (hn : 0 < n) : ∃ g c, v = .slice (some ⟨g, 0, none⟩) n c := by
  obtain ⟨A, c, e⟩ := Kd.R_slice h
  obtain ⟨_, inner, ho, _⟩ := h
  rcases ho.2 with ⟨hv, h0⟩ | ⟨g, cap, cur, hv, _⟩
  · omega
  · exact ⟨g, cap, by rw [hv, hl]⟩
theorem regex_Match.row_iter {α : Type} {d : Kd α} {e base : Nat} {w : World} {ok : Nat → Prop} {v : Value} {xs : List α} (h : Kd.R d e w base ok v xs) {k : Nat} {s : ByteArray} {pos : Nat} (hk : w.heap[k]? = some (.stringIter s pos)) (pos' : Nat) : Kd.R d e (w.iterAt k s pos') base ok v xs :=
  Kd.R_mono (Kd.R_step (Kd.R_bound h) (fun j ho _ => Lib.iterAt_other w k j s pos' (fun he => by
    obtain ⟨_, _, _, q, _, cells, hc⟩ := ho
    rw [he, hk] at hc
    cases hc))) (fun _ hk => hk.1)
/-- Places after a code point, from the first x marks. -/
def regex_Match.StepTo (code : List S62) (r : Int) (cur : List Bool) (x : Nat) (j : Nat) : Prop := ∃ (i : Nat) (y : S62), i < x ∧ regex_follow.sn cur i ∧ code[i]? = some y ∧ y.f0 = 1 ∧ regex_inst_fits.fitsB y.f2 y.f1 r = true ∧ regex_follow.Reach code (i + 1) j
theorem regex_Match.StepTo.skip {code : List S62} {r : Int} {cur : List Bool} {x : Nat} (hn : ∀ y, regex_follow.sn cur x → code[x]? = some y → y.f0 = 1 → regex_inst_fits.fitsB y.f2 y.f1 r = true → False) (j : Nat) : regex_Match.StepTo code r cur (x + 1) j ↔ regex_Match.StepTo code r cur x j := by
  constructor
  · rintro ⟨i, y, h1, h2, h3, h4, h5, h6⟩
    rcases Nat.lt_or_ge i x with h9 | h9
    · exact ⟨i, y, h9, h2, h3, h4, h5, h6⟩
    · have : i = x := by omega
      subst this
      exact (hn y h2 h3 h4 h5).elim
  · rintro ⟨i, y, h1, h2⟩
    exact ⟨i, y, by omega, h2⟩
theorem regex_Match.StepTo.more {code : List S62} {r : Int} {cur : List Bool} {x : Nat} {y : S62} (h1 : regex_follow.sn cur x) (h2 : code[x]? = some y) (h3 : y.f0 = 1) (h4 : regex_inst_fits.fitsB y.f2 y.f1 r = true) (j : Nat) : regex_Match.StepTo code r cur (x + 1) j ↔ (regex_Match.StepTo code r cur x j ∨ regex_follow.Reach code (x + 1) j) := by
  constructor
  · rintro ⟨i, z, g1, g2, g3, g4, g5, g6⟩
    rcases Nat.lt_or_ge i x with h9 | h9
    · exact Or.inl ⟨i, z, h9, g2, g3, g4, g5, g6⟩
    · have : i = x := by omega
      subst this
      exact Or.inr g6
  · rintro (⟨i, z, g1, g2⟩ | h9)
    · exact ⟨i, z, by omega, g2⟩
    · exact ⟨x, y, by omega, h1, h2, h3, h4, h9⟩
theorem regex_Match.StepTo.all {code : List S62} {r : Int} {cur : List Bool} {n : Nat} (hn : code.length ≤ n) (j : Nat) : regex_Match.StepTo code r cur n j ↔ regex_Match.Step code r (regex_follow.sn cur) j := by
  constructor
  · rintro ⟨i, y, h1, h2⟩
    exact ⟨i, y, h2⟩
  · rintro ⟨i, y, h1, h2, h3⟩
    exact ⟨i, y, by have := (List.getElem?_eq_some_iff.1 h2).1; omega, h1, h2, h3⟩
set_option maxHeartbeats 8000000 in
set_option maxRecDepth 10000 in
theorem regex_Match.calls (w : World) (p s : ByteArray) (hG : strings_ToValidUTF8.Gd w) :
    Calls Tryd.prog 12 #[.string p, .string s] w fun e w' => Below w.heap.size w w' ∧ (match regex_parse.parseM p with | none => e = .returned (.tuple #[.bool false, .int .i64 5]) | some code => ∃ b, e = .returned (.tuple #[.bool b, .int .i64 0]) ∧ (b = true ↔ regex_Match.Acc code (Base.runesOf s))) := by
  have HG := Aside0.mk hG
  clear hG
  cases hp : regex_parse.parseM p with
  | none =>
    have HP := Aside0.mk hp
    clear hp
    have hnil : ∀ W, (binOp .eql 56 (.slice none 0 0) (.slice none 0 0)).run Tryd.prog W = .ok (.bool true) W := fun W => Lib.run_eql_slice_nil W 56 62 none 0 0 0 0 Tryd.underlying56
    go_enter Tryd.func12, Tryd.ntmps12
    go_wp2_with (go_at_call 30; (with_reducible refine (regex_parse.calls w p HG.out).mono ?_); rintro e W1 ⟨v, rfl, hB1, hv⟩; rw [HP.out] at hv; simp only at hv; subst hv; have HB1 := Aside0.mk hB1; clear hB1)
    go_ret2
    exact ⟨HB1.out, rfl⟩
  | some code =>
    have HP := Aside0.mk hp
    obtain ⟨hwf, hlen, hlen2⟩ := regex_Check.parse_wf hp
    have HW := Aside0.mk hwf
    obtain ⟨n, hn⟩ : ∃ n, Aside0 (code.length = n) := ⟨_, ⟨rfl⟩⟩
    have hn0 : 0 < n := by rw [← hn.out]; exact hlen
    have hn1 : n ≤ 1000 := by rw [← hn.out]; exact hlen2
    clear hp hwf hlen2
    go_enter Tryd.func12, Tryd.ntmps12
    go_wp2_with (first
      | (go_at_call 30; (with_reducible refine (regex_parse.calls w p HG.out).mono ?_); rintro e W1 ⟨v, rfl, hB1, hv⟩; rw [HP.out] at hv; simp only at hv; obtain ⟨A1, c1, e1⟩ := Kd.R_slice hv; subst e1; obtain ⟨gb, eg⟩ := regex_inst.form hv hlen; subst eg
         rw [hn.out] at hv ⊢
         have hnil : ∀ W, (binOp .eql 56 (.slice (some ⟨gb, 0, none⟩) n c1) (.slice none 0 0)).run Tryd.prog W = .ok (.bool false) W := fun W => Lib.run_eql_slice_nil W 56 62 (some ⟨gb, 0, none⟩) n c1 0 0 Tryd.underlying56
         have HV1 := Aside0.mk hv
         have HB1 := Aside0.mk hB1
         clear hB1 hv)
      | ((with_reducible refine gate_dst (N := 19) rfl ?_); refine Kd.R_make Kd.bool (w0 := w) w.heap.size 4 rfl (N := 19) rfl 58 _ _ rfl (n : Int) rfl rfl Tryd.underlying58 (.bool false) 1 regex_Match.infoB rfl (by decide) (by decide) false (ok := fun _ => True) (okp := fun _ => True) rfl (fun _ hk => hk) trivial (by omega) (by omega) HB1.out HB1.out.size ?_
         intro v2 W2 hR2 hB2 hg2 hnew2
         rw [Int.toNat_natCast] at hR2
         obtain ⟨bs, cs, ev⟩ := regex_Match.bool_form hR2 List.length_replicate hn0
         subst ev
         have HR2 := Aside0.mk hR2
         have HB2 := Aside0.mk hB2
         have HV2 := Aside0.mk (Kd.R_mono (Kd.R_grown HV1.out hg2 (fun k _ => by simp)) (fun _ h => h))
         clear hR2 hB2 hg2 hnew2)
      | (go_at_call 31
         have hfo := regex_follow.calls n w W2 gb c1 bs cs n 0 code (List.replicate n false) HB2.out HV2.out HR2.out HW.out hn0 (regex_follow.cnt_bound _ (by simp))
         rw [show ((0 : Nat) : Int) = 0 from rfl] at hfo
         (with_reducible refine hfo.mono ?_)
         clear hfo
         rintro e W3 ⟨rfl, seen3, hf3, hr3, hg3⟩
         obtain ⟨hcl3, hiff3⟩ := regex_Match.fol_iff (fun i j hi => absurd hi (regex_Match.empty_sn n i)) hf3
         have HI3 : Aside0 (∀ j, regex_follow.sn seen3 j ↔ regex_follow.Reach code 0 j) := ⟨fun j => ⟨fun h => ((hiff3 j).1 h).resolve_left (regex_Match.empty_sn n j), fun h => (hiff3 j).2 (Or.inr h)⟩⟩
         obtain ⟨hbase3, cells3, hty3⟩ := regex_follow.typed HR2.out
         have HV3 := Aside0.mk (regex_follow.code_grown HV2.out hty3 hg3)
         have HR3 := Aside0.mk hr3
         have HB3 : Aside0 (Below w.heap.size w W3) := ⟨pw_below_grown HB2.out (some bs) HB2.out.size hg3 (fun k hk => by injection hk with hk; omega)⟩
         clear hf3 hr3 hg3 hcl3 hiff3 hty3))
    go_loopw [7] (fun v7 wr => ∃ (pos fuel bq cq : Nat) (cur : List Bool), v7 = .slice (some ⟨bq, 0, none⟩) n cq ∧ wr.heap[W3.heap.size]? = some (.stringIter s pos) ∧ Aside0 (Below w.heap.size w wr) ∧ Aside0 (Kd.R k62 62 wr w.heap.size (fun _ => True) (.slice (some ⟨gb, 0, none⟩) n c1) code) ∧ Aside0 (Kd.R Kd.bool 4 wr w.heap.size (fun _ => True) (.slice (some ⟨bq, 0, none⟩) n cq) cur) ∧ Aside0 (regex_Match.RunS code (Base.runesFrom s fuel pos) (regex_follow.sn cur) (n - 1) ↔ regex_Match.Acc code (Base.runesOf s)) ∧ s.size ≤ fuel + pos)
      (fun v7 wr => s.size - wr.iterPos W3.heap.size)
    case atStart =>
      refine ⟨0, s.size, bs, cs, seen3, rfl, ?_, ⟨HB3.out.alloc HB3.out.size _⟩, ⟨Kd.R_below HV3.out (below_alloc (Below.refl _ _) _)⟩, ⟨Kd.R_below HR3.out (below_alloc (Below.refl _ _) _)⟩, ⟨?_⟩, by omega⟩
      · have := World.iter_heap W3 s 0
        simpa using this
      · unfold regex_Match.Acc
        rw [hn.out]
        exact regex_Match.RunS_ext code _ _ _ HI3.out (n - 1)
    case round =>
      obtain ⟨pos, fuel, bq, cq, cur, rfl, hit, hbw, HV, HR, HA, hfu⟩ := hrel
      have HT3 : Aside0 (w.heap.size ≤ W3.heap.size) := ⟨HB3.out.size⟩
      clear HV3 HR3 HB3 HI3 HR2 HB2 HV2 HV1 HB1 hbase3
      have hcl : cur.length = n := (Kd.R_reads' HR.out).1.symm
      by_cases hp : pos < s.size
      · have hnx : ∀ ty, (Instr.next (.pointer (some ⟨W3.heap.size, 0, none⟩)) true ty).run Tryd.prog wr = _ := fun ty => Lib.run_next_any_at wr W3.heap.size s pos ty hit hp
        have hwd := Base.width_pos s pos hp
        have hd1 := decode_le s pos
        obtain ⟨f, rfl⟩ : ∃ f, fuel = f + 1 := ⟨fuel - 1, by omega⟩
        have hst := Base.runesFrom_step s f pos hp
        obtain ⟨r, hr⟩ : ∃ r : Nat, (Utf8.decode s pos).1 = r := ⟨_, rfl⟩
        obtain ⟨pos2, hpos2⟩ : ∃ q, pos + (Utf8.decode s pos).2 = q := ⟨_, rfl⟩
        rw [hr] at hnx hd1 hst
        rw [hpos2] at hnx hst
        rw [hst] at HA
        have hpl : pos < pos2 := by omega
        clear hst hr hpos2 hwd
        have hit2 := Aside0.mk (Lib.iterAt_heap wr W3.heap.size s pos pos2 hit)
        have hbw2 : Aside0 (Below w.heap.size w (wr.iterAt W3.heap.size s pos2)) := ⟨Lib.below_iterAt hbw.out HT3.out s pos2⟩
        have HVi := Aside0.mk (regex_Match.row_iter HV.out hit pos2)
        have HRi := Aside0.mk (regex_Match.row_iter HR.out hit pos2)
        obtain ⟨Wi, hWi⟩ : ∃ Wi, Aside0 (wr.iterAt W3.heap.size s pos2 = Wi) := ⟨_, ⟨rfl⟩⟩
        rw [hWi.out] at hit2 hbw2 HVi HRi hnx
        have hsl : Aside0 (W3.heap.size < Wi.heap.size) := ⟨blk_lt hit2.out⟩
        go_wp2_with (first
          | ((with_reducible refine gate_dst (N := 30) rfl ?_); refine Kd.R_make Kd.bool (w0 := w) w.heap.size 4 rfl (N := 30) rfl 58 _ _ rfl (n : Int) rfl rfl Tryd.underlying58 (.bool false) 1 regex_Match.infoB rfl (by decide) (by decide) false (ok := fun _ => True) (okp := fun _ => True) rfl (fun _ hk => hk) trivial (by omega) (by omega) hbw2.out hbw2.out.size ?_
             intro v5 W5 hR5 hB5 hg5 hnew5
             rw [Int.toNat_natCast] at hR5
             obtain ⟨bt, ct, ev⟩ := regex_Match.bool_form hR5 List.length_replicate hn0
             subst ev
             have HT5 : Aside0 (Wi.heap.size ≤ bt) := ⟨by
               obtain ⟨k, hk1, hk2⟩ := hnew5
               have : bt = k := by simpa [Value.ownBlock] using hk1
               omega⟩
             have HR5 := Aside0.mk hR5
             have HB5 := Aside0.mk hB5
             have HV5 := Aside0.mk (Kd.R_mono (Kd.R_grown HVi.out hg5 (fun k _ => by simp)) (fun _ h => h))
             have HN5 := Aside0.mk (Kd.R_mono (Kd.R_grown HRi.out hg5 (fun k _ => by simp)) (fun _ h => h))
             have hit5 := Aside0.mk (blk_grown hit2.out hg5 (by simp))
             have HQ5 : Aside0 (bq < Wi.heap.size) := ⟨by
               obtain ⟨_, c9, h9⟩ := regex_follow.typed HRi.out
               exact blk_lt h9⟩
             clear hR5 hB5 hg5 hnew5))
        have hne : bq ≠ bt := by
          have := HT5.out
          have := HQ5.out
          omega
        obtain ⟨cells5, hty5⟩ := (regex_follow.typed HR5.out).2
        have hbase5 := (regex_follow.typed HR5.out).1
        have HTY5 := Aside0.mk hty5
        clear hty5
        go_loopg [33] n (fun kq v33 wq => ∃ (x : Nat) (thn : List Bool), x ≤ n ∧ v33 = .int .i64 (x : Int) ∧ Aside0 (Kd.R Kd.bool 4 wq w.heap.size (fun _ => True) (.slice (some ⟨bt, 0, none⟩) n ct) thn) ∧ Aside0 (W5.grownBy wq (some bt)) ∧ Aside0 (regex_Match.Closed code thn) ∧ Aside0 (∀ j, regex_follow.sn thn j ↔ regex_Match.StepTo code (r : Int) cur x j) ∧ n ≤ kq + x)
        case atStart => exact ⟨0, List.replicate n false, Nat.zero_le _, rfl, HR5, ⟨World.grownBy.refl _ _⟩, ⟨fun i j hi => absurd hi (regex_Match.empty_sn n i)⟩, ⟨fun j => ⟨fun h => absurd h (regex_Match.empty_sn n j), fun ⟨i, y, h, _⟩ => absurd h (by omega)⟩⟩, by omega⟩
        case round =>
          obtain ⟨x, thn, hx, rfl, HRt, HG5, HC5, HS5, hk⟩ := hrel
          have HVq := Aside0.mk (regex_follow.code_grown HV5.out HTY5.out HG5.out)
          have HNq := Aside0.mk (regex_Match.bool_far HN5.out hne HG5.out)
          have HBq : Aside0 (Below w.heap.size w _) := ⟨pw_below_grown HB5.out (some bt) HB5.out.size HG5.out (fun k hk => by injection hk with hk; omega)⟩
          by_cases hlt : x < n
          · obtain ⟨g1, rfl⟩ : ∃ g1, gk = g1 + 1 := ⟨gk - 1, by omega⟩
            obtain ⟨b, hb⟩ : ∃ b, cur[x]? = some b := ⟨cur[x]'(by omega), List.getElem?_eq_getElem (by omega)⟩
            obtain ⟨c1x, f1x⟩ := Kd.R_celln false HNq.out (x : Int) (by omega) (by omega)
            have hrd : rdOf false cur (x : Int) = b := by simp [rdOf, hb]
            rw [hrd, Int.toNat_natCast] at c1x
            have HBB := Aside0.mk hb
            clear hrd hb f1x
            cases b with
            | false =>
              go_wp2
              go_roundg g1
              case rel => exact ⟨x + 1, thn, by omega, by go_num, HRt, HG5, HC5, ⟨fun j => (HS5.out j).trans (regex_Match.StepTo.skip (fun y h1 _ _ _ => by have h9 := HBB.out; unfold regex_follow.sn at h1; rw [h9] at h1; cases h1) j).symm⟩, by omega⟩
              case measure => omega
            | true =>
              obtain ⟨⟨op, sp, no, y3, y4⟩, hxc⟩ : ∃ y, code[x]? = some y := ⟨code[x]'(by rw [hn.out]; omega), List.getElem?_eq_getElem (by rw [hn.out]; omega)⟩
              obtain ⟨A6, m6, e0, e1, e2, e3, e4, hsp⟩ := regex_follow.cells5 HVq.out x _ hxc
              simp only at e0 e1 e2 e3 e4 hsp
              have HX := Aside0.mk hxc
              have HSP := Aside0.mk (Kd.R_reads' hsp).2.2
              clear hxc hsp
              by_cases ho : op = 1
              · subst ho
                cases hfit : regex_inst_fits.fitsB no sp (r : Int) with
                | false =>
                  have HF := Aside0.mk hfit
                  clear hfit
                  go_wp2_with (go_at_call 32; (with_reducible refine (regex_inst_fits.calls A6 m6 1 y3 y4 (r : Int) no sp _ HSP.out).mono ?_); rintro e W6 ⟨rfl, hB6⟩; rw [HF.out]; have HB6 := Aside0.mk hB6; clear hB6)
                  go_roundg g1
                  case rel =>
                    refine ⟨x + 1, thn, by omega, by go_num, ⟨Kd.R_below HRt.out HB6.out⟩, ⟨regex_follow.grown_trans HG5.out (grown_of_below HB6.out _)⟩, HC5, ⟨fun j => (HS5.out j).trans (regex_Match.StepTo.skip (fun y _ h2 _ h4 => ?_) j).symm⟩, by omega⟩
                    rw [HX.out] at h2
                    injection h2 with h2
                    subst h2
                    simp only at h4
                    rw [HF.out] at h4
                    cases h4
                  case measure => omega
                | true =>
                  have HF := Aside0.mk hfit
                  have hx1 : x + 1 < n := by
                    have := HW.out.rune x _ HX.out rfl
                    rw [hn.out] at this
                    exact this
                  have hcast : Aside0 (((x + 1 : Nat) : Int) = (x : Int) + 1) := ⟨by omega⟩
                  clear hfit
                  go_wp2_with (first
                    | (go_at_call 32; (with_reducible refine (regex_inst_fits.calls A6 m6 1 y3 y4 (r : Int) no sp _ HSP.out).mono ?_); rintro e W6 ⟨rfl, hB6⟩; rw [HF.out]; have HB6 := Aside0.mk hB6; clear hB6)
                    | (go_at_call 31
                       have hfo := regex_follow.calls n w W6 gb c1 bt ct n (x + 1) code thn (below_then HBq.out HBq.out.size HB6.out) (Kd.R_below HVq.out HB6.out) (Kd.R_below HRt.out HB6.out) HW.out hx1 (regex_follow.cnt_bound _ (Nat.le_of_eq (Kd.R_reads' HRt.out).1.symm))
                       rw [hcast.out] at hfo
                       (with_reducible refine hfo.mono ?_)
                       clear hfo
                       rintro e W7 ⟨rfl, seen7, hf7, hr7, hg7⟩
                       obtain ⟨hcl7, hiff7⟩ := regex_Match.fol_iff HC5.out hf7
                       have HC7 := Aside0.mk hcl7
                       have HI7 := Aside0.mk hiff7
                       have HR7 := Aside0.mk hr7
                       have HG7 := Aside0.mk hg7
                       clear hf7 hr7 hg7 hcl7 hiff7))
                  go_roundg g1
                  case rel => exact ⟨x + 1, seen7, by omega, by go_num, HR7, ⟨regex_follow.grown_trans (regex_follow.grown_trans HG5.out (grown_of_below HB6.out _)) HG7.out⟩, HC7, ⟨fun j => (HI7.out j).trans (((or_congr (HS5.out j) Iff.rfl)).trans (regex_Match.StepTo.more HBB.out HX.out rfl HF.out j).symm)⟩, by omega⟩
                  case measure => omega
              · have ho1 : (op == 1) = false := by simp [ho]
                have HO := Aside0.mk ho
                clear ho
                go_wp2
                go_roundg g1
                case rel =>
                  refine ⟨x + 1, thn, by omega, by go_num, HRt, HG5, HC5, ⟨fun j => (HS5.out j).trans (regex_Match.StepTo.skip (fun y _ h2 h3 _ => ?_) j).symm⟩, by omega⟩
                  rw [HX.out] at h2
                  injection h2 with h2
                  subst h2
                  exact HO.out h3
                case measure => omega
          · have hxn : x = n := by omega
            subst hxn
            go_wp2
            go_roundw
            case rel =>
              refine ⟨pos2, f, bt, ct, thn, rfl, ?_, HBq, HVq, HRt, ⟨?_⟩, by omega⟩
              · exact blk_grown hit5.out HG5.out (fun he => by injection he with he; have := HT5.out; have := hsl.out; omega)
              · refine Iff.trans ?_ HA.out
                exact regex_Match.RunS_ext code _ _ _ (fun j => (HS5.out j).trans (regex_Match.StepTo.all (Nat.le_of_eq hn.out) j)) (_ - 1)
            case measure =>
              have h9 := blk_grown hit5.out HG5.out (fun he => by injection he with he; have := HT5.out; have := hsl.out; omega)
              simp only [World.iterPos, h9, hit]
              omega
      · have hnx : ∀ ty, (Instr.next (.pointer (some ⟨W3.heap.size, 0, none⟩)) true ty).run Tryd.prog wr = _ := fun ty => Lib.run_next_end_at wr W3.heap.size s pos ty hit hp
        have hend : Aside0 (regex_follow.sn cur (n - 1) ↔ regex_Match.Acc code (Base.runesOf s)) := ⟨by
          have h9 := HA.out
          rw [Base.runesFrom_end s fuel pos hp] at h9
          exact h9⟩
        obtain ⟨m, hm⟩ : ∃ m, n - 1 = m := ⟨_, rfl⟩
        rw [hm] at hend
        have hm1 : (n : Int) - 1 = (m : Int) := by omega
        obtain ⟨b, hb⟩ : ∃ b, cur[m]? = some b := ⟨cur[m]'(by omega), List.getElem?_eq_getElem (by omega)⟩
        obtain ⟨c1x, f1x⟩ := Kd.R_celln false HR.out (m : Int) (by omega) (by omega)
        have hrd : rdOf false cur (m : Int) = b := by simp [rdOf, hb]
        rw [hrd, Int.toNat_natCast] at c1x
        have HBB := Aside0.mk hb
        have hmn : m < n := by omega
        clear hrd hb f1x hm
        go_wp2
        go_ret2
        refine ⟨hbw.out, b, rfl, ?_⟩
        refine Iff.trans ⟨fun h9 => ?_, fun h9 => ?_⟩ hend.out
        · unfold regex_follow.sn
          rw [HBB.out, h9]
        · unfold regex_follow.sn at h9
          rw [HBB.out] at h9
          injection h9
-- in the form of the print
/-- The Bool of a Prop. -/
noncomputable def regex_Match.dec (P : Prop) : Bool := @decide P (Classical.propDecidable P)
theorem regex_Match.dec_iff (P : Prop) : regex_Match.dec P = true ↔ P := @decide_eq_true_iff P (Classical.propDecidable P)
noncomputable def regex_Match.ans (p s : ByteArray) : Bool × Int := match regex_parse.parseM p with | none => (false, 5) | some code => (regex_Match.dec (regex_Match.Acc code (Base.runesOf s)), 0)
noncomputable def regex_Match.f (a0 a1 : ByteArray) : Option (Bool × Int) := some (regex_Match.ans a0 a1)
theorem regex_Match.callsP (a0 a1 : ByteArray) (r1 : Bool) (r2 : Int) (w : World) (hG : strings_ToValidUTF8.Gd w) (h : regex_Match.f a0 a1 = some (r1, r2)) :
    Calls Tryd.prog 12 #[.string a0, .string a1] w fun e w' => e = .returned (.tuple #[.bool r1, .int .i64 r2]) ∧ Below w.heap.size w w' := by
  have h0 : regex_Match.ans a0 a1 = (r1, r2) := Option.some.inj h
  refine (regex_Match.calls w a0 a1 hG).mono ?_
  rintro e w' ⟨hB, hm⟩
  refine ⟨?_, hB⟩
  unfold regex_Match.ans at h0
  cases hp : regex_parse.parseM a0 with
  | none =>
    rw [hp] at hm h0
    cases h0
    exact hm
  | some code =>
    rw [hp] at hm h0
    obtain ⟨b, rfl, hb⟩ := hm
    cases h0
    have : b = regex_Match.dec (regex_Match.Acc code (Base.runesOf a1)) := Bool.eq_iff_iff.2 (hb.trans (regex_Match.dec_iff _).symm)
    rw [this]

end Go.Proofs.YtgnehcgaplnfkaaDoor.PAll
