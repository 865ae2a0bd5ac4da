-- Written by a program of this seat (wip/tools), out of the translation. Not trusted: Lean checks it.
import Derived.Test.YtdbbfhmcbogknaaPAllx0
import Derived.Test.YtdbbfhmcbogknaaPAllx23
import Derived.Test.YtdbbfhmcbogknaaPAllx28
namespace Go.Proofs.Ytdbbfhmcbogknaa.PAll
open Go.RowKit Go.Proofs.YtdbbfhmcbogknaaW.PrintWords Go.Proofs.YtdbbfhmcbogknaaW.PrintLast Go.Proofs.YtdbbfhmcbogknaaW.PrintMore
attribute [local go_sem] max2_int min2_int max_two min_two max_three min_three max_four min_four   -- for this text's walks alone
set_option linter.unusedVariables false
set_option linter.unusedSimpArgs false

/-! ### dryrotref07_Decode: function 20 -/
-- uses dryrotref07_Can dryrotref07_Piece
def dryrotref07_Decode.all : Nat → List Int → Option (List S41 × List Int)
  | 0, b => some ([], b)
  | n + 1, b => (dryrotref07_Piece.one b).bind fun x => (dryrotref07_Piece.one x.2).bind fun y => (dryrotref07_Decode.all n y.2).map fun z => (⟨x.1, y.1⟩ :: z.1, z.2)
def dryrotref07_Decode.okB (l0 : List Int) : Bool := decide (l0.length ≤ 140737488355328) && l0.all (fun c => decide (0 ≤ c) && decide (c < 256))
def dryrotref07_Decode.f (k : Nat) (l0 : List Int) : Option (List S41 × List Int × Int) := if dryrotref07_Decode.okB l0 = true then (match l0 with
  | [] => some ([], [], 3)
  | c :: r => match dryrotref07_Decode.all c.toNat r with
    | none => some ([], [], 3)
    | some (l, q) => (dryrotref07_Can.f k l).bind fun b => if b = true then some (l, q, 0) else some ([], [], 5)) else none
theorem dryrotref07_Decode.mono : ∀ a0 k, LeO (dryrotref07_Decode.f k a0) (dryrotref07_Decode.f (k + 1) a0) := by
  intro a0 k
  unfold dryrotref07_Decode.f
  split
  · split
    · exact LeO.refl _
    · split
      · exact LeO.refl _
      · exact LeO.bind (dryrotref07_Can.mono _ _) (fun _ => LeO.refl _)
  · exact LeO.refl _
theorem dryrotref07_Decode.info : (Try.prog.info? 5).map (fun i => (i.zero, i.size, i.bytes)) = some (some (.int .u8 0), 1, 1) := by kernel_rfl
def dryrotref07_Decode.Rest (w : World) (r bs : List Int) (A' : Option Addr) (c' : Nat) : Prop := bs.length ≤ c' ∧ Kd.C (Kd.int .u8) w A' bs.length bs ∧ bs.length ≤ r.length ∧ bs.all (fun c => decide (0 ≤ c) && decide (c < 256)) = true
theorem dryrotref07_Decode.fails {k n m : Nat} {r bs : List Int} {done r1 : List S41} {r2 : List Int} {r3 : Int} (h : (match dryrotref07_Decode.all (n : Int).toNat r with
    | none => some (([] : List S41), ([] : List Int), (3 : Int))
    | some (l, q) => (dryrotref07_Can.f k l).bind fun b => if b = true then some (l, q, 0) else some ([], [], 5)) = some (r1, r2, r3)) (hn : dryrotref07_Decode.all n r = (dryrotref07_Decode.all m bs).map (fun z => (done ++ z.1, z.2))) (hb : dryrotref07_Decode.all m bs = none) : r1 = [] ∧ r2 = [] ∧ r3 = 3 := by
  rw [hb] at hn
  rw [show (n : Int).toNat = n from rfl, hn] at h
  obtain ⟨h1, h2⟩ := Prod.mk.inj (Option.some.inj h)
  obtain ⟨h2, h3⟩ := Prod.mk.inj h2
  exact ⟨h1.symm, h2.symm, h3.symm⟩
set_option maxHeartbeats 8000000 in
set_option maxRecDepth 100000 in
theorem dryrotref07_Decode.calls (k : Nat) (A0 : Option Addr) (c0 : Nat) (l0 : List Int) (r1 : List S41) (r2 : List Int) (r3 : Int) (w : World) (hr0 : Kd.C (Kd.int .u8) w A0 l0.length l0) (hc0 : l0.length ≤ c0) (h : dryrotref07_Decode.f k l0 = some (r1, r2, r3)) :
    Calls Try.prog 20 #[.slice A0 l0.length c0] w fun e w' => ∃ v0_ v1_ : Value, e = .returned (.tuple #[v0_, v1_, .int .i64 r3]) ∧ Kd.R k41 41 w' w.heap.size (fun _ => True) v0_ r1 ∧ Kd.R (Kd.int .u8) 5 w' w.heap.size (fun _ => True) v1_ r2 ∧ Below w.heap.size w w' := by
  unfold dryrotref07_Decode.f at h
  by_cases hok : dryrotref07_Decode.okB l0 = true
  · rw [if_pos hok] at h
    cases l0 with
    | nil =>
      simp only [Option.some.injEq, Prod.mk.injEq] at h
      obtain ⟨rfl, rfl, rfl⟩ := h
      clear hok hr0
      go_enter Try.func20, Try.ntmps20
      go_wp2
      go_ret3
      exact ⟨_, _, rfl, Kd.R_nil _ _ _ _ _, Kd.R_nil _ _ _ _ _, Below.refl _ _⟩
    | cons c r =>
      have HO := Aside0.mk hok
      have H := Aside0.mk h
      clear hok h
      obtain ⟨n, hn, hn2⟩ : ∃ n : Nat, c = (n : Int) ∧ n < 256 := by
        have h1 := HO.out
        simp only [dryrotref07_Decode.okB, Bool.and_eq_true, List.all_cons, decide_eq_true_eq] at h1
        exact ⟨c.toNat, by omega, by omega⟩
      subst hn
      have hrl : r.length + 1 ≤ 140737488355328 := by
        have h1 := HO.out
        simp only [dryrotref07_Decode.okB, Bool.and_eq_true, decide_eq_true_eq, List.length_cons] at h1
        exact h1.1
      have hrb : Aside0 (r.all (fun c => decide (0 ≤ c) && decide (c < 256)) = true) := ⟨by
        have h1 := HO.out
        simp only [dryrotref07_Decode.okB, Bool.and_eq_true, List.all_cons] at h1
        exact h1.2.2⟩
      clear HO
      obtain ⟨ad, e, hx⟩ := Kd.at_int hr0 0 (by omega) (by simp)
      subst e
      have hx0 : w.cell? ad = some (.int .u8 (n : Int)) := by simpa [rd, Addr.add] using hx
      clear hx
      have HR0 := Aside0.mk hr0
      clear hr0
      simp only [List.length_cons] at hc0
      go_enter Try.func20, Try.ntmps20
      go_wp2
      all_goals
        have HC : Aside0 (dryrotref07_Decode.Rest w r r (if c0 = 1 then some ad else some ⟨ad.block, ad.off + 1, none⟩) (c0 - 1)) := ⟨by
          have hd := Kd.C_drop (m := 1) (c := c0) HR0.out (by simp) (by simpa using hc0)
          have hsz : (Kd.int .u8).sz = 1 := rfl
          refine ⟨by omega, ?_, Nat.le_refl _, hrb.out⟩
          by_cases h9 : c0 = 1
          · simpa [h9, hsz, Addr.add] using hd
          · simpa [h9, hsz, Addr.add] using hd⟩
        have HN : Aside0 (dryrotref07_Decode.all n r = (dryrotref07_Decode.all (n - 0) r).map (fun z => (([] : List S41) ++ z.1, z.2))) := ⟨by simp⟩
        clear hx0
        go_loopg [0, 6, 23] n (fun kq v0 v6 v23 wr => ∃ (i : Nat) (A' : Option Addr) (c' : Nat) (bs : List Int) (done : List S41), i ≤ n ∧ v23 = .int .i64 i ∧ v0 = .slice A' bs.length c' ∧ done.length = i ∧ Aside0 (dryrotref07_Decode.Rest w r bs A' c') ∧ Aside0 (dryrotref07_Decode.all n r = (dryrotref07_Decode.all (n - i) bs).map (fun z => (done ++ z.1, z.2))) ∧ Aside0 (Kd.R k41 41 wr w.heap.size (fun _ => True) v6 done) ∧ n ≤ kq + i ∧ Aside0 (Below w.heap.size w wr))
        case atStart => exact ⟨0, (if c0 = 1 then some ad else some ⟨ad.block, ad.off + 1, none⟩), c0 - 1, r, [], by omega, rfl, (by by_cases h9 : c0 = 1 <;> first | (exfalso; omega) | simp [h9, Addr.add] | rfl), rfl, HC, HN, ⟨Kd.R_nil _ _ _ _ _⟩, by omega, ⟨Below.refl _ _⟩⟩
        case round =>
          clear HC HN
          obtain ⟨i, A', c', bs, done, hi, rfl, rfl, hdl, HT, HN, HR, hk, HB⟩ := hrel
          by_cases hlt : i < n
          · obtain ⟨g1, rfl⟩ : ∃ g1, gk = g1 + 1 := ⟨gk - 1, by omega⟩
            obtain ⟨m, hm⟩ : ∃ m, n - i = m + 1 := ⟨n - i - 1, by omega⟩
            have hl1 : bs.length ≤ 140737488355328 := by have := HT.out.2.2.1; omega
            have hT1 : bs.length ≤ c' := HT.out.1
            have HT4 := Aside0.mk HT.out.2.2.2
            have HT2 := Aside0.mk HT.out.2.1
            have HS1 := Aside0.mk (Kd.C_below HT.out.2.1 HB.out)
            obtain ho | ⟨s1, b1, ho⟩ : Aside0 (dryrotref07_Piece.one bs = none) ∨ ∃ s1 b1, Aside0 (dryrotref07_Piece.one bs = some (s1, b1)) := by
              cases hh : dryrotref07_Piece.one bs with
              | none => exact .inl ⟨rfl⟩
              | some p => exact .inr ⟨p.1, p.2, ⟨rfl⟩⟩
            · have hfin := dryrotref07_Decode.fails H.out HN.out (by rw [hm]; simp [dryrotref07_Decode.all, ho.out])
              obtain ⟨hf1, hf2, hf3⟩ := hfin
              subst hf1 hf2 hf3
              go_wp2_with (first
                | (go_at_call 39; (with_reducible refine (dryrotref07_Piece.calls_none A' c' bs _ HS1.out hT1 hl1 HT4.out ho.out).mono ?_); rintro e w3 ⟨rfl, hb3⟩)
                | (go_at_call 39; (with_reducible refine (dryrotref07_Piece.calls_nil _).mono ?_); rintro e w4 ⟨rfl, hb4⟩))
              go_ret3
              exact ⟨_, _, rfl, Kd.R_nil _ _ _ _ _, Kd.R_nil _ _ _ _ _, below_step (below_step HB.out hb3) hb4⟩
            · have hq1 := dryrotref07_Piece.one_some ho.out
              have HQ1 := Aside0.mk (hq1.2 HT4.out)
              have hl2 : b1.length ≤ 140737488355328 := by omega
              have hl3 : b1.length ≤ r.length := by have := HT.out.2.2.1; omega
              clear hq1
              obtain ho2 | ⟨s2, b2, ho2⟩ : Aside0 (dryrotref07_Piece.one b1 = none) ∨ ∃ s2 b2, Aside0 (dryrotref07_Piece.one b1 = some (s2, b2)) := by
                cases hh : dryrotref07_Piece.one b1 with
                | none => exact .inl ⟨rfl⟩
                | some p => exact .inr ⟨p.1, p.2, ⟨rfl⟩⟩
              · have hfin := dryrotref07_Decode.fails H.out HN.out (by rw [hm]; simp [dryrotref07_Decode.all, ho.out, ho2.out])
                obtain ⟨hf1, hf2, hf3⟩ := hfin
                subst hf1 hf2 hf3
                go_wp2_with (first
                  | (go_at_call 39; (with_reducible refine (dryrotref07_Piece.calls_one A' c' bs s1 b1 _ HS1.out hT1 hl1 HT4.out ho.out).mono ?_); rintro e w3 ⟨A1, c1, rfl, hc1, hC1, hb3⟩; have HC1 := Aside0.mk hC1; clear hC1)
                  | (go_at_call 39; (with_reducible refine (dryrotref07_Piece.calls_none A1 c1 b1 _ (HC1.out _ (Kd.C_below HS1.out hb3)) hc1 hl2 HQ1.out ho2.out).mono ?_); rintro e w4 ⟨rfl, hb4⟩))
                go_ret3
                exact ⟨_, _, rfl, Kd.R_nil _ _ _ _ _, Kd.R_nil _ _ _ _ _, below_step (below_step HB.out hb3) hb4⟩
              · have hq2 := dryrotref07_Piece.one_some ho2.out
                have HQ2 := Aside0.mk (hq2.2 HQ1.out)
                have hl4 : b2.length ≤ r.length := by omega
                clear hq2
                have HN2 : Aside0 (dryrotref07_Decode.all n r = (dryrotref07_Decode.all (n - (i + 1)) b2).map (fun z => ((done ++ [⟨s1, s2⟩]) ++ z.1, z.2))) := ⟨by
                  rw [HN.out, hm, show n - (i + 1) = m by omega]
                  simp only [dryrotref07_Decode.all, ho.out, ho2.out, Option.bind_some, Option.map_map]
                  congr 1
                  funext z
                  simp⟩
                have hld : (done.length + 1) * 32 ≤ 140737488355328 := by omega
                go_wp2_with (first
                  | (go_at_call 39; (with_reducible refine (dryrotref07_Piece.calls_one A' c' bs s1 b1 _ HS1.out hT1 hl1 HT4.out ho.out).mono ?_); rintro e w3 ⟨A1, c1, rfl, hc1, hC1, hb3⟩; have HC1 := Aside0.mk hC1; have HB3 := Aside0.mk (below_step HB.out hb3); have HR3 := Aside0.mk (Kd.R_below HR.out hb3); clear hC1 hb3)
                  | (go_at_call 39; (with_reducible refine (dryrotref07_Piece.calls_one A1 c1 b1 s2 b2 _ (HC1.out _ (Kd.C_below HT2.out HB3.out)) hc1 hl2 HQ1.out ho2.out).mono ?_); rintro e w4 ⟨A2, c2, rfl, hc2, hC2, hb4⟩; have HC2 := Aside0.mk hC2; have HB4 := Aside0.mk (below_step HB3.out hb4); have HR4 := Aside0.mk (Kd.R_below HR3.out hb4); clear hC2 hb4)
                  | ((with_reducible refine gate_builtin (b := .append) (xs := #[.tmp 43, .tmp 47]) rfl ?_); (try (refine gate_guard (by rfl) ?_; dsimp only)); at_builtin; refine Kd.R_append k41 (w0 := w) w.heap.size rfl (.tmp 43) (.tmp 47) 28 41 (.agg #[(.string ⟨#[]⟩), (.string ⟨#[]⟩)]) 32 rfl Try.underlying28 info41 rfl (by decide) (by omega) _ done (⟨s1, s2⟩ : S41) [.string s1, .string s2] (fun _ => True) (fun _ => False) rfl rfl (k41_mkM _ _ _ (⟨s1, s2⟩ : S41)) (fun _ hk => hk.elim) (fun _ _ => trivial) HR4.out HB4.out HB4.out.size hld ?_; intro v6n w5 ho5 hb5 hg5 hat5; have HR5 := Aside0.mk ho5; have HB5 := Aside0.mk hb5; clear ho5 hb5 hg5 hat5))
                go_roundg g1
                case rel => exact ⟨i + 1, A2, c2, b2, done ++ [⟨s1, s2⟩], by omega, by go_num, rfl, by simp; omega, ⟨hc2, HC2.out _ (HC1.out _ HT2.out), hl4, HQ2.out⟩, HN2, HR5, by omega, HB5⟩
                case measure => omega
          · have hin : i = n := by omega
            subst hin
            have hall : dryrotref07_Decode.all done.length r = some (done, bs) := by
              have h1 := HN.out
              rw [← hdl, Nat.sub_self] at h1
              simpa [dryrotref07_Decode.all] using h1
            obtain ⟨Av, cv, ev⟩ := Kd.R_slice HR.out
            subst ev
            have HRd := HR
            have h2 := H.out
            rw [← hdl] at h2
            rw [show ((done.length : Nat) : Int).toNat = done.length from rfl, hall] at h2
            obtain ⟨b, hb, h3⟩ := Option.bind_eq_some_iff.1 h2
            have HBc := Aside0.mk hb
            clear h2 hb hall HN HR
            subst hdl
            cases b with
            | false =>
              obtain ⟨e1, e2, e3⟩ : r1 = [] ∧ r2 = [] ∧ 5 = r3 := by simpa using h3
              subst e1 e2 e3
              go_wp2_with (go_at_call 16; (with_reducible refine (dryrotref07_Can.calls k _ _ done false _ (Kd.R_reads' HRd.out).2.2 (Kd.R_reads' HRd.out).2.1 HBc.out).mono ?_); rintro e w6 ⟨rfl, hb6⟩)
              go_ret3
              exact ⟨_, _, rfl, Kd.R_nil _ _ _ _ _, Kd.R_nil _ _ _ _ _, below_step HB.out hb6⟩
            | true =>
              have HE : Aside0 (done = r1 ∧ bs = r2 ∧ 0 = r3) := ⟨by simpa using h3⟩
              clear h3
              have hbs : bs.length ≤ 140737488355328 := by have := HT.out.2.2.1; omega
              go_wp2_with (first
                | (go_at_call 16; (with_reducible refine (dryrotref07_Can.calls k _ _ done true _ (Kd.R_reads' HRd.out).2.2 (Kd.R_reads' HRd.out).2.1 HBc.out).mono ?_); rintro e w6 ⟨rfl, hb6⟩
                   have HB6 := Aside0.mk (below_step HB.out hb6)
                   have hlt6 : ∀ g, (Value.slice Av done.length cv).ownBlock = some g → g < w6.heap.size := fun g hg => Nat.lt_of_lt_of_le (Kd.R_lt HRd.out g hg) hb6.size
                   have ho0 := own_made w6 w.heap.size 5 .u8 0 HB6.out.size (by omega)
                   rw [show madeCells #[Value.int .u8 0] 0 = #[] from by simp [madeCells]] at ho0
                   have HO : Aside0 ((Kd.int .u8).R 5 (w6.alloc (.cells #[] 5)) w.heap.size (fun _ => True) (.slice (some ⟨w6.heap.size, 0, none⟩) 0 0) []) := ⟨Kd.R_of_own ho0 (fun _ _ => trivial)⟩
                   have HC6 := Aside0.mk (Kd.C_below HT.out.2.1 (HB6.out.alloc HB6.out.size (.cells #[] 5)))
                   have HR6 : Aside0 (Kd.R k41 41 (w6.alloc (.cells #[] 5)) w.heap.size (fun _ => True) (.slice Av done.length cv) done) := ⟨Kd.R_alloc (Kd.R_below HRd.out hb6) _⟩
                   clear ho0 hb6)
                | (at_builtin; refine Kd.R_append_row (w0 := w) (Value.int .u8) (0 : Int) (h1 := fun _ => rfl) w.heap.size rfl (.tmp 55) (.tmp 56) 29 5 (.int .u8 0) 1 rfl Try.underlying29 dryrotref07_Decode.info rfl (by decide) _ [] bs _ bs.length _ (fun _ => True) rfl rfl (fun _ _ => trivial) HO.out HC6.out (HB6.out.alloc HB6.out.size _) (Nat.le_trans HB6.out.size (by simp)) ?_ ?_))
              · simpa using hbs
              · intro v1 w7 hR7 hB7 hg7 _
                have HR7 := Aside0.mk hR7
                have HB7 := Aside0.mk hB7
                have HR8 := Aside0.mk (Kd.R_grown1 HR6.out rfl hg7 (fun he => Nat.lt_irrefl _ (hlt6 _ he.symm)))
                clear hR7 hB7 hg7
                go_wp2
                go_ret3
                obtain ⟨e1, e2, e3⟩ := HE.out
                subst e1 e2 e3
                exact ⟨_, _, rfl, HR8.out, HR7.out, HB7.out⟩
  · rw [if_neg hok] at h
    cases h

end Go.Proofs.Ytdbbfhmcbogknaa.PAll
