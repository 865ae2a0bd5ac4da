-- Written by a program of this seat (wip/tools), out of the translation. Not trusted: Lean checks it.
import Derived.Test.YtdbbfhmcbogknaaPAllx0
import Derived.Test.YtdbbfhmcbogknaaPAllx14
namespace Go.Proofs.Ytdbbfhmcbogknaa.PAll
open Go.RowKit Go.Proofs.YtdbbfhmcbogknaaW.PrintWords Go.Proofs.YtdbbfhmcbogknaaW.PrintLast Go.Proofs.YtdbbfhmcbogknaaW.PrintMore
attribute [local go_sem] max2_int min2_int max_two min_two max_three min_three max_four min_four   -- for this text's walks alone
set_option linter.unusedVariables false
set_option linter.unusedSimpArgs false

/-! ### labels_Encode: function 15 -/
-- uses labels_Can
def labels_Encode.piece (s : ByteArray) : List Int := (s.size : Int) % 256 :: bytesOf s
def labels_Encode.pieces (x : S41) : List Int := labels_Encode.piece x.f0 ++ labels_Encode.piece x.f1
def labels_Encode.enc (l : List S41) : List Int := (l.length : Int) % 256 :: l.flatMap labels_Encode.pieces
def labels_Encode.f (k : Nat) (l0 : List S41) : Option (List Int × Int) := (labels_Can.f k l0).bind fun b => if b = true then (if (labels_Encode.enc l0).length ≤ 140737488355328 then some (labels_Encode.enc l0, 0) else none) else some ([], 1)
theorem labels_Encode.mono : ∀ a0 k, LeO (labels_Encode.f k a0) (labels_Encode.f (k + 1) a0) := by
  intro a0 k
  exact LeO.bind (labels_Can.mono _ _) (fun _ => LeO.refl _)
theorem labels_Encode.info : (Try.prog.info? 5).map (fun i => (i.zero, i.size, i.bytes)) = some (some (.int .u8 0), 1, 1) := by kernel_rfl
theorem labels_Encode.own_len {w : World} {base n : Nat} {v : Value} {xs ys : List Int} (h : w.ownsRow base 5 1 v n (nums .u8 ys)) (hn : n = xs.length) (hy : ys = xs) : Kd.R (Kd.int .u8) 5 w base (fun _ => True) v xs := by
  subst hn hy
  exact Kd.R_of_own h (fun _ _ => trivial)
theorem labels_Encode.arr0 (s0 s1 : ByteArray) (w : World) : (Instr.index 61 (.agg #[.string s0, .string s1]) (.int .i64 0)).run Try.prog w = .ok (.string s0) w := by
  have h := run_underlying (P := Try.prog) Try.underlying61
  simp [Instr.index, h, asIntOf, go_sem]
theorem labels_Encode.arr1 (s0 s1 : ByteArray) (w : World) : (Instr.index 61 (.agg #[.string s0, .string s1]) (.int .i64 1)).run Try.prog w = .ok (.string s1) w := by
  have h := run_underlying (P := Try.prog) Try.underlying61
  simp [Instr.index, h, asIntOf, go_sem]
theorem labels_Encode.take_more (l0 : List S41) (x : Nat) (h : x < l0.length) : l0.take (x + 1) = l0.take x ++ [rd_T41 l0 x] := by
  rw [List.take_succ_eq_append_getElem h]
  simp [rd_T41, List.getD_eq_getElem?_getD, h]
theorem labels_Encode.enc_len (l0 : List S41) (x : Nat) (h : x < l0.length) : ((l0.length : Int) % 256 :: (l0.take x).flatMap labels_Encode.pieces).length + 2 + (rd_T41 l0 x).f0.size + (rd_T41 l0 x).f1.size ≤ (labels_Encode.enc l0).length := by
  have h1 : l0 = l0.take x ++ rd_T41 l0 x :: l0.drop (x + 1) := by
    conv => lhs; rw [← List.take_append_drop x l0, List.drop_eq_getElem_cons h]
    simp [rd_T41, List.getD_eq_getElem?_getD, h]
  have h2 : (l0.flatMap labels_Encode.pieces).length = ((l0.take x).flatMap labels_Encode.pieces).length + ((labels_Encode.pieces (rd_T41 l0 x)).length + ((l0.drop (x + 1)).flatMap labels_Encode.pieces).length) := by
    conv => lhs; rw [h1]
    rw [List.flatMap_append, List.flatMap_cons, List.length_append, List.length_append]
  simp only [labels_Encode.enc, List.length_cons]
  rw [h2]
  simp only [labels_Encode.pieces, labels_Encode.piece, List.length_append, List.length_cons, bytesOf_length]
  omega
set_option maxHeartbeats 8000000 in
set_option maxRecDepth 100000 in
theorem labels_Encode.calls (k : Nat) (A0 : Option Addr) (c0 : Nat) (l0 : List (S41)) (r1 : List Int) (r2 : Int) (w : World) (hr0 : Kd.C k41 w A0 l0.length l0) (hc0 : l0.length ≤ c0) (h : labels_Encode.f k l0 = some (r1, r2)) :
    Calls Try.prog 15 #[.slice A0 l0.length c0] w fun e w' => ∃ v0_ : Value, e = .returned (.tuple #[v0_, .int .i64 r2]) ∧ Kd.R (Kd.int .u8) 5 w' w.heap.size (fun _ => True) v0_ r1 ∧ Below w.heap.size w w' := by
  have hm0 := hr0.2.1
  obtain ⟨b, hb, h2⟩ := Option.bind_eq_some_iff.1 h
  have HBc := Aside0.mk hb
  clear hb h
  have HR0 := Aside0.mk hr0
  have HC0 := Aside0.mk hc0
  clear hr0 hc0
  have hu41 := Try.underlying41
  cases b with
  | false =>
    obtain ⟨e1, e2⟩ := Prod.mk.inj (Option.some.inj (by simpa using h2))
    subst e1 e2
    clear h2
    go_enter Try.func15, Try.ntmps15
    go_wp2_with (go_at_call 23; (with_reducible refine (labels_Can.calls k _ _ l0 false _ HR0.out HC0.out HBc.out).mono ?_); rintro e w1 ⟨rfl, hb1⟩)
    go_ret2
    exact ⟨_, rfl, Kd.R_nil _ _ _ _ _, hb1⟩
  | true =>
    have h3 : (if (labels_Encode.enc l0).length ≤ 140737488355328 then some (labels_Encode.enc l0, (0 : Int)) else none) = some (r1, r2) := by simpa using h2
    clear h2
    by_cases hlim : (labels_Encode.enc l0).length ≤ 140737488355328
    · rw [if_pos hlim] at h3
      obtain ⟨e1, e2⟩ := Prod.mk.inj (Option.some.inj h3)
      subst e1 e2
      clear h3
      have HL := Aside0.mk hlim
      clear hlim
      go_enter Try.func15, Try.ntmps15
      go_wp2_with (go_at_call 23; (with_reducible refine (labels_Can.calls k _ _ l0 true _ HR0.out HC0.out HBc.out).mono ?_); rintro e w1 ⟨rfl, hb1⟩)
      have HB := Aside0.mk hb1
      clear hb1
      have HR1 : Aside0 (Kd.R (Kd.int .u8) 5 (w1.alloc (.cells #[.int .u8 ((l0.length : Int) % 256)] 5)) w.heap.size (fun _ => True) (.slice (some ⟨w1.heap.size, 0, none⟩) 1 1) [(l0.length : Int) % 256]) := ⟨labels_Encode.own_len (own_lit w1 w.heap.size 5 .u8 [(l0.length : Int) % 256] HB.out.size (by simp)) rfl rfl⟩
      go_loopg [4, 18] (l0.length) (fun kq v4 v18 wr => ∃ (x : Nat), x ≤ l0.length ∧ v18 = .int .i64 x ∧ Aside0 (Kd.R (Kd.int .u8) 5 wr w.heap.size (fun _ => True) v4 ((l0.length : Int) % 256 :: (l0.take x).flatMap labels_Encode.pieces)) ∧ l0.length ≤ kq + x ∧ Aside0 (Below w.heap.size w wr))
      case atStart => exact ⟨0, by omega, rfl, HR1, by omega, ⟨below_alloc HB.out _⟩⟩
      case round =>
        obtain ⟨x, hx, rfl, HR, hk, HBx⟩ := hrel
        by_cases hlt : x < l0.length
        · obtain ⟨ad, e, hc0, hc1⟩ := at_T41 HR0.out (x : Int) (by omega) (by omega)
          subst e
          have hd0 : wr.cell? (ad.add (x * 2)) = some (.string (rd_T41 l0 x).f0) := (HBx.out.cell (World.block_lt_of_cell? w _ (by simpa using hc0))).trans (by simpa using hc0)
          have hd1 : wr.cell? ⟨(ad.add (x * 2)).block, (ad.add (x * 2)).off + 1, none⟩ = some (.string (rd_T41 l0 x).f1) := (HBx.out.cell (World.block_lt_of_cell? w _ (by simpa using hc1))).trans (by simpa using hc1)
          clear hc0 hc1
          obtain ⟨g1, rfl⟩ : ∃ g1, gk = g1 + 1 := ⟨gk - 1, by omega⟩
          obtain ⟨pre, hpre⟩ : ∃ pre : List Int, pre = (l0.length : Int) % 256 :: (l0.take x).flatMap labels_Encode.pieces := ⟨_, rfl⟩
          have hnext : Aside0 (pre ++ [((rd_T41 l0 x).f0.size : Int) % 256] ++ bytesOf (rd_T41 l0 x).f0 ++ [((rd_T41 l0 x).f1.size : Int) % 256] ++ bytesOf (rd_T41 l0 x).f1 = (l0.length : Int) % 256 :: (l0.take (x + 1)).flatMap labels_Encode.pieces) := ⟨by
            rw [hpre, labels_Encode.take_more l0 x hlt]
            simp [labels_Encode.pieces, labels_Encode.piece]⟩
          have hlen : pre.length + 2 + (rd_T41 l0 x).f0.size + (rd_T41 l0 x).f1.size ≤ 140737488355328 := by
            have h1 := HL.out
            have h2 := labels_Encode.enc_len l0 x hlt
            rw [hpre]
            omega
          rw [← hpre] at HR
          clear hpre
          generalize (rd_T41 l0 x).f0 = s0 at hd0 hnext hlen
          generalize (rd_T41 l0 x).f1 = s1 at hd1 hnext hlen
          go_wp2
          have HR1 : Aside0 (Kd.R (Kd.int .u8) 5 (wr.alloc (.cells #[.string s0, .string s1] 41)) w.heap.size (fun _ => True) u4 pre) := ⟨Kd.R_alloc HR.out _⟩
          have HB1 : Aside0 (Below w.heap.size w (wr.alloc (.cells #[.string s0, .string s1] 41))) := ⟨below_alloc HBx.out _⟩
          clear HR HBx
          obtain ⟨wx, hwx⟩ : ∃ wx, Aside0 (wr.alloc (.cells #[.string s0, .string s1] 41) = wx) := ⟨_, ⟨rfl⟩⟩
          rw [hwx.out] at HR1 HB1
          rw [hwx.out]
          refine wp_loop_rounds 3 ?_
          rw [rounds_succ]
          go_wp2
          rw [labels_Encode.arr0]
          simp only [Result.andThen]
          rw [Oper.upon_value]
          go_wp2_with (at_builtin; refine print_append_num (w0 := w) w.heap.size rfl (.tmp 30) (.tmp 34) 29 5 .u8 1 rfl Try.underlying29 labels_Encode.info (by decide) _ pre ((s0.size : Int) % 256) rfl rfl (by exact Kd.own_of_R HR1.out) (by exact HB1.out) ?_ ?_ ?_)
          · exact HB1.out.size
          · (try simp only [List.length_append, List.length_cons, List.length_nil, bytesOf_length])
            omega
          intro v1a w1a hown hBa hga hata
          have HR1a : Aside0 (Kd.R (Kd.int .u8) 5 w1a w.heap.size (fun _ => True) v1a (pre ++ [(s0.size : Int) % 256])) := ⟨by
            refine labels_Encode.own_len hown ?_ ?_
            · first | rfl | (simp only [List.length_append, List.length_cons, List.length_nil, bytesOf_length]; done) | (simp only [List.length_append, List.length_cons, List.length_nil, bytesOf_length]; omega) | (simp; omega)
            · first | rfl | simp⟩
          have HB1a := Aside0.mk hBa
          clear hown hga hata hBa
          go_wp2_with (at_builtin; refine print_append_str (w0 := w) w.heap.size rfl (.tmp 35) (.tmp 36) 29 9 5 rfl Try.underlying29 Try.underlying9 labels_Encode.info _ (pre ++ [(s0.size : Int) % 256]) s0 rfl rfl (by exact Kd.own_of_R HR1a.out) (by exact HB1a.out) ?_ ?_ ?_)
          · exact HB1a.out.size
          · (try simp only [List.length_append, List.length_cons, List.length_nil, bytesOf_length])
            omega
          intro v1b w1b hown hBa hga
          have HR1b : Aside0 (Kd.R (Kd.int .u8) 5 w1b w.heap.size (fun _ => True) v1b (pre ++ [(s0.size : Int) % 256] ++ bytesOf s0)) := ⟨by
            refine labels_Encode.own_len hown ?_ ?_
            · first | rfl | (simp only [List.length_append, List.length_cons, List.length_nil, bytesOf_length]; done) | (simp only [List.length_append, List.length_cons, List.length_nil, bytesOf_length]; omega) | (simp; omega)
            · first | rfl | simp⟩
          have HB1b := Aside0.mk hBa
          clear hown hga hBa
          go_wp2
          rw [rounds_succ]
          go_wp2
          rw [labels_Encode.arr1]
          simp only [Result.andThen]
          rw [Oper.upon_value]
          go_wp2_with (at_builtin; refine print_append_num (w0 := w) w.heap.size rfl (.tmp 30) (.tmp 34) 29 5 .u8 1 rfl Try.underlying29 labels_Encode.info (by decide) _ (pre ++ [(s0.size : Int) % 256] ++ bytesOf s0) ((s1.size : Int) % 256) rfl rfl (by exact Kd.own_of_R HR1b.out) (by exact HB1b.out) ?_ ?_ ?_)
          · exact HB1b.out.size
          · (try simp only [List.length_append, List.length_cons, List.length_nil, bytesOf_length])
            omega
          intro v2a w2a hown hBa hga hata
          have HR2a : Aside0 (Kd.R (Kd.int .u8) 5 w2a w.heap.size (fun _ => True) v2a (pre ++ [(s0.size : Int) % 256] ++ bytesOf s0 ++ [(s1.size : Int) % 256])) := ⟨by
            refine labels_Encode.own_len hown ?_ ?_
            · first | rfl | (simp only [List.length_append, List.length_cons, List.length_nil, bytesOf_length]; done) | (simp only [List.length_append, List.length_cons, List.length_nil, bytesOf_length]; omega) | (simp; omega)
            · first | rfl | simp⟩
          have HB2a := Aside0.mk hBa
          clear hown hga hata hBa
          go_wp2_with (at_builtin; refine print_append_str (w0 := w) w.heap.size rfl (.tmp 35) (.tmp 36) 29 9 5 rfl Try.underlying29 Try.underlying9 labels_Encode.info _ ((pre ++ [(s0.size : Int) % 256] ++ bytesOf s0) ++ [(s1.size : Int) % 256]) s1 rfl rfl (by exact Kd.own_of_R HR2a.out) (by exact HB2a.out) ?_ ?_ ?_)
          · exact HB2a.out.size
          · (try simp only [List.length_append, List.length_cons, List.length_nil, bytesOf_length])
            omega
          intro v2b w2b hown hBa hga
          have HR2b : Aside0 (Kd.R (Kd.int .u8) 5 w2b w.heap.size (fun _ => True) v2b (pre ++ [(s0.size : Int) % 256] ++ bytesOf s0 ++ [(s1.size : Int) % 256] ++ bytesOf s1)) := ⟨by
            refine labels_Encode.own_len hown ?_ ?_
            · first | rfl | (simp only [List.length_append, List.length_cons, List.length_nil, bytesOf_length]; done) | (simp only [List.length_append, List.length_cons, List.length_nil, bytesOf_length]; omega) | (simp; omega)
            · first | rfl | simp⟩
          have HB2b := Aside0.mk hBa
          clear hown hga hBa
          go_wp2
          rw [rounds_succ]
          go_wp2
          go_roundg g1
          case rel => exact ⟨x + 1, by omega, by go_num, ⟨by rw [← hnext.out]; exact HR2b.out⟩, by omega, HB2b⟩
          case measure => omega
        · have hxe : x = l0.length := by omega
          have hfin : Aside0 ((l0.length : Int) % 256 :: (l0.take x).flatMap labels_Encode.pieces = labels_Encode.enc l0) := ⟨by rw [hxe, List.take_length]; rfl⟩
          go_wp2
          go_ret2
          exact ⟨_, rfl, by rw [← hfin.out]; exact HR.out, HBx.out⟩
    · rw [if_neg hlim] at h3
      cases h3

end Go.Proofs.Ytdbbfhmcbogknaa.PAll
