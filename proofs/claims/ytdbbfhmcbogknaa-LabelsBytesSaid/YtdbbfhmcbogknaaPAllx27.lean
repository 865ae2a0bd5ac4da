-- Written by a program of this seat (wip/tools), out of the translation. Not trusted: Lean checks it.
import Derived.Test.YtdbbfhmcbogknaaPAllx0
import Derived.Test.YtdbbfhmcbogknaaPAllx23
namespace Go.Proofs.Ytdbbfhmcbogknaa.PAll
open Go.RowKit Go.Proofs.YtdbbfhmcbogknaaW.PrintWords Go.Proofs.YtdbbfhmcbogknaaW.PrintLast Go.Proofs.YtdbbfhmcbogknaaW.PrintMore
attribute [local go_sem] max2_int min2_int max_two min_two max_three min_three max_four min_four   -- for this text's walks alone
set_option linter.unusedVariables false
set_option linter.unusedSimpArgs false

/-! ### dryrotref07_Encode: function 19 -/
-- uses dryrotref07_Can
def dryrotref07_Encode.piece (s : ByteArray) : List Int := (s.size : Int) % 256 :: bytesOf s
def dryrotref07_Encode.pieces (x : S41) : List Int := dryrotref07_Encode.piece x.f0 ++ dryrotref07_Encode.piece x.f1
def dryrotref07_Encode.enc (l : List S41) : List Int := (l.length : Int) % 256 :: l.flatMap dryrotref07_Encode.pieces
def dryrotref07_Encode.f (k : Nat) (l0 : List S41) : Option (List Int × Int) := (dryrotref07_Can.f k l0).bind fun b => if b = true then (if (dryrotref07_Encode.enc l0).length ≤ 140737488355328 then some (dryrotref07_Encode.enc l0, 0) else none) else some ([], 1)
theorem dryrotref07_Encode.mono : ∀ a0 k, LeO (dryrotref07_Encode.f k a0) (dryrotref07_Encode.f (k + 1) a0) := by
  intro a0 k
  exact LeO.bind (dryrotref07_Can.mono _ _) (fun _ => LeO.refl _)
theorem dryrotref07_Encode.info : (Try.prog.info? 5).map (fun i => (i.zero, i.size, i.bytes)) = some (some (.int .u8 0), 1, 1) := by kernel_rfl
theorem dryrotref07_Encode.own_len {w : World} {base n : Nat} {v : Value} {xs ys : List Int} (h : w.ownsRow base 5 1 v n (nums .u8 ys)) (hn : n = xs.length) (hy : ys = xs) : Kd.R (Kd.int .u8) 5 w base (fun _ => True) v xs := by
  subst hn hy
  exact Kd.R_of_own h (fun _ _ => trivial)
theorem dryrotref07_Encode.append_str_step {P : Program} {ops : Array Oper} {o : Oper} {a : Act} {Q : Exit → Act → World → Prop} {Kc : Act → World → Prop} {w0 W : World} (base : Nat) {N : Option Tmp} (hd : o.dst = N) (hw : Region.wanted o (yielded ops a.tmps) = true) (s x : Operand) (t u e : TypeId)
    (ho : o.op = .call { callee := .builtin .append, args := #[s, x], argTypes := #[t, u] })
    (ht : P.underlying t = some (.slice e)) (hu : P.underlying u = some .string) (hinfo : (P.info? e).map (fun i => (i.zero, i.size, i.bytes)) = some (some (.int .u8 0), 1, 1))
    (v : Value) (xs : List Int) (y : ByteArray) (hs : a.eval s = v) (hx : a.eval x = .string y)
    (HO : Kd.R (Kd.int .u8) e W base (fun _ => True) v xs) (HB : Below base w0 W) (hbase : base ≤ W.heap.size) (hl : xs.length + y.size ≤ 140737488355328)
    (h : ∀ v1 w1, Kd.R (Kd.int .u8) e w1 base (fun _ => True) v1 (xs ++ bytesOf y) → Below base w0 w1 → W.grownBy w1 v.ownBlock → Kc (a.put N v1) w1) :
    if Region.wanted o (yielded ops a.tmps) = true then Oper.wp P o a W Kc Q else Kc (a.put N undef) W := by
  subst hd
  obtain ⟨i0, hi, hzz⟩ := Option.map_eq_some_iff.1 hinfo
  simp only [Prod.mk.injEq] at hzz
  obtain ⟨hz0, hz1, hz2⟩ := hzz
  have HO' : W.ownsRow base e 1 v xs.length (nums .u8 xs) := Kd.own_of_R HO
  obtain ⟨v', w', hr, h2, h3, _⟩ := Lib.run_append_own_string (P := P) W base t u o.type e i0 ht hu hi hz0 hz1 hz2 v xs.length (nums .u8 xs) HO' y (by simp only [maxLen]; omega) hl hbase
  rw [if_pos hw]
  unfold Oper.wp execOp
  simp only [ho, resolve, invoke, builtin, Sem.run_bind, Sem.run_pure, Result.andThen_ok, List.map_toArray, List.map_cons, List.map_nil, hs, hx, hr]
  refine h v' w' ?_ (HB.grown h3 hbase (own_base HO')) h3
  have hc : nums .u8 (xs ++ bytesOf y) = nums .u8 xs ++ Lib.strCells y := by
    rw [nums_append]
    congr 1
    simp [nums, bytesOf, Lib.strCells]
  have h4 : w'.ownsRow base e 1 v' (xs ++ bytesOf y).length (nums .u8 (xs ++ bytesOf y)) := by
    rw [hc, List.length_append, bytesOf_length]
    exact h2
  exact Kd.R_of_own h4 (fun _ _ => trivial)
theorem dryrotref07_Encode.take_more (l0 : List S41) (x : Nat) (h : x < l0.length) : l0.take (x + 1) = l0.take x ++ [rd_T41 l0 x] := by
  rw [List.take_succ_eq_append_getElem h]
  simp [rd_T41, List.getD_eq_getElem?_getD, h]
theorem dryrotref07_Encode.enc_len (l0 : List S41) (x : Nat) (h : x < l0.length) : ((l0.length : Int) % 256 :: (l0.take x).flatMap dryrotref07_Encode.pieces).length + 2 + (rd_T41 l0 x).f0.size + (rd_T41 l0 x).f1.size ≤ (dryrotref07_Encode.enc l0).length := by
  have h1 : l0 = l0.take x ++ rd_T41 l0 x :: l0.drop (x + 1) := by
    conv => lhs; rw [← List.take_append_drop x l0, List.drop_eq_getElem_cons h]
    simp [rd_T41, List.getD_eq_getElem?_getD, h]
  have h2 : (l0.flatMap dryrotref07_Encode.pieces).length = ((l0.take x).flatMap dryrotref07_Encode.pieces).length + ((dryrotref07_Encode.pieces (rd_T41 l0 x)).length + ((l0.drop (x + 1)).flatMap dryrotref07_Encode.pieces).length) := by
    conv => lhs; rw [h1]
    rw [List.flatMap_append, List.flatMap_cons, List.length_append, List.length_append]
  simp only [dryrotref07_Encode.enc, List.length_cons]
  rw [h2]
  simp only [dryrotref07_Encode.pieces, dryrotref07_Encode.piece, List.length_append, List.length_cons, bytesOf_length]
  omega
set_option maxHeartbeats 8000000 in
set_option maxRecDepth 100000 in
theorem dryrotref07_Encode.calls (k : Nat) (A0 : Option Addr) (c0 : Nat) (l0 : List (S41)) (r1 : List Int) (r2 : Int) (w : World) (hr0 : Kd.C k41 w A0 l0.length l0) (hc0 : l0.length ≤ c0) (h : dryrotref07_Encode.f k l0 = some (r1, r2)) :
    Calls Try.prog 19 #[.slice A0 l0.length c0] w fun e w' => ∃ v0_ : Value, e = .returned (.tuple #[v0_, .int .i64 r2]) ∧ Kd.R (Kd.int .u8) 5 w' w.heap.size (fun _ => True) v0_ r1 ∧ Below w.heap.size w w' := by
  have hm0 := hr0.2.1
  obtain ⟨b, hb, h2⟩ := Option.bind_eq_some_iff.1 h
  have HBc := Aside0.mk hb
  clear hb h
  have HR0 := Aside0.mk hr0
  have HC0 := Aside0.mk hc0
  clear hr0 hc0
  have hu41 := Try.underlying41
  cases b with
  | false =>
    obtain ⟨e1, e2⟩ := Prod.mk.inj (Option.some.inj (by simpa using h2))
    subst e1 e2
    clear h2
    go_enter Try.func19, Try.ntmps19
    go_wp2_with (go_at_call 16; (with_reducible refine (dryrotref07_Can.calls k _ _ l0 false _ HR0.out HC0.out HBc.out).mono ?_); rintro e w1 ⟨rfl, hb1⟩)
    go_ret2
    exact ⟨_, rfl, Kd.R_nil _ _ _ _ _, hb1⟩
  | true =>
    have h3 : (if (dryrotref07_Encode.enc l0).length ≤ 140737488355328 then some (dryrotref07_Encode.enc l0, (0 : Int)) else none) = some (r1, r2) := by simpa using h2
    clear h2
    by_cases hlim : (dryrotref07_Encode.enc l0).length ≤ 140737488355328
    · rw [if_pos hlim] at h3
      obtain ⟨e1, e2⟩ := Prod.mk.inj (Option.some.inj h3)
      subst e1 e2
      clear h3
      have HL := Aside0.mk hlim
      clear hlim
      go_enter Try.func19, Try.ntmps19
      go_wp2_with (go_at_call 16; (with_reducible refine (dryrotref07_Can.calls k _ _ l0 true _ HR0.out HC0.out HBc.out).mono ?_); rintro e w1 ⟨rfl, hb1⟩)
      have HB := Aside0.mk hb1
      clear hb1
      have HR1 : Aside0 (Kd.R (Kd.int .u8) 5 (w1.alloc (.cells #[.int .u8 ((l0.length : Int) % 256)] 5)) w.heap.size (fun _ => True) (.slice (some ⟨w1.heap.size, 0, none⟩) 1 1) [(l0.length : Int) % 256]) := ⟨dryrotref07_Encode.own_len (own_lit w1 w.heap.size 5 .u8 [(l0.length : Int) % 256] HB.out.size (by simp)) rfl rfl⟩
      go_loopg [4, 16] (l0.length) (fun kq v4 v16 wr => ∃ (x : Nat), x ≤ l0.length ∧ v16 = .int .i64 x ∧ Aside0 (Kd.R (Kd.int .u8) 5 wr w.heap.size (fun _ => True) v4 ((l0.length : Int) % 256 :: (l0.take x).flatMap dryrotref07_Encode.pieces)) ∧ l0.length ≤ kq + x ∧ Aside0 (Below w.heap.size w wr))
      case atStart => exact ⟨0, by omega, rfl, HR1, by omega, ⟨below_alloc HB.out _⟩⟩
      case round =>
        obtain ⟨x, hx, rfl, HR, hk, HBx⟩ := hrel
        by_cases hlt : x < l0.length
        · obtain ⟨ad, e, hc0, hc1⟩ := at_T41 HR0.out (x : Int) (by omega) (by omega)
          subst e
          have hd0 : wr.cell? (ad.add (x * 2)) = some (.string (rd_T41 l0 x).f0) := (HBx.out.cell (World.block_lt_of_cell? w _ (by simpa using hc0))).trans (by simpa using hc0)
          have hd1 : wr.cell? ⟨(ad.add (x * 2)).block, (ad.add (x * 2)).off + 1, none⟩ = some (.string (rd_T41 l0 x).f1) := (HBx.out.cell (World.block_lt_of_cell? w _ (by simpa using hc1))).trans (by simpa using hc1)
          clear hc0 hc1
          obtain ⟨g1, rfl⟩ : ∃ g1, gk = g1 + 1 := ⟨gk - 1, by omega⟩
          obtain ⟨pre, hpre⟩ : ∃ pre : List Int, pre = (l0.length : Int) % 256 :: (l0.take x).flatMap dryrotref07_Encode.pieces := ⟨_, rfl⟩
          have hnext : Aside0 (pre ++ [((rd_T41 l0 x).f0.size : Int) % 256] ++ bytesOf (rd_T41 l0 x).f0 ++ [((rd_T41 l0 x).f1.size : Int) % 256] ++ bytesOf (rd_T41 l0 x).f1 = (l0.length : Int) % 256 :: (l0.take (x + 1)).flatMap dryrotref07_Encode.pieces) := ⟨by
            rw [hpre, dryrotref07_Encode.take_more l0 x hlt]
            simp [dryrotref07_Encode.pieces, dryrotref07_Encode.piece]⟩
          have hlen : pre.length + 2 + (rd_T41 l0 x).f0.size + (rd_T41 l0 x).f1.size ≤ 140737488355328 := by
            have h1 := HL.out
            have h2 := dryrotref07_Encode.enc_len l0 x hlt
            rw [hpre]
            omega
          rw [← hpre] at HR
          clear hpre
          generalize (rd_T41 l0 x).f0 = s0 at hd0 hnext hlen
          generalize (rd_T41 l0 x).f1 = s1 at hd1 hnext hlen
          go_wp2_with ((with_reducible refine gate_dst (N := 6) rfl ?_); refine box_event ?hg (N := 6) ?hd (cs := #[.string (⟨#[]⟩ : ByteArray), .string (⟨#[]⟩ : ByteArray)]) (t := 41) ?hr ?_; (case hd => rfl); (case hg => rfl); (case hr => first | (go_simp; done) | (go_simp; rfl)); intro gb hgb w14 hbox hb
                       have hcz0 : w14.cell? ⟨gb, 0, none⟩ = some (.string (⟨#[]⟩ : ByteArray)) := (blk_cell hbox 0).trans rfl
                       have hcz1 : w14.cell? ⟨gb, 1, none⟩ = some (.string (⟨#[]⟩ : ByteArray)) := (blk_cell hbox 1).trans rfl
                       have hfz0 := blk_frozen hbox 0
                       have hfz1 := blk_frozen hbox 1
                       have HBX := Aside0.mk hbox
                       have HBB := Aside0.mk hb
                       have HGB := Aside0.mk hgb
                       clear hbox hb hgb)
          -- REGIONS
          have HBK7 : Aside0 (((w14.setCell ⟨gb, 0, none⟩ (.string s0)).setCell ⟨gb, 1, none⟩ (.string s1)).heap[gb]? = some (.cells #[.string s0, .string s1] 41 (0, 0))) := ⟨blk_put (blk_put HBX.out 0 _ rfl) 1 _ rfl⟩
          have hge : w.heap.size ≤ gb := by rw [HGB.out]; exact HBx.out.size
          have HB7 : Aside0 (Below w.heap.size w ((w14.setCell ⟨gb, 0, none⟩ (.string s0)).setCell ⟨gb, 1, none⟩ (.string s1))) := ⟨below_set (below_set (below_step HBx.out HBB.out) hge) hge⟩
          have HR7 : Aside0 (Kd.R (Kd.int .u8) 5 ((w14.setCell ⟨gb, 0, none⟩ (.string s0)).setCell ⟨gb, 1, none⟩ (.string s1)) w.heap.size (fun _ => True) u4 pre) := ⟨Kd.R_set (Kd.R_set (Kd.R_below HR.out HBB.out) HBX.out (by intro q hq; simp [Kd.int, Kd.scalar] at hq; omega) 0 _) (blk_put HBX.out 0 _ rfl) (by intro q hq; simp [Kd.int, Kd.scalar] at hq; omega) 1 _⟩
          obtain ⟨wx, hwx⟩ : ∃ wx, Aside0 ((w14.setCell ⟨gb, 0, none⟩ (.string s0)).setCell ⟨gb, 1, none⟩ (.string s1) = wx) := ⟨_, ⟨rfl⟩⟩
          rw [hwx.out] at HBK7 HB7 HR7
          rw [hwx.out]
          clear HR HBx HBB HBX HGB hcz0 hcz1 hfz0 hfz1 hwx
          refine start_ (n := 11) (S := fun w' => w'.heap[gb]? = some (.cells #[.string s0, .string s1] 41 (0, 0))) (ds := []) #[false, false, false, false, false, false, false, false, false, false, false] (by kernel_rfl) rfl rfl (blk_drew HBK7.out) (fun hHeld => ?_)
          refine pure_ (i := 0) (N := some 20) (v := ?_) (a' := ?_) #[true, false, false, false, false, false, false, false, false, false, false] rfl rfl (by kernel_rfl) (fun _ _ _ h => h) (Or.inl ⟨by rfl, ?_⟩) ?_ ?_
          rotate_left
          · intro w'
            go_simp
            with_reducible rfl
          rotate_left
          · simp only [Act.put, List.setIfInBounds_toArray, List.set_cons_zero, List.set_cons_succ, i64_w, i32_w]
            rfl
          refine pure_ (i := 1) (N := some 21) (v := ?_) (a' := ?_) #[true, true, false, false, false, false, false, false, false, false, false] rfl rfl (by kernel_rfl) (fun _ _ _ h => h) (Or.inl ⟨by rfl, ?_⟩) ?_ ?_
          rotate_left
          · intro w'
            go_simp
            with_reducible rfl
          rotate_left
          · simp only [Act.put, List.setIfInBounds_toArray, List.set_cons_zero, List.set_cons_succ, i64_w, i32_w]
            rfl
          refine pure_ (i := 7) (N := some 27) (v := ?_) (a' := ?_) #[true, true, false, false, false, false, false, true, false, false, false] rfl rfl (by kernel_rfl) (fun _ _ _ h => h) (Or.inl ⟨by rfl, ?_⟩) ?_ ?_
          rotate_left
          · intro w'
            go_simp
            with_reducible rfl
          rotate_left
          · simp only [Act.put, List.setIfInBounds_toArray, List.set_cons_zero, List.set_cons_succ, i64_w, i32_w]
            rfl
          refine take_ (i := 2) (N := some 22) (v := ?_) (a' := ?_) #[true, true, true, false, false, false, false, true, false, false, false] rfl rfl (by kernel_rfl) (fun _ _ _ h => h) (Or.inl ⟨by rfl, ?_⟩) hHeld ?_ ?_
          rotate_left
          · rintro w' hS'
            have hcell : w'.cell? ⟨gb, 0, none⟩ = some (.string s0) := (blk_cell hS' 0).trans rfl
            go_simp
            with_reducible rfl
          rotate_left
          · simp only [Act.put, List.setIfInBounds_toArray, List.set_cons_zero, List.set_cons_succ, i64_w, i32_w]
            rfl
          refine take_ (i := 8) (N := some 28) (v := ?_) (a' := ?_) #[true, true, true, false, false, false, false, true, true, false, false] rfl rfl (by kernel_rfl) (fun _ _ _ h => h) (Or.inl ⟨by rfl, ?_⟩) hHeld ?_ ?_
          rotate_left
          · rintro w' hS'
            have hcell : w'.cell? ⟨gb, 0, none⟩ = some (.string s0) := (blk_cell hS' 0).trans rfl
            go_simp
            with_reducible rfl
          rotate_left
          · simp only [Act.put, List.setIfInBounds_toArray, List.set_cons_zero, List.set_cons_succ, i64_w, i32_w]
            rfl
          refine pure_ (i := 3) (N := some 23) (v := ?_) (a' := ?_) #[true, true, true, true, false, false, false, true, true, false, false] rfl rfl (by kernel_rfl) (fun _ _ _ h => h) (Or.inl ⟨by rfl, ?_⟩) ?_ ?_
          rotate_left
          · intro w'
            go_simp
            with_reducible rfl
          rotate_left
          · simp only [Act.put, List.setIfInBounds_toArray, List.set_cons_zero, List.set_cons_succ, i64_w, i32_w]
            rfl
          refine pure_ (i := 4) (N := some 24) (v := ?_) (a' := ?_) #[true, true, true, true, true, false, false, true, true, false, false] rfl rfl (by kernel_rfl) (fun _ _ _ h => h) (Or.inl ⟨by rfl, ?_⟩) ?_ ?_
          rotate_left
          · intro w'
            go_simp
            with_reducible rfl
          rotate_left
          · simp only [Act.put, List.setIfInBounds_toArray, List.set_cons_zero, List.set_cons_succ, i64_w, i32_w]
            rfl
          refine one_ (i := 5) (N := some 25) #[true, true, true, true, true, true, false, true, true, false, false] rfl rfl (by kernel_rfl) (by decide) (fun K hK => ?_)
          refine value_ (w1 := wx.drew.alloc (.cells #[.int .u8 ((s0.size : Int) % 256)] 5)) (v := .slice (some ⟨wx.drew.heap.size, 0, none⟩) 1 1) (by rfl) rfl ?_ ?_
          · go_simp
            rfl
          refine hK.out _ _ (blk_alloc (blk_drew HBK7.out) _) (fun hHeld => ?_)
          simp only [Act.put, List.setIfInBounds_toArray, List.set_cons_zero, List.set_cons_succ, i64_w, i32_w]
          clear hK hHeld K
          refine one_ (i := 6) (N := some 26) #[true, true, true, true, true, true, true, true, true, false, false] rfl rfl (by kernel_rfl) (by decide) (fun K hK => ?_)
          refine Kd.R_append_step (Kd.int .u8) (w0 := w) (W := wx.drew) w.heap.size (by rfl) (.tmp 20) (.tmp 25) 29 5 (.int .u8 0) 1 rfl Try.underlying29 dryrotref07_Encode.info rfl (by decide) (by decide) _ pre ((s0.size : Int) % 256) [.int .u8 ((s0.size : Int) % 256)] (fun _ => True) (fun _ => False) rfl rfl rfl (fun _ h => h.elim) (fun _ _ => trivial) (Kd.R_drew HR7.out) (below_drew1 HB7.out) HB7.out.size ?_ ?_
          · (try simp only [List.length_append, List.length_cons, List.length_nil, bytesOf_length])
            omega
          intro v1a w1a hRa hBa hga _
          have HK1a : Aside0 (w1a.heap[gb]? = some (.cells #[.string s0, .string s1] 41 (0, 0))) := ⟨blk_grown (blk_drew HBK7.out) hga (Kd.R_ne (Kd.R_drew HR7.out) (blk_drew HBK7.out) (by decide))⟩
          have HR1a := Aside0.mk hRa
          have HB1a := Aside0.mk hBa
          clear hRa hBa hga
          refine hK.out (Act.put _ (some 26) v1a) _ HK1a.out (fun hHeld => ?_)
          simp only [Act.put, List.setIfInBounds_toArray, List.set_cons_zero, List.set_cons_succ, i64_w, i32_w]
          clear hK hHeld K
          refine one_ (i := 9) (N := some 29) #[true, true, true, true, true, true, true, true, true, true, false] rfl rfl (by kernel_rfl) (by decide) (fun K hK => ?_)
          refine dryrotref07_Encode.append_str_step (w0 := w) w.heap.size (N := some 29) rfl (by rfl) (.tmp 26) (.tmp 28) 29 9 5 rfl Try.underlying29 Try.underlying9 dryrotref07_Encode.info _ (pre ++ [(s0.size : Int) % 256]) s0 rfl rfl HR1a.out HB1a.out HB1a.out.size ?_ ?_
          · (try simp only [List.length_append, List.length_cons, List.length_nil, bytesOf_length])
            omega
          intro v1b w1b hRb hBb hgb
          have HK1b : Aside0 (w1b.heap[gb]? = some (.cells #[.string s0, .string s1] 41 (0, 0))) := ⟨blk_grown HK1a.out hgb (Kd.R_ne HR1a.out HK1a.out (by decide))⟩
          have HR1b := Aside0.mk hRb
          have HB1b := Aside0.mk hBb
          clear hRb hBb hgb
          refine hK.out _ _ HK1b.out (fun hHeld => ?_)
          simp only [Act.put, List.setIfInBounds_toArray, List.set_cons_zero, List.set_cons_succ, i64_w, i32_w]
          clear hK hHeld K
          refine pure_ (i := 10) (N := some 4) (v := ?_) (a' := ?_) #[true, true, true, true, true, true, true, true, true, true, true] rfl rfl (by kernel_rfl) (fun _ _ _ h => h) (Or.inl ⟨by rfl, ?_⟩) ?_ ?_
          rotate_left
          · intro w'
            go_simp
            with_reducible rfl
          rotate_left
          · simp only [Act.put, List.setIfInBounds_toArray, List.set_cons_zero, List.set_cons_succ, i64_w, i32_w]
            rfl
          refine done_ (by kernel_rfl) ?_
          go_wp2
          refine start_ (n := 11) (S := fun w' => w'.heap[gb]? = some (.cells #[.string s0, .string s1] 41 (0, 0))) (ds := []) #[false, false, false, false, false, false, false, false, false, false, false] (by kernel_rfl) rfl rfl (blk_drew HK1b.out) (fun hHeld => ?_)
          refine pure_ (i := 0) (N := some 30) (v := ?_) (a' := ?_) #[true, false, false, false, false, false, false, false, false, false, false] rfl rfl (by kernel_rfl) (fun _ _ _ h => h) (Or.inl ⟨by rfl, ?_⟩) ?_ ?_
          rotate_left
          · intro w'
            go_simp
            with_reducible rfl
          rotate_left
          · simp only [Act.put, List.setIfInBounds_toArray, List.set_cons_zero, List.set_cons_succ, i64_w, i32_w]
            rfl
          refine pure_ (i := 1) (N := some 31) (v := ?_) (a' := ?_) #[true, true, false, false, false, false, false, false, false, false, false] rfl rfl (by kernel_rfl) (fun _ _ _ h => h) (Or.inl ⟨by rfl, ?_⟩) ?_ ?_
          rotate_left
          · intro w'
            go_simp
            with_reducible rfl
          rotate_left
          · simp only [Act.put, List.setIfInBounds_toArray, List.set_cons_zero, List.set_cons_succ, i64_w, i32_w]
            rfl
          refine pure_ (i := 7) (N := some 37) (v := ?_) (a' := ?_) #[true, true, false, false, false, false, false, true, false, false, false] rfl rfl (by kernel_rfl) (fun _ _ _ h => h) (Or.inl ⟨by rfl, ?_⟩) ?_ ?_
          rotate_left
          · intro w'
            go_simp
            with_reducible rfl
          rotate_left
          · simp only [Act.put, List.setIfInBounds_toArray, List.set_cons_zero, List.set_cons_succ, i64_w, i32_w]
            rfl
          refine take_ (i := 2) (N := some 32) (v := ?_) (a' := ?_) #[true, true, true, false, false, false, false, true, false, false, false] rfl rfl (by kernel_rfl) (fun _ _ _ h => h) (Or.inl ⟨by rfl, ?_⟩) hHeld ?_ ?_
          rotate_left
          · rintro w' hS'
            have hcell : w'.cell? ⟨gb, 1, none⟩ = some (.string s1) := (blk_cell hS' 1).trans rfl
            go_simp
            with_reducible rfl
          rotate_left
          · simp only [Act.put, List.setIfInBounds_toArray, List.set_cons_zero, List.set_cons_succ, i64_w, i32_w]
            rfl
          refine take_ (i := 8) (N := some 38) (v := ?_) (a' := ?_) #[true, true, true, false, false, false, false, true, true, false, false] rfl rfl (by kernel_rfl) (fun _ _ _ h => h) (Or.inl ⟨by rfl, ?_⟩) hHeld ?_ ?_
          rotate_left
          · rintro w' hS'
            have hcell : w'.cell? ⟨gb, 1, none⟩ = some (.string s1) := (blk_cell hS' 1).trans rfl
            go_simp
            with_reducible rfl
          rotate_left
          · simp only [Act.put, List.setIfInBounds_toArray, List.set_cons_zero, List.set_cons_succ, i64_w, i32_w]
            rfl
          refine pure_ (i := 3) (N := some 33) (v := ?_) (a' := ?_) #[true, true, true, true, false, false, false, true, true, false, false] rfl rfl (by kernel_rfl) (fun _ _ _ h => h) (Or.inl ⟨by rfl, ?_⟩) ?_ ?_
          rotate_left
          · intro w'
            go_simp
            with_reducible rfl
          rotate_left
          · simp only [Act.put, List.setIfInBounds_toArray, List.set_cons_zero, List.set_cons_succ, i64_w, i32_w]
            rfl
          refine pure_ (i := 4) (N := some 34) (v := ?_) (a' := ?_) #[true, true, true, true, true, false, false, true, true, false, false] rfl rfl (by kernel_rfl) (fun _ _ _ h => h) (Or.inl ⟨by rfl, ?_⟩) ?_ ?_
          rotate_left
          · intro w'
            go_simp
            with_reducible rfl
          rotate_left
          · simp only [Act.put, List.setIfInBounds_toArray, List.set_cons_zero, List.set_cons_succ, i64_w, i32_w]
            rfl
          refine one_ (i := 5) (N := some 35) #[true, true, true, true, true, true, false, true, true, false, false] rfl rfl (by kernel_rfl) (by decide) (fun K hK => ?_)
          refine value_ (w1 := w1b.drew.alloc (.cells #[.int .u8 ((s1.size : Int) % 256)] 5)) (v := .slice (some ⟨w1b.drew.heap.size, 0, none⟩) 1 1) (by rfl) rfl ?_ ?_
          · go_simp
            rfl
          refine hK.out _ _ (blk_alloc (blk_drew HK1b.out) _) (fun hHeld => ?_)
          simp only [Act.put, List.setIfInBounds_toArray, List.set_cons_zero, List.set_cons_succ, i64_w, i32_w]
          clear hK hHeld K
          refine one_ (i := 6) (N := some 36) #[true, true, true, true, true, true, true, true, true, false, false] rfl rfl (by kernel_rfl) (by decide) (fun K hK => ?_)
          refine Kd.R_append_step (Kd.int .u8) (w0 := w) (W := w1b.drew) w.heap.size (by rfl) (.tmp 30) (.tmp 35) 29 5 (.int .u8 0) 1 rfl Try.underlying29 dryrotref07_Encode.info rfl (by decide) (by decide) _ (pre ++ [(s0.size : Int) % 256] ++ bytesOf s0) ((s1.size : Int) % 256) [.int .u8 ((s1.size : Int) % 256)] (fun _ => True) (fun _ => False) rfl rfl rfl (fun _ h => h.elim) (fun _ _ => trivial) (Kd.R_drew HR1b.out) (below_drew1 HB1b.out) HB1b.out.size ?_ ?_
          · (try simp only [List.length_append, List.length_cons, List.length_nil, bytesOf_length])
            omega
          intro v2a w2a hRa hBa hga _
          have HK2a : Aside0 (w2a.heap[gb]? = some (.cells #[.string s0, .string s1] 41 (0, 0))) := ⟨blk_grown (blk_drew HK1b.out) hga (Kd.R_ne (Kd.R_drew HR1b.out) (blk_drew HK1b.out) (by decide))⟩
          have HR2a := Aside0.mk hRa
          have HB2a := Aside0.mk hBa
          clear hRa hBa hga
          refine hK.out (Act.put _ (some 36) v2a) _ HK2a.out (fun hHeld => ?_)
          simp only [Act.put, List.setIfInBounds_toArray, List.set_cons_zero, List.set_cons_succ, i64_w, i32_w]
          clear hK hHeld K
          refine one_ (i := 9) (N := some 39) #[true, true, true, true, true, true, true, true, true, true, false] rfl rfl (by kernel_rfl) (by decide) (fun K hK => ?_)
          refine dryrotref07_Encode.append_str_step (w0 := w) w.heap.size (N := some 39) rfl (by rfl) (.tmp 36) (.tmp 38) 29 9 5 rfl Try.underlying29 Try.underlying9 dryrotref07_Encode.info _ (pre ++ [(s0.size : Int) % 256] ++ bytesOf s0 ++ [(s1.size : Int) % 256]) s1 rfl rfl HR2a.out HB2a.out HB2a.out.size ?_ ?_
          · (try simp only [List.length_append, List.length_cons, List.length_nil, bytesOf_length])
            omega
          intro v2b w2b hRb hBb hgb
          have HK2b : Aside0 (w2b.heap[gb]? = some (.cells #[.string s0, .string s1] 41 (0, 0))) := ⟨blk_grown HK2a.out hgb (Kd.R_ne HR2a.out HK2a.out (by decide))⟩
          have HR2b := Aside0.mk hRb
          have HB2b := Aside0.mk hBb
          clear hRb hBb hgb
          refine hK.out _ _ HK2b.out (fun hHeld => ?_)
          simp only [Act.put, List.setIfInBounds_toArray, List.set_cons_zero, List.set_cons_succ, i64_w, i32_w]
          clear hK hHeld K
          refine pure_ (i := 10) (N := some 4) (v := ?_) (a' := ?_) #[true, true, true, true, true, true, true, true, true, true, true] rfl rfl (by kernel_rfl) (fun _ _ _ h => h) (Or.inl ⟨by rfl, ?_⟩) ?_ ?_
          rotate_left
          · intro w'
            go_simp
            with_reducible rfl
          rotate_left
          · simp only [Act.put, List.setIfInBounds_toArray, List.set_cons_zero, List.set_cons_succ, i64_w, i32_w]
            rfl
          refine done_ (by kernel_rfl) ?_
          go_wp2
          go_roundg g1
          case rel => exact ⟨x + 1, by omega, by go_num, ⟨by rw [← hnext.out]; exact HR2b.out⟩, by omega, HB2b⟩
          case measure => omega
        · have hxe : x = l0.length := by omega
          have hfin : Aside0 ((l0.length : Int) % 256 :: (l0.take x).flatMap dryrotref07_Encode.pieces = dryrotref07_Encode.enc l0) := ⟨by rw [hxe, List.take_length]; rfl⟩
          go_wp2
          go_ret2
          exact ⟨_, rfl, by rw [← hfin.out]; exact HR.out, HBx.out⟩
    · rw [if_neg hlim] at h3
      cases h3

end Go.Proofs.Ytdbbfhmcbogknaa.PAll
