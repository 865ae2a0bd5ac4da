/- Texts of this seat, joined in the order in which they build. -/
import Derived.Test.YtmcpeifhapekoaaGreatDoorBw2
import Derived.Test.YtmcpeifhapekoaaGreatDoorBw1
import Derived.Sort.Walk0
import Derived.Lib.Join
namespace Go.Proofs.YtmcpeifhapekoaaGreatDoor.PAll
open Go.RowKit Go.Proofs.YtmcpeifhapekoaaGreatDoorW.PrintWords Go.Proofs.YtmcpeifhapekoaaGreatDoorW.PrintLast Go.Proofs.YtmcpeifhapekoaaGreatDoorW.PrintMore
attribute [local go_sem] max2_int min2_int max_two min_two max_three min_three max_four min_four
set_option linter.unusedVariables false
set_option linter.unusedSimpArgs false
theorem uv.neg_is {n:Int} (h0:0 ≤ n) (h:n ≤ 9223372036854775808):wrap64 (IntKind.u64.wrap (-n)) = -n:=by
 unfold wrap64 IntKind.wrap
 simp only [IntKind.signed,IntKind.bits,Bool.false_and,Bool.false_eq_true,if_false]
 omega
theorem uv.pos_is {n:Int} (h0:0 ≤ n) (h:n < 9223372036854775808):wrap64 n = n:=by
 unfold wrap64
 omega
theorem uv.num_ge (base:Int) (hb:base = 10 ∨ base = 16):∀ (d:List UInt8) (m n:Int),(∀ c ∈ d,Tx.hexC c = true) → 0 ≤ m → Tx.numL base d m = some n → 0 ≤ n
 | [],m,n,_,hm,h => by
   cases Option.some.inj h
   exact hm
 | c :: d,m,n,hd,hm,h => by
   unfold Tx.numL at h
   split at h
   · refine uv.num_ge base hb d _ n (fun x hx => hd x (List.mem_cons_of_mem _ hx)) ?_ h
     have h1:=hd c (List.mem_cons_self ..)
     unfold Tx.hexC Tx.decC at h1
     simp only [Bool.or_eq_true,Bool.and_eq_true,decide_eq_true_eq] at h1
     have h2:0 ≤ Tx.digV c:=by
      unfold Tx.digV
      split <;> omega
     rcases hb with rfl | rfl <;> omega
   · cases h
theorem uv.peek_at (w0 W:World) (g:Nat) (s:List UInt8) (z:Int) (hz:ua.pk s = z) (h:ua.St w0 W g s):Calls Tryz.prog 47 #[.pointer (some ⟨g,0,none⟩)] W fun e W' => e = .returned (.int .u8 z) ∧ uy W W':=by
 subst hz
 exact ua.calls w0 W g s h
set_option maxRecDepth 100000 in
set_option maxHeartbeats 1000000 in
theorem uv.minus_ok (w0 W:World) (g:Nat) (s:List UInt8) (hl:s.length ≤ 1000) (q:List UInt8) (hs:s = 45 :: q) (n:Int) (r:List UInt8) (hv:Tx.valueD false 19 10 q = some (n,r)) (hle:n ≤ 9223372036854775808) (h:ua.St w0 W g s) :
 Calls Tryz.prog 99 #[.pointer (some ⟨g,0,none⟩)] W fun e W' => e = .returned (.int .i64 (-n)) ∧ ua.St w0 W' g r ∧ u1q W W' g none:=by
 subst hs
 have hql:q.length ≤ 1000:=by rw [List.length_cons] at hl;omega
 have HP:Aside0 (ua.pk (45 :: q) = 45):=⟨rfl⟩
 have HS:=Aside0.mk h
 clear h
 unfold Tx.valueD at hv
 obtain ⟨⟨d,r'⟩,hd,hv⟩:=Option.bind_eq_some_iff.1 hv
 obtain ⟨n',hn,hv⟩:=Option.map_eq_some_iff.1 hv
 obtain ⟨rfl,rfl⟩:=Prod.mk.inj hv
 simp only at hn
 obtain ⟨ha,hdl,hrl⟩:=u1g.dig_is hd
 have h0:=uv.num_ge 10 (Or.inl rfl) d 0 n' ha (Int.le_refl 0) hn
 have HA:=Aside0.mk ha
 have HD:=Aside0.mk hd
 have HN:=Aside0.mk hn
 have HT:Aside0 (decide (n' ≤ 9223372036854775808) = true):=⟨decide_eq_true hle⟩
 have HW:=Aside0.mk (uv.neg_is h0 hle)
 clear ha hd hn hv hle h0
 go_enter Tryz.func99,Tryz.ntmps99
 go_wp2_with (first
  | (go_at_call 47;(with_reducible refine (uv.peek_at w0 _ g (45 :: q) 45 HP.out (by exact HS.out)).mono ?_);rintro e W0 ⟨rfl,⟨nd,rfl⟩⟩)
  | (go_at_call 82;(with_reducible refine (u1n.calls_ok w0 _ g 45 q (by exact HS.out.drew nd)).mono ?_);rintro e W1 ⟨rfl,hs1,hk1⟩;have HS1:=Aside0.mk hs1;have HK1:=Aside0.mk hk1;clear hs1 hk1)
  | (go_at_call 126;(with_reducible refine (u1l.ok_at 19 19 rfl w0 _ g false q (by omega) (by omega) d r' HD.out (by exact HS1.out)).mono ?_);rintro e W2 ⟨rfl,hs2,hk2⟩;have HS2:=Aside0.mk hs2;have HK2:=Aside0.mk hk2;clear hs2 hk2)
  | (go_at_call 125;(with_reducible refine (u1a.says d 10 (by omega) (by omega) HA.out n' HN.out _).mono ?_);rintro e W3 ⟨rfl,hb3⟩;have HB3:=Aside0.mk hb3;clear hb3)
  | (go_at_call 83;(with_reducible refine (u2e.calls_yes _ HT.out _).mono ?_);rintro e W4 ⟨rfl,rfl⟩))
 go_ret
 exact ⟨by first | rfl | (rw [HW.out];rfl),HS2.out.more HB3.out,ua.keep_then (ua.keep_then (u1q.of_below (ub (Below.refl _ _) nd) g none) HK1.out) (ua.keep_then HK2.out (u1q.of_below HB3.out g none))⟩
set_option maxRecDepth 100000 in
set_option maxHeartbeats 1000000 in
theorem uv.minus_big (w0 W:World) (g:Nat) (s:List UInt8) (hl:s.length ≤ 1000) (q:List UInt8) (hs:s = 45 :: q) (n:Int) (r:List UInt8) (hv:Tx.valueD false 19 10 q = some (n,r)) (hle:¬ n ≤ 9223372036854775808) (h:ua.St w0 W g s) :
 Calls Tryz.prog 99 #[.pointer (some ⟨g,0,none⟩)] W fun e W' => e = .panicked (u2l.chain 280) ∧ Below w0.heap.size w0 W':=by
 subst hs
 have hql:q.length ≤ 1000:=by rw [List.length_cons] at hl;omega
 have HP:Aside0 (ua.pk (45 :: q) = 45):=⟨rfl⟩
 have HS:=Aside0.mk h
 clear h
 unfold Tx.valueD at hv
 obtain ⟨⟨d,r'⟩,hd,hv⟩:=Option.bind_eq_some_iff.1 hv
 obtain ⟨n',hn,hv⟩:=Option.map_eq_some_iff.1 hv
 obtain ⟨rfl,rfl⟩:=Prod.mk.inj hv
 simp only at hn
 obtain ⟨ha,hdl,hrl⟩:=u1g.dig_is hd
 have HA:=Aside0.mk ha
 have HD:=Aside0.mk hd
 have HN:=Aside0.mk hn
 have HT:Aside0 (decide (n' ≤ 9223372036854775808) = false):=⟨decide_eq_false hle⟩
 clear ha hd hn hv hle
 go_enter Tryz.func99,Tryz.ntmps99
 go_wp2_with (first
  | (go_at_call 47;(with_reducible refine (uv.peek_at w0 _ g (45 :: q) 45 HP.out (by exact HS.out)).mono ?_);rintro e W0 ⟨rfl,⟨nd,rfl⟩⟩)
  | (go_at_call 82;(with_reducible refine (u1n.calls_ok w0 _ g 45 q (by exact HS.out.drew nd)).mono ?_);rintro e W1 ⟨rfl,hs1,hk1⟩;have HS1:=Aside0.mk hs1;have HK1:=Aside0.mk hk1;clear hs1 hk1)
  | (go_at_call 126;(with_reducible refine (u1l.ok_at 19 19 rfl w0 _ g false q (by omega) (by omega) d r' HD.out (by exact HS1.out)).mono ?_);rintro e W2 ⟨rfl,hs2,hk2⟩;have HS2:=Aside0.mk hs2;have HK2:=Aside0.mk hk2;clear hs2 hk2)
  | (go_at_call 125;(with_reducible refine (u1a.says d 10 (by omega) (by omega) HA.out n' HN.out _).mono ?_);rintro e W3 ⟨rfl,hb3⟩;have HB3:=Aside0.mk hb3;clear hb3)
  | (go_at_call 83;(with_reducible refine (u2e.calls_not _ HT.out _).mono ?_);rintro e W4 ⟨rfl,rfl⟩))
 exact ⟨rfl,rfl,(HS2.out.more HB3.out).below⟩
set_option maxRecDepth 100000 in
set_option maxHeartbeats 1000000 in
theorem uv.minus_no (w0 W:World) (g:Nat) (s:List UInt8) (hl:s.length ≤ 1000) (q:List UInt8) (hs:s = 45 :: q) (hv:Tx.valueD false 19 10 q = none) (h:ua.St w0 W g s) :
 Calls Tryz.prog 99 #[.pointer (some ⟨g,0,none⟩)] W fun e W' => e = .panicked (u2l.chain 280) ∧ Below w0.heap.size w0 W':=by
 subst hs
 have hql:q.length ≤ 1000:=by rw [List.length_cons] at hl;omega
 have HP:Aside0 (ua.pk (45 :: q) = 45):=⟨rfl⟩
 have HS:=Aside0.mk h
 clear h
 unfold Tx.valueD at hv
 cases hd:Tx.digitsP false 19 q with
 | none =>
   have HD:=Aside0.mk hd
   clear hd hv
   go_enter Tryz.func99,Tryz.ntmps99
   go_wp2_with (first
   | (go_at_call 47;(with_reducible refine (uv.peek_at w0 _ g (45 :: q) 45 HP.out (by exact HS.out)).mono ?_);rintro e W0 ⟨rfl,⟨nd,rfl⟩⟩)
   | (go_at_call 82;(with_reducible refine (u1n.calls_ok w0 _ g 45 q (by exact HS.out.drew nd)).mono ?_);rintro e W1 ⟨rfl,hs1,hk1⟩;have HS1:=Aside0.mk hs1;have HK1:=Aside0.mk hk1;clear hs1 hk1)
   | (go_at_call 126;(with_reducible refine (u1l.no_at 19 19 rfl w0 _ g false q (by omega) (by omega) HD.out (by exact HS1.out)).mono ?_);rintro e W2 ⟨rfl,hb2⟩))
   exact ⟨rfl,rfl,hb2⟩
 | some p =>
   obtain ⟨d,r⟩:=p
   rw [hd] at hv
   have hn:Tx.numL 10 d 0 = none:=by simpa using hv
   obtain ⟨ha,hdl,hrl⟩:=u1g.dig_is hd
   have HA:=Aside0.mk ha
   have HD:=Aside0.mk hd
   have HN:=Aside0.mk hn
   clear ha hd hn hv
   go_enter Tryz.func99,Tryz.ntmps99
   go_wp2_with (first
   | (go_at_call 47;(with_reducible refine (uv.peek_at w0 _ g (45 :: q) 45 HP.out (by exact HS.out)).mono ?_);rintro e W0 ⟨rfl,⟨nd,rfl⟩⟩)
   | (go_at_call 82;(with_reducible refine (u1n.calls_ok w0 _ g 45 q (by exact HS.out.drew nd)).mono ?_);rintro e W1 ⟨rfl,hs1,hk1⟩;have HS1:=Aside0.mk hs1;have HK1:=Aside0.mk hk1;clear hs1 hk1)
   | (go_at_call 126;(with_reducible refine (u1l.ok_at 19 19 rfl w0 _ g false q (by omega) (by omega) d r HD.out (by exact HS1.out)).mono ?_);rintro e W2 ⟨rfl,hs2,hk2⟩;have HS2:=Aside0.mk hs2;have HK2:=Aside0.mk hk2;clear hs2 hk2)
   | (go_at_call 125;(with_reducible refine (u1a.says_no d 10 (by omega) (by omega) HA.out HN.out _).mono ?_);rintro e W3 ⟨rfl,hb3⟩))
   exact ⟨rfl,rfl,(HS2.out.more hb3).below⟩
set_option maxRecDepth 100000 in
set_option maxHeartbeats 1000000 in
theorem uv.plus_ok (w0 W:World) (g:Nat) (s:List UInt8) (hl:s.length ≤ 1000) (hs:∀ q,s ≠ 45 :: q) (n:Int) (r:List UInt8) (hv:Tx.valueD false 19 10 s = some (n,r)) (hle:n < 9223372036854775808) (h:ua.St w0 W g s) :
 Calls Tryz.prog 99 #[.pointer (some ⟨g,0,none⟩)] W fun e W' => e = .returned (.int .i64 (n)) ∧ ua.St w0 W' g r ∧ u1q W W' g none:=by
 obtain ⟨z,hz⟩:∃ z,ua.pk s = z:=⟨_,rfl⟩
 have hz45:¬ z = 45:=by
  intro e
  cases s with
  | nil => rw [← hz] at e;exact absurd e (by decide)
  | cons c q =>
    have e2:(c.toNat:Int) = 45:=hz.trans e
    exact hs q (by rw [show c = 45 from UInt8.toNat_inj.1 (by simpa using (by omega:c.toNat = 45))])
 have HP:=Aside0.mk hz
 have hzb:(z == 45) = false:=beq_eq_false_iff_ne.2 hz45
 clear hz hs
 have HS:=Aside0.mk h
 clear h
 unfold Tx.valueD at hv
 obtain ⟨⟨d,r'⟩,hd,hv⟩:=Option.bind_eq_some_iff.1 hv
 obtain ⟨n',hn,hv⟩:=Option.map_eq_some_iff.1 hv
 obtain ⟨rfl,rfl⟩:=Prod.mk.inj hv
 simp only at hn
 obtain ⟨ha,hdl,hrl⟩:=u1g.dig_is hd
 have h0:=uv.num_ge 10 (Or.inl rfl) d 0 n' ha (Int.le_refl 0) hn
 have HA:=Aside0.mk ha
 have HD:=Aside0.mk hd
 have HN:=Aside0.mk hn
 have HT:Aside0 (decide (n' < 9223372036854775808) = true):=⟨decide_eq_true hle⟩
 have HW:=Aside0.mk (uv.pos_is h0 hle)
 clear ha hd hn hv hle h0
 go_enter Tryz.func99,Tryz.ntmps99
 go_wp2_with (first
  | (go_at_call 47;(with_reducible refine (uv.peek_at w0 _ g s z HP.out (by exact HS.out)).mono ?_);rintro e W0 ⟨rfl,⟨nd,rfl⟩⟩)
  | (go_at_call 126;(with_reducible refine (u1l.ok_at 19 19 rfl w0 _ g false s (by omega) (by omega) d r' HD.out (by exact HS.out.drew nd)).mono ?_);rintro e W2 ⟨rfl,hs2,hk2⟩;have HS2:=Aside0.mk hs2;have HK2:=Aside0.mk hk2;clear hs2 hk2)
  | (go_at_call 125;(with_reducible refine (u1a.says d 10 (by omega) (by omega) HA.out n' HN.out _).mono ?_);rintro e W3 ⟨rfl,hb3⟩;have HB3:=Aside0.mk hb3;clear hb3)
  | (go_at_call 83;(with_reducible refine (u2e.calls_yes _ HT.out _).mono ?_);rintro e W4 ⟨rfl,rfl⟩))
 go_ret
 exact ⟨by first | rfl | (rw [HW.out];rfl),HS2.out.more HB3.out,ua.keep_then (u1q.of_below (ub (Below.refl _ _) nd) g none) (ua.keep_then HK2.out (u1q.of_below HB3.out g none))⟩
set_option maxRecDepth 100000 in
set_option maxHeartbeats 1000000 in
theorem uv.plus_big (w0 W:World) (g:Nat) (s:List UInt8) (hl:s.length ≤ 1000) (hs:∀ q,s ≠ 45 :: q) (n:Int) (r:List UInt8) (hv:Tx.valueD false 19 10 s = some (n,r)) (hle:¬ n < 9223372036854775808) (h:ua.St w0 W g s) :
 Calls Tryz.prog 99 #[.pointer (some ⟨g,0,none⟩)] W fun e W' => e = .panicked (u2l.chain 280) ∧ Below w0.heap.size w0 W':=by
 obtain ⟨z,hz⟩:∃ z,ua.pk s = z:=⟨_,rfl⟩
 have hz45:¬ z = 45:=by
  intro e
  cases s with
  | nil => rw [← hz] at e;exact absurd e (by decide)
  | cons c q =>
    have e2:(c.toNat:Int) = 45:=hz.trans e
    exact hs q (by rw [show c = 45 from UInt8.toNat_inj.1 (by simpa using (by omega:c.toNat = 45))])
 have HP:=Aside0.mk hz
 have hzb:(z == 45) = false:=beq_eq_false_iff_ne.2 hz45
 clear hz hs
 have HS:=Aside0.mk h
 clear h
 unfold Tx.valueD at hv
 obtain ⟨⟨d,r'⟩,hd,hv⟩:=Option.bind_eq_some_iff.1 hv
 obtain ⟨n',hn,hv⟩:=Option.map_eq_some_iff.1 hv
 obtain ⟨rfl,rfl⟩:=Prod.mk.inj hv
 simp only at hn
 obtain ⟨ha,hdl,hrl⟩:=u1g.dig_is hd
 have HA:=Aside0.mk ha
 have HD:=Aside0.mk hd
 have HN:=Aside0.mk hn
 have HT:Aside0 (decide (n' < 9223372036854775808) = false):=⟨decide_eq_false hle⟩
 clear ha hd hn hv hle
 go_enter Tryz.func99,Tryz.ntmps99
 go_wp2_with (first
  | (go_at_call 47;(with_reducible refine (uv.peek_at w0 _ g s z HP.out (by exact HS.out)).mono ?_);rintro e W0 ⟨rfl,⟨nd,rfl⟩⟩)
  | (go_at_call 126;(with_reducible refine (u1l.ok_at 19 19 rfl w0 _ g false s (by omega) (by omega) d r' HD.out (by exact HS.out.drew nd)).mono ?_);rintro e W2 ⟨rfl,hs2,hk2⟩;have HS2:=Aside0.mk hs2;have HK2:=Aside0.mk hk2;clear hs2 hk2)
  | (go_at_call 125;(with_reducible refine (u1a.says d 10 (by omega) (by omega) HA.out n' HN.out _).mono ?_);rintro e W3 ⟨rfl,hb3⟩;have HB3:=Aside0.mk hb3;clear hb3)
  | (go_at_call 83;(with_reducible refine (u2e.calls_not _ HT.out _).mono ?_);rintro e W4 ⟨rfl,rfl⟩))
 exact ⟨rfl,rfl,(HS2.out.more HB3.out).below⟩
set_option maxRecDepth 100000 in
set_option maxHeartbeats 1000000 in
theorem uv.plus_no (w0 W:World) (g:Nat) (s:List UInt8) (hl:s.length ≤ 1000) (hs:∀ q,s ≠ 45 :: q) (hv:Tx.valueD false 19 10 s = none) (h:ua.St w0 W g s) :
 Calls Tryz.prog 99 #[.pointer (some ⟨g,0,none⟩)] W fun e W' => e = .panicked (u2l.chain 280) ∧ Below w0.heap.size w0 W':=by
 obtain ⟨z,hz⟩:∃ z,ua.pk s = z:=⟨_,rfl⟩
 have hz45:¬ z = 45:=by
  intro e
  cases s with
  | nil => rw [← hz] at e;exact absurd e (by decide)
  | cons c q =>
    have e2:(c.toNat:Int) = 45:=hz.trans e
    exact hs q (by rw [show c = 45 from UInt8.toNat_inj.1 (by simpa using (by omega:c.toNat = 45))])
 have HP:=Aside0.mk hz
 have hzb:(z == 45) = false:=beq_eq_false_iff_ne.2 hz45
 clear hz hs
 have HS:=Aside0.mk h
 clear h
 unfold Tx.valueD at hv
 cases hd:Tx.digitsP false 19 s with
 | none =>
   have HD:=Aside0.mk hd
   clear hd hv
   go_enter Tryz.func99,Tryz.ntmps99
   go_wp2_with (first
   | (go_at_call 47;(with_reducible refine (uv.peek_at w0 _ g s z HP.out (by exact HS.out)).mono ?_);rintro e W0 ⟨rfl,⟨nd,rfl⟩⟩)
   | (go_at_call 126;(with_reducible refine (u1l.no_at 19 19 rfl w0 _ g false s (by omega) (by omega) HD.out (by exact HS.out.drew nd)).mono ?_);rintro e W2 ⟨rfl,hb2⟩))
   exact ⟨rfl,rfl,hb2⟩
 | some p =>
   obtain ⟨d,r⟩:=p
   rw [hd] at hv
   have hn:Tx.numL 10 d 0 = none:=by simpa using hv
   obtain ⟨ha,hdl,hrl⟩:=u1g.dig_is hd
   have HA:=Aside0.mk ha
   have HD:=Aside0.mk hd
   have HN:=Aside0.mk hn
   clear ha hd hn hv
   go_enter Tryz.func99,Tryz.ntmps99
   go_wp2_with (first
   | (go_at_call 47;(with_reducible refine (uv.peek_at w0 _ g s z HP.out (by exact HS.out)).mono ?_);rintro e W0 ⟨rfl,⟨nd,rfl⟩⟩)
   | (go_at_call 126;(with_reducible refine (u1l.ok_at 19 19 rfl w0 _ g false s (by omega) (by omega) d r HD.out (by exact HS.out.drew nd)).mono ?_);rintro e W2 ⟨rfl,hs2,hk2⟩;have HS2:=Aside0.mk hs2;have HK2:=Aside0.mk hk2;clear hs2 hk2)
   | (go_at_call 125;(with_reducible refine (u1a.says_no d 10 (by omega) (by omega) HA.out HN.out _).mono ?_);rintro e W3 ⟨rfl,hb3⟩))
   exact ⟨rfl,rfl,(HS2.out.more hb3).below⟩
theorem uv.time_is (s:List UInt8):(∃ q,s = 45 :: q ∧ Tx.timeP s = (Tx.valueD false 19 10 q).bind fun p => if p.1 ≤ 9223372036854775808 then some (-p.1,p.2) else none) ∨ ((∀ q,s ≠ 45 :: q) ∧ Tx.timeP s = (Tx.valueD false 19 10 s).bind fun p => if p.1 < 9223372036854775808 then some p else none):=by
 by_cases h:∃ q,s = 45 :: q
 · obtain ⟨q,rfl⟩:=h
   exact Or.inl ⟨q,rfl,rfl⟩
 · refine Or.inr ⟨fun q e => h ⟨q,e⟩,?_⟩
   unfold Tx.timeP
   split
   · exact absurd ⟨_,rfl⟩ h
   · rfl
theorem uv.calls_ok (w0 W:World) (g:Nat) (s:List UInt8) (hl:s.length ≤ 1000) (t:Int) (r:List UInt8) (hv:Tx.timeP s = some (t,r)) (h:ua.St w0 W g s) :
 Calls Tryz.prog 99 #[.pointer (some ⟨g,0,none⟩)] W fun e W' => e = .returned (.int .i64 t) ∧ ua.St w0 W' g r ∧ u1q W W' g none:=by
 rcases uv.time_is s with ⟨q,hq,e⟩ | ⟨hq,e⟩
 · rw [e] at hv
   obtain ⟨⟨n,r'⟩,hd,hv⟩:=Option.bind_eq_some_iff.1 hv
   simp only at hv
   split at hv
   · rename_i hle
     obtain ⟨rfl,rfl⟩:=Prod.mk.inj (Option.some.inj hv)
     exact uv.minus_ok w0 W g s hl q hq n _ hd hle h
   · cases hv
 · rw [e] at hv
   obtain ⟨⟨n,r'⟩,hd,hv⟩:=Option.bind_eq_some_iff.1 hv
   simp only at hv
   split at hv
   · rename_i hle
     obtain ⟨rfl,rfl⟩:=Prod.mk.inj (Option.some.inj hv)
     exact uv.plus_ok w0 W g s hl hq _ _ hd hle h
   · cases hv
theorem uv.calls_no (w0 W:World) (g:Nat) (s:List UInt8) (hl:s.length ≤ 1000) (hv:Tx.timeP s = none) (h:ua.St w0 W g s) :
 Calls Tryz.prog 99 #[.pointer (some ⟨g,0,none⟩)] W fun e W' => e = .panicked (u2l.chain 280) ∧ Below w0.heap.size w0 W':=by
 rcases uv.time_is s with ⟨q,hq,e⟩ | ⟨hq,e⟩
 · rw [e] at hv
   cases hd:Tx.valueD false 19 10 q with
   | none => exact uv.minus_no w0 W g s hl q hq hd h
   | some p =>
     rw [hd] at hv
     exact uv.minus_big w0 W g s hl q hq p.1 p.2 hd (by simpa using hv) h
 · rw [e] at hv
   cases hd:Tx.valueD false 19 10 s with
   | none => exact uv.plus_no w0 W g s hl hq hd h
   | some p =>
     rw [hd] at hv
     exact uv.plus_big w0 W g s hl hq p.1 p.2 hd (by simpa using hv) h
theorem ui.infoL:(Tryz.prog.info? 66).map (fun i => (i.zero,i.size,i.bytes)) = some (some (.agg #[(.string ⟨#[]⟩),(.string ⟨#[]⟩)]),2,32):=by kernel_rfl
def ui.Out (w0 W:World) (g:Nat) (o:Option (List Tx.Lb × List UInt8)) (e:Ending) (W':World):Prop:=match o with
 | some (l,r) => ∃ v:Value,e = .returned v ∧ Kd.R k66 66 W' W.heap.size (fun k => k ≠ g) v l ∧ ua.St w0 W' g r ∧ u1q W W' g none
 | none => e = .panicked (u2l.chain 280) ∧ Below w0.heap.size w0 W'
theorem ui.out_some {w0 W:World} {g:Nat} {o:Option (List Tx.Lb × List UInt8)} {l:List Tx.Lb} {r:List UInt8} (ho:o = some (l,r)) {v:Value} {W':World} (h1:Kd.R k66 66 W' W.heap.size (fun k => k ≠ g) v l) (h2:ua.St w0 W' g r) (h3:u1q W W' g none):ui.Out w0 W g o (.returned v) W':=by
 subst ho
 exact ⟨v,rfl,h1,h2,h3⟩
theorem ui.out_none {w0 W:World} {g:Nat} {o:Option (List Tx.Lb × List UInt8)} (ho:o = none) {W':World} (h1:Below w0.heap.size w0 W'):ui.Out w0 W g o (.panicked (u2l.chain 280)) W':=by
 subst ho
 exact ⟨rfl,h1⟩
theorem ui.unq_rest:∀ (n:Nat) (l acc a q:List UInt8),l.length ≤ n → Base.unqL l acc = some (a,q) → q.length < l.length
 | 0,l,acc,a,q,hn,h => by
   cases l with
   | nil => rw [Base.unqL_nil] at h;cases h
   | cons c r => simp at hn
 | n + 1,l,acc,a,q,hn,h => by
   cases l with
   | nil => rw [Base.unqL_nil] at h;cases h
   | cons c r =>
     rw [List.length_cons] at hn ⊢
     by_cases h1:c = 34
     · subst h1
       rw [Base.unqL_end] at h
       obtain ⟨_,rfl⟩:=Prod.mk.inj (Option.some.inj h)
       omega
     · by_cases h2:c = 92
       · subst h2
         cases r with
         | nil => rw [Base.unqL_open] at h;cases h
         | cons d z =>
           by_cases h3:d = 34 ∨ d = 92
           · rw [Base.unqL_esc _ _ _ h3] at h
             have:=ui.unq_rest n z _ a q (by simp at hn;omega) h
             rw [List.length_cons]
             omega
           · rw [Base.unqL_bad _ _ _ h3] at h
             cases h
       · rw [Base.unqL_plain _ _ _ h1 h2] at h
         have:=ui.unq_rest n r _ a q (by omega) h
         omega
theorem ui.quoted_rest {q t:List UInt8} {v:ByteArray} (h:Tx.quotedP q = some (v,t)):t.length < q.length:=by
 unfold Tx.quotedP at h
 cases q with
 | nil => cases h
 | cons c r =>
   simp only at h
   split at h
   · obtain ⟨⟨a,z⟩,h1,h2⟩:=Option.map_eq_some_iff.1 h
     obtain ⟨_,rfl⟩:=Prod.mk.inj h2
     have:=ui.unq_rest _ r [] a z (Nat.le_refl _) h1
     rw [List.length_cons]
     simp only
     omega
   · cases h
theorem ui.label_rest {s r:List UInt8} {x:Tx.Lb} (h:Tx.labelP s = some (x,r)):r.length < s.length:=by
 unfold Tx.labelP at h
 obtain ⟨⟨n,q⟩,hn,h⟩:=Option.bind_eq_some_iff.1 h
 obtain ⟨⟨v,t⟩,hv,h⟩:=Option.map_eq_some_iff.1 h
 obtain ⟨_,rfl⟩:=Prod.mk.inj h
 obtain ⟨z,hz,hv⟩:=Option.bind_eq_some_iff.1 hv
 have h1:=u1j.name_rest hn
 have h2:=(u1j.expect_is 61 q).1 z hz
 rw [h2,List.length_cons] at h1
 have h3:=ui.quoted_rest hv
 show t.length < s.length
 omega
def ui.rest (k:Nat) (acc:List Tx.Lb) (s:List UInt8):Option (List Tx.Lb × List UInt8):=(Tx.labelsP k acc s).bind fun q => (Tx.expectP [125] q.2).map fun t => (q.1,t)
theorem ui.rest_comma (k:Nat) (acc:List Tx.Lb) (t:List UInt8):ui.rest (k + 1) acc (44 :: t) = if acc.length ≤ 8 then (Tx.labelP t).bind fun p => ui.rest k (acc ++ [p.1]) p.2 else none:=by
 unfold ui.rest
 conv => lhs;unfold Tx.labelsP
 simp only
 split
 · cases Tx.labelP t <;> rfl
 · rfl
theorem ui.rest_other (k:Nat) (acc:List Tx.Lb) (s:List UInt8) (h:∀ t,s ≠ 44 :: t):ui.rest (k + 1) acc s = (Tx.expectP [125] s).map fun t => (acc,t):=by
 unfold ui.rest
 conv => lhs;unfold Tx.labelsP
 split
 · exact absurd rfl (h _)
 · rfl
theorem ui.pk_ne (s:List UInt8) (c:UInt8) (hc:c.toNat ≠ 0) (h:∀ t,s ≠ c :: t):¬ ua.pk s = (c.toNat:Int):=by
 intro e
 cases s with
 | nil =>
   have e2:(0:Int) = c.toNat:=e
   omega
 | cons d t =>
   have e2:(d.toNat:Int) = c.toNat:=e
   exact h t (by rw [show d = c from UInt8.toNat_inj.1 (by omega)])
theorem ui.grown_keep {W W3 w1:World} {g:Nat} {v:Value} (hk:u1q W W3 g none) (hv:∀ b,v.ownBlock = some b → W.heap.size ≤ b) (hg:W3.grownBy w1 v.ownBlock):u1q W w1 g none :=
 ⟨Nat.le_trans hk.1 hg.size,fun i hi hne hr => (hg.block i (Nat.lt_of_lt_of_le hi hk.1) (fun e => by have:=hv i e.symm;omega)).trans (hk.2 i hi hne hr)⟩
theorem ui.grown_st {w0 W3 w1:World} {g:Nat} {s:List UInt8} {v:Value} (hs:ua.St w0 W3 g s) (hv:∀ b,v.ownBlock = some b → b ≠ g ∧ w0.heap.size ≤ b) (hg:W3.grownBy w1 v.ownBlock):ua.St w0 w1 g s :=
 hs.keep (hs.below.grown hg hs.below.size (fun k hk => (hv k hk).2)) (hg.block g hs.lt (fun e => (hv g e.symm).1 rfl))
structure ui.Own (W w0:World) (g:Nat) (v:Value):Prop where
 base:∀ b,v.ownBlock = some b → W.heap.size ≤ b
 far:∀ b,v.ownBlock = some b → b ≠ g ∧ w0.heap.size ≤ b
theorem ui.own_facts {w0 W W7:World} {g:Nat} {v:Value} {l:List Tx.Lb} (h:Kd.R k66 66 W7 W.heap.size (fun k => k ≠ g) v l) (hw:w0.heap.size ≤ W.heap.size):ui.Own W w0 g v :=
 ⟨fun b hb => Kd.R_base h b hb,fun b hb => ⟨h.1 b hb,Nat.le_trans hw (Kd.R_base h b hb)⟩⟩
set_option maxRecDepth 100000 in
set_option maxHeartbeats 2000000 in
theorem ui.calls (w0 W:World) (g:Nat) (s:List UInt8) (hl:s.length ≤ 1000) (h:ua.St w0 W g s) :
 Calls Tryz.prog 92 #[.pointer (some ⟨g,0,none⟩)] W fun e W' => ui.Out w0 W g (Tx.bracesP s) e W':=by
 have HS:=Aside0.mk h
 have HG:=Aside0.mk h.lt
 clear h
 cases hq:Tx.expectP [123] s with
 | none =>
   have HQ:=Aside0.mk ((u1j.expect_is 123 s).2 hq)
   have HO:Aside0 (Tx.bracesP s = none):=⟨by unfold Tx.bracesP;rw [hq];rfl⟩
   clear hq
   go_enter Tryz.func92,Tryz.ntmps92
   go_wp2_with (go_at_call 82;(with_reducible refine (u1n.calls_no w0 _ g 123 s HQ.out (by exact HS.out)).mono ?_);rintro e W1 ⟨rfl,hb1⟩)
   exact ⟨rfl,ui.out_none HO.out hb1⟩
 | some q =>
   have hs:=(u1j.expect_is 123 s).1 q hq
   cases hx:Tx.labelP q with
   | none =>
     have HO:Aside0 (Tx.bracesP s = none):=⟨by unfold Tx.bracesP;rw [hq];simp [hx]⟩
     subst hs
     have hql:q.length ≤ 1000:=by rw [List.length_cons] at hl;omega
     have HX:=Aside0.mk hx
     clear hq hx
     go_enter Tryz.func92,Tryz.ntmps92
     go_wp2_with (first
      | (go_at_call 82;(with_reducible refine (u1n.calls_ok w0 _ g 123 q (by exact HS.out)).mono ?_);rintro e W1 ⟨rfl,hs1,hk1⟩;have HS1:=Aside0.mk hs1;clear hs1 hk1)
      | (go_at_call 122;(with_reducible refine (u1j.calls_no w0 _ g q (by omega) HX.out (by exact HS1.out)).mono ?_);rintro e W2 ⟨rfl,hb2⟩))
     exact ⟨rfl,ui.out_none HO.out hb2⟩
   | some p =>
     obtain ⟨x,t⟩:=p
     have HO:Aside0 (Tx.bracesP s = ui.rest s.length [x] t):=⟨by unfold Tx.bracesP;rw [hq];simp [hx,ui.rest]⟩
     have htl:=ui.label_rest hx
     subst hs
     have hql:q.length + 1 ≤ 1000:=by rw [List.length_cons] at hl;omega
     have HX:=Aside0.mk hx
     clear hq hx hl
     rw [HO.out,List.length_cons]
     clear HO
     generalize HZ:ui.rest (q.length + 1) [x] t = o
     have HO:=Aside0.mk HZ
     clear HZ
     go_enter Tryz.func92,Tryz.ntmps92
     go_wp2_with (first
      | (go_at_call 82;(with_reducible refine (u1n.calls_ok w0 _ g 123 q (by exact HS.out)).mono ?_);rintro e W1 ⟨rfl,hs1,hk1⟩;have HS1:=Aside0.mk hs1;have HK1:=Aside0.mk hk1;clear hs1 hk1)
      | (go_at_call 122;(with_reducible refine (u1j.calls_ok w0 _ g q (by omega) x t HX.out (by exact HS1.out)).mono ?_);rintro e W2 ⟨rfl,hs2,hk2⟩;have HS2:=Aside0.mk hs2;have HK2:=Aside0.mk (ua.keep_then HK1.out hk2);clear hs2 hk2)
      | ((with_reducible refine u2o (N:=8) rfl ?_);refine Kd.R_lit k66 (w0:=W2) W.heap.size 66 ?hg (N:=8) ?hd (xs:=([x]:List Tx.Lb)) (inner:=[.string x.f0,.string x.f1]) (ok:=fun k => k ≠ g) (okp:=fun _ => False) ?hr ?hp (fun _ hk => hk.elim) ?hf (Below.refl _ _) HK2.out.1 (by simp) ?_;(case hd => rfl);(case hg => rfl);(case hr => first | (go_simp;done) | (go_simp;rfl));(case hp => exact (Reps.c2 (show Kd.M k66 _ _ _ x [.string x.f0,.string x.f1] from (k66_mkM _ _ _ x)) (Reps.none _ _)));(case hf => have h1:=HK2.out.1;have h2:=HG.out;omega);intro v3 w3 ho hb hg_ hnew_;have HR3:=Aside0.mk ho;have HK3:=Aside0.mk (ua.keep_then HK2.out (u1q.of_grown hg_ g));have HS3:=Aside0.mk (HS2.out.more ⟨hg_.os,hg_.tape,hg_.output,hg_.size,fun i hi => hg_.block i hi (by simp)⟩);clear ho hb hg_ hnew_))
     go_loopg [3] (q.length + 1) (fun kq v3 wr => ∃ (acc:List Tx.Lb) (s2:List UInt8),s2.length < kq ∧ s2.length ≤ 1000 ∧ Aside0 (ui.rest kq acc s2 = o) ∧ Aside0 (Kd.R k66 66 wr W.heap.size (fun k => k ≠ g) v3 acc) ∧ Aside0 (ua.St w0 wr g s2) ∧ Aside0 (u1q W wr g none))
     case atStart => exact ⟨[x],t,by omega,by omega,HO,HR3,HS3,HK3⟩
     case round =>
      clear HO HR3 HS3 HK3 HS1 HK1 HS2 HK2
      have HS0:=HS
      clear HS
      obtain ⟨acc,s2,hlk,hl2,HO,HR,HS,HK⟩:=hrel
      obtain ⟨A,c,e⟩:=Kd.R_slice HR.out
      subst e
      obtain ⟨k1,rfl⟩:∃ k1,gk = k1 + 1:=⟨gk - 1,by omega⟩
      by_cases hcm:∃ u,s2 = 44 :: u
      · obtain ⟨u,rfl⟩:=hcm
        rw [List.length_cons] at hlk hl2
        have HP:Aside0 (ua.pk (44 :: u) = 44):=⟨rfl⟩
        rw [ui.rest_comma] at HO
        by_cases h8:acc.length ≤ 8
        · have HT:Aside0 (decide ((acc.length:Int) ≤ 8) = true):=⟨decide_eq_true (by omega)⟩
          have HA8:=Aside0.mk h8
          rw [if_pos h8] at HO
          clear h8
          cases hy:Tx.labelP u with
          | none =>
            rw [hy] at HO
            have HY:=Aside0.mk hy
            clear hy
            go_wp2_with (first
             | (go_at_call 47;(with_reducible refine (uv.peek_at w0 _ g (44 :: u) 44 HP.out (by exact HS.out)).mono ?_);rintro e W4 ⟨rfl,⟨nd,rfl⟩⟩)
             | (go_at_call 82;(with_reducible refine (u1n.calls_ok w0 _ g 44 u (by exact HS.out.drew nd)).mono ?_);rintro e W5 ⟨rfl,hs5,hk5⟩;have HS5:=Aside0.mk hs5;have HK5:=Aside0.mk (ua.keep_then HK.out (ua.keep_then (u1q.of_below (ub (Below.refl _ _) nd) g none) hk5));have HR5:=Aside0.mk (Kd.R_keep (Kd.R_drewN HR.out nd) hk5 (fun _ hk => hk));clear hs5 hk5)
             | (go_at_call 83;(with_reducible refine (u2e.calls_yes _ HT.out _).mono ?_);rintro e W6 ⟨rfl,rfl⟩)
             | (go_at_call 122;(with_reducible refine (u1j.calls_no w0 _ g u (by omega) HY.out (by exact HS5.out)).mono ?_);rintro e W7 ⟨rfl,hb7⟩))
            exact ⟨rfl,ui.out_none HO.out.symm hb7⟩
          | some p =>
            obtain ⟨y,t2⟩:=p
            rw [hy] at HO
            have hyl:=ui.label_rest hy
            have HY:=Aside0.mk hy
            have HWB:Aside0 (w0.heap.size ≤ W.heap.size):=⟨HS0.out.below.size⟩
            clear hy
            go_wp2_with (first
             | (go_at_call 47;(with_reducible refine (uv.peek_at w0 _ g (44 :: u) 44 HP.out (by exact HS.out)).mono ?_);rintro e W4 ⟨rfl,⟨nd,rfl⟩⟩)
             | (go_at_call 82;(with_reducible refine (u1n.calls_ok w0 _ g 44 u (by exact HS.out.drew nd)).mono ?_);rintro e W5 ⟨rfl,hs5,hk5⟩;have HS5:=Aside0.mk hs5;have HK5:=Aside0.mk (ua.keep_then HK.out (ua.keep_then (u1q.of_below (ub (Below.refl _ _) nd) g none) hk5));have HR5:=Aside0.mk (Kd.R_keep (Kd.R_drewN HR.out nd) hk5 (fun _ hk => hk));clear hs5 hk5)
             | (go_at_call 83;(with_reducible refine (u2e.calls_yes _ HT.out _).mono ?_);rintro e W6 ⟨rfl,rfl⟩)
             | (go_at_call 122;(with_reducible refine (u1j.calls_ok w0 _ g u (by omega) y t2 HY.out (by exact HS5.out)).mono ?_);rintro e W7 ⟨rfl,hs7,hk7⟩;have HS7:=Aside0.mk hs7;have HK7:=Aside0.mk (ua.keep_then HK5.out hk7);have HR7:=Aside0.mk (Kd.R_keep HR5.out hk7 (fun _ hk => hk));clear hs7 hk7)
             | (at_builtin;refine Kd.R_append k66 (w0:=W7) (W:=W7) W.heap.size rfl (.tmp 18) (.tmp 21) 50 66 (.agg #[(.string ⟨#[]⟩),(.string ⟨#[]⟩)]) 32 rfl Tryz.underlying50 ui.infoL rfl (by decide) (by decide) _ acc y [.string y.f0,.string y.f1] (fun k => k ≠ g) (fun _ => False) rfl rfl (k66_mkM _ _ _ y) (fun _ hk => hk.elim) ?hfr HR7.out (Below.refl _ _) HK7.out.1 ?hbig ?_;(case hfr => have h1:=HS7.out.lt;intro k hk;omega);(case hbig => have:=HA8.out;omega);intro v8 w8 ho hb hg8 hat;have HOW:=Aside0.mk (ui.own_facts HR7.out HWB.out);have HR8:=Aside0.mk ho;have HS8:=Aside0.mk (ui.grown_st HS7.out HOW.out.far hg8);have HK8:=Aside0.mk (ui.grown_keep HK7.out HOW.out.base hg8);clear ho hb hg8 hat))
            go_roundg k1
            case rel => exact ⟨acc ++ [y],t2,by omega,by omega,⟨HO.out⟩,HR8,HS8,HK8⟩
            case measure => omega
        · have HT:Aside0 (decide ((acc.length:Int) ≤ 8) = false):=⟨decide_eq_false (by omega)⟩
          rw [if_neg h8] at HO
          clear h8
          go_wp2_with (first
           | (go_at_call 47;(with_reducible refine (uv.peek_at w0 _ g (44 :: u) 44 HP.out (by exact HS.out)).mono ?_);rintro e W4 ⟨rfl,⟨nd,rfl⟩⟩)
           | (go_at_call 82;(with_reducible refine (u1n.calls_ok w0 _ g 44 u (by exact HS.out.drew nd)).mono ?_);rintro e W5 ⟨rfl,hs5,hk5⟩;have HS5:=Aside0.mk hs5;have HK5:=Aside0.mk (ua.keep_then HK.out (ua.keep_then (u1q.of_below (ub (Below.refl _ _) nd) g none) hk5));have HR5:=Aside0.mk (Kd.R_keep (Kd.R_drewN HR.out nd) hk5 (fun _ hk => hk));clear hs5 hk5)
           | (go_at_call 83;(with_reducible refine (u2e.calls_not _ HT.out _).mono ?_);rintro e W6 ⟨rfl,rfl⟩))
          exact ⟨rfl,ui.out_none HO.out.symm HS5.out.below⟩
      · obtain ⟨z,hz⟩:∃ z,ua.pk s2 = z:=⟨_,rfl⟩
        have hz44:¬ z = 44:=by
         rw [← hz]
         exact ui.pk_ne s2 44 (by decide) (fun u e => hcm ⟨u,e⟩)
        have HP:=Aside0.mk hz
        have hzb:(z == 44) = false:=beq_eq_false_iff_ne.2 hz44
        rw [ui.rest_other _ _ _ (fun u e => hcm ⟨u,e⟩)] at HO
        clear hz hcm
        cases he:Tx.expectP [125] s2 with
        | none =>
          rw [he] at HO
          have HE:=Aside0.mk ((u1j.expect_is 125 s2).2 he)
          clear he
          go_wp2_with (first
           | (go_at_call 47;(with_reducible refine (uv.peek_at w0 _ g s2 z HP.out (by exact HS.out)).mono ?_);rintro e W4 ⟨rfl,⟨nd,rfl⟩⟩)
           | (go_at_call 82;(with_reducible refine (u1n.calls_no w0 _ g 125 s2 HE.out (by exact HS.out.drew nd)).mono ?_);rintro e W5 ⟨rfl,hb5⟩))
          exact ⟨rfl,ui.out_none HO.out.symm hb5⟩
        | some r =>
          rw [he] at HO
          have he2:=(u1j.expect_is 125 s2).1 r he
          subst he2
          clear he
          go_wp2_with (first
           | (go_at_call 47;(with_reducible refine (uv.peek_at w0 _ g (125 :: r) z HP.out (by exact HS.out)).mono ?_);rintro e W4 ⟨rfl,⟨nd,rfl⟩⟩)
           | (go_at_call 82;(with_reducible refine (u1n.calls_ok w0 _ g 125 r (by exact HS.out.drew nd)).mono ?_);rintro e W5 ⟨rfl,hs5,hk5⟩;have HS5:=Aside0.mk hs5;have HK5:=Aside0.mk (ua.keep_then HK.out (ua.keep_then (u1q.of_below (ub (Below.refl _ _) nd) g none) hk5));have HR5:=Aside0.mk (Kd.R_keep (Kd.R_drewN HR.out nd) hk5 (fun _ hk => hk));clear hs5 hk5))
          go_ret
          exact ui.out_some HO.out.symm HR5.out HS5.out HK5.out
theorem u1e.nan (s:ByteArray) (w:World):Calls Tryz.prog 124 #[.string s] w fun e w' => e = .returned (.bool false) ∧ w' = w:=by
 go_enter Tryz.func124,Tryz.ntmps124
 go_wp2
 go_ret
 exact ⟨by simp,rfl⟩
def u1e.cmpB (a b:ByteArray):Int:=if Tx.less a b = true then -1 else if Tx.less b a = true then 1 else 0
theorem u1e.cmp_less (a b:ByteArray):decide (u1e.cmpB a b < 0) = Tx.less a b:=by
 unfold u1e.cmpB
 split
 · rename_i h
   rw [h]
   decide
 · rename_i h
   have h2:Tx.less a b = false:=by simpa using h
   rw [h2]
   split <;> decide
theorem u1e.less_is (a b:ByteArray):Tx.less a b = Op.bytesLess a.toList b.toList:=by
 unfold Tx.less
 rw [ByteArray.toList_eq,ByteArray.toList_eq]
theorem u1e.cmp (a b:ByteArray) (w:World):Calls Tryz.prog 95 #[.string a,.string b] w fun e w' => e = .returned (.int .i64 (u1e.cmpB a b)) ∧ w' = w:=by
 have HE:Aside0 (u1e.cmpB a b = if Op.bytesLess a.toList b.toList = true then -1 else if Op.bytesLess b.toList a.toList = true then 1 else 0):=⟨by unfold u1e.cmpB;rw [u1e.less_is,u1e.less_is]⟩
 rw [HE.out]
 clear HE
 cases h1:Op.bytesLess a.toList b.toList with
 | true =>
   go_enter Tryz.func95,Tryz.ntmps95
   go_wp2_with (go_at_call 124;refine (u1e.nan _ _).mono ?_;rintro e W1 ⟨rfl,rfl⟩)
   go_ret
   exact ⟨rfl,rfl⟩
 | false =>
   cases h2:Op.bytesLess b.toList a.toList with
   | true =>
     go_enter Tryz.func95,Tryz.ntmps95
     go_wp2_with (go_at_call 124;refine (u1e.nan _ _).mono ?_;rintro e W1 ⟨rfl,rfl⟩)
     go_ret
     exact ⟨rfl,rfl⟩
   | false =>
     go_enter Tryz.func95,Tryz.ntmps95
     go_wp2_with (go_at_call 124;refine (u1e.nan _ _).mono ?_;rintro e W1 ⟨rfl,rfl⟩)
     go_ret
     exact ⟨rfl,rfl⟩
theorem u1e.by_name (x y:Tx.Lb) (w:World):Calls Tryz.prog 94 #[.agg #[.string x.f0,.string x.f1],.agg #[.string y.f0,.string y.f1]] w fun e w' => e = .returned (.int .i64 (u1e.cmpB x.f0 y.f0)) ∧ ∃ q os',w' = Go.Sort.grow (w.drewN q) os':=by
 go_enter Tryz.func94,Tryz.ntmps94
 go_wp2_with (go_at_call 95;(with_reducible refine (u1e.cmp _ _ _).mono ?_);rintro e W1 ⟨rfl,rfl⟩)
 go_ret
 exact ⟨rfl,0,#[.cells #[.string x.f0,.string x.f1] 66,.cells #[.string y.f0,.string y.f1] 66],by rw [Go.Sort.alloc_eq_grow,Go.Sort.alloc_eq_grow,Go.Sort.grow_grow];rfl⟩
theorem u1e.cell_at {W:World} {gb c:Nat} {l:List Tx.Lb} {base:Nat} {ok:Nat → Prop} (h:Kd.R k66 66 W base ok (.slice (some ⟨gb,0,none⟩) l.length c) l) (i:Nat) (hi:i < l.length):W.cell? ⟨gb,i * 2,none⟩ = some (.string l[i].f0) ∧ W.cell? ⟨gb,i * 2 + 1,none⟩ = some (.string l[i].f1) ∧ gb < W.heap.size:=by
 obtain ⟨ad,ea,q0,q1⟩:=at_T66 (Kd.R_reads' h).2.2 (i:Int) (by omega) (by omega)
 obtain rfl:ad = ⟨gb,0,none⟩:=by injection ea with ea;exact ea.symm
 have hadd:(⟨gb,0,none⟩:Addr).add ((i:Int).toNat * 2) = ⟨gb,i * 2,none⟩:=by
  rw [show (i:Int).toNat = i from rfl]
  unfold Addr.add
  split
  · rename_i h0
    rw [h0]
  · simp
 rw [hadd] at q0 q1
 have hr:un l (i:Int) = l[i]:=by simp [un,List.getD_eq_getElem?_getD,hi]
 rw [hr] at q0 q1
 exact ⟨q0,q1,Kd.R_lt h gb (by simp [Value.ownBlock])⟩
theorem u1e.below_grow (W:World) (os:Array Obj):Below W.heap.size W (Go.Sort.grow W os):=⟨rfl,rfl,rfl,by simp,fun i hi => Go.Sort.heap_grow_old W os hi⟩
theorem u1e.thawed {W:World} {gb n c:Nat} {l:List Tx.Lb} {base:Nat} {ok:Nat → Prop} (h:Kd.R k66 66 W base ok (.slice (some ⟨gb,0,none⟩) n c) l):(∀ o,W.frozen? ⟨gb,o,none⟩ = false) ∧ True:=by
 obtain ⟨_,inner,hown,_⟩:=h
 rcases hown.2 with ⟨hv,_⟩ | ⟨g',cap',cur,hv,hb,hh,_⟩
 · cases hv
 injection hv with ha _ _
 injection ha with ha
 injection ha with hg'
 subst hg'
 exact ⟨fun o => uk hh o,trivial⟩
theorem u1e.set_elem {W:World} {gb c n:Nat} {l:List Tx.Lb} {base:Nat} {ok:Nat → Prop} (h:Kd.R k66 66 W base ok (.slice (some ⟨gb,0,none⟩) n c) l) (hn:l.length = n) (i:Nat) (hi:i < n) (x:Tx.Lb) :
 Kd.R k66 66 (W.setCells gb (i * 2) [.string x.f0,.string x.f1]) base ok (.slice (some ⟨gb,0,none⟩) n c) (l.set i x) ∧ W.grownBy (W.setCells gb (i * 2) [.string x.f0,.string x.f1]) (some gb):=by
 subst hn
 obtain ⟨q0,q1,_⟩:=u1e.cell_at h i hi
 have hs:=Kd.R_seg (okp:=fun k => ok k ∧ k ≠ gb) (x':=x) (seg:=[.string x.f0,.string x.f1]) (c:=[.string l[i].f0,.string l[i].f1]) (j:=0) h (i:Int) (by omega) (by omega) rfl (by
  intro j' u hu
  have e2:(i:Int).toNat * k66.sz = i * 2:=rfl
  rw [e2]
  match j',hu with
  | 0,hu => simp at hu;subst hu;exact q0
  | 1,hu => simp at hu;subst hu;exact q1) (by show 0 + 2 ≤ 2;omega) (k66_mkM _ _ _ _) (fun k hk => hk)
 exact hs
set_option maxRecDepth 100000 in
set_option maxHeartbeats 4000000 in
theorem u1e.insertion (W:World) (base:Nat) (ok:Nat → Prop) (gb c:Nat) (l:List Tx.Lb) (hn:l.length ≤ 19) (hR:Kd.R k66 66 W base ok (.slice (some ⟨gb,0,none⟩) l.length c) l) :
 Calls Tryz.prog 145 #[.slice (some ⟨gb,0,none⟩) l.length c,.int .i64 0,.int .i64 (l.length:Int),.func (.func 94) #[] #[]] W fun e W' => e = .returned (.tuple #[]) ∧ Kd.R k66 66 W' base ok (.slice (some ⟨gb,0,none⟩) l.length c) (Tx.sortP l) ∧ W.grownBy W' (some gb):=by
 have HR:=Aside0.mk hR
 have mixed:Tryz.prog.follows .mixedOrders = true:=by kernel_rfl
 clear hR
 go_enter Tryz.func145,Tryz.ntmps145
 go_wp2
 go_loopg [8] (l.length) (fun kq vi wr => ∃ (i:Nat) (cur:List Tx.Lb),vi = .int .i64 i ∧ 1 ≤ i ∧ i ≤ l.length + 1 ∧ l.length ≤ kq + i ∧ Aside0 (cur.length = l.length ∧ cur = Tx.sortedTo l i ++ l.drop i) ∧ Aside0 (Kd.R k66 66 wr base ok (.slice (some ⟨gb,0,none⟩) l.length c) cur) ∧ Aside0 (W.grownBy wr (some gb)))
 case atStart => exact ⟨1,l,by go_num,by omega,by omega,by omega,⟨rfl,by rcases l with _ | ⟨x,l⟩ <;> rfl⟩,HR,⟨World.grownBy.refl _ _⟩⟩
 case round =>
  clear HR
  obtain ⟨i,cur,rfl,hi1,hi2,hkk,HC,HR,HG⟩:=hrel
  by_cases hlt:i < l.length
  · go_wp2
    go_loopg [9] i (fun kj vj wq => ∃ (pa pb:List Tx.Lb) (cur2:List Tx.Lb),vj = .int .i64 (pa.length:Int) ∧ pa.length ≤ kj ∧ pa.length ≤ i ∧ cur2.length = l.length ∧ Aside0 (Tx.sortedTo l i = pa ++ pb ∧ (∀ y ∈ pb,Tx.less l[i].f0 y.f0 = true) ∧ cur2 = pa ++ l[i] :: (pb ++ l.drop (i + 1))) ∧ Aside0 (Kd.R k66 66 wq base ok (.slice (some ⟨gb,0,none⟩) l.length c) cur2) ∧ Aside0 (W.grownBy wq (some gb)))
    case atStart => exact ⟨Tx.sortedTo l i,[],cur,by rw [Tx.sortedTo_len l i (by omega)],by rw [Tx.sortedTo_len l i (by omega)];exact Nat.le_refl _,by rw [Tx.sortedTo_len l i (by omega)];exact Nat.le_refl _,HC.out.1,⟨(List.append_nil _).symm,fun y hy => (by cases hy),by rw [HC.out.2,List.nil_append,List.drop_eq_getElem_cons hlt]⟩,HR,HG⟩
    case round =>
     clear HC HR HG
     obtain ⟨pa,pb,cur2,rfl,hj1,hj2,hcl,HC,HR,HG⟩:=hrel
     cases hpa:pa.reverse with
     | nil =>
       obtain rfl:pa = []:=by simpa using hpa
       have OUT:Aside0 (Tx.sortedTo l (i + 1) ++ l.drop (i + 1) = cur2):=⟨by rw [Tx.sortedTo_next l i hlt [] pb HC.out.1 HC.out.2.1 (fun y hy => (by cases hy)),HC.out.2.2];simp⟩
       have HHC:=Aside0.mk hcl
       clear hpa HC hcl hj1 hj2
       have hjaz:decide (((([]:List Tx.Lb).length:Nat):Int) > 0) = false:=rfl
       have HRd:=Aside0.mk (Kd.R_drew HR.out)
       have HGd:=Aside0.mk (HG.out.trans (u3b (uf (Below.refl _ _)) _))
       rw [List.length_nil]
       go_wp2_with fail
       go_big_region_o
       all_goals go_wp2
       go_roundg (l.length - (i + 1))
       case measure => omega
       case rel => exact ⟨i + 1,cur2,by go_num,by omega,by omega,by omega,⟨HHC.out,OUT.out.symm⟩,HRd,HGd⟩
     | cons y pr =>
       obtain ⟨pq,rfl⟩:∃ pq,pa = pq ++ [y]:=⟨pr.reverse,by rw [← List.reverse_reverse pa,hpa,List.reverse_cons]⟩
       clear hpa
       rw [List.length_append,List.length_singleton] at hj1 hj2
       obtain ⟨jp,hjp⟩:∃ jp,jp = pq.length:=⟨_,rfl⟩
       have hrow:=HC.out.2.2
       have e1:cur2[jp + 1]? = some l[i]:=by rw [hrow];simp [hjp]
       have e2:cur2[jp]? = some y:=by rw [hrow];simp [hjp]
       have b1:jp + 1 < cur2.length:=(List.getElem?_eq_some_iff.1 e1).1
       have b2:jp < cur2.length:=(List.getElem?_eq_some_iff.1 e2).1
       have e3:cur2[jp + 1] = l[i]:=(List.getElem?_eq_some_iff.1 e1).2
       have e4:cur2[jp] = y:=(List.getElem?_eq_some_iff.1 e2).2
       rw [← hcl] at HR
       obtain ⟨x0,x1,hgb⟩:=u1e.cell_at HR.out (jp + 1) b1
       obtain ⟨y0,y1,_⟩:=u1e.cell_at HR.out jp b2
       rw [e3] at x0 x1
       rw [e4] at y0 y1
       rw [hcl] at HR b1 b2
       clear hrow e1 e2 e3 e4
       rw [List.length_append,List.length_singleton,← hjp]
       generalize hxi:l[i] = xi at *
       have HJ:=Aside0.mk hjp
       have HXI:=Aside0.mk hxi
       clear hjp hxi
       have lx0:=fun n os => Go.cell_grown (n:=n) (os:=os) hgb x0
       have lx1:=fun n os => Go.cell_grown (n:=n) (os:=os) hgb x1
       have ly0:=fun n os => Go.cell_grown (n:=n) (os:=os) hgb y0
       have ly1:=fun n os => Go.cell_grown (n:=n) (os:=os) hgb y1
       have hwp:IntKind.i64.wrap (jp:Int) = (jp:Int):=by rw [IntKind.wrap_i64];omega
       have jz:(jp:Int) + 1 < (l.length:Int):=by omega
       have jz1:(jp:Int) < (l.length:Int):=by omega
       have p0:(0:Int) ≤ (jp:Int) + 1:=by omega
       have e0:((jp:Int) + 1).toNat = jp + 1:=by omega
       have hcg:∀ n' os',Calls Tryz.prog 94 #[.agg #[.string xi.f0,.string xi.f1],.agg #[.string y.f0,.string y.f1]] (Go.Sort.grow (wr.drewN n') os') fun e w' => e = .returned (.int .i64 (u1e.cmpB xi.f0 y.f0)) ∧ ∃ q os'',w' = Go.Sort.grow ((Go.Sort.grow (wr.drewN n') os').drewN q) os'':=fun n' os' => u1e.by_name xi y _
       have HHC:=Aside0.mk hcl
       have HJ2:=Aside0.mk hj2
       have HGB:=Aside0.mk hgb
       clear hcl hj2
       have cl:=u1e.cmp_less xi.f0 y.f0
       cases hlv:Tx.less xi.f0 y.f0 with
       | true =>
         rw [hlv] at cl
         go_wp2_with fail
         go_quiet_grown (first | (go_at_call 94;refine Calls.grown_of (hcg _ _)))
         go_wp2_with fail
         have x0':=lx0 nq osq
         have x1':=lx1 nq osq
         have y0':=ly0 nq osq
         have y1':=ly1 nq osq
         have HR2:Aside0 (Kd.R k66 66 (Go.Sort.grow (wr.drewN nq) osq) base ok (.slice (some ⟨gb,0,none⟩) l.length c) cur2):=⟨Kd.R_below (Kd.R_drewN HR.out nq) (u1e.below_grow _ _)⟩
         have HG2:Aside0 (W.grownBy (Go.Sort.grow (wr.drewN nq) osq) (some gb)):=⟨HG.out.trans (u3b (u1c (ub (Below.refl _ _) nq) (u1e.below_grow _ _)) _)⟩
         clear lx0 lx1 ly0 ly1 hcg x0 x1 y0 y1 HR HG
         generalize Go.Sort.grow (wr.drewN nq) osq = wq2 at *
         obtain ⟨fz,_⟩:=u1e.thawed HR2.out
         have n1:¬ jp * 2 = (jp + 1) * 2:=by omega
         have n2:¬ jp * 2 = (jp + 1) * 2 + 1:=by omega
         have n3:¬ jp * 2 + 1 = (jp + 1) * 2:=by omega
         have n4:¬ jp * 2 + 1 = (jp + 1) * 2 + 1:=by omega
         go_big_region_o
         all_goals go_wp2
         obtain ⟨r1,g1⟩:=u1e.set_elem HR2.out HHC.out (jp + 1) (by omega) y
         obtain ⟨r2,g2⟩:=u1e.set_elem r1 (by rw [List.length_set];exact HHC.out) jp (by omega) xi
         have HR3:Aside0 (Kd.R k66 66 ((((wq2.setCell ⟨gb,(jp + 1) * 2,none⟩ (.string y.f0)).setCell ⟨gb,(jp + 1) * 2 + 1,none⟩ (.string y.f1)).setCell ⟨gb,jp * 2,none⟩ (.string xi.f0)).setCell ⟨gb,jp * 2 + 1,none⟩ (.string xi.f1)).drew base ok (.slice (some ⟨gb,0,none⟩) l.length c) ((cur2.set (jp + 1) y).set jp xi)):=⟨Kd.R_drew r2⟩
         have HG3:Aside0 (W.grownBy ((((wq2.setCell ⟨gb,(jp + 1) * 2,none⟩ (.string y.f0)).setCell ⟨gb,(jp + 1) * 2 + 1,none⟩ (.string y.f1)).setCell ⟨gb,jp * 2,none⟩ (.string xi.f0)).setCell ⟨gb,jp * 2 + 1,none⟩ (.string xi.f1)).drew (some gb)):=⟨((HG2.out.trans g1).trans g2).trans (u3b (uf (Below.refl _ _)) _)⟩
         clear r1 g1 r2 g2 HR2 HG2
         go_roundg jp
         case measure => have:=HJ.out;omega
         case rel =>
          refine ⟨pq,y :: pb,(cur2.set (jp + 1) y).set jp xi,by rw [HJ.out],by rw [HJ.out];exact Nat.le_refl _,by have:=HJ.out;have:=HJ2.out;omega,by rw [List.length_set,List.length_set];exact HHC.out,⟨?_,?_,?_⟩,HR3,HG3⟩
          · rw [HC.out.1,List.append_assoc,List.singleton_append]
          · intro z hz
            rcases List.mem_cons.1 hz with rfl | hz
            · exact hlv
            · exact HC.out.2.1 z hz
          · rw [HC.out.2.2,HJ.out]
            simp
       | false =>
         rw [hlv] at cl
         go_wp2_with fail
         go_quiet_grown (first | (go_at_call 94;refine Calls.grown_of (hcg _ _)))
         go_wp2
         have HR2:Aside0 (Kd.R k66 66 (Go.Sort.grow (wr.drewN nq) osq) base ok (.slice (some ⟨gb,0,none⟩) l.length c) cur2):=⟨Kd.R_below (Kd.R_drewN HR.out nq) (u1e.below_grow _ _)⟩
         have HG2:Aside0 (W.grownBy (Go.Sort.grow (wr.drewN nq) osq) (some gb)):=⟨HG.out.trans (u3b (u1c (ub (Below.refl _ _) nq) (u1e.below_grow _ _)) _)⟩
         have OUT:Aside0 (Tx.sortedTo l (i + 1) ++ l.drop (i + 1) = cur2):=⟨by
          rw [Tx.sortedTo_next l i hlt (pq ++ [y]) pb HC.out.1 (fun z hz => by rw [HXI.out];exact HC.out.2.1 z hz) (fun z hz => by
           obtain rfl:y = z:=by simpa using hz
           rw [HXI.out,hlv]
           decide),HC.out.2.2,HXI.out]
          simp⟩
         go_roundg (l.length - (i + 1))
         case measure => omega
         case rel => exact ⟨i + 1,cur2,by go_num,by omega,by omega,by omega,⟨HHC.out,OUT.out.symm⟩,HR2,HG2⟩
  · have hin:i = l.length ∨ i = l.length + 1:=by omega
    have HF:Aside0 (cur = Tx.sortP l):=⟨by
     rw [HC.out.2,List.drop_eq_nil_of_le (by omega),List.append_nil]
     rcases hin with h9 | h9
     · rw [h9,Tx.sortedTo_all]
     · unfold Tx.sortedTo Tx.sortP
       rw [List.take_of_length_le (by omega)]⟩
    clear hin
    go_wp2
    go_end0
    exact ⟨rfl,HF.out ▸ HR.out,HG.out⟩
theorem u1e.insertion_few (W:World) (A:Option Addr) (c:Nat) (l:List Tx.Lb) (hn:l.length ≤ 1) :
 Calls Tryz.prog 145 #[.slice A l.length c,.int .i64 0,.int .i64 (l.length:Int),.func (.func 94) #[] #[]] W fun e W' => e = .returned (.tuple #[]) ∧ W' = W:=by
 have hd:decide ((1:Int) < (l.length:Int)) = false:=decide_eq_false (by omega)
 have hlt:¬ (1:Int) < (l.length:Int):=by omega
 go_enter Tryz.func145,Tryz.ntmps145
 go_wp2
 go_loopg [8] (1) (fun kq vi wr => vi = .int .i64 1 ∧ 0 < kq ∧ wr = W)
 case atStart => exact ⟨by rfl,by omega,rfl⟩
 case round =>
  obtain ⟨rfl,hk,rfl⟩:=hrel
  go_wp2
  go_end0
  exact ⟨rfl,rfl⟩
theorem u1e.sortP_few (l:List Tx.Lb) (hn:l.length ≤ 1):Tx.sortP l = l:=by
 rcases l with _ | ⟨x,_ | ⟨y,l⟩⟩
 · rfl
 · rfl
 · simp at hn
theorem u1e.form {W:World} {base n c:Nat} {ok:Nat → Prop} {A:Option Addr} {xs:List Tx.Lb} (h:Kd.R k66 66 W base ok (.slice A n c) xs) (hn:0 < n):∃ g,A = some ⟨g,0,none⟩:=by
 obtain ⟨_,_,ho,_⟩:=h
 rcases ho.2 with ⟨hv,h0⟩ | ⟨g,cap,cur,hv,_⟩
 · injection hv with _ h1
   omega
 · injection hv with h1
   exact ⟨g,h1⟩
theorem u1e.ins (W:World) (base:Nat) (ok:Nat → Prop) (A:Option Addr) (c:Nat) (l:List Tx.Lb) (hn:l.length ≤ 19) (hR:Kd.R k66 66 W base ok (.slice A l.length c) l) :
 Calls Tryz.prog 145 #[.slice A l.length c,.int .i64 0,.int .i64 (l.length:Int),.func (.func 94) #[] #[]] W fun e W' => e = .returned (.tuple #[]) ∧ Kd.R k66 66 W' base ok (.slice A l.length c) (Tx.sortP l) ∧ W.grownBy W' (Value.slice A l.length c).ownBlock:=by
 by_cases h1:l.length ≤ 1
 · refine (u1e.insertion_few W A c l h1).mono ?_
   rintro e W' ⟨rfl,rfl⟩
   exact ⟨rfl,by rw [u1e.sortP_few l h1];exact hR,World.grownBy.refl _ _⟩
 · obtain ⟨gb,rfl⟩:=u1e.form hR (by omega)
   exact u1e.insertion W base ok gb c l hn hR
set_option maxRecDepth 100000 in
set_option maxHeartbeats 1000000 in
theorem u1e.stable (W:World) (base:Nat) (ok:Nat → Prop) (A:Option Addr) (c:Nat) (l:List Tx.Lb) (hn:l.length ≤ 19) (hR:Kd.R k66 66 W base ok (.slice A l.length c) l) :
 Calls Tryz.prog 123 #[.slice A l.length c,.int .i64 (l.length:Int),.func (.func 94) #[] #[]] W fun e W' => e = .returned (.tuple #[]) ∧ Kd.R k66 66 W' base ok (.slice A l.length c) (Tx.sortP l) ∧ W.grownBy W' (Value.slice A l.length c).ownBlock:=by
 have HR:=Aside0.mk hR
 clear hR
 have h20:¬ (20:Int) ≤ (l.length:Int):=by omega
 have h20b:¬ (20:Int) < (l.length:Int):=by omega
 go_enter Tryz.func123,Tryz.ntmps123
 go_wp2
 go_loopg [7,8] (1) (fun kq v7 v8 wr => v7 = .int .i64 0 ∧ v8 = .int .i64 20 ∧ 0 < kq ∧ wr = W)
 case atStart => exact ⟨by rfl,by rfl,by omega,rfl⟩
 case round =>
  obtain ⟨rfl,rfl,hk,rfl⟩:=hrel
  go_wp2_with (go_at_call 145;(with_reducible refine (u1e.ins _ base ok A c l hn HR.out).mono ?_);rintro e W1 ⟨rfl,hr1,hg1⟩;have HR1:=Aside0.mk hr1;have HG1:=Aside0.mk hg1;clear hr1 hg1)
  go_loopg [6] (1) (fun kq v6 wr => v6 = .int .i64 20 ∧ 0 < kq ∧ wr = W1)
  case atStart => exact ⟨by rfl,by omega,rfl⟩
  case round =>
   obtain ⟨rfl,hk,rfl⟩:=hrel
   go_wp2
   go_end0
   exact ⟨rfl,HR1.out,HG1.out⟩
theorem u1e.calls (W:World) (base:Nat) (ok:Nat → Prop) (A:Option Addr) (c:Nat) (l:List Tx.Lb) (hn:l.length ≤ 19) (hR:Kd.R k66 66 W base ok (.slice A l.length c) l) :
 Calls Tryz.prog 93 #[.slice A l.length c,.func (.func 94) #[] #[]] W fun e W' => e = .returned (.tuple #[]) ∧ Kd.R k66 66 W' base ok (.slice A l.length c) (Tx.sortP l) ∧ W.grownBy W' (Value.slice A l.length c).ownBlock:=by
 have HR:=Aside0.mk hR
 clear hR
 go_enter Tryz.func93,Tryz.ntmps93
 go_wp2_with (go_at_call 123;(with_reducible refine (u1e.stable _ base ok A c l hn HR.out).mono ?_);rintro e W1 ⟨rfl,hr1,hg1⟩;have HR1:=Aside0.mk hr1;have HG1:=Aside0.mk hg1;clear hr1 hg1)
 go_end0
 exact ⟨rfl,HR1.out,HG1.out⟩
theorem u2t.clear_run (m b o c:Nat) (hm:0 < m) (W:World) (hc:∀ j,j < 2 * m → (W.cell? ⟨b,o + j,none⟩).isSome = true) (hf:∀ j,j < 2 * m → W.frozen? ⟨b,o + j,none⟩ = false) (ty:TypeId) :
 (Builtin.clear_ #[50] ty #[.slice (some ⟨b,o,none⟩) m c]).run Tryz.prog W = .ok (.tuple #[]) (W.setCells b o (List.replicate (2 * m) (.string ⟨#[]⟩))):=by
 have hzc:(Builtin.zeroCells (Value.agg #[.string ⟨#[]⟩,.string ⟨#[]⟩]).cells m).toList = List.replicate (2 * m) (.string ⟨#[]⟩):=by
  simp [Builtin.zeroCells,Value.cells]
  apply List.ext_getElem
  · simp [Nat.mul_comm]
  · intro i h1 h2
    have hi:i % 2 = 0 ∨ i % 2 = 1:=by omega
    rcases hi with hi | hi <;> simp [hi]
 have hst:=run_storeCells_cells (P:=Tryz.prog) b o (List.replicate (2 * m) (.string ⟨#[]⟩)) 0 W (by simpa using hc) (by simpa using hf) (by
  intro v hv'
  rw [List.eq_of_mem_replicate hv']
  rfl)
 simp only [Nat.add_zero] at hst
 obtain ⟨q,rfl⟩:∃ q,m = q + 1:=⟨m - 1,by omega⟩
 have hzv:∀ w,(zeroValue 66).run Tryz.prog w = .ok (.agg #[.string ⟨#[]⟩,.string ⟨#[]⟩]) w:=fun w => by kernel_rfl
 simp [Builtin.clear_,run_underlying Tryz.underlying50,hzv,hzc,hst]
theorem u2t.clear_keep (g c n:Nat) (base:Nat) (ok:Nat → Prop):∀ (k i:Nat) (W:World) (cur:List Tx.Lb),Kd.R k66 66 W base ok (.slice (some ⟨g,0,none⟩) n c) cur → cur.length = n → i + k = n →
 ∃ cur':List Tx.Lb,cur'.length = n ∧ cur'.take i = cur.take i ∧ Kd.R k66 66 (W.setCells g (i * 2) (List.replicate (2 * k) (.string ⟨#[]⟩))) base ok (.slice (some ⟨g,0,none⟩) n c) cur' ∧ W.grownBy (W.setCells g (i * 2) (List.replicate (2 * k) (.string ⟨#[]⟩))) (some g)
 | 0,i,W,cur,h,hl,_ => ⟨cur,hl,rfl,h,World.grownBy.refl _ _⟩
 | k + 1,i,W,cur,h,hl,hik => by
   obtain ⟨r1,g1⟩:=u1e.set_elem h hl i (by omega) ⟨⟨#[]⟩,⟨#[]⟩⟩
   obtain ⟨cur',h1,h2,h3,h4⟩:=u2t.clear_keep g c n base ok k (i + 1) _ _ r1 (by rw [List.length_set];exact hl) (by omega)
   have e:W.setCells g (i * 2) (List.replicate (2 * (k + 1)) (.string ⟨#[]⟩)) = (W.setCells g (i * 2) [.string ⟨#[]⟩,.string ⟨#[]⟩]).setCells g ((i + 1) * 2) (List.replicate (2 * k) (.string ⟨#[]⟩)):=by
    rw [show 2 * (k + 1) = 2 * k + 1 + 1 by omega,List.replicate_succ,List.replicate_succ,show (i + 1) * 2 = i * 2 + 1 + 1 by omega]
    rfl
   rw [e]
   refine ⟨cur',h1,?_,h3,g1.trans h4⟩
   have h5:=congrArg (List.take i) h2
   rw [List.take_take,List.take_take,show min i (i + 1) = i by omega] at h5
   rw [h5,List.take_set_of_le (by omega)]
theorem u2t.keep_next (p:Tx.Lb → Bool) (l:List Tx.Lb) (j:Nat) (hj:j < l.length):(l.take (j + 1)).filter (fun x => !p x) = (l.take j).filter (fun x => !p x) ++ if p l[j] = true then [] else [l[j]]:=by
 rw [List.take_succ_eq_append_getElem hj,List.filter_append]
 cases hp:p l[j] <;> simp [hp]
theorem u2t.hit_pre (p:Tx.Lb → Bool) (l:List Tx.Lb) (i:Nat) (h:l.findIdx? p = some i):∃ hi:i < l.length,p l[i] = true ∧ (l.take (i + 1)).filter (fun x => !p x) = l.take i:=by
 obtain ⟨hi,h1,h2⟩:=List.findIdx?_eq_some_iff_getElem.1 h
 refine ⟨hi,h1,?_⟩
 rw [u2t.keep_next p l i hi,if_pos h1,List.append_nil,List.filter_eq_self]
 intro x hx
 obtain ⟨j,hj,rfl⟩:=List.getElem_of_mem hx
 rw [List.length_take] at hj
 rw [List.getElem_take]
 have:=h2 j (by omega)
 simpa using this
theorem u2t.head {W:World} {base:Nat} {ok:Nat → Prop} {A:Option Addr} {c:Nat} {l:List Tx.Lb} (h:Kd.R k66 66 W base ok (.slice A l.length c) l) (hl:0 < l.length):∃ g,A = some ⟨g,0,none⟩:=by
 obtain ⟨ad,ea,_⟩:=at_T66 (Kd.R_reads' h).2.2 0 (by omega) (by omega)
 subst ea
 obtain ⟨g,e⟩:=Kd.R_head h
 exact ⟨g,by rw [e]⟩
theorem u2t.look2s {W:World} {b:Nat} {x y:Value} {t:TypeId} (h:W.heap[b]? = some (.cells #[x,y] t (0,0))):(W.cell? ⟨b,0,none⟩ = some x ∧ W.cell? ⟨b,1,none⟩ = some y) ∧ W.frozen? ⟨b,0,none⟩ = false :=
 ⟨⟨(um h 0).trans rfl,(um h 1).trans rfl⟩,uk h 0⟩
set_option maxRecDepth 100000 in
set_option maxHeartbeats 4000000 in
theorem u2t.calls (W:World) (base:Nat) (v:Value) (l:List Tx.Lb) (fn:Nat) (lb:Array Value) (p:Tx.Lb → Bool) (hR:Kd.R k66 66 W base (fun _ => True) v l) (hm:l.length ≤ 4611686018427387904) (eg:∀ args W,(callFunc fn args).run Tryz.prog W = .ok (.enter fn args) W)
 (hp:∀ (W':World) (x:Tx.Lb),W.grownBy W' v.ownBlock → x ∈ l → Calls Tryz.prog fn (#[.agg #[.string x.f0,.string x.f1]] ++ lb) W' fun e w' => e = .returned (.bool (p x)) ∧ Below W'.heap.size W' w') :
 Calls Tryz.prog 64 #[v,.func (.func fn) #[] lb] W fun e W' => ∃ v',e = .returned v' ∧ Kd.R k66 66 W' base (fun _ => True) v' (l.filter (fun x => !p x)) ∧ W.grownBy W' v.ownBlock:=by
 obtain ⟨A,c,rfl⟩:=Kd.R_slice hR
 have HIX:=Aside0.mk (u2r.calls A c l fn lb p W (Kd.R_reads' hR).2.2 (by omega) eg (fun W' x hb hx => hp W' x (u3b hb _) hx))
 have HP:=Aside0.mk hp
 have HR:=Aside0.mk hR
 clear hp hR
 cases hf:l.findIdx? p with
 | none =>
   have hid:u2r.idx p l = -1:=by unfold u2r.idx;rw [hf]
   rw [hid] at HIX
   have HFL:Aside0 (l.filter (fun x => !p x) = l):=⟨List.filter_eq_self.2 (fun x hx => by rw [List.findIdx?_eq_none_iff.1 hf x hx];rfl)⟩
   clear hf hid
   go_enter Tryz.func64,Tryz.ntmps64
   go_wp2_with (go_at_call 106;(with_reducible refine HIX.out.mono ?_);rintro e W1 ⟨rfl,hb⟩)
   go_ret
   exact ⟨_,rfl,by rw [HFL.out];exact Kd.R_below HR.out hb,u3b hb _⟩
 | some i0 =>
   have hid:u2r.idx p l = (i0:Int):=by unfold u2r.idx;rw [hf]
   rw [hid] at HIX
   obtain ⟨hi0,hpi,hpre⟩:=u2t.hit_pre p l i0 hf
   obtain ⟨g,eg0⟩:=u2t.head HR.out (by omega)
   subst eg0
   have HPI:=Aside0.mk hpi
   have HPRE:=Aside0.mk hpre
   have hne:((i0:Int) == -1) = false:=beq_eq_false_iff_ne.2 (by omega)
   clear hf hid hpi hpre
   go_enter Tryz.func64,Tryz.ntmps64
   go_wp2_with (go_at_call 106;(with_reducible refine HIX.out.mono ?_);rintro e W1 ⟨rfl,hb⟩;have HR1:=Aside0.mk (Kd.R_below HR.out hb);have HG1:=Aside0.mk (u3b hb (some g));clear hb)
   go_loopg [5,6] (l.length) (fun kq v5 v6 wr => ∃ (i j:Nat) (cur:List Tx.Lb),v5 = .int .i64 (i:Int) ∧ v6 = .int .i64 (j:Int) ∧ i < j ∧ j ≤ l.length ∧ l.length ≤ kq + j ∧ cur.length = l.length ∧ Aside0 (cur.take i = (l.take j).filter (fun x => !p x) ∧ cur.drop j = l.drop j) ∧ Aside0 (Kd.R k66 66 wr base (fun _ => True) (.slice (some ⟨g,0,none⟩) l.length c) cur) ∧ Aside0 (W.grownBy wr (some g)))
   case atStart => exact ⟨i0,i0 + 1,l,rfl,by go_num,by omega,by omega,by omega,rfl,⟨HPRE.out.symm,rfl⟩,HR1,HG1⟩
   case round =>
    clear HR1 HG1
    obtain ⟨i,j,cur,rfl,rfl,hij,hj,hk,hcl,HC,HRR,HG⟩:=hrel
    by_cases hlt:j < l.length
    · have hcj:cur[j]'(by omega) = l[j]:=by
       have h1:=HC.out.2
       rw [List.drop_eq_getElem_cons (by omega),List.drop_eq_getElem_cons hlt] at h1
       exact (List.cons.inj h1).1
      have hcd:cur.drop (j + 1) = l.drop (j + 1):=by
       have h1:=HC.out.2
       rw [List.drop_eq_getElem_cons (by omega),List.drop_eq_getElem_cons hlt] at h1
       exact (List.cons.inj h1).2
      have hkn:=u2t.keep_next p l j hlt
      rw [← hcl] at HRR
      obtain ⟨x0,x1,hgb⟩:=u1e.cell_at HRR.out j (by omega)
      rw [hcj] at x0 x1
      rw [hcl] at HRR
      obtain ⟨y,hy⟩:∃ y,l[j] = y:=⟨_,rfl⟩
      have hmem:y ∈ l:=by rw [← hy];exact List.getElem_mem hlt
      rw [hy] at x0 x1 hkn
      have HCD:=Aside0.mk hcd
      have HKN:=Aside0.mk hkn
      have HY:=Aside0.mk hy
      have hq:decide ((j:Int) < (l.length:Int)) = true:=decide_eq_true (by omega)
      have hq2:(j:Int) < (l.length:Int):=by omega
      have hq3:(i:Int) < (l.length:Int):=by omega
      have HT:Aside0 (Calls Tryz.prog fn (#[.agg #[.string y.f0,.string y.f1]] ++ lb) (wr.alloc (.cells #[.string y.f0,.string y.f1] 66)) fun e w' => e = .returned (.bool (p y)) ∧ Below (wr.alloc (.cells #[.string y.f0,.string y.f1] 66)).heap.size (wr.alloc (.cells #[.string y.f0,.string y.f1] 66)) w'):=⟨HP.out _ y (HG.out.trans (u3b (ud (Below.refl _ _) _) _)) hmem⟩
      have HCL:=Aside0.mk hcl
      have HNB:=Aside0.mk (ua.new_at wr (.cells #[.string y.f0,.string y.f1] 66))
      clear hcj hcd hkn hy hmem hcl
      obtain ⟨k1,rfl⟩:∃ k1,gk = k1 + 1:=⟨gk - 1,by omega⟩
      cases hpy:p y with
      | true =>
        rw [hpy] at HT
        have HFN:Aside0 (cur.take i = (l.take (j + 1)).filter (fun x => !p x)):=⟨by rw [HKN.out,if_pos hpy,List.append_nil];exact HC.out.1⟩
        clear hpy
        go_wp2_with (go_at_fn fn;refine HT.out.mono ?_;rintro e W2 ⟨rfl,hb2⟩;have HB2:=Aside0.mk (u1c (ud (Below.refl wr.heap.size wr) _) hb2);clear hb2)
        go_roundg k1
        case rel => exact ⟨i,j + 1,cur,rfl,by go_num,by omega,by omega,by omega,HCL.out,⟨HFN.out,HCD.out⟩,⟨Kd.R_below HRR.out HB2.out⟩,⟨HG.out.trans (u3b HB2.out _)⟩⟩
        case measure => omega
      | false =>
        rw [hpy] at HT
        have HFN:Aside0 (cur.take i ++ [y] = (l.take (j + 1)).filter (fun x => !p x)):=⟨by rw [HKN.out,if_neg (by rw [hpy];exact Bool.false_ne_true),HC.out.1]⟩
        clear hpy
        go_wp2_with (go_at_fn fn;refine HT.out.mono ?_;rintro e W2 ⟨rfl,hb2⟩;have HB2:=Aside0.mk (u1c (ud (Below.refl wr.heap.size wr) _) hb2);have HR2:=Aside0.mk (Kd.R_below HRR.out HB2.out);obtain ⟨⟨n0,n1⟩,n2⟩:=u2t.look2s (ua.below_at hb2 HNB.out);have HR3:Aside0 (Kd.R k66 66 W2 base (fun _ => True) (.slice (some ⟨g,0,none⟩) cur.length c) cur):=⟨by rw [HCL.out];exact HR2.out⟩;obtain ⟨o0,o1,_⟩:=u1e.cell_at HR3.out i (by have:=HCL.out;omega);obtain ⟨fz,_⟩:=u1e.thawed HR2.out;have f0:=fz (i * 2);have f1:=fz (i * 2 + 1);clear hb2 x0 x1 fz HR3)
        obtain ⟨r1,g1⟩:=u1e.set_elem HR2.out HCL.out i (by omega) y
        have HR4:=Aside0.mk r1
        have HG4:=Aside0.mk ((HG.out.trans (u3b HB2.out _)).trans g1)
        clear r1 g1
        go_roundg k1
        case rel =>
         refine ⟨i + 1,j + 1,cur.set i y,by go_num,by go_num,by omega,by omega,by omega,by rw [List.length_set];exact HCL.out,⟨?_,?_⟩,HR4,HG4⟩
         · rw [← HFN.out,List.take_succ_eq_append_getElem (by rw [List.length_set];have:=HCL.out;omega),List.take_set_of_le (Nat.le_refl _),List.getElem_set_self]
         · rw [List.drop_set_of_lt (by omega)]
           exact HCD.out
        case measure => omega
    · have hjl:j = l.length:=by omega
      have HJ:=Aside0.mk hjl
      have HFN:Aside0 (cur.take i = l.filter (fun x => !p x)):=⟨by rw [HC.out.1,hjl,List.take_length]⟩
      have hq:decide ((j:Int) < (l.length:Int)) = false:=decide_eq_false (by omega)
      have hq2:decide (j < l.length) = false:=decide_eq_false hlt
      have hin:i < l.length:=by omega
      have hlc:l.length ≤ c:=(Kd.R_reads' HRR.out).2.1
      have hic:¬ c = i:=by omega
      obtain ⟨fz,_⟩:=u1e.thawed HRR.out
      have hcl2:∀ ty,(Builtin.clear_ #[50] ty #[.slice (some ⟨g,i * 2,none⟩) (l.length - i) (c - i)]).run Tryz.prog wr = .ok (.tuple #[]) (wr.setCells g (i * 2) (List.replicate (2 * (l.length - i)) (.string ⟨#[]⟩))):=fun ty => u2t.clear_run (l.length - i) g (i * 2) (c - i) (by omega) wr (fun q hq => by
       have h9:Kd.R k66 66 wr base (fun _ => True) (.slice (some ⟨g,0,none⟩) cur.length c) cur:=by rw [hcl];exact HRR.out
       obtain ⟨c0,c1,_⟩:=u1e.cell_at h9 (i + q / 2) (by omega)
       rcases (show q % 2 = 0 ∨ q % 2 = 1 by omega) with hz | hz
       · rw [show i * 2 + q = (i + q / 2) * 2 by omega,c0]
         rfl
       · rw [show i * 2 + q = (i + q / 2) * 2 + 1 by omega,c1]
         rfl) (fun q _ => fz _) ty
      obtain ⟨cur',k1,k2,k3,k4⟩:=u2t.clear_keep g c l.length base (fun _ => True) (l.length - i) i wr cur HRR.out hcl (by omega)
      have HK:=Aside0.mk (And.intro k1 k2)
      have HRK:=Aside0.mk k3
      have HGK:=Aside0.mk (HG.out.trans k4)
      clear k1 k2 k3 k4 fz hjl hcl hlt
      generalize wr.setCells g (i * 2) (List.replicate (2 * (l.length - i)) (.string ⟨#[]⟩)) = W9 at *
      go_wp2
      go_ret
      refine ⟨_,rfl,?_,HGK.out⟩
      have h9:=Kd.R_take HRK.out (m:=i) (by rw [HK.out.1];omega)
      rw [HK.out.2,HFN.out] at h9
      exact h9
def u1k.f (a0:ByteArray):Option ByteArray:=if (Base.quoteL a0.data.toList).length ≤ 140737488355328 then some (Base.quoteS a0) else none
set_option maxRecDepth 100000 in
theorem u1k.check_used (b:Nat) (w:World) (h0:w.cell? ⟨b,0,none⟩ = some (.pointer (some ⟨b,0,none⟩))) :
 Calls Tryz.prog 149 #[.pointer (some ⟨b,0,none⟩)] w fun e w' => e = .returned (.tuple #[]) ∧ w' = w:=by
 obtain ⟨j,hj,_⟩:=Option.map_eq_some_iff.1 (Tryz.Builder_Extra_169).toX72.sizeBuilder
 have u70:=run_underlying (P:=Tryz.prog) Tryz.underlying166
 go_enter Tryz.func149,Tryz.ntmps149
 go_wp2
 rw [Lib.run_neq_ptr_same w _ Tryz.underlying166 hj]
 go_wp2
 go_end0
 exact ⟨rfl,rfl⟩
set_option maxRecDepth 100000 in
theorem u1k.check_fresh (b:Nat) (w:World) (h0:w.cell? ⟨b,0,none⟩ = some (.pointer none)) (hsh:w.shape? b = some (168,2)) (hfz:w.frozen? ⟨b,0,none⟩ = false) :
 Calls Tryz.prog 149 #[.pointer (some ⟨b,0,none⟩)] w fun e w' => e = .returned (.tuple #[]) ∧ w' = w.setCell ⟨b,0,none⟩ (.pointer (some ⟨b,0,none⟩)):=by
 obtain ⟨j,hj,hjs⟩:=Option.map_eq_some_iff.1 (Tryz.Builder_Extra_169).toX72.sizeBuilder
 go_enter Tryz.func149,Tryz.ntmps149
 go_wp2
 rw [Lib.run_to_unsafe w ⟨b,0,none⟩ Tryz.underlying166 Tryz.underlying195 hj (by rw [hjs];decide) hsh (Nat.zero_lt_succ 1)]
 simp only [Result.andThen]
 rw [Oper.upon_value]
 go_wp2
 rw [run_callFunc_extern Tryz.func159 (by kernel_rfl) (by kernel_rfl) (by kernel_rfl) (e:=Extern.AbiNoEscape.same) (by kernel_rfl)]
 rw [Lib.run_noEscape]
 simp only [Result.andThen]
 rw [Oper.upon_value]
 go_wp2
 rw [Lib.run_from_unsafe w ⟨b,0,none⟩ Tryz.underlying195 Tryz.underlying166 hj hsh (Tryz.Builder_Extra_169).toX72.liesBuilder]
 simp only [Result.andThen]
 rw [Oper.upon_value]
 go_wp2
 go_end0
 exact ⟨rfl,rfl⟩
def u1k.Bld (B b:Nat) (p v:Value) (l:List UInt8) (w:World):Prop :=
 B ≤ b ∧ w.heap[b]? = some (.cells #[p,v] 168 (0,0)) ∧ w.ownsRow B 5 1 v (Lib.byteCells l).length (Lib.byteCells l) ∧ v.ownBlock ≠ some b
def u1k.Left (b:Nat) (v v':Value) (w w':World):Prop :=
 (∀ i,i < w.heap.size → i ≠ b → some i ≠ v.ownBlock → w'.heap[i]? = w.heap[i]?) ∧ (v'.ownBlock = v.ownBlock ∨ ∃ k,v'.ownBlock = some k ∧ w.heap.size ≤ k)
theorem u1k.check (B b:Nat) (p v:Value) (l:List UInt8) (w:World) (h:u1k.Bld B b p v l w) (hp:p = .pointer none ∨ p = .pointer (some ⟨b,0,none⟩)) :
 Calls Tryz.prog 149 #[.pointer (some ⟨b,0,none⟩)] w fun e w' => e = .returned (.tuple #[]) ∧ (u1k.Bld B b (.pointer (some ⟨b,0,none⟩)) v l w' ∧ Below B w w' ∧ w'.heap.size = w.heap.size ∧ ∀ i,i ≠ b → w'.heap[i]? = w.heap[i]?):=by
 obtain ⟨hB,hb,ho,hne⟩:=h
 rcases hp with rfl | rfl
 · have hA:Lib.BuilderAt 168 5 B b (.pointer none) (Lib.byteCells l) w:=⟨hB,v,hb,ho,hne⟩
   refine (u1k.check_fresh b w hA.cell0 hA.shape hA.frozen0).mono ?_
   rintro e w' ⟨rfl,rfl⟩
   have hlt:b < w.heap.size:=hA.lt
   have hother:∀ i,i ≠ b → (w.setCell ⟨b,0,none⟩ (.pointer (some ⟨b,0,none⟩))).heap[i]? = w.heap[i]? := fun i hi => Below.heap_setCell w ⟨b,0,none⟩ _ i hi
   refine ⟨rfl,⟨hB,?_,?_,hne⟩,(Below.refl B w).setCell (p:=⟨b,0,none⟩) hB _,by simp,hother⟩
   · simp [World.setCell,Array.getElem?_modify,hb]
   · refine own_move ho (fun k hk => hother k ?_)
     rintro rfl
     exact hne hk
 · have hA:Lib.BuilderAt 168 5 B b (.pointer (some ⟨b,0,none⟩)) (Lib.byteCells l) w:=⟨hB,v,hb,ho,hne⟩
   refine (u1k.check_used b w hA.cell0).mono ?_
   rintro e w' ⟨rfl,rfl⟩
   exact ⟨rfl,⟨hB,hb,ho,hne⟩,Below.refl B _,rfl,fun _ _ => rfl⟩
set_option maxHeartbeats 1000000 in
theorem u1k.write (B b:Nat) (p v:Value) (l:List UInt8) (c:UInt8) (w:World) (h:u1k.Bld B b p v l w) (hp:p = .pointer none ∨ p = .pointer (some ⟨b,0,none⟩)) (hlen:l.length + 1 ≤ 140737488355328) (hBw:B ≤ w.heap.size) :
 Calls Tryz.prog 131 #[.pointer (some ⟨b,0,none⟩),.int .u8 c.toNat] w fun e w' => e = .returned .nilIface ∧ ∃ v',u1k.Bld B b (.pointer (some ⟨b,0,none⟩)) v' (l ++ [c]) w' ∧ Below B w w' ∧ u1k.Left b v v' w w':=by
 go_enter Tryz.func131,Tryz.ntmps131
 go_wp2_with (go_at_call 149;refine (u1k.check B b p v l _ h hp).mono ?_)
 rintro e w1 ⟨rfl,h1,hb1,hz1,hk1⟩
 obtain ⟨hB,hbk,hown,hne⟩:=h1
 have c1:w1.cell? ⟨b,1,none⟩ = some v:=by rw [Lib.cell_of_heap hbk];rfl
 have hll:(Lib.byteCells l).length = l.length:=Lib.byteCells_length l
 have HL:=Aside0.mk hll
 clear hll
 have HK:=Aside0.mk hk1
 have HZ:=Aside0.mk hz1
 clear hk1 hz1
 go_wp2_with (at_builtin;refine print_append (w0:=w) B rfl (.tmp 11) (.tmp 13) 22 5 (.int .u8 0) 1 rfl Tryz.underlying22 (Tryz.Builder_Extra_169).infoByte rfl (by decide) v (Lib.byteCells l) (.int .u8 c.toNat) rfl rfl rfl hown hb1 ?c5 ?c4 ?_)
 case c5 => have:=hb1.size;omega
 case c4 => rw [HL.out];omega
 intro v' w2 hown' hbel hgrow hat
 have hlt:b < w1.heap.size:=by
  rcases Nat.lt_or_ge b w1.heap.size with h' | h'
  · exact h'
  · simp [Array.getElem?_eq_none h'] at hbk
 have hb2:w2.heap[b]? = some (.cells #[.pointer (some ⟨b,0,none⟩),v] 168 (0,0)):=by
  rw [hgrow.block b hlt (fun e => hne e.symm)]
  exact hbk
 have d1:w2.cell? ⟨b,1,none⟩ = some v:=by rw [Lib.cell_of_heap hb2];rfl
 have f1:w2.frozen? ⟨b,1,none⟩ = false:=Lib.frozen_of_heap hb2 1
 obtain ⟨g,cap,rfl⟩:∃ g cap,v' = .slice (some ⟨g,0,none⟩) (l.length + 1) cap:=by
  rcases hown'.2 with ⟨_,h0⟩ | ⟨g,cap,cur,hv,_⟩
  · simp at h0
  · have hv2:v' = .slice (some ⟨g,0,none⟩) ((Lib.byteCells l).length + 1) cap:=by simpa using hv
    rw [HL.out] at hv2
    exact ⟨g,cap,hv2⟩
 have H2:=Aside0.mk hown'
 have HB2:=Aside0.mk hbel
 have HG2:=Aside0.mk hgrow
 have HA2:=Aside0.mk hat
 have HN:=Aside0.mk hne
 clear hown' hbel hgrow hat hne hown
 have hg2:g ≠ b:=by
  rintro rfl
  rcases HA2.out with h1 | ⟨k,h1,h2⟩
  · exact HN.out (by rw [← h1];rfl)
  · have h3:g = k:=by simpa [Value.ownBlock] using h1
    omega
 go_wp2
 go_ret
 refine ⟨rfl,.slice (some ⟨g,0,none⟩) (l.length + 1) cap,⟨hB,?_,?_,?_⟩,HB2.out.setCell (p:=⟨b,1,none⟩) hB _,?_,?_⟩
 · simp [World.setCell,Array.getElem?_modify,hb2]
 · have hbc:Lib.byteCells (l ++ [c]) = Lib.byteCells l ++ [Value.int .u8 c.toNat]:=by rw [Lib.byteCells_append];rfl
   rw [hbc]
   have h4:w2.ownsRow B 5 1 (.slice (some ⟨g,0,none⟩) (l.length + 1) cap) (Lib.byteCells l ++ [Value.int .u8 c.toNat]).length (Lib.byteCells l ++ [Value.int .u8 c.toNat]):=by simpa using H2.out
   refine own_move h4 (fun k hk => Below.heap_setCell w2 ⟨b,1,none⟩ _ k ?_)
   have h3:g = k:=by simpa [Value.ownBlock] using hk
   rintro rfl
   exact hg2 h3
 · simpa [Value.ownBlock] using hg2
 · intro i hi hib hiv
   rw [Below.heap_setCell w2 ⟨b,1,none⟩ _ i hib,HG2.out.block i (by rw [HZ.out];exact hi) hiv]
   exact HK.out i hib
 · rcases HA2.out with h1 | ⟨k,h1,h2⟩
   · exact .inl h1
   · exact .inr ⟨k,h1,by rw [← HZ.out];exact h2⟩
theorem u1k.write_z (B b:Nat) (p v:Value) (l:List UInt8) (c:UInt8) (z:Int) (w:World) (hz:(c.toNat:Int) = z) (h:u1k.Bld B b p v l w) (hp:p = .pointer none ∨ p = .pointer (some ⟨b,0,none⟩)) (hlen:l.length + 1 ≤ 140737488355328) (hBw:B ≤ w.heap.size) :
 Calls Tryz.prog 131 #[.pointer (some ⟨b,0,none⟩),.int .u8 z] w fun e w' => e = .returned .nilIface ∧ ∃ v',u1k.Bld B b (.pointer (some ⟨b,0,none⟩)) v' (l ++ [c]) w' ∧ Below B w w' ∧ u1k.Left b v v' w w':=by
 subst hz
 exact u1k.write B b p v l c w h hp hlen hBw
theorem u1k.cell_same (w w':World) (D j:Nat) (h:w'.heap[D]? = w.heap[D]?):w'.cell? ⟨D,j,none⟩ = w.cell? ⟨D,j,none⟩:=by
 simp [World.cell?,h]
theorem u1k.byte_at (s:ByteArray) (x:Nat) (h:x < s.size):∃ c:UInt8,(c.toNat:Int) = bt s x ∧ s.data.toList.take (x + 1) = s.data.toList.take x ++ [c]:=by
 have h':x < s.data.toList.length:=by rw [u2f];exact h
 refine ⟨s.data.toList[x],?_,?_⟩
 · have h2:=bt_at s x (by simpa using h)
   rw [← h2]
   rfl
 · rw [List.take_succ_eq_append_getElem h']
theorem u1k.part_le (l:List UInt8) (x:Nat):((34:UInt8) :: (l.take x).flatMap Base.quoteByte).length + 1 ≤ (Base.quoteL l).length:=by
 have h1:(l.take x).flatMap Base.quoteByte ++ (l.drop x).flatMap Base.quoteByte = l.flatMap Base.quoteByte:=by
  rw [← List.flatMap_append,List.take_append_drop]
 have h2:(Base.quoteL l).length = (l.flatMap Base.quoteByte).length + 2:=by simp [Base.quoteL]
 rw [h2,← h1]
 simp
def u1k.Inv (B D:Nat) (H:Option Obj) (w:World) (v:Value) (l:List UInt8) (wr:World):Prop :=
 u1k.Bld B B (.pointer (some ⟨B,0,none⟩)) v l wr ∧ Below B w wr ∧ wr.heap[D]? = H ∧ v.ownBlock ≠ some D ∧ D < wr.heap.size
theorem u1k.inv_write (B D:Nat) (H:Option Obj) (w:World) (v:Value) (l:List UInt8) (wr:World) (h:u1k.Inv B D H w v l wr) (hBD:B < D) (c:UInt8) (z:Int) (hz:(c.toNat:Int) = z) (hlen:l.length + 1 ≤ 140737488355328) :
 Calls Tryz.prog 131 #[.pointer (some ⟨B,0,none⟩),.int .u8 z] wr fun e w' => e = .returned .nilIface ∧ ∃ v',u1k.Inv B D H w v' (l ++ [c]) w':=by
 obtain ⟨h1,h2,h3,h4,h5⟩:=h
 refine (u1k.write_z B B _ v l c z wr hz h1 (.inr rfl) hlen (by omega)).mono ?_
 rintro e w' ⟨rfl,v',g1,g2,g3,g4⟩
 refine ⟨rfl,v',g1,h2.trans g2,?_,?_,?_⟩
 · rw [g3 D h5 (by omega) (fun e => h4 e.symm)]
   exact h3
 · rcases g4 with g4 | ⟨k,g4,g5⟩
   · rw [g4];exact h4
   · rw [g4]
     intro e
     have:k = D:=Option.some.inj e
     omega
 · have hs:=g1.2.2.1
   have h6:∀ i,i < wr.heap.size → i ≠ B → some i ≠ v.ownBlock → w'.heap[i]? = wr.heap[i]? := g3
   have h7:=h6 D h5 (by omega) (fun e => h4 e.symm)
   rcases Nat.lt_or_ge D w'.heap.size with h8 | h8
   · exact h8
   · rw [Array.getElem?_eq_none h8,Array.getElem?_eq_getElem h5] at h7
     exact absurd h7 (by simp)
set_option maxHeartbeats 4000000 in
theorem u1k.calls (a0:ByteArray) (r:ByteArray) (w:World) (h:u1k.f a0 = some r) :
 Calls Tryz.prog 108 #[.string a0] w fun e w' => e = .returned (.string r) ∧ Below w.heap.size w w':=by
 unfold u1k.f at h
 by_cases hlim:(Base.quoteL a0.data.toList).length ≤ 140737488355328
 · rw [if_pos hlim] at h
   obtain rfl:=Option.some.inj h
   clear h
   have HLIM:=Aside0.mk hlim
   clear hlim
   have hsz:a0.size ≤ 140737488355328:=by
    have h1:∀ l:List UInt8,l.length ≤ (l.flatMap Base.quoteByte).length:=by
     intro l
     induction l with
     | nil => simp
     | cons x q ih =>
       have h3:1 ≤ (Base.quoteByte x).length:=by unfold Base.quoteByte;split <;> simp
       simp only [List.flatMap_cons,List.length_append,List.length_cons]
       omega
    have h2:=h1 a0.data.toList
    have h4:=HLIM.out
    simp only [Base.quoteL,List.length_cons,List.length_append,List.length_nil] at h4
    rw [u2f] at h2
    omega
   have kb:=fun W => print_bytes (P:=Tryz.prog) 9 22 5 Tryz.underlying9 Tryz.underlying22 Tryz.underlying5 a0 W
   have hB0:u1k.Bld w.heap.size w.heap.size (.pointer none) (.slice none 0 0) [] (w.alloc (.cells #[.pointer none,.slice none 0 0] 168)) :=
    ⟨Nat.le_refl _,heap_alloc_new w _,own_nil _ _ _ _,by simp [Value.ownBlock]⟩
   have HB0:=Aside0.mk hB0
   clear hB0
   go_enter Tryz.func108,Tryz.ntmps108
   go_wp2_with fail
   refine (u1k.write_z w.heap.size w.heap.size _ _ [] 34 34 _ rfl HB0.out (.inl rfl) (by simp) (by simp)).mono ?_
   rintro e w1 ⟨rfl,v1,hb1,hw1,hl1⟩
   have hsz1:w.heap.size + 1 ≤ w1.heap.size:=by
    have:=hw1.size
    simpa using this
   have H1:=Aside0.mk hb1
   have HW1:=Aside0.mk (((Below.refl _ w).alloc (Nat.le_refl _) (.cells #[.pointer none,.slice none 0 0] 168)).trans hw1)
   clear hb1 hw1 hl1 HB0
   have hrd:=bytes_reads w1 5 a0 (by omega)
   have hcell:∀ j:Nat,j < a0.size → (Lib.bytesWorld w1 5 a0).cell? ⟨w1.heap.size,j,none⟩ = some (.int .u8 (bt a0 j)):=by
    intro j hj
    obtain ⟨ad,e,hc⟩:=hrd.2.2 (by omega)
    cases e
    have h5:=hc j hj
    rw [add_plain] at h5
    rw [h5,← rd_bytesOf]
    simp [rd]
   have HCELL:=Aside0.mk hcell
   clear hcell hrd
   have H2:Aside0 (u1k.Bld w.heap.size w.heap.size (.pointer (some ⟨w.heap.size,0,none⟩)) v1 [34] (Lib.bytesWorld w1 5 a0)):=by
    obtain ⟨g1,g2,g3,g4⟩:=H1.out
    have hold:∀ i,i < w1.heap.size → (Lib.bytesWorld w1 5 a0).heap[i]? = w1.heap[i]? := fun i hi => Lib.bytesWorld_at_old w1 5 a0 i hi
    exact ⟨⟨g1,by rw [hold _ (by omega)];exact g2,own_move g3 (fun k hk => hold k (own_lt g3 k hk)),g4⟩⟩
   have hD:v1.ownBlock ≠ some w1.heap.size:=by
    intro hk
    have:=own_lt H1.out.2.2.1 _ hk
    omega
   have HD:=Aside0.mk hD
   clear hD H1
   have HSZ:Aside0 (w1.heap.size < (Lib.bytesWorld w1 5 a0).heap.size):=⟨by rw [Lib.bytesWorld_size];omega⟩
   have HW2:Aside0 (Below w.heap.size w (Lib.bytesWorld w1 5 a0)):=⟨bytes_below HW1.out (by omega) _ _⟩
   go_wp2_with fail
   have HI0:Aside0 (u1k.Inv w.heap.size w1.heap.size ((Lib.bytesWorld w1 5 a0).heap[w1.heap.size]?) w v1 [34] (Lib.bytesWorld w1 5 a0)):=⟨H2.out,HW2.out,rfl,HD.out,HSZ.out⟩
   clear H2 HW2 HD HSZ
   have hBD:w.heap.size < w1.heap.size:=by omega
   go_loopg [10] (a0.size) (fun kq v10 wr => ∃ (x:Nat) (v:Value),x ≤ a0.size ∧ v10 = .int .i64 x ∧ a0.size ≤ kq + x ∧ Aside0 (u1k.Inv w.heap.size w1.heap.size ((Lib.bytesWorld w1 5 a0).heap[w1.heap.size]?) w v (34 :: (a0.data.toList.take x).flatMap Base.quoteByte) wr))
   case atStart => exact ⟨0,v1,by omega,rfl,by omega,⟨by simpa using HI0.out⟩⟩
   case round =>
    obtain ⟨x,v,hx,rfl,hk,HR⟩:=hrel
    by_cases hlt:x < a0.size
    · obtain ⟨g1,rfl⟩:∃ g1,gk = g1 + 1:=⟨gk - 1,by omega⟩
      obtain ⟨c,hc,htk⟩:=u1k.byte_at a0 x hlt
      have HT:=Aside0.mk htk
      have HC:=Aside0.mk hc
      clear htk hc
      have hcl:wr.cell? ⟨w1.heap.size,x,none⟩ = some (.int .u8 (bt a0 x)):=by
       rw [u1k.cell_same _ _ _ _ HR.out.2.2.1]
       exact HCELL.out x hlt
      have hpl:=Aside0.mk (u1k.part_le a0.data.toList x)
      have hpl2:=Aside0.mk (u1k.part_le a0.data.toList (x + 1))
      have hlen1:Aside0 (((34:UInt8) :: (a0.data.toList.take x).flatMap Base.quoteByte).length + 1 ≤ 140737488355328):=⟨Nat.le_trans hpl.out HLIM.out⟩
      have hrng:=bt_range a0 x
      generalize bt a0 x = z at HC hcl hrng
      have hstep:Aside0 (z = 34 ∨ z = 92 → (34:UInt8) :: (a0.data.toList.take (x + 1)).flatMap Base.quoteByte = ((34:UInt8) :: (a0.data.toList.take x).flatMap Base.quoteByte) ++ [92] ++ [c]):=⟨by
       intro hz
       have h7:Base.quoteByte c = [92,c]:=by
        unfold Base.quoteByte
        rw [if_pos]
        rcases hz with hz | hz
        · left;rw [hz] at HC;have:=HC.out;exact UInt8.toNat_inj.1 (by simpa using (by omega:c.toNat = 34))
        · right;rw [hz] at HC;have:=HC.out;exact UInt8.toNat_inj.1 (by simpa using (by omega:c.toNat = 92))
       rw [HT.out,List.flatMap_append]
       simp [h7]⟩
      have hstep1:Aside0 (¬ z = 34 → ¬ z = 92 → (34:UInt8) :: (a0.data.toList.take (x + 1)).flatMap Base.quoteByte = ((34:UInt8) :: (a0.data.toList.take x).flatMap Base.quoteByte) ++ [c]):=⟨by
       intro hz1 hz2
       have h7:Base.quoteByte c = [c]:=by
        unfold Base.quoteByte
        rw [if_neg]
        rintro (h8 | h8)
        · apply hz1;rw [← HC.out,h8];rfl
        · apply hz2;rw [← HC.out,h8];rfl
       rw [HT.out,List.flatMap_append]
       simp [h7]⟩
      have hlen2:Aside0 (z = 34 ∨ z = 92 → (((34:UInt8) :: (a0.data.toList.take x).flatMap Base.quoteByte) ++ [92]).length + 1 ≤ 140737488355328):=⟨by
       intro hz
       have h8:=hpl2.out
       rw [hstep.out hz] at h8
       have h9:=HLIM.out
       simp only [List.length_append,List.length_cons,List.length_nil] at h8 ⊢
       omega⟩
      by_cases hq:z = 34 ∨ z = 92
      · have HQ:=Aside0.mk hq
        have fin:∀ (W:World),Aside0 (u1k.Inv w.heap.size w1.heap.size ((Lib.bytesWorld w1 5 a0).heap[w1.heap.size]?) w v (34 :: (a0.data.toList.take x).flatMap Base.quoteByte) W) → True:=fun _ _ => trivial
        clear fin
        by_cases h34:z = 34
        · have hb:(z == 34) = true:=by simp [h34]
          clear hq h34
          go_wp2_with fail
          refine (u1k.inv_write _ _ _ w v _ _ HR.out hBD 92 92 rfl hlen1.out).mono ?_
          rintro e W1 ⟨rfl,v2,hI2⟩
          have HI2:=Aside0.mk hI2
          clear hI2
          go_wp2_with fail
          refine (u1k.inv_write _ _ _ w v2 _ _ HI2.out hBD c z HC.out (hlen2.out HQ.out)).mono ?_
          rintro e W2 ⟨rfl,v3,hI3⟩
          rw [← hstep.out HQ.out] at hI3
          have HI3:=Aside0.mk hI3
          clear hI3
          go_wp2
          go_roundg g1
          case rel => exact ⟨x + 1,v3,by omega,by go_num,by omega,HI3⟩
          case measure => omega
        · have h92:z = 92:=by omega
          have hb:(z == 34) = false:=by simp [h34]
          have hb2:(z == 92) = true:=by simp [h92]
          clear hq h34 h92
          go_wp2_with fail
          refine (u1k.inv_write _ _ _ w v _ _ HR.out hBD 92 92 rfl hlen1.out).mono ?_
          rintro e W1 ⟨rfl,v2,hI2⟩
          have HI2:=Aside0.mk hI2
          clear hI2
          go_wp2_with fail
          refine (u1k.inv_write _ _ _ w v2 _ _ HI2.out hBD c z HC.out (hlen2.out HQ.out)).mono ?_
          rintro e W2 ⟨rfl,v3,hI3⟩
          rw [← hstep.out HQ.out] at hI3
          have HI3:=Aside0.mk hI3
          clear hI3
          go_wp2
          go_roundg g1
          case rel => exact ⟨x + 1,v3,by omega,by go_num,by omega,HI3⟩
          case measure => omega
      · have h34:¬ z = 34:=by omega
        have h92:¬ z = 92:=by omega
        have hb:(z == 34) = false:=by simp [h34]
        have hb2:(z == 92) = false:=by simp [h92]
        have HE:=Aside0.mk (hstep1.out h34 h92)
        clear hq h34 h92
        go_wp2_with fail
        refine (u1k.inv_write _ _ _ w v _ _ HR.out hBD c z HC.out hlen1.out).mono ?_
        rintro e W1 ⟨rfl,v2,hI2⟩
        rw [← HE.out] at hI2
        have HI2:=Aside0.mk hI2
        clear hI2
        go_wp2
        go_roundg g1
        case rel => exact ⟨x + 1,v2,by omega,by go_num,by omega,HI2⟩
        case measure => omega
    · have hlen1:Aside0 (((34:UInt8) :: (a0.data.toList.take x).flatMap Base.quoteByte).length + 1 ≤ 140737488355328):=⟨Nat.le_trans (u1k.part_le a0.data.toList x) HLIM.out⟩
      have hfull:a0.data.toList.take x = a0.data.toList:=List.take_of_length_le (by rw [u2f];omega)
      rw [hfull] at HR hlen1
      clear hfull
      go_wp2_with fail
      refine (u1k.inv_write _ _ _ w v _ _ HR.out hBD 34 34 rfl hlen1.out).mono ?_
      rintro e W1 ⟨rfl,v2,hI2⟩
      have HI2:Aside0 (u1k.Inv w.heap.size w1.heap.size ((Lib.bytesWorld w1 5 a0).heap[w1.heap.size]?) w v2 (Base.quoteL a0.data.toList) W1):=⟨by simpa [Base.quoteL] using hI2⟩
      clear hI2
      have hbf:Lib.IsBuilderF 168 5 w.heap.size w.heap.size (Lib.byteCells (Base.quoteL a0.data.toList)) W1:=Lib.IsBuilderF.of (.inr ⟨HI2.out.1.1,v2,HI2.out.1.2.1,HI2.out.1.2.2.1,HI2.out.1.2.2.2⟩)
      have HBF:=Aside0.mk hbf
      clear hbf
      go_wp2_with fail
      refine (Tryz.Builder_String_any_k w.heap.size w.heap.size (Base.quoteL a0.data.toList) W1 HBF.out HI2.out.2.1.size).mono ?_
      rintro e W2 ⟨rfl,_,hb3,_⟩
      have HB3:=Aside0.mk (HI2.out.2.1.trans hb3)
      clear hb3
      go_wp2
      go_ret
      exact ⟨rfl,HB3.out⟩
 · rw [if_neg hlim] at h
   exact absurd h (by simp)
def ut.l0:Nat → ByteArray → Int → Option (Bool)
 | 0,_,_ => none
 | k + 1,x0,x3 => if x3 < (x0.size:Int) then (if 0 ≤ x3 then (if (bt x0 x3) ≥ 97 then (if (bt x0 x3) ≤ 122 then (ut.l0 k x0 (wrap64 (x3 + 1))) else (if (bt x0 x3) ≥ 65 then (if (bt x0 x3) ≤ 90 then (ut.l0 k x0 (wrap64 (x3 + 1))) else (if ((bt x0 x3) = 95) then (ut.l0 k x0 (wrap64 (x3 + 1))) else (if x3 = 0 then (some false) else (if (bt x0 x3) < 48 then (some false) else (if (bt x0 x3) > 57 then (some false) else (ut.l0 k x0 (wrap64 (x3 + 1)))))))) else (if ((bt x0 x3) = 95) then (ut.l0 k x0 (wrap64 (x3 + 1))) else (if x3 = 0 then (some false) else (if (bt x0 x3) < 48 then (some false) else (if (bt x0 x3) > 57 then (some false) else (ut.l0 k x0 (wrap64 (x3 + 1))))))))) else (if (bt x0 x3) ≥ 65 then (if (bt x0 x3) ≤ 90 then (ut.l0 k x0 (wrap64 (x3 + 1))) else (if ((bt x0 x3) = 95) then (ut.l0 k x0 (wrap64 (x3 + 1))) else (if x3 = 0 then (some false) else (if (bt x0 x3) < 48 then (some false) else (if (bt x0 x3) > 57 then (some false) else (ut.l0 k x0 (wrap64 (x3 + 1)))))))) else (if ((bt x0 x3) = 95) then (ut.l0 k x0 (wrap64 (x3 + 1))) else (if x3 = 0 then (some false) else (if (bt x0 x3) < 48 then (some false) else (if (bt x0 x3) > 57 then (some false) else (ut.l0 k x0 (wrap64 (x3 + 1))))))))) else (none)) else (if (x0.size:Int) ≥ 1 then (some (decide ((x0.size:Int) ≤ 24))) else (some false))
def ut.f (k:Nat) (a0:ByteArray):Option (Bool):=ut.l0 k a0 0
set_option maxHeartbeats 8000000 in
set_option maxRecDepth 100000 in
theorem ut.calls (k:Nat) (a0:ByteArray) (r:Bool) (w:World) (h:ut.f k a0 = some r) :
 Calls Tryz.prog 37 #[.string a0] w fun e w' => e = .returned (.bool r) ∧ uy w w':=by
 have H:(ut.l0 k a0 0) = some r:=h
 clear h
 have H':=Aside0.mk H
 clear H
 go_enter Tryz.func37,Tryz.ntmps37
 go_wp2
 go_loopg [3] k (fun kq v3 w' => ∃ (x3_1:Int),v3 = .int .i64 x3_1 ∧ Aside0 (ut.l0 kq a0 x3_1 = some r) ∧ Aside0 (kq ≤ k) ∧ uy w w')
 case atStart => exact ⟨(0),(by first | rfl | (simp;done) | (simp [*];done)),H',⟨Nat.le_refl _⟩,by repeat (first | exact uy.refl _ | apply uy.step)⟩
 case round =>
  clear H'
  obtain ⟨x3_1,rfl,HA,HK1,⟨m1,rfl⟩⟩:=hrel
  cases gk with
  | zero => exact absurd HA.out (by simp [ut.l0])
  | succ k1 =>
    have H:=HA.out
    clear HA
    simp only [ut.l0] at H
    by_cases c2:x3_1 < (a0.size:Int)
    · rw [if_pos c2] at H
      have c2b0:decide (x3_1 < (a0.size:Int)) = true:=decide_eq_true c2
      clear c2
      by_cases c3:0 ≤ x3_1
      · rw [if_pos c3] at H
        have c3b0:decide (0 ≤ x3_1) = true:=decide_eq_true c3
        clear c3
        by_cases c5:(bt a0 x3_1) ≥ 97
        · rw [if_pos c5] at H
          have c5b0:decide (97 ≤ (bt a0 x3_1)) = true:=decide_eq_true c5
          clear c5
          by_cases c6:(bt a0 x3_1) ≤ 122
          · rw [if_pos c6] at H
            have c6b0:decide ((bt a0 x3_1) ≤ 122) = true:=decide_eq_true c6
            clear c6
            have H':=Aside0.mk H
            clear H
            have p4:0 ≤ (x3_1:Int):=of_decide_eq_true (by first | (with_reducible assumption) | assumption)
            have q4:x3_1 < (a0.size:Int):=of_decide_eq_true (by first | (with_reducible assumption) | assumption)
            have hx4:=bt_at a0 x3_1
            replace p4:=eq_true p4
            replace q4:=eq_true q4
            go_wp2
            go_roundg k1
            case measure => have:=HK1.out;omega
            case rel => exact ⟨(wrap64 (x3_1 + 1)),(by first | rfl | (simp;done) | (simp [*];done)),H',⟨by have:=HK1.out;omega⟩,by repeat (first | exact uy.refl _ | apply uy.step)⟩
          · rw [if_neg c6] at H
            have c6b0:decide ((bt a0 x3_1) ≤ 122) = false:=decide_eq_false c6
            clear c6
            by_cases c7:(bt a0 x3_1) ≥ 65
            · rw [if_pos c7] at H
              have c7b0:decide (65 ≤ (bt a0 x3_1)) = true:=decide_eq_true c7
              clear c7
              by_cases c8:(bt a0 x3_1) ≤ 90
              · rw [if_pos c8] at H
                have c8b0:decide ((bt a0 x3_1) ≤ 90) = true:=decide_eq_true c8
                clear c8
                have H':=Aside0.mk H
                clear H
                have p4:0 ≤ (x3_1:Int):=of_decide_eq_true (by first | (with_reducible assumption) | assumption)
                have q4:x3_1 < (a0.size:Int):=of_decide_eq_true (by first | (with_reducible assumption) | assumption)
                have hx4:=bt_at a0 x3_1
                replace p4:=eq_true p4
                replace q4:=eq_true q4
                go_wp2
                go_roundg k1
                case measure => have:=HK1.out;omega
                case rel => exact ⟨(wrap64 (x3_1 + 1)),(by first | rfl | (simp;done) | (simp [*];done)),H',⟨by have:=HK1.out;omega⟩,by repeat (first | exact uy.refl _ | apply uy.step)⟩
              · rw [if_neg c8] at H
                have c8b0:decide ((bt a0 x3_1) ≤ 90) = false:=decide_eq_false c8
                clear c8
                by_cases c9:((bt a0 x3_1) = 95)
                · rw [if_pos c9] at H
                  have c9b0:((bt a0 x3_1) == 95) = true:=beq_iff_eq.mpr c9
                  have c9b1:((bt a0 x3_1) != 95) = false:=bne_eq_false_iff_eq.mpr c9
                  clear c9
                  have H':=Aside0.mk H
                  clear H
                  have p4:0 ≤ (x3_1:Int):=of_decide_eq_true (by first | (with_reducible assumption) | assumption)
                  have q4:x3_1 < (a0.size:Int):=of_decide_eq_true (by first | (with_reducible assumption) | assumption)
                  have hx4:=bt_at a0 x3_1
                  replace p4:=eq_true p4
                  replace q4:=eq_true q4
                  go_wp2
                  go_roundg k1
                  case measure => have:=HK1.out;omega
                  case rel => exact ⟨(wrap64 (x3_1 + 1)),(by first | rfl | (simp;done) | (simp [*];done)),H',⟨by have:=HK1.out;omega⟩,by repeat (first | exact uy.refl _ | apply uy.step)⟩
                · rw [if_neg c9] at H
                  have c9b0:((bt a0 x3_1) == 95) = false:=beq_eq_false_iff_ne.mpr c9
                  have c9b1:((bt a0 x3_1) != 95) = true:=bne_iff_ne.mpr c9
                  by_cases c10:x3_1 = 0
                  · rw [if_pos c10] at H
                    have c10b0:(x3_1 == 0) = true:=beq_iff_eq.mpr c10
                    have c10b1:(x3_1 != 0) = false:=bne_eq_false_iff_eq.mpr c10
                    clear c10
                    obtain rfl:=Option.some.inj H
                    have p4:0 ≤ (x3_1:Int):=of_decide_eq_true (by first | (with_reducible assumption) | assumption)
                    have q4:x3_1 < (a0.size:Int):=of_decide_eq_true (by first | (with_reducible assumption) | assumption)
                    have hx4:=bt_at a0 x3_1
                    replace p4:=eq_true p4
                    replace q4:=eq_true q4
                    go_wp2
                    go_ret
                    exact ⟨by first | rfl | (simp;done) | (simp [*];done),by repeat (first | exact uy.refl _ | apply uy.step)⟩
                  · rw [if_neg c10] at H
                    have c10b0:(x3_1 == 0) = false:=beq_eq_false_iff_ne.mpr c10
                    have c10b1:(x3_1 != 0) = true:=bne_iff_ne.mpr c10
                    by_cases c11:(bt a0 x3_1) < 48
                    · rw [if_pos c11] at H
                      have c11b0:decide ((bt a0 x3_1) < 48) = true:=decide_eq_true c11
                      clear c11
                      obtain rfl:=Option.some.inj H
                      have p4:0 ≤ (x3_1:Int):=of_decide_eq_true (by first | (with_reducible assumption) | assumption)
                      have q4:x3_1 < (a0.size:Int):=of_decide_eq_true (by first | (with_reducible assumption) | assumption)
                      have hx4:=bt_at a0 x3_1
                      replace p4:=eq_true p4
                      replace q4:=eq_true q4
                      go_wp2
                      go_ret
                      exact ⟨by first | rfl | (simp;done) | (simp [*];done),by repeat (first | exact uy.refl _ | apply uy.step)⟩
                    · rw [if_neg c11] at H
                      have c11b0:decide ((bt a0 x3_1) < 48) = false:=decide_eq_false c11
                      clear c11
                      by_cases c12:(bt a0 x3_1) > 57
                      · rw [if_pos c12] at H
                        have c12b0:decide (57 < (bt a0 x3_1)) = true:=decide_eq_true c12
                        clear c12
                        obtain rfl:=Option.some.inj H
                        have p4:0 ≤ (x3_1:Int):=of_decide_eq_true (by first | (with_reducible assumption) | assumption)
                        have q4:x3_1 < (a0.size:Int):=of_decide_eq_true (by first | (with_reducible assumption) | assumption)
                        have hx4:=bt_at a0 x3_1
                        replace p4:=eq_true p4
                        replace q4:=eq_true q4
                        go_wp2
                        go_ret
                        exact ⟨by first | rfl | (simp;done) | (simp [*];done),by repeat (first | exact uy.refl _ | apply uy.step)⟩
                      · rw [if_neg c12] at H
                        have c12b0:decide (57 < (bt a0 x3_1)) = false:=decide_eq_false c12
                        clear c12
                        have H':=Aside0.mk H
                        clear H
                        have p4:0 ≤ (x3_1:Int):=of_decide_eq_true (by first | (with_reducible assumption) | assumption)
                        have q4:x3_1 < (a0.size:Int):=of_decide_eq_true (by first | (with_reducible assumption) | assumption)
                        have hx4:=bt_at a0 x3_1
                        replace p4:=eq_true p4
                        replace q4:=eq_true q4
                        go_wp2
                        go_roundg k1
                        case measure => have:=HK1.out;omega
                        case rel => exact ⟨(wrap64 (x3_1 + 1)),(by first | rfl | (simp;done) | (simp [*];done)),H',⟨by have:=HK1.out;omega⟩,by repeat (first | exact uy.refl _ | apply uy.step)⟩
            · rw [if_neg c7] at H
              have c7b0:decide (65 ≤ (bt a0 x3_1)) = false:=decide_eq_false c7
              clear c7
              by_cases c13:((bt a0 x3_1) = 95)
              · rw [if_pos c13] at H
                have c13b0:((bt a0 x3_1) == 95) = true:=beq_iff_eq.mpr c13
                have c13b1:((bt a0 x3_1) != 95) = false:=bne_eq_false_iff_eq.mpr c13
                clear c13
                have H':=Aside0.mk H
                clear H
                have p4:0 ≤ (x3_1:Int):=of_decide_eq_true (by first | (with_reducible assumption) | assumption)
                have q4:x3_1 < (a0.size:Int):=of_decide_eq_true (by first | (with_reducible assumption) | assumption)
                have hx4:=bt_at a0 x3_1
                replace p4:=eq_true p4
                replace q4:=eq_true q4
                go_wp2
                go_roundg k1
                case measure => have:=HK1.out;omega
                case rel => exact ⟨(wrap64 (x3_1 + 1)),(by first | rfl | (simp;done) | (simp [*];done)),H',⟨by have:=HK1.out;omega⟩,by repeat (first | exact uy.refl _ | apply uy.step)⟩
              · rw [if_neg c13] at H
                have c13b0:((bt a0 x3_1) == 95) = false:=beq_eq_false_iff_ne.mpr c13
                have c13b1:((bt a0 x3_1) != 95) = true:=bne_iff_ne.mpr c13
                by_cases c14:x3_1 = 0
                · rw [if_pos c14] at H
                  have c14b0:(x3_1 == 0) = true:=beq_iff_eq.mpr c14
                  have c14b1:(x3_1 != 0) = false:=bne_eq_false_iff_eq.mpr c14
                  clear c14
                  obtain rfl:=Option.some.inj H
                  have p4:0 ≤ (x3_1:Int):=of_decide_eq_true (by first | (with_reducible assumption) | assumption)
                  have q4:x3_1 < (a0.size:Int):=of_decide_eq_true (by first | (with_reducible assumption) | assumption)
                  have hx4:=bt_at a0 x3_1
                  replace p4:=eq_true p4
                  replace q4:=eq_true q4
                  go_wp2
                  go_ret
                  exact ⟨by first | rfl | (simp;done) | (simp [*];done),by repeat (first | exact uy.refl _ | apply uy.step)⟩
                · rw [if_neg c14] at H
                  have c14b0:(x3_1 == 0) = false:=beq_eq_false_iff_ne.mpr c14
                  have c14b1:(x3_1 != 0) = true:=bne_iff_ne.mpr c14
                  by_cases c15:(bt a0 x3_1) < 48
                  · rw [if_pos c15] at H
                    have c15b0:decide ((bt a0 x3_1) < 48) = true:=decide_eq_true c15
                    clear c15
                    obtain rfl:=Option.some.inj H
                    have p4:0 ≤ (x3_1:Int):=of_decide_eq_true (by first | (with_reducible assumption) | assumption)
                    have q4:x3_1 < (a0.size:Int):=of_decide_eq_true (by first | (with_reducible assumption) | assumption)
                    have hx4:=bt_at a0 x3_1
                    replace p4:=eq_true p4
                    replace q4:=eq_true q4
                    go_wp2
                    go_ret
                    exact ⟨by first | rfl | (simp;done) | (simp [*];done),by repeat (first | exact uy.refl _ | apply uy.step)⟩
                  · rw [if_neg c15] at H
                    have c15b0:decide ((bt a0 x3_1) < 48) = false:=decide_eq_false c15
                    clear c15
                    by_cases c16:(bt a0 x3_1) > 57
                    · rw [if_pos c16] at H
                      have c16b0:decide (57 < (bt a0 x3_1)) = true:=decide_eq_true c16
                      clear c16
                      obtain rfl:=Option.some.inj H
                      have p4:0 ≤ (x3_1:Int):=of_decide_eq_true (by first | (with_reducible assumption) | assumption)
                      have q4:x3_1 < (a0.size:Int):=of_decide_eq_true (by first | (with_reducible assumption) | assumption)
                      have hx4:=bt_at a0 x3_1
                      replace p4:=eq_true p4
                      replace q4:=eq_true q4
                      go_wp2
                      go_ret
                      exact ⟨by first | rfl | (simp;done) | (simp [*];done),by repeat (first | exact uy.refl _ | apply uy.step)⟩
                    · rw [if_neg c16] at H
                      have c16b0:decide (57 < (bt a0 x3_1)) = false:=decide_eq_false c16
                      clear c16
                      have H':=Aside0.mk H
                      clear H
                      have p4:0 ≤ (x3_1:Int):=of_decide_eq_true (by first | (with_reducible assumption) | assumption)
                      have q4:x3_1 < (a0.size:Int):=of_decide_eq_true (by first | (with_reducible assumption) | assumption)
                      have hx4:=bt_at a0 x3_1
                      replace p4:=eq_true p4
                      replace q4:=eq_true q4
                      go_wp2
                      go_roundg k1
                      case measure => have:=HK1.out;omega
                      case rel => exact ⟨(wrap64 (x3_1 + 1)),(by first | rfl | (simp;done) | (simp [*];done)),H',⟨by have:=HK1.out;omega⟩,by repeat (first | exact uy.refl _ | apply uy.step)⟩
        · rw [if_neg c5] at H
          have c5b0:decide (97 ≤ (bt a0 x3_1)) = false:=decide_eq_false c5
          clear c5
          by_cases c17:(bt a0 x3_1) ≥ 65
          · rw [if_pos c17] at H
            have c17b0:decide (65 ≤ (bt a0 x3_1)) = true:=decide_eq_true c17
            clear c17
            by_cases c18:(bt a0 x3_1) ≤ 90
            · rw [if_pos c18] at H
              have c18b0:decide ((bt a0 x3_1) ≤ 90) = true:=decide_eq_true c18
              clear c18
              have H':=Aside0.mk H
              clear H
              have p4:0 ≤ (x3_1:Int):=of_decide_eq_true (by first | (with_reducible assumption) | assumption)
              have q4:x3_1 < (a0.size:Int):=of_decide_eq_true (by first | (with_reducible assumption) | assumption)
              have hx4:=bt_at a0 x3_1
              replace p4:=eq_true p4
              replace q4:=eq_true q4
              go_wp2
              go_roundg k1
              case measure => have:=HK1.out;omega
              case rel => exact ⟨(wrap64 (x3_1 + 1)),(by first | rfl | (simp;done) | (simp [*];done)),H',⟨by have:=HK1.out;omega⟩,by repeat (first | exact uy.refl _ | apply uy.step)⟩
            · rw [if_neg c18] at H
              have c18b0:decide ((bt a0 x3_1) ≤ 90) = false:=decide_eq_false c18
              clear c18
              by_cases c19:((bt a0 x3_1) = 95)
              · rw [if_pos c19] at H
                have c19b0:((bt a0 x3_1) == 95) = true:=beq_iff_eq.mpr c19
                have c19b1:((bt a0 x3_1) != 95) = false:=bne_eq_false_iff_eq.mpr c19
                clear c19
                have H':=Aside0.mk H
                clear H
                have p4:0 ≤ (x3_1:Int):=of_decide_eq_true (by first | (with_reducible assumption) | assumption)
                have q4:x3_1 < (a0.size:Int):=of_decide_eq_true (by first | (with_reducible assumption) | assumption)
                have hx4:=bt_at a0 x3_1
                replace p4:=eq_true p4
                replace q4:=eq_true q4
                go_wp2
                go_roundg k1
                case measure => have:=HK1.out;omega
                case rel => exact ⟨(wrap64 (x3_1 + 1)),(by first | rfl | (simp;done) | (simp [*];done)),H',⟨by have:=HK1.out;omega⟩,by repeat (first | exact uy.refl _ | apply uy.step)⟩
              · rw [if_neg c19] at H
                have c19b0:((bt a0 x3_1) == 95) = false:=beq_eq_false_iff_ne.mpr c19
                have c19b1:((bt a0 x3_1) != 95) = true:=bne_iff_ne.mpr c19
                by_cases c20:x3_1 = 0
                · rw [if_pos c20] at H
                  have c20b0:(x3_1 == 0) = true:=beq_iff_eq.mpr c20
                  have c20b1:(x3_1 != 0) = false:=bne_eq_false_iff_eq.mpr c20
                  clear c20
                  obtain rfl:=Option.some.inj H
                  have p4:0 ≤ (x3_1:Int):=of_decide_eq_true (by first | (with_reducible assumption) | assumption)
                  have q4:x3_1 < (a0.size:Int):=of_decide_eq_true (by first | (with_reducible assumption) | assumption)
                  have hx4:=bt_at a0 x3_1
                  replace p4:=eq_true p4
                  replace q4:=eq_true q4
                  go_wp2
                  go_ret
                  exact ⟨by first | rfl | (simp;done) | (simp [*];done),by repeat (first | exact uy.refl _ | apply uy.step)⟩
                · rw [if_neg c20] at H
                  have c20b0:(x3_1 == 0) = false:=beq_eq_false_iff_ne.mpr c20
                  have c20b1:(x3_1 != 0) = true:=bne_iff_ne.mpr c20
                  by_cases c21:(bt a0 x3_1) < 48
                  · rw [if_pos c21] at H
                    have c21b0:decide ((bt a0 x3_1) < 48) = true:=decide_eq_true c21
                    clear c21
                    obtain rfl:=Option.some.inj H
                    have p4:0 ≤ (x3_1:Int):=of_decide_eq_true (by first | (with_reducible assumption) | assumption)
                    have q4:x3_1 < (a0.size:Int):=of_decide_eq_true (by first | (with_reducible assumption) | assumption)
                    have hx4:=bt_at a0 x3_1
                    replace p4:=eq_true p4
                    replace q4:=eq_true q4
                    go_wp2
                    go_ret
                    exact ⟨by first | rfl | (simp;done) | (simp [*];done),by repeat (first | exact uy.refl _ | apply uy.step)⟩
                  · rw [if_neg c21] at H
                    have c21b0:decide ((bt a0 x3_1) < 48) = false:=decide_eq_false c21
                    clear c21
                    by_cases c22:(bt a0 x3_1) > 57
                    · rw [if_pos c22] at H
                      have c22b0:decide (57 < (bt a0 x3_1)) = true:=decide_eq_true c22
                      clear c22
                      obtain rfl:=Option.some.inj H
                      have p4:0 ≤ (x3_1:Int):=of_decide_eq_true (by first | (with_reducible assumption) | assumption)
                      have q4:x3_1 < (a0.size:Int):=of_decide_eq_true (by first | (with_reducible assumption) | assumption)
                      have hx4:=bt_at a0 x3_1
                      replace p4:=eq_true p4
                      replace q4:=eq_true q4
                      go_wp2
                      go_ret
                      exact ⟨by first | rfl | (simp;done) | (simp [*];done),by repeat (first | exact uy.refl _ | apply uy.step)⟩
                    · rw [if_neg c22] at H
                      have c22b0:decide (57 < (bt a0 x3_1)) = false:=decide_eq_false c22
                      clear c22
                      have H':=Aside0.mk H
                      clear H
                      have p4:0 ≤ (x3_1:Int):=of_decide_eq_true (by first | (with_reducible assumption) | assumption)
                      have q4:x3_1 < (a0.size:Int):=of_decide_eq_true (by first | (with_reducible assumption) | assumption)
                      have hx4:=bt_at a0 x3_1
                      replace p4:=eq_true p4
                      replace q4:=eq_true q4
                      go_wp2
                      go_roundg k1
                      case measure => have:=HK1.out;omega
                      case rel => exact ⟨(wrap64 (x3_1 + 1)),(by first | rfl | (simp;done) | (simp [*];done)),H',⟨by have:=HK1.out;omega⟩,by repeat (first | exact uy.refl _ | apply uy.step)⟩
          · rw [if_neg c17] at H
            have c17b0:decide (65 ≤ (bt a0 x3_1)) = false:=decide_eq_false c17
            clear c17
            by_cases c23:((bt a0 x3_1) = 95)
            · rw [if_pos c23] at H
              have c23b0:((bt a0 x3_1) == 95) = true:=beq_iff_eq.mpr c23
              have c23b1:((bt a0 x3_1) != 95) = false:=bne_eq_false_iff_eq.mpr c23
              clear c23
              have H':=Aside0.mk H
              clear H
              have p4:0 ≤ (x3_1:Int):=of_decide_eq_true (by first | (with_reducible assumption) | assumption)
              have q4:x3_1 < (a0.size:Int):=of_decide_eq_true (by first | (with_reducible assumption) | assumption)
              have hx4:=bt_at a0 x3_1
              replace p4:=eq_true p4
              replace q4:=eq_true q4
              go_wp2
              go_roundg k1
              case measure => have:=HK1.out;omega
              case rel => exact ⟨(wrap64 (x3_1 + 1)),(by first | rfl | (simp;done) | (simp [*];done)),H',⟨by have:=HK1.out;omega⟩,by repeat (first | exact uy.refl _ | apply uy.step)⟩
            · rw [if_neg c23] at H
              have c23b0:((bt a0 x3_1) == 95) = false:=beq_eq_false_iff_ne.mpr c23
              have c23b1:((bt a0 x3_1) != 95) = true:=bne_iff_ne.mpr c23
              by_cases c24:x3_1 = 0
              · rw [if_pos c24] at H
                have c24b0:(x3_1 == 0) = true:=beq_iff_eq.mpr c24
                have c24b1:(x3_1 != 0) = false:=bne_eq_false_iff_eq.mpr c24
                clear c24
                obtain rfl:=Option.some.inj H
                have p4:0 ≤ (x3_1:Int):=of_decide_eq_true (by first | (with_reducible assumption) | assumption)
                have q4:x3_1 < (a0.size:Int):=of_decide_eq_true (by first | (with_reducible assumption) | assumption)
                have hx4:=bt_at a0 x3_1
                replace p4:=eq_true p4
                replace q4:=eq_true q4
                go_wp2
                go_ret
                exact ⟨by first | rfl | (simp;done) | (simp [*];done),by repeat (first | exact uy.refl _ | apply uy.step)⟩
              · rw [if_neg c24] at H
                have c24b0:(x3_1 == 0) = false:=beq_eq_false_iff_ne.mpr c24
                have c24b1:(x3_1 != 0) = true:=bne_iff_ne.mpr c24
                by_cases c25:(bt a0 x3_1) < 48
                · rw [if_pos c25] at H
                  have c25b0:decide ((bt a0 x3_1) < 48) = true:=decide_eq_true c25
                  clear c25
                  obtain rfl:=Option.some.inj H
                  have p4:0 ≤ (x3_1:Int):=of_decide_eq_true (by first | (with_reducible assumption) | assumption)
                  have q4:x3_1 < (a0.size:Int):=of_decide_eq_true (by first | (with_reducible assumption) | assumption)
                  have hx4:=bt_at a0 x3_1
                  replace p4:=eq_true p4
                  replace q4:=eq_true q4
                  go_wp2
                  go_ret
                  exact ⟨by first | rfl | (simp;done) | (simp [*];done),by repeat (first | exact uy.refl _ | apply uy.step)⟩
                · rw [if_neg c25] at H
                  have c25b0:decide ((bt a0 x3_1) < 48) = false:=decide_eq_false c25
                  clear c25
                  by_cases c26:(bt a0 x3_1) > 57
                  · rw [if_pos c26] at H
                    have c26b0:decide (57 < (bt a0 x3_1)) = true:=decide_eq_true c26
                    clear c26
                    obtain rfl:=Option.some.inj H
                    have p4:0 ≤ (x3_1:Int):=of_decide_eq_true (by first | (with_reducible assumption) | assumption)
                    have q4:x3_1 < (a0.size:Int):=of_decide_eq_true (by first | (with_reducible assumption) | assumption)
                    have hx4:=bt_at a0 x3_1
                    replace p4:=eq_true p4
                    replace q4:=eq_true q4
                    go_wp2
                    go_ret
                    exact ⟨by first | rfl | (simp;done) | (simp [*];done),by repeat (first | exact uy.refl _ | apply uy.step)⟩
                  · rw [if_neg c26] at H
                    have c26b0:decide (57 < (bt a0 x3_1)) = false:=decide_eq_false c26
                    clear c26
                    have H':=Aside0.mk H
                    clear H
                    have p4:0 ≤ (x3_1:Int):=of_decide_eq_true (by first | (with_reducible assumption) | assumption)
                    have q4:x3_1 < (a0.size:Int):=of_decide_eq_true (by first | (with_reducible assumption) | assumption)
                    have hx4:=bt_at a0 x3_1
                    replace p4:=eq_true p4
                    replace q4:=eq_true q4
                    go_wp2
                    go_roundg k1
                    case measure => have:=HK1.out;omega
                    case rel => exact ⟨(wrap64 (x3_1 + 1)),(by first | rfl | (simp;done) | (simp [*];done)),H',⟨by have:=HK1.out;omega⟩,by repeat (first | exact uy.refl _ | apply uy.step)⟩
      · rw [if_neg c3] at H
        exact absurd H (by simp)
    · rw [if_neg c2] at H
      have c2b0:decide (x3_1 < (a0.size:Int)) = false:=decide_eq_false c2
      clear c2
      by_cases c27:(a0.size:Int) ≥ 1
      · rw [if_pos c27] at H
        have c27b0:decide (1 ≤ (a0.size:Int)) = true:=decide_eq_true c27
        have c27b1:decide (1 ≤ a0.size) = true:=decide_eq_true (by omega)
        clear c27
        obtain rfl:=Option.some.inj H
        go_wp2
        go_ret
        exact ⟨by first | rfl | (simp;done) | (simp [*];done),by repeat (first | exact uy.refl _ | apply uy.step)⟩
      · rw [if_neg c27] at H
        have c27b0:decide (1 ≤ (a0.size:Int)) = false:=decide_eq_false c27
        have c27b1:decide (1 ≤ a0.size) = false:=decide_eq_false (by omega)
        clear c27
        obtain rfl:=Option.some.inj H
        go_wp2
        go_ret
        exact ⟨by first | rfl | (simp;done) | (simp [*];done),by repeat (first | exact uy.refl _ | apply uy.step)⟩
def u3c.l0:Nat → ByteArray → Int → Option (ByteArray × ByteArray)
 | 0,_,_ => none
 | k + 1,x0,x4 => if x4 < (x0.size:Int) then (if 0 ≤ x4 then (if x4 ≤ (wrap64 (x4 + 1)) then (if (wrap64 (x4 + 1)) ≤ (x0.size:Int) then (if 1 + (x0.extract (x4:Int).toNat ((wrap64 (x4 + 1)):Int).toNat).size ≤ 9223372036854775807 then ((ut.f k ((⟨#[97]⟩:ByteArray) ++ (x0.extract (x4:Int).toNat ((wrap64 (x4 + 1)):Int).toNat))).bind fun t113 => (if t113 = true then (u3c.l0 k x0 (wrap64 (x4 + 1))) else (if x4 ≤ (x0.size:Int) then (some (x0.extract 0 (x4:Int).toNat,x0.extract (x4:Int).toNat x0.size)) else (none)))) else (none)) else (none)) else (none)) else (none)) else (if 0 ≤ x4 then (if x4 ≤ (x0.size:Int) then (some (x0.extract 0 (x4:Int).toNat,x0.extract (x4:Int).toNat x0.size)) else (none)) else (none))
def u3c.f (k:Nat) (a0:ByteArray):Option (ByteArray × ByteArray):=u3c.l0 k a0 0
mutual
def u1s.j0:Nat → List (S66) → Bool → Option (Bool)
 | 0,_,_ => none
 | k + 1,x0,x13 => if x13 = true then (some false) else (u1s.l0 k (⟨#[]⟩:ByteArray) x0 (x0.length:Int) 0)
def u1s.l0:Nat → ByteArray → List (S66) → Int → Int → Option (Bool)
 | 0,_,_,_,_ => none
 | k + 1,x3,x14,x15,x16 => if x16 < x15 then (if 0 ≤ x16 then (if x16 < (x14.length:Int) then ((u1m.f ((un x14 x16).f0)).bind fun t103 => (if t103 = true then ((u2x.f ((un x14 x16).f1)).bind fun t104 => (if t104 = true then (if ((Op.bytesLess x3.toList (((un x14 x16).f0).toList)) = true) then (u1s.l0 k ((un x14 x16).f0) x14 x15 (wrap64 (x16 + 1))) else (some false)) else (some false))) else (some false))) else (none)) else (none)) else (some true)
end
def u1s.f (k:Nat) (l0:List (S66)):Option (Bool):=if (l0.length:Int) = 0 then (u1s.j0 k l0 true) else (u1s.j0 k l0 (decide ((l0.length:Int) > 8)))
set_option maxHeartbeats 8000000 in
set_option maxRecDepth 100000 in
theorem u1s.calls (k:Nat) (A0:Option Addr) (c0:Nat) (l0:List (S66)) (r:Bool) (w:World) (hr0:Kd.C k66 w A0 l0.length l0) (hc0:l0.length ≤ c0) (h:u1s.f k l0 = some r) :
 Calls Tryz.prog 33 #[.slice A0 l0.length c0] w fun e w' => e = .returned (.bool r) ∧ Below w.heap.size w w':=by
 have hu66:=Tryz.underlying66
 have HR0:=Aside0.mk hr0
 have HC0:=Aside0.mk hc0
 clear hr0 hc0
 have HB:=Aside0.mk (Below.refl w.heap.size w)
 have H:(if (l0.length:Int) = 0 then (u1s.j0 k l0 true) else (u1s.j0 k l0 (decide ((l0.length:Int) > 8)))) = some r:=h
 clear h
 have HC2:=Aside0.mk H
 clear H
 go_enter Tryz.func33,Tryz.ntmps33
 go_upto_region 1 with (fail)
 go_cut [13] (fun v13 wc => ∃ (kq:Nat) (x13_1:Bool),v13 = .bool x13_1 ∧ Aside0 (u1s.j0 kq l0 x13_1 = some r) ∧ Aside0 (kq ≤ k) ∧ Aside0 (Below w.heap.size w wc))
 case first =>
  have H:=HC2.out
  clear HC2
  by_cases c3:(l0.length:Int) = 0
  · rw [if_pos c3] at H
    have c3b0:((l0.length:Int) == 0) = true:=beq_iff_eq.mpr c3
    have c3b1:((l0.length:Int) != 0) = false:=bne_eq_false_iff_eq.mpr c3
    clear c3
    (first | rw [c3b0] | (simp only [i64_w,i32_w];rw [c3b0]) | skip)
    have H':=Aside0.mk H
    clear H
    go_wp2
    go_meet
    case rel => exact ⟨_,(true),(by first | rfl | (simp;done) | (simp [*];done)),H',⟨by first | omega | exact Nat.le_refl _⟩,⟨by repeat (first | (with_reducible first | exact HB.out | apply ud | apply ub | apply uf) | exact HB.out)⟩⟩
  · rw [if_neg c3] at H
    have c3b0:((l0.length:Int) == 0) = false:=beq_eq_false_iff_ne.mpr c3
    have c3b1:((l0.length:Int) != 0) = true:=bne_iff_ne.mpr c3
    have c3b2:¬ (l0 = []):=fun h_ => c3 (by rw [h_];rfl)
    (first | rw [c3b0] | (simp only [i64_w,i32_w];rw [c3b0]) | skip)
    have H':=Aside0.mk H
    clear H
    go_wp2
    go_meet
    case rel => exact ⟨_,(decide ((l0.length:Int) > 8)),(by first | rfl | (simp;done) | (simp [*];done)),H',⟨by first | omega | exact Nat.le_refl _⟩,⟨by repeat (first | (with_reducible first | exact HB.out | apply ud | apply ub | apply uf) | exact HB.out)⟩⟩
 case rest =>
  clear HC2
  try clear p2
  try clear c3
  try clear c3b0
  try clear c3b1
  try clear c3b2
  obtain ⟨kq,x13_1,rfl,HA,HJ1,HB⟩:=hcut
  cases kq with
  | zero => exact absurd HA.out (by simp [u1s.j0])
  | succ kj1 =>
    have H:=HA.out
    clear HA
    simp only [u1s.j0] at H
    by_cases c4:x13_1 = true
    · subst c4
      have H1:(some false) = some r:=by rw [if_pos rfl] at H;exact H
      clear H
      have H:=H1
      clear H1
      obtain rfl:=Option.some.inj H
      go_wp2
      go_ret
      exact ⟨by first | rfl | (simp [u1x,u1y] <;> rfl) | (simp [*,u1x,u1y] <;> rfl),by repeat (first | (with_reducible first | exact HB.out | apply ud | apply ub | apply uf) | exact HB.out)⟩
    · replace c4:=Bool.eq_false_iff.mpr c4
      subst c4
      have H1:(u1s.l0 kj1 (⟨#[]⟩:ByteArray) l0 (l0.length:Int) 0) = some r:=by rw [if_neg (show ¬ (false = true) by decide)] at H;exact H
      clear H
      have H:=H1
      clear H1
      have H':=Aside0.mk H
      clear H
      go_wp2
      go_loopg [3,16] kj1 (fun kq v3 v16 w' => ∃ (x3_2:ByteArray) (x16_2:Int),v3 = .string x3_2 ∧ v16 = .int .i64 x16_2 ∧ Aside0 (u1s.l0 kq x3_2 l0 (l0.length:Int) x16_2 = some r) ∧ Aside0 (kq ≤ kj1) ∧ Aside0 (Below w.heap.size w w'))
      case atStart => exact ⟨((⟨#[]⟩:ByteArray)),(0),(by first | rfl | (simp;done) | (simp [*];done)),(by first | rfl | (simp;done) | (simp [*];done)),H',⟨Nat.le_refl _⟩,⟨by repeat (first | (with_reducible first | exact HB.out | apply ud | apply ub | apply uf) | exact HB.out)⟩⟩
      case round =>
       clear H'
       try clear p2
       try clear c3
       try clear c3b0
       try clear c3b1
       try clear c3b2
       try clear c4
       try clear p2
       obtain ⟨x3_2,x16_2,rfl,rfl,HA,HK2,HB⟩:=hrel
       cases gk with
       | zero => exact absurd HA.out (by simp [u1s.l0])
       | succ k2 =>
         have H:=HA.out
         clear HA
         simp only [u1s.l0] at H
         by_cases c5:x16_2 < (l0.length:Int)
         · rw [if_pos c5] at H
           have c5b0:decide (x16_2 < (l0.length:Int)) = true:=decide_eq_true c5
           clear c5
           by_cases c6:0 ≤ x16_2
           · rw [if_pos c6] at H
             have c6b0:decide (0 ≤ x16_2) = true:=decide_eq_true c6
             clear c6
             by_cases c7:x16_2 < (l0.length:Int)
             · rw [if_pos c7] at H
               have c7b0:decide (x16_2 < (l0.length:Int)) = true:=decide_eq_true c7
               clear c7
               replace H:=Option.bind_eq_some_iff.mp H
               obtain ⟨t103,A80,H⟩:=H
               replace H:(if t103 = true then ((u2x.f ((un l0 x16_2).f1)).bind fun t104 => (if t104 = true then (if ((Op.bytesLess x3_2.toList (((un l0 x16_2).f0).toList)) = true) then (u1s.l0 k2 ((un l0 x16_2).f0) l0 (l0.length:Int) (wrap64 (x16_2 + 1))) else (some false)) else (some false))) else (some false)) = some r:=H
               have A8:=Aside0.mk A80
               clear A80
               by_cases c9:t103 = true
               · subst c9
                 have H1:((u2x.f ((un l0 x16_2).f1)).bind fun t104 => (if t104 = true then (if ((Op.bytesLess x3_2.toList (((un l0 x16_2).f0).toList)) = true) then (u1s.l0 k2 ((un l0 x16_2).f0) l0 (l0.length:Int) (wrap64 (x16_2 + 1))) else (some false)) else (some false))) = some r:=by rw [if_pos rfl] at H;exact H
                 clear H
                 have H:=H1
                 clear H1
                 replace H:=Option.bind_eq_some_iff.mp H
                 obtain ⟨t104,A100,H⟩:=H
                 replace H:(if t104 = true then (if ((Op.bytesLess x3_2.toList (((un l0 x16_2).f0).toList)) = true) then (u1s.l0 k2 ((un l0 x16_2).f0) l0 (l0.length:Int) (wrap64 (x16_2 + 1))) else (some false)) else (some false)) = some r:=H
                 have A10:=Aside0.mk A100
                 clear A100
                 by_cases c11:t104 = true
                 · subst c11
                   have H1:(if ((Op.bytesLess x3_2.toList (((un l0 x16_2).f0).toList)) = true) then (u1s.l0 k2 ((un l0 x16_2).f0) l0 (l0.length:Int) (wrap64 (x16_2 + 1))) else (some false)) = some r:=by rw [if_pos rfl] at H;exact H
                   clear H
                   have H:=H1
                   clear H1
                   by_cases c12:((Op.bytesLess x3_2.toList (((un l0 x16_2).f0).toList)) = true)
                   · rw [if_pos c12] at H
                     have c12b0:(Op.bytesLess x3_2.toList (((un l0 x16_2).f0).toList)) = true:=c12
                     clear c12
                     have H':=Aside0.mk H
                     clear H
                     have p101:0 ≤ (x16_2:Int):=of_decide_eq_true (by first | (with_reducible assumption) | assumption)
                     have q101:x16_2 < (l0.length:Int):=of_decide_eq_true (by first | (with_reducible assumption) | assumption)
                     obtain ⟨ad101,e101,hx101_0,hx101_1⟩:=at_T66 HR0.out x16_2 p101 q101
                     cases e101
                     replace hx101_0:=(HB.out.cell (World.block_lt_of_cell? w _ hx101_0)).trans hx101_0
                     replace hx101_1:=(HB.out.cell (World.block_lt_of_cell? w _ hx101_1)).trans hx101_1
                     replace p101:=eq_true p101
                     replace q101:=eq_true q101
                     go_wp2_with (first | ((with_reducible refine u2o (N:=5) rfl ?_);(try (refine u3g (by rfl) ?_;dsimp only));refine u2n ?hg (N:=5) ?hd (cs:=#[.string (⟨#[]⟩:ByteArray),.string (⟨#[]⟩:ByteArray)]) (t:=66) ?hr ?_;(case hd => rfl);(case hg => rfl);(case hr => first | (go_simp;done) | (go_simp;rfl));intro gb102 hg w13 hbox hb;have n0_:=Aside0.mk (u1c (by repeat (first | (with_reducible first | exact HB.out | apply ud | apply ub | apply uf) | exact HB.out)) hb);have n1_:=Aside0.mk (hbox);have n2_:=Aside0.mk ((by rw [hg];exact (uz (by repeat (first | (with_reducible first | exact HB.out | apply ud | apply ub | apply uf) | exact HB.out))):w.heap.size ≤ gb102));have n3_:=Aside0.mk ((by rw [hg];exact (uz (by repeat (first | (with_reducible first | exact HB.out | apply ud | apply ub | apply uf) | exact HB.out))):w.heap.size ≤ gb102));clear HB;have HB:=n0_;have BK102:=n1_;have GW102:=n2_;have GE102:=n3_;clear n0_ n1_ n2_ n3_;clear hb hbox hg;have hcz14_0:w13.cell? ⟨gb102,0,none⟩ = some (.string (⟨#[]⟩:ByteArray)):=(um BK102.out 0).trans rfl;have hcz14_1:w13.cell? ⟨gb102,1,none⟩ = some (.string (⟨#[]⟩:ByteArray)):=(um BK102.out 1).trans rfl;have hfz14_0:=uk BK102.out 0;have hfz14_1:=uk BK102.out 1) | ((with_reducible refine u2w (f:=29) rfl ?_);refine goesL_ (some 22) rfl rfl Tryz.func29 (by kernel_rfl) rfl #[.string ((un l0 x16_2).f0)] rfl (by (try simp only [List.map_toArray,List.map_cons,List.map_nil]);first | done | rfl | (simp only [List.length_drop,List.length_take];rfl)) ?_;(with_reducible refine (u1m.calls ((un l0 x16_2).f0) true _ A8.out).mono ?_);rintro e w15 ⟨rfl,hb⟩;refine ⟨_,rfl,?_⟩;have n0_:=Aside0.mk (u1z (g:=gb102) (o:=.cells #[.string ((un l0 x16_2).f0),.string ((un l0 x16_2).f1)] 66 (0,0)) (by (with_reducible repeat (first | refine us ?_ _ | refine uw ?_ | refine uq ?_ _));refine u2y (cs:=#[.string ((un l0 x16_2).f0),.string (⟨#[]⟩:ByteArray)]) ?_ 1 _ rfl;(with_reducible repeat (first | refine us ?_ _ | refine uw ?_ | refine uq ?_ _));refine u2y (cs:=#[.string (⟨#[]⟩:ByteArray),.string (⟨#[]⟩:ByteArray)]) ?_ 0 _ rfl;(with_reducible repeat (first | refine us ?_ _ | refine uw ?_ | refine uq ?_ _));exact BK102.out) hb);have n1_:=Aside0.mk (u1c (by repeat (first | (with_reducible first | exact HB.out | apply ud | apply ub | apply uf | refine ux ?_ GE102.out) | exact HB.out)) hb);clear BK102;clear HB;have BK102:=n0_;have HB:=n1_;clear n0_ n1_;(try clear hb);(try clear hb2);(try clear hk);(try clear hi);have hcz16_0:w15.cell? ⟨gb102,0,none⟩ = some (.string ((un l0 x16_2).f0)):=(um BK102.out 0).trans rfl;have hcz16_1:w15.cell? ⟨gb102,1,none⟩ = some (.string ((un l0 x16_2).f1)):=(um BK102.out 1).trans rfl;have hfz16_0:=uk BK102.out 0;have hfz16_1:=uk BK102.out 1) | (go_at_call 60;(with_reducible refine (u2x.calls ((un l0 x16_2).f1) true _ A10.out).mono ?_);rintro e w17 ⟨rfl,hb⟩;have n0_:=Aside0.mk (u1z (g:=gb102) (o:=.cells #[.string ((un l0 x16_2).f0),.string ((un l0 x16_2).f1)] 66 (0,0)) (by (with_reducible repeat (first | refine us ?_ _ | refine uw ?_ | refine uq ?_ _));exact BK102.out) hb);have n1_:=Aside0.mk (u1c (by repeat (first | (with_reducible first | exact HB.out | apply ud | apply ub | apply uf | refine ux ?_ GE102.out) | exact HB.out)) hb);clear BK102;clear HB;have BK102:=n0_;have HB:=n1_;clear n0_ n1_;(try clear hb);(try clear hb2);(try clear hk);(try clear hi);have hcz18_0:w17.cell? ⟨gb102,0,none⟩ = some (.string ((un l0 x16_2).f0)):=(um BK102.out 0).trans rfl;have hcz18_1:w17.cell? ⟨gb102,1,none⟩ = some (.string ((un l0 x16_2).f1)):=(um BK102.out 1).trans rfl;have hfz18_0:=uk BK102.out 0;have hfz18_1:=uk BK102.out 1))
                     go_roundg k2
                     case measure => have:=HJ1.out;have:=HK2.out;omega
                     case rel => exact ⟨((un l0 x16_2).f0),(wrap64 (x16_2 + 1)),(by first | rfl | (simp;done) | (simp [*];done)),(by first | rfl | (simp;done) | (simp [*];done)),H',⟨by have:=HJ1.out;have:=HK2.out;omega⟩,⟨by repeat (first | (with_reducible first | exact HB.out | apply ud | apply ub | apply uf | refine ux ?_ GE102.out) | exact HB.out)⟩⟩
                   · rw [if_neg c12] at H
                     have c12b0:(Op.bytesLess x3_2.toList (((un l0 x16_2).f0).toList)) = false:=by simpa using c12
                     clear c12
                     obtain rfl:=Option.some.inj H
                     have p101:0 ≤ (x16_2:Int):=of_decide_eq_true (by first | (with_reducible assumption) | assumption)
                     have q101:x16_2 < (l0.length:Int):=of_decide_eq_true (by first | (with_reducible assumption) | assumption)
                     obtain ⟨ad101,e101,hx101_0,hx101_1⟩:=at_T66 HR0.out x16_2 p101 q101
                     cases e101
                     replace hx101_0:=(HB.out.cell (World.block_lt_of_cell? w _ hx101_0)).trans hx101_0
                     replace hx101_1:=(HB.out.cell (World.block_lt_of_cell? w _ hx101_1)).trans hx101_1
                     replace p101:=eq_true p101
                     replace q101:=eq_true q101
                     go_wp2_with (first | ((with_reducible refine u2o (N:=5) rfl ?_);(try (refine u3g (by rfl) ?_;dsimp only));refine u2n ?hg (N:=5) ?hd (cs:=#[.string (⟨#[]⟩:ByteArray),.string (⟨#[]⟩:ByteArray)]) (t:=66) ?hr ?_;(case hd => rfl);(case hg => rfl);(case hr => first | (go_simp;done) | (go_simp;rfl));intro gb102 hg w19 hbox hb;have n0_:=Aside0.mk (u1c (by repeat (first | (with_reducible first | exact HB.out | apply ud | apply ub | apply uf) | exact HB.out)) hb);have n1_:=Aside0.mk (hbox);have n2_:=Aside0.mk ((by rw [hg];exact (uz (by repeat (first | (with_reducible first | exact HB.out | apply ud | apply ub | apply uf) | exact HB.out))):w.heap.size ≤ gb102));have n3_:=Aside0.mk ((by rw [hg];exact (uz (by repeat (first | (with_reducible first | exact HB.out | apply ud | apply ub | apply uf) | exact HB.out))):w.heap.size ≤ gb102));clear HB;have HB:=n0_;have BK102:=n1_;have GW102:=n2_;have GE102:=n3_;clear n0_ n1_ n2_ n3_;clear hb hbox hg;have hcz20_0:w19.cell? ⟨gb102,0,none⟩ = some (.string (⟨#[]⟩:ByteArray)):=(um BK102.out 0).trans rfl;have hcz20_1:w19.cell? ⟨gb102,1,none⟩ = some (.string (⟨#[]⟩:ByteArray)):=(um BK102.out 1).trans rfl;have hfz20_0:=uk BK102.out 0;have hfz20_1:=uk BK102.out 1) | ((with_reducible refine u2w (f:=29) rfl ?_);refine goesL_ (some 22) rfl rfl Tryz.func29 (by kernel_rfl) rfl #[.string ((un l0 x16_2).f0)] rfl (by (try simp only [List.map_toArray,List.map_cons,List.map_nil]);first | done | rfl | (simp only [List.length_drop,List.length_take];rfl)) ?_;(with_reducible refine (u1m.calls ((un l0 x16_2).f0) true _ A8.out).mono ?_);rintro e w21 ⟨rfl,hb⟩;refine ⟨_,rfl,?_⟩;have n0_:=Aside0.mk (u1z (g:=gb102) (o:=.cells #[.string ((un l0 x16_2).f0),.string ((un l0 x16_2).f1)] 66 (0,0)) (by (with_reducible repeat (first | refine us ?_ _ | refine uw ?_ | refine uq ?_ _));refine u2y (cs:=#[.string ((un l0 x16_2).f0),.string (⟨#[]⟩:ByteArray)]) ?_ 1 _ rfl;(with_reducible repeat (first | refine us ?_ _ | refine uw ?_ | refine uq ?_ _));refine u2y (cs:=#[.string (⟨#[]⟩:ByteArray),.string (⟨#[]⟩:ByteArray)]) ?_ 0 _ rfl;(with_reducible repeat (first | refine us ?_ _ | refine uw ?_ | refine uq ?_ _));exact BK102.out) hb);have n1_:=Aside0.mk (u1c (by repeat (first | (with_reducible first | exact HB.out | apply ud | apply ub | apply uf | refine ux ?_ GE102.out) | exact HB.out)) hb);clear BK102;clear HB;have BK102:=n0_;have HB:=n1_;clear n0_ n1_;(try clear hb);(try clear hb2);(try clear hk);(try clear hi);have hcz22_0:w21.cell? ⟨gb102,0,none⟩ = some (.string ((un l0 x16_2).f0)):=(um BK102.out 0).trans rfl;have hcz22_1:w21.cell? ⟨gb102,1,none⟩ = some (.string ((un l0 x16_2).f1)):=(um BK102.out 1).trans rfl;have hfz22_0:=uk BK102.out 0;have hfz22_1:=uk BK102.out 1) | (go_at_call 60;(with_reducible refine (u2x.calls ((un l0 x16_2).f1) true _ A10.out).mono ?_);rintro e w23 ⟨rfl,hb⟩;have n0_:=Aside0.mk (u1z (g:=gb102) (o:=.cells #[.string ((un l0 x16_2).f0),.string ((un l0 x16_2).f1)] 66 (0,0)) (by (with_reducible repeat (first | refine us ?_ _ | refine uw ?_ | refine uq ?_ _));exact BK102.out) hb);have n1_:=Aside0.mk (u1c (by repeat (first | (with_reducible first | exact HB.out | apply ud | apply ub | apply uf | refine ux ?_ GE102.out) | exact HB.out)) hb);clear BK102;clear HB;have BK102:=n0_;have HB:=n1_;clear n0_ n1_;(try clear hb);(try clear hb2);(try clear hk);(try clear hi);have hcz24_0:w23.cell? ⟨gb102,0,none⟩ = some (.string ((un l0 x16_2).f0)):=(um BK102.out 0).trans rfl;have hcz24_1:w23.cell? ⟨gb102,1,none⟩ = some (.string ((un l0 x16_2).f1)):=(um BK102.out 1).trans rfl;have hfz24_0:=uk BK102.out 0;have hfz24_1:=uk BK102.out 1))
                     go_ret
                     exact ⟨by first | rfl | (simp [u1x,u1y] <;> rfl) | (simp [*,u1x,u1y] <;> rfl),by repeat (first | (with_reducible first | exact HB.out | apply ud | apply ub | apply uf | refine ux ?_ GE102.out) | exact HB.out)⟩
                 · replace c11:=Bool.eq_false_iff.mpr c11
                   subst c11
                   have H1:(some false) = some r:=by rw [if_neg (show ¬ (false = true) by decide)] at H;exact H
                   clear H
                   have H:=H1
                   clear H1
                   obtain rfl:=Option.some.inj H
                   have p101:0 ≤ (x16_2:Int):=of_decide_eq_true (by first | (with_reducible assumption) | assumption)
                   have q101:x16_2 < (l0.length:Int):=of_decide_eq_true (by first | (with_reducible assumption) | assumption)
                   obtain ⟨ad101,e101,hx101_0,hx101_1⟩:=at_T66 HR0.out x16_2 p101 q101
                   cases e101
                   replace hx101_0:=(HB.out.cell (World.block_lt_of_cell? w _ hx101_0)).trans hx101_0
                   replace hx101_1:=(HB.out.cell (World.block_lt_of_cell? w _ hx101_1)).trans hx101_1
                   replace p101:=eq_true p101
                   replace q101:=eq_true q101
                   go_wp2_with (first | ((with_reducible refine u2o (N:=5) rfl ?_);(try (refine u3g (by rfl) ?_;dsimp only));refine u2n ?hg (N:=5) ?hd (cs:=#[.string (⟨#[]⟩:ByteArray),.string (⟨#[]⟩:ByteArray)]) (t:=66) ?hr ?_;(case hd => rfl);(case hg => rfl);(case hr => first | (go_simp;done) | (go_simp;rfl));intro gb102 hg w25 hbox hb;have n0_:=Aside0.mk (u1c (by repeat (first | (with_reducible first | exact HB.out | apply ud | apply ub | apply uf) | exact HB.out)) hb);have n1_:=Aside0.mk (hbox);have n2_:=Aside0.mk ((by rw [hg];exact (uz (by repeat (first | (with_reducible first | exact HB.out | apply ud | apply ub | apply uf) | exact HB.out))):w.heap.size ≤ gb102));have n3_:=Aside0.mk ((by rw [hg];exact (uz (by repeat (first | (with_reducible first | exact HB.out | apply ud | apply ub | apply uf) | exact HB.out))):w.heap.size ≤ gb102));clear HB;have HB:=n0_;have BK102:=n1_;have GW102:=n2_;have GE102:=n3_;clear n0_ n1_ n2_ n3_;clear hb hbox hg;have hcz26_0:w25.cell? ⟨gb102,0,none⟩ = some (.string (⟨#[]⟩:ByteArray)):=(um BK102.out 0).trans rfl;have hcz26_1:w25.cell? ⟨gb102,1,none⟩ = some (.string (⟨#[]⟩:ByteArray)):=(um BK102.out 1).trans rfl;have hfz26_0:=uk BK102.out 0;have hfz26_1:=uk BK102.out 1) | ((with_reducible refine u2w (f:=29) rfl ?_);refine goesL_ (some 22) rfl rfl Tryz.func29 (by kernel_rfl) rfl #[.string ((un l0 x16_2).f0)] rfl (by (try simp only [List.map_toArray,List.map_cons,List.map_nil]);first | done | rfl | (simp only [List.length_drop,List.length_take];rfl)) ?_;(with_reducible refine (u1m.calls ((un l0 x16_2).f0) true _ A8.out).mono ?_);rintro e w27 ⟨rfl,hb⟩;refine ⟨_,rfl,?_⟩;have n0_:=Aside0.mk (u1z (g:=gb102) (o:=.cells #[.string ((un l0 x16_2).f0),.string ((un l0 x16_2).f1)] 66 (0,0)) (by (with_reducible repeat (first | refine us ?_ _ | refine uw ?_ | refine uq ?_ _));refine u2y (cs:=#[.string ((un l0 x16_2).f0),.string (⟨#[]⟩:ByteArray)]) ?_ 1 _ rfl;(with_reducible repeat (first | refine us ?_ _ | refine uw ?_ | refine uq ?_ _));refine u2y (cs:=#[.string (⟨#[]⟩:ByteArray),.string (⟨#[]⟩:ByteArray)]) ?_ 0 _ rfl;(with_reducible repeat (first | refine us ?_ _ | refine uw ?_ | refine uq ?_ _));exact BK102.out) hb);have n1_:=Aside0.mk (u1c (by repeat (first | (with_reducible first | exact HB.out | apply ud | apply ub | apply uf | refine ux ?_ GE102.out) | exact HB.out)) hb);clear BK102;clear HB;have BK102:=n0_;have HB:=n1_;clear n0_ n1_;(try clear hb);(try clear hb2);(try clear hk);(try clear hi);have hcz28_0:w27.cell? ⟨gb102,0,none⟩ = some (.string ((un l0 x16_2).f0)):=(um BK102.out 0).trans rfl;have hcz28_1:w27.cell? ⟨gb102,1,none⟩ = some (.string ((un l0 x16_2).f1)):=(um BK102.out 1).trans rfl;have hfz28_0:=uk BK102.out 0;have hfz28_1:=uk BK102.out 1) | (go_at_call 60;(with_reducible refine (u2x.calls ((un l0 x16_2).f1) false _ A10.out).mono ?_);rintro e w29 ⟨rfl,hb⟩;have n0_:=Aside0.mk (u1z (g:=gb102) (o:=.cells #[.string ((un l0 x16_2).f0),.string ((un l0 x16_2).f1)] 66 (0,0)) (by (with_reducible repeat (first | refine us ?_ _ | refine uw ?_ | refine uq ?_ _));exact BK102.out) hb);have n1_:=Aside0.mk (u1c (by repeat (first | (with_reducible first | exact HB.out | apply ud | apply ub | apply uf | refine ux ?_ GE102.out) | exact HB.out)) hb);clear BK102;clear HB;have BK102:=n0_;have HB:=n1_;clear n0_ n1_;(try clear hb);(try clear hb2);(try clear hk);(try clear hi)))
                   go_ret
                   exact ⟨by first | rfl | (simp [u1x,u1y] <;> rfl) | (simp [*,u1x,u1y] <;> rfl),by repeat (first | (with_reducible first | exact HB.out | apply ud | apply ub | apply uf | refine ux ?_ GE102.out) | exact HB.out)⟩
               · replace c9:=Bool.eq_false_iff.mpr c9
                 subst c9
                 have H1:(some false) = some r:=by rw [if_neg (show ¬ (false = true) by decide)] at H;exact H
                 clear H
                 have H:=H1
                 clear H1
                 obtain rfl:=Option.some.inj H
                 have p101:0 ≤ (x16_2:Int):=of_decide_eq_true (by first | (with_reducible assumption) | assumption)
                 have q101:x16_2 < (l0.length:Int):=of_decide_eq_true (by first | (with_reducible assumption) | assumption)
                 obtain ⟨ad101,e101,hx101_0,hx101_1⟩:=at_T66 HR0.out x16_2 p101 q101
                 cases e101
                 replace hx101_0:=(HB.out.cell (World.block_lt_of_cell? w _ hx101_0)).trans hx101_0
                 replace hx101_1:=(HB.out.cell (World.block_lt_of_cell? w _ hx101_1)).trans hx101_1
                 replace p101:=eq_true p101
                 replace q101:=eq_true q101
                 go_wp2_with (first | ((with_reducible refine u2o (N:=5) rfl ?_);(try (refine u3g (by rfl) ?_;dsimp only));refine u2n ?hg (N:=5) ?hd (cs:=#[.string (⟨#[]⟩:ByteArray),.string (⟨#[]⟩:ByteArray)]) (t:=66) ?hr ?_;(case hd => rfl);(case hg => rfl);(case hr => first | (go_simp;done) | (go_simp;rfl));intro gb102 hg w30 hbox hb;have n0_:=Aside0.mk (u1c (by repeat (first | (with_reducible first | exact HB.out | apply ud | apply ub | apply uf) | exact HB.out)) hb);have n1_:=Aside0.mk (hbox);have n2_:=Aside0.mk ((by rw [hg];exact (uz (by repeat (first | (with_reducible first | exact HB.out | apply ud | apply ub | apply uf) | exact HB.out))):w.heap.size ≤ gb102));have n3_:=Aside0.mk ((by rw [hg];exact (uz (by repeat (first | (with_reducible first | exact HB.out | apply ud | apply ub | apply uf) | exact HB.out))):w.heap.size ≤ gb102));clear HB;have HB:=n0_;have BK102:=n1_;have GW102:=n2_;have GE102:=n3_;clear n0_ n1_ n2_ n3_;clear hb hbox hg;have hcz31_0:w30.cell? ⟨gb102,0,none⟩ = some (.string (⟨#[]⟩:ByteArray)):=(um BK102.out 0).trans rfl;have hcz31_1:w30.cell? ⟨gb102,1,none⟩ = some (.string (⟨#[]⟩:ByteArray)):=(um BK102.out 1).trans rfl;have hfz31_0:=uk BK102.out 0;have hfz31_1:=uk BK102.out 1) | ((with_reducible refine u2w (f:=29) rfl ?_);refine goesL_ (some 22) rfl rfl Tryz.func29 (by kernel_rfl) rfl #[.string ((un l0 x16_2).f0)] rfl (by (try simp only [List.map_toArray,List.map_cons,List.map_nil]);first | done | rfl | (simp only [List.length_drop,List.length_take];rfl)) ?_;(with_reducible refine (u1m.calls ((un l0 x16_2).f0) false _ A8.out).mono ?_);rintro e w32 ⟨rfl,hb⟩;refine ⟨_,rfl,?_⟩;have n0_:=Aside0.mk (u1z (g:=gb102) (o:=.cells #[.string ((un l0 x16_2).f0),.string ((un l0 x16_2).f1)] 66 (0,0)) (by (with_reducible repeat (first | refine us ?_ _ | refine uw ?_ | refine uq ?_ _));refine u2y (cs:=#[.string ((un l0 x16_2).f0),.string (⟨#[]⟩:ByteArray)]) ?_ 1 _ rfl;(with_reducible repeat (first | refine us ?_ _ | refine uw ?_ | refine uq ?_ _));refine u2y (cs:=#[.string (⟨#[]⟩:ByteArray),.string (⟨#[]⟩:ByteArray)]) ?_ 0 _ rfl;(with_reducible repeat (first | refine us ?_ _ | refine uw ?_ | refine uq ?_ _));exact BK102.out) hb);have n1_:=Aside0.mk (u1c (by repeat (first | (with_reducible first | exact HB.out | apply ud | apply ub | apply uf | refine ux ?_ GE102.out) | exact HB.out)) hb);clear BK102;clear HB;have BK102:=n0_;have HB:=n1_;clear n0_ n1_;(try clear hb);(try clear hb2);(try clear hk);(try clear hi)))
                 go_ret
                 exact ⟨by first | rfl | (simp [u1x,u1y] <;> rfl) | (simp [*,u1x,u1y] <;> rfl),by repeat (first | (with_reducible first | exact HB.out | apply ud | apply ub | apply uf | refine ux ?_ GE102.out) | exact HB.out)⟩
             · rw [if_neg c7] at H
               exact absurd H (by simp)
           · rw [if_neg c6] at H
             exact absurd H (by simp)
         · rw [if_neg c5] at H
           have c5b0:decide (x16_2 < (l0.length:Int)) = false:=decide_eq_false c5
           clear c5
           obtain rfl:=Option.some.inj H
           go_wp2
           go_ret
           exact ⟨by first | rfl | (simp [u1x,u1y] <;> rfl) | (simp [*,u1x,u1y] <;> rfl),by repeat (first | (with_reducible first | exact HB.out | apply ud | apply ub | apply uf) | exact HB.out)⟩
end Go.Proofs.YtmcpeifhapekoaaGreatDoor.PAll
namespace Go.Proofs.YtmcpeifhapekoaaGreatDoor.Laws
open Go.RowKit Go.Proofs.YtmcpeifhapekoaaGreatDoor.PAll Go.Proofs.YtmcpeifhapekoaaGreatDoorW.PrintWords Go.Proofs.YtmcpeifhapekoaaGreatDoorW.PrintLast
set_option linter.unusedVariables false
set_option linter.unusedSimpArgs false
def okFrom:List UInt8 → List S66 → Bool
 | _,[] => true
 | last,x :: r => Base.nameB x.f0 && Base.valueB x.f1 && Op.bytesLess last x.f0.data.toList && okFrom x.f0.data.toList r
def canB (l:List S66):Bool:=decide (1 ≤ l.length) && decide (l.length ≤ 8) && okFrom [] l
theorem rd_drop (l:List S66) (i:Nat) (x:S66) (r:List S66) (h:l.drop i = x :: r):un l (i:Int) = x ∧ i < l.length ∧ l.drop (i + 1) = r:=by
 have hlt:i < l.length:=by
  rcases Nat.lt_or_ge i l.length with h1 | h1
  · exact h1
  · rw [List.drop_eq_nil_of_le h1] at h
    cases h
 rw [List.drop_eq_getElem_cons hlt] at h
 obtain ⟨h1,h2⟩:=List.cons.inj h
 refine ⟨?_,hlt,h2⟩
 rw [← h1]
 simp [un,List.getD_eq_getElem?_getD,hlt]
theorem can_l0 (l:List S66) (hl:l.length ≤ 8):∀ (r:List S66) (i:Nat) (last:ByteArray),l.drop i = r →
 Ev (fun k => u1s.l0 k last l (l.length:Int) (i:Int)) (okFrom last.data.toList r):=by
 intro r
 induction r with
 | nil =>
   intro i last h
   have hi:l.length ≤ i:=by
    rcases Nat.lt_or_ge i l.length with h1 | h1
    · rw [List.drop_eq_getElem_cons h1] at h
      cases h
    · exact h1
   refine Ev.step (f:=fun _ => some true) (fun k => ?_) (Ev.now _)
   simp only [u1s.l0]
   rw [if_neg (by omega)]
 | cons x r ih =>
   intro i last h
   obtain ⟨hx,hi,hr⟩:=rd_drop l i x r h
   have hw:wrap64 ((i:Int) + 1) = ((i + 1:Nat):Int):=Base.wrap_nat i (by omega)
   have h1:((i:Int) < (l.length:Int)):=by omega
   have h0:((0:Int) ≤ (i:Int)):=by omega
   cases hn:Base.nameB x.f0 with
   | false =>
     refine Ev.step (f:=fun _ => some false) (fun k => ?_) ?_
     · simp only [u1s.l0]
       rw [if_pos h1,if_pos h0,if_pos h1,hx]
       simp [u1m.f,hn]
     · have:okFrom last.data.toList (x :: r) = false:=by simp [okFrom,hn]
       rw [this]
       exact Ev.now _
   | true =>
     cases hv:Base.valueB x.f1 with
     | false =>
       refine Ev.step (f:=fun _ => some false) (fun k => ?_) ?_
       · simp only [u1s.l0]
         rw [if_pos h1,if_pos h0,if_pos h1,hx]
         simp [u1m.f,u2x.f,hn,hv]
       · have:okFrom last.data.toList (x :: r) = false:=by simp [okFrom,hn,hv]
         rw [this]
         exact Ev.now _
     | true =>
       cases hb:Op.bytesLess last.data.toList x.f0.data.toList with
       | false =>
         refine Ev.step (f:=fun _ => some false) (fun k => ?_) ?_
         · simp only [u1s.l0]
           rw [if_pos h1,if_pos h0,if_pos h1,hx]
           simp [u1m.f,u2x.f,hn,hv,ByteArray.toList_eq,hb]
         · have:okFrom last.data.toList (x :: r) = false:=by simp [okFrom,hn,hv,hb]
           rw [this]
           exact Ev.now _
       | true =>
         have ih2:=ih (i + 1) x.f0 hr
         refine Ev.step (f:=fun k => u1s.l0 k x.f0 l (l.length:Int) ((i + 1:Nat):Int)) (fun k => ?_) ?_
         · simp only [u1s.l0]
           rw [if_pos h1,if_pos h0,if_pos h1,hx,hw]
           simp [u1m.f,u2x.f,hn,hv,ByteArray.toList_eq,hb]
         · have:okFrom last.data.toList (x :: r) = okFrom x.f0.data.toList r:=by simp [okFrom,hn,hv,hb]
           rw [this]
           exact ih2
theorem can_ev (l:List S66):Ev (fun k => u1s.f k l) (canB l):=by
 by_cases h0:l.length = 0
 · have hc:canB l = false:=by simp [canB,h0]
   rw [hc]
   refine Ev.congr (f:=fun k => u1s.j0 k l true) (fun k => ?_) ?_
   · simp only [u1s.f]
     rw [if_pos (by omega)]
   · refine Ev.step (f:=fun _ => some false) (fun k => ?_) (Ev.now _)
     simp only [u1s.j0]
     simp
 · refine Ev.congr (f:=fun k => u1s.j0 k l (decide ((l.length:Int) > 8))) (fun k => ?_) ?_
   · simp only [u1s.f]
     rw [if_neg (by omega)]
   · by_cases h8:l.length ≤ 8
     · have hc:canB l = okFrom [] l:=by
        have h1:1 ≤ l.length:=by omega
        simp [canB,h1,h8]
       rw [hc]
       refine Ev.step (f:=fun k => u1s.l0 k (⟨#[]⟩:ByteArray) l (l.length:Int) 0) (fun k => ?_) (can_l0 l h8 l 0 ⟨#[]⟩ rfl)
       simp only [u1s.j0]
       rw [if_neg (by simp;omega)]
     · have hc:canB l = false:=by simp [canB,h8]
       rw [hc]
       refine Ev.step (f:=fun _ => some false) (fun k => ?_) (Ev.now _)
       simp only [u1s.j0]
       rw [if_pos (by simp;omega)]
theorem nameB_size {s:ByteArray} (h:Base.nameB s = true):1 ≤ s.size ∧ s.size ≤ 24:=by
 simp only [Base.nameB,Bool.and_eq_true,decide_eq_true_eq] at h
 omega
theorem valueB_size {s:ByteArray} (h:Base.valueB s = true):1 ≤ s.size ∧ s.size ≤ 40:=by
 simp only [Base.valueB,Bool.and_eq_true,decide_eq_true_eq] at h
 omega
theorem okFrom_mem:∀ (l:List S66) (last:List UInt8),okFrom last l = true → ∀ x ∈ l,Base.nameB x.f0 = true ∧ Base.valueB x.f1 = true:=by
 intro l
 induction l with
 | nil => intro _ _ x hx;cases hx
 | cons y r ih =>
   intro last h x hx
   simp only [okFrom,Bool.and_eq_true] at h
   rcases List.mem_cons.1 hx with rfl | hx
   · exact ⟨h.1.1.1,h.1.1.2⟩
   · exact ih _ h.2 x hx
end Go.Proofs.YtmcpeifhapekoaaGreatDoor.Laws
namespace Go.Proofs.YtmcpeifhapekoaaGreatDoor.Tx
open Go.RowKit Go.Proofs.YtmcpeifhapekoaaGreatDoor.PAll Go.Proofs.YtmcpeifhapekoaaGreatDoorW.PrintWords Go.Proofs.YtmcpeifhapekoaaGreatDoorW.PrintLast
open Go.Proofs.YtmcpeifhapekoaaGreatDoor.Laws (okFrom canB)
set_option linter.unusedVariables false
set_option linter.unusedSimpArgs false
theorem expect_cons (c d:UInt8) (t:B8):expectP [c] (d :: t) = if d = c then some t else none:=by
 unfold expectP
 by_cases h:d = c
 · subst h
   simp [List.isPrefixOf]
 · rw [if_neg h,if_neg]
   simp [List.isPrefixOf]
   exact fun e => h e.symm
def okN (l:List Lb):Bool:=l.all fun x => Base.nameB x.f0
theorem label_is (s:B8):labelP s = if Base.nameB (Base.ofL (s.takeWhile wordC)) = true then (valP (s.dropWhile wordC)).map fun q => (⟨Base.ofL (s.takeWhile wordC),q.1⟩,q.2) else none:=by
 unfold labelP nameP
 split <;> rfl
theorem insR_perm (x:Lb):∀ r:List Lb,(insR x r).Perm (x :: r)
 | [] => List.Perm.refl _
 | y :: r => by
   unfold insR
   split
   · exact ((insR_perm x r).cons y).trans (List.Perm.swap x y r)
   · exact List.Perm.refl _
theorem ins_fold_perm:∀ (l acc:List Lb),(l.foldl (fun r x => insR x r) acc).Perm (acc ++ l)
 | [],acc => by simp
 | x :: l,acc => by
   rw [List.foldl_cons]
   refine (ins_fold_perm l (insR x acc)).trans ?_
   refine ((insR_perm x acc).append_right l).trans ?_
   exact List.perm_middle.symm
theorem less_iff (a b:List UInt8):Op.bytesLess a b = true ↔ a < b:=by rw [Go.Proofs.bytesLess_eq];exact decide_eq_true_iff
theorem less_tr {a b c:List UInt8} (h1:Op.bytesLess a b = true) (h2:Op.bytesLess b c = true):Op.bytesLess a c = true:=by
 rw [less_iff] at *
 exact List.lt_trans h1 h2
theorem ok_above:∀ (l:List Lb) (last:List UInt8),okFrom last l = true → ∀ x ∈ l,Op.bytesLess last x.f0.data.toList = true
 | y :: l,last,h,x,hx => by
   unfold okFrom at h
   rw [Bool.and_eq_true,Bool.and_eq_true] at h
   rcases List.mem_cons.1 hx with rfl | hx
   · exact h.1.2
   · exact less_tr h.1.2 (ok_above l _ h.2 x hx)
theorem ok_nodup:∀ (l:List Lb) (last:List UInt8),okFrom last l = true → (l.map (·.f0)).Nodup
 | [],last,h => List.nodup_nil
 | y :: l,last,h => by
   unfold okFrom at h
   rw [Bool.and_eq_true] at h
   rw [List.map_cons,List.nodup_cons]
   refine ⟨fun hm => ?_,ok_nodup l _ h.2⟩
   obtain ⟨x,hx,e⟩:=List.mem_map.1 hm
   have:=ok_above l _ h.2 x hx
   rw [e,Base.less_irrefl] at this
   cases this
theorem can_names {l:List Lb} (h:canB l = true):l.length ≤ 8 ∧ okN l = true ∧ (l.map (·.f0)).Nodup:=by
 unfold canB at h
 rw [Bool.and_eq_true,Bool.and_eq_true] at h
 refine ⟨of_decide_eq_true h.1.2,?_,ok_nodup _ _ h.2⟩
 have:∀ (l:List Lb) (last:List UInt8),okFrom last l = true → okN l = true:=fun l => by
  induction l with
  | nil => exact fun _ _ => rfl
  | cons y l ih =>
    intro last h
    unfold okFrom at h
    rw [Bool.and_eq_true,Bool.and_eq_true,Bool.and_eq_true] at h
    unfold okN
    rw [List.all_cons,h.1.1.1,Bool.true_and]
    exact ih _ h.2
 exact this _ _ h.2
end Go.Proofs.YtmcpeifhapekoaaGreatDoor.Tx
namespace Go.Proofs.YtmcpeifhapekoaaGreatDoor.Tx
open Go.RowKit Go.Proofs.YtmcpeifhapekoaaGreatDoor.PAll Go.Proofs.YtmcpeifhapekoaaGreatDoorW.PrintWords Go.Proofs.YtmcpeifhapekoaaGreatDoorW.PrintLast
open Go.Proofs.YtmcpeifhapekoaaGreatDoor.Laws (okFrom canB)
theorem awake_read:readP canB [117,112,123,106,111,98,61,34,120,34,125,32,48,120,49,102,32,55] 0 = (some ⟨[⟨metric,Base.ofL [117,112]⟩,⟨Base.ofL [106,111,98],Base.ofL [120]⟩],7,31⟩,me0,0):=by kernel_rfl
end Go.Proofs.YtmcpeifhapekoaaGreatDoor.Tx
namespace Go.Proofs.YtmcpeifhapekoaaGreatDoor.Laws
open Go.RowKit Go.Proofs.YtmcpeifhapekoaaGreatDoor.PAll Go.Proofs.YtmcpeifhapekoaaGreatDoorW.PrintWords Go.Proofs.YtmcpeifhapekoaaGreatDoorW.PrintLast
set_option linter.unusedVariables false
set_option linter.unusedSimpArgs false
theorem head_drop (s:ByteArray) (i:Nat) (c:UInt8) (r:List UInt8) (h:s.data.toList.drop i = c :: r):i < s.size ∧ bt s (i:Int) = (c.toNat:Int) ∧ s.data.toList.drop (i + 1) = r ∧ (s.extract i (i + 1)) = Base.ofL [c] ∧ r.length + i + 1 = s.size:=by
 have hlt:i < s.data.toList.length:=by
  rcases Nat.lt_or_ge i s.data.toList.length with h1 | h1
  · exact h1
  · rw [List.drop_eq_nil_of_le h1] at h
    cases h
 have hs:s.size = s.data.toList.length:=Base.size_list s
 have hlen:(s.data.toList.drop i).length = s.data.toList.length - i:=List.length_drop
 rw [h] at hlen
 simp only [List.length_cons] at hlen
 have h':=h
 rw [List.drop_eq_getElem_cons hlt] at h
 obtain ⟨h1,h2⟩:=List.cons.inj h
 refine ⟨by omega,?_,h2,?_,by omega⟩
 · rw [Base.bt_list s i (by omega),List.getD_eq_getElem?_getD,List.getElem?_eq_getElem hlt,h1]
   rfl
 · refine Base.ext_data ?_
   rw [Base.extract_list,Base.ofL_data,h']
   have:i + 1 - i = 1:=by omega
   rw [this]
   rfl
theorem byte_is (c:UInt8):((c.toNat:Int) = 34 ↔ c = 34) ∧ ((c.toNat:Int) = 92 ↔ c = 92):=by
 refine ⟨⟨fun e => UInt8.toNat_inj.1 (by simpa using (by omega:c.toNat = 34)),fun e => by rw [e];rfl⟩,⟨fun e => UInt8.toNat_inj.1 (by simpa using (by omega:c.toNat = 92)),fun e => by rw [e];rfl⟩⟩
theorem drop_end (s:ByteArray) (i:Nat) (h:s.data.toList.drop i = []):s.size ≤ i:=by
 have hs:s.size = s.data.toList.length:=Base.size_list s
 rcases Nat.lt_or_ge i s.data.toList.length with h1 | h1
 · rw [List.drop_eq_getElem_cons h1] at h
   cases h
 · omega
theorem rquote_l0 (s:ByteArray) (hs:s.size ≤ 140737488355232):∀ (r:List UInt8) (i:Nat) (acc:ByteArray),s.data.toList.drop i = r → i ≤ s.size → acc.size ≤ 2 * i + 1 →
 Ev (fun k => u1r.l0 k s acc (i:Int)) (Base.ofL (acc.data.toList ++ (r.flatMap Base.quoteByte ++ [34]))):=by
 intro r
 induction r with
 | nil =>
   intro i acc h hi ha
   have hi2:=drop_end s i h
   refine Ev.step (f:=fun _ => some (Base.ofL (acc.data.toList ++ [34]))) (fun k => ?_) (by simpa using Ev.now (Base.ofL (acc.data.toList ++ [34])))
   simp only [u1r.l0]
   rw [if_neg (by omega),if_pos (by omega)]
   congr 1
 | cons c r ih =>
   intro i acc h hi ha
   obtain ⟨hlt,hbt,hr,hex,hlen⟩:=head_drop s i c r h
   have hw:wrap64 ((i:Int) + 1) = ((i + 1:Nat):Int):=Base.wrap_nat i (by omega)
   have h1:((i:Int) < (s.size:Int)):=by omega
   have h0:((0:Int) ≤ (i:Int)):=by omega
   have hb:=Aside0.mk (byte_is c)
   have hsz1:(Base.ofL [c]).size = 1:=by rw [Base.size_list,Base.ofL_data];rfl
   have hszb:(acc ++ (⟨#[92]⟩:ByteArray)).size = acc.size + 1:=by
    rw [Base.size_list,Base.append_data,List.length_append,← Base.size_list]
    rfl
   have hex2:s.extract (i:Int).toNat ((i + 1:Nat):Int).toNat = Base.ofL [c]:=hex
   by_cases hq:c = 34 ∨ c = 92
   · have hqb:Base.quoteByte c = [92,c]:=by unfold Base.quoteByte;rw [if_pos hq]
     have ih2:=ih (i + 1) ((acc ++ (⟨#[92]⟩:ByteArray)) ++ Base.ofL [c]) hr (by omega) (by rw [Base.size_list,Base.append_data,List.length_append,← Base.size_list,hszb,Base.ofL_data];simp;omega)
     have he:Base.ofL (acc.data.toList ++ ((c :: r).flatMap Base.quoteByte ++ [34])) = Base.ofL (((acc ++ (⟨#[92]⟩:ByteArray)) ++ Base.ofL [c]).data.toList ++ (r.flatMap Base.quoteByte ++ [34])):=by
      congr 1
      rw [Base.append_data,Base.append_data,Base.ofL_data,List.flatMap_cons,hqb]
      simp
     rw [he]
     refine Ev.step (fun k => ?_) ih2
     simp only [u1r.l0]
     rw [if_pos h1,if_pos h0,hbt,hw]
     rcases hq with hq | hq
     · rw [if_pos (hb.out.1.2 hq),if_pos (by omega),if_pos (by omega),if_pos (by omega),hex2,if_pos (by rw [hszb,hsz1];omega)]
     · rw [if_neg (fun e => by have:=hb.out.1.1 e;rw [hq] at this;exact absurd this (by decide)),if_pos (hb.out.2.2 hq),if_pos (by omega),if_pos (by omega),if_pos (by omega),hex2,if_pos (by rw [hszb,hsz1];omega)]
   · have hqb:Base.quoteByte c = [c]:=by unfold Base.quoteByte;rw [if_neg hq]
     have ih2:=ih (i + 1) (acc ++ Base.ofL [c]) hr (by omega) (by rw [Base.size_list,Base.append_data,List.length_append,← Base.size_list,Base.ofL_data];simp;omega)
     have he:Base.ofL (acc.data.toList ++ ((c :: r).flatMap Base.quoteByte ++ [34])) = Base.ofL ((acc ++ Base.ofL [c]).data.toList ++ (r.flatMap Base.quoteByte ++ [34])):=by
      congr 1
      rw [Base.append_data,Base.ofL_data,List.flatMap_cons,hqb]
      simp
     rw [he]
     refine Ev.step (fun k => ?_) ih2
     simp only [u1r.l0]
     rw [if_pos h1,if_pos h0,hbt,hw,if_neg (fun e => hq (.inl (hb.out.1.1 e))),if_neg (fun e => hq (.inr (hb.out.2.1 e))),if_pos (by omega),if_pos (by omega),hex2,if_pos (by rw [hsz1];omega)]
theorem rquote_ev (s:ByteArray) (hs:s.size ≤ 140737488355232):Ev (fun k => u1r.f k s) (Base.quoteS s):=by
 have h:=rquote_l0 s hs s.data.toList 0 ⟨#[34]⟩ rfl (by omega) (by decide)
 refine Ev.congr (fun k => rfl) ?_
 have he:Base.quoteS s = Base.ofL ((⟨#[34]⟩:ByteArray).data.toList ++ (s.data.toList.flatMap Base.quoteByte ++ [34])):=rfl
 rw [he]
 exact h
end Go.Proofs.YtmcpeifhapekoaaGreatDoor.Laws
namespace Go.Proofs.YtmcpeifhapekoaaGreatDoor.Tx
open Go.RowKit Go.Proofs.YtmcpeifhapekoaaGreatDoor.PAll Go.Proofs.YtmcpeifhapekoaaGreatDoorW.PrintWords Go.Proofs.YtmcpeifhapekoaaGreatDoorW.PrintLast
open Go.Proofs.YtmcpeifhapekoaaGreatDoor.Laws (okFrom canB)
set_option linter.unusedVariables false
set_option linter.unusedSimpArgs false
def pieceQ (x:Lb):B8:=x.f0.data.toList ++ 61 :: Base.quoteL x.f1.data.toList
theorem unq_gen:∀ (l acc rest:List UInt8),Base.unqL (l.flatMap Base.quoteByte ++ (34 :: rest)) acc = some (acc ++ l,rest):=by
 intro l
 induction l with
 | nil =>
   intro acc rest
   simp [Base.unqL_end]
 | cons c r ih =>
   intro acc rest
   rw [List.flatMap_cons,List.append_assoc]
   rw [show Base.quoteByte c = if c = 34 ∨ c = 92 then [92,c] else [c] from rfl]
   by_cases h:c = 34 ∨ c = 92
   · rw [if_pos h]
     simp only [List.cons_append,List.nil_append]
     rw [Base.unqL_esc _ _ _ h,ih]
     simp
   · rw [if_neg h]
     simp only [List.cons_append,List.nil_append]
     rw [Base.unqL_plain _ _ _ (fun e => h (Or.inl e)) (fun e => h (Or.inr e)),ih]
     simp
theorem quoted_back (s:ByteArray) (t:B8):quotedP (Base.quoteL s.data.toList ++ t) = some (s,t):=by
 unfold Base.quoteL quotedP
 simp only [List.cons_append,List.append_assoc,List.nil_append]
 rw [if_pos trivial,unq_gen]
 simp [Base.ofL_of]
theorem all_word {s:ByteArray} (h:Base.nameB s = true):∀ c ∈ s.data.toList,wordC c = true:=by
 unfold Base.nameB at h
 rw [Bool.and_eq_true] at h
 have h2:=List.all_eq_true.1 h.2
 intro c hc
 have:=h2 (c.toNat:Int) (by
  unfold bytesOf
  exact List.mem_map_of_mem hc)
 exact this
theorem take_word (a:B8) (h:∀ c ∈ a,wordC c = true) (c:UInt8) (hc:wordC c = false) (t:B8):(a ++ c :: t).takeWhile wordC = a ∧ (a ++ c :: t).dropWhile wordC = c :: t:=by
 induction a with
 | nil => simp [hc]
 | cons x a ih =>
   have hx:=h x (List.mem_cons_self ..)
   obtain ⟨h1,h2⟩:=ih (fun c hc => h c (List.mem_cons_of_mem _ hc))
   simp only [List.cons_append,List.takeWhile_cons,List.dropWhile_cons,hx,if_true,h1,h2,and_self]
theorem label_back (x:Lb) (hn:Base.nameB x.f0 = true) (t:B8):labelP (pieceQ x ++ t) = some (x,t):=by
 obtain ⟨h1,h2⟩:=take_word x.f0.data.toList (all_word hn) 61 (by decide) (Base.quoteL x.f1.data.toList ++ t)
 have e:pieceQ x ++ t = x.f0.data.toList ++ 61 :: (Base.quoteL x.f1.data.toList ++ t):=by simp [pieceQ]
 rw [label_is,e,h1,h2,Base.ofL_of,if_pos hn]
 unfold valP
 rw [expect_cons,if_pos rfl]
 simp only [Option.bind_some,quoted_back,Option.map_some]
theorem labels_back:∀ (l acc:List Lb) (n:Nat) (t:B8),(∀ x ∈ l,Base.nameB x.f0 = true) → acc.length + l.length ≤ 9 → l.length < n → labelsP n acc (l.flatMap (fun x => 44 :: pieceQ x) ++ 125 :: t) = some (acc ++ l,125 :: t)
 | [],acc,0,t,_,_,h => by simp at h
 | [],acc,n + 1,t,_,_,_ => by simp [labelsP]
 | x :: l,acc,0,t,_,_,h => by simp at h
 | x :: l,acc,n + 1,t,hn,hl,h => by
   simp only [List.flatMap_cons,List.cons_append,List.append_assoc,labelsP,List.length_cons] at hl h ⊢
   rw [if_pos (by omega),label_back x (hn x (List.mem_cons_self ..))]
   simp only [Option.bind_some]
   rw [labels_back l (acc ++ [x]) n t (fun y hy => hn y (List.mem_cons_of_mem _ hy)) (by simp;omega) (by omega)]
   simp
theorem braces_back (x:Lb) (l:List Lb) (t:B8) (hn:∀ y ∈ x :: l,Base.nameB y.f0 = true) (hl:l.length ≤ 8):bracesP (123 :: (pieceQ x ++ l.flatMap (fun x => 44 :: pieceQ x)) ++ 125 :: t) = some (x :: l,t):=by
 unfold bracesP
 have hlen:l.length < (123 :: (pieceQ x ++ l.flatMap (fun x => 44 :: pieceQ x)) ++ 125 :: t).length:=by
  have:l.length ≤ (l.flatMap (fun x => 44 :: pieceQ x)).length:=by
   clear hn hl
   induction l with
   | nil => exact Nat.zero_le _
   | cons y l ih =>
     rw [List.flatMap_cons,List.length_append,List.length_cons,List.length_cons]
     omega
  simp only [List.length_append,List.length_cons]
  omega
 simp only [List.cons_append,List.append_assoc] at hlen ⊢
 rw [expect_cons,if_pos rfl]
 simp only [Option.bind_some]
 rw [label_back x (hn x (List.mem_cons_self ..))]
 simp only [Option.bind_some]
 rw [labels_back l [x] _ t (fun y hy => hn y (List.mem_cons_of_mem _ hy)) (by simp;omega) hlen]
 simp only [Option.bind_some,expect_cons,if_pos,Option.map_some,List.singleton_append]
def Desc (r:List Lb):Prop:=r.Pairwise fun y z => less z.f0 y.f0 = true
theorem less_or {a b:ByteArray} (h:¬ less a b = true) (hne:b ≠ a):less b a = true:=by
 have h0:Op.bytesLess a.data.toList b.data.toList = false:=by simpa [less] using h
 have h1:=Base.less_or a.data.toList b.data.toList
 rw [h0,Bool.false_or] at h1
 cases h2:Op.bytesLess b.data.toList a.data.toList with
 | true => exact h2
 | false =>
   rw [h2] at h1
   simp at h1
   exact absurd (Base.ext_data (by rw [h1])).symm hne
theorem desc_ins (x:Lb):∀ r:List Lb,Desc r → (∀ y ∈ r,y.f0 ≠ x.f0) → Desc (insR x r)
 | [],_,_ => List.pairwise_singleton _ _
 | y :: r,hd,hx => by
   obtain ⟨h1,h2⟩:=List.pairwise_cons.1 hd
   unfold insR
   split
   · rename_i h
     refine List.pairwise_cons.2 ⟨fun z hz => ?_,desc_ins x r h2 (fun z hz => hx z (List.mem_cons_of_mem _ hz))⟩
     rcases List.mem_cons.1 ((insR_perm x r).mem_iff.1 hz) with rfl | hz
     · exact h
     · exact h1 z hz
   · rename_i h
     have hyx:=less_or h (hx y (List.mem_cons_self ..))
     refine List.pairwise_cons.2 ⟨fun z hz => ?_,hd⟩
     rcases List.mem_cons.1 hz with rfl | hz
     · exact hyx
     · exact less_tr (h1 z hz) hyx
theorem desc_fold:∀ (l r:List Lb),Desc r → ((r ++ l).map (·.f0)).Nodup → Desc (l.foldl (fun r x => insR x r) r)
 | [],r,h,_ => h
 | x :: l,r,h,hn => by
   rw [List.foldl_cons]
   have hp:(insR x r ++ l).Perm (r ++ x :: l):=((insR_perm x r).append_right l).trans List.perm_middle.symm
   refine desc_fold l _ (desc_ins x r h fun y hy e => ?_) ((hp.map _).nodup_iff.2 hn)
   rw [List.map_append,List.nodup_append] at hn
   exact hn.2.2 y.f0 (List.mem_map_of_mem hy) x.f0 (by simp) e
theorem desc_same:∀ (a b:List Lb),Desc a → Desc b → a.Perm b → a = b
 | [],b,_,_,h => by simpa using h.symm.eq_nil.symm
 | x :: a,[],_,_,h => by simpa using h.length_eq
 | x :: a,y :: b,ha,hb,h => by
   obtain ⟨h1,h2⟩:=List.pairwise_cons.1 ha
   obtain ⟨h3,h4⟩:=List.pairwise_cons.1 hb
   have e:x = y:=by
    rcases List.mem_cons.1 (h.mem_iff.1 (List.mem_cons_self ..)) with e | hx
    · exact e
    · rcases List.mem_cons.1 (h.mem_iff.2 (List.mem_cons_self ..)) with e | hy
      · exact e.symm
      · have g1:=h3 x hx
        have g2:=h1 y hy
        have:=less_tr g1 g2
        rw [Base.less_irrefl] at this
        cases this
   subst e
   rw [desc_same a b h2 h4 (List.perm_cons x |>.1 h)]
theorem ok_desc:∀ (l:List Lb) (last:List UInt8),okFrom last l = true → l.Pairwise fun y z => less y.f0 z.f0 = true
 | [],_,_ => List.Pairwise.nil
 | y :: l,last,h => by
   unfold okFrom at h
   rw [Bool.and_eq_true] at h
   exact List.pairwise_cons.2 ⟨fun z hz => ok_above l _ h.2 z hz,ok_desc l _ h.2⟩
theorem sort_back (l m:List Lb) (hl:canB l = true) (hp:m.Perm l):sortP m = l:=by
 have hn:=(can_names hl).2.2
 unfold canB at hl
 rw [Bool.and_eq_true] at hl
 have hd:=ok_desc l [] hl.2
 have h1:Desc (m.foldl (fun r x => insR x r) []):=desc_fold m [] List.Pairwise.nil (by rw [List.nil_append];exact ((hp.map _).nodup_iff).2 hn)
 have h2:Desc l.reverse:=List.pairwise_reverse.2 hd
 have h3:(m.foldl (fun r x => insR x r) []).Perm l.reverse:=by
  have:=ins_fold_perm m []
  rw [List.nil_append] at this
  exact (this.trans hp).trans (List.reverse_perm l).symm
 unfold sortP
 rw [desc_same _ _ h1 h2 h3,List.reverse_reverse]
def decN (n:Nat):B8:=if n < 10 then [UInt8.ofNat (48 + n)] else decN (n / 10) ++ [UInt8.ofNat (48 + n % 10)]
decreasing_by omega
theorem dec_dig (n:Nat) (h:n < 10):(UInt8.ofNat (48 + n)).toNat = 48 + n:=by
 rw [UInt8.toNat_ofNat']
 omega
theorem decN_all (n:Nat):∀ c ∈ decN n,decC c = true:=by
 induction n using Nat.strongRecOn with
 | ind n ih =>
   unfold decN
   split
   · rename_i h
     intro c hc
     rw [List.mem_singleton] at hc
     subst hc
     unfold decC
     rw [dec_dig n h,decide_eq_true (by omega),decide_eq_true (by omega)]
     rfl
   · rename_i h
     intro c hc
     rcases List.mem_append.1 hc with hc | hc
     · exact ih (n / 10) (by omega) c hc
     · rw [List.mem_singleton] at hc
       subst hc
       unfold decC
       rw [dec_dig (n % 10) (by omega),decide_eq_true (by omega),decide_eq_true (by omega)]
       rfl
theorem decN_len (k:Nat):∀ n:Nat,n < 10 ^ (k + 1) → 1 ≤ (decN n).length ∧ (decN n).length ≤ k + 1:=by
 induction k with
 | zero =>
   intro n h
   unfold decN
   rw [if_pos (by simpa using h)]
   simp
 | succ k ih =>
   intro n h
   unfold decN
   split
   · simp
   · rename_i h9
     have:=ih (n / 10) (by rw [Nat.pow_succ] at h;omega)
     simp only [List.length_append,List.length_singleton]
     omega
theorem numL_app (b:Int):∀ (l m:B8) (n:Int),numL b (l ++ m) n = (numL b l n).bind fun x => numL b m x
 | [],m,n => rfl
 | c :: l,m,n => by
   simp only [List.cons_append,numL]
   split
   · exact numL_app b l m _
   · rfl
theorem dec_step (x:Int) (d:Nat) (hx:0 ≤ x) (hd:d < 10) (h:x * 10 + d ≤ 18446744073709551615):numL 10 [UInt8.ofNat (48 + d)] x = some (x * 10 + d):=by
 have e:digV (UInt8.ofNat (48 + d)) = d:=by
  unfold digV
  rw [dec_dig d hd,if_neg (by omega)]
  omega
 unfold numL
 rw [e,if_pos (by omega)]
 rfl
theorem decN_back:∀ n:Nat,n ≤ 18446744073709551615 → numL 10 (decN n) 0 = some (n:Int):=by
 intro n
 induction n using Nat.strongRecOn with
 | ind n ih =>
   intro hn
   unfold decN
   split
   · rename_i h
     have:=dec_step 0 n (by omega) h (by omega)
     rw [this]
     simp
   · rename_i h
     rw [numL_app,ih (n / 10) (by omega) (by omega)]
     simp only [Option.bind_some]
     rw [dec_step _ (n % 10) (by omega) (by omega) (by omega)]
     congr 1
     omega
theorem take_dig (h:Bool) (a:B8) (ha:∀ c ∈ a,digC h c = true) (t:B8) (ht:t.head?.all (fun c => !digC h c) = true):(a ++ t).takeWhile (digC h) = a ∧ (a ++ t).dropWhile (digC h) = t:=by
 induction a with
 | nil =>
   cases t with
   | nil => simp
   | cons c t =>
     have:digC h c = false:=by simpa using ht
     simp [this]
 | cons x a ih =>
   have hx:=ha x (List.mem_cons_self ..)
   obtain ⟨h1,h2⟩:=ih (fun c hc => ha c (List.mem_cons_of_mem _ hc))
   simp only [List.cons_append,List.takeWhile_cons,List.dropWhile_cons,hx,if_true,h1,h2,and_self]
theorem valueD_back (n most:Nat) (t:B8) (hn:n ≤ 18446744073709551615) (hm:(decN n).length ≤ most) (ht:t.head?.all (fun c => !decC c) = true):valueD false most 10 (decN n ++ t) = some ((n:Int),t):=by
 obtain ⟨h1,h2⟩:=take_dig false (decN n) (fun c hc => decN_all n c hc) t ht
 have h3:decN n ≠ []:=by
  have:=(decN_len 20 n (by omega)).1
  intro e
  rw [e] at this
  simp at this
 unfold valueD digitsP
 rw [h1,h2,if_pos ⟨h3,hm⟩]
 simp only [Option.bind_some,decN_back n hn,Option.map_some]
theorem decN_head (n:Nat):∃ c r,decN n = c :: r ∧ decC c = true:=by
 have h1:=(decN_len n n (by
  have:=Nat.lt_pow_self (n:=n + 1) (a:=10) (by decide)
  omega)).1
 cases h:decN n with
 | nil => rw [h] at h1;simp at h1
 | cons c r => exact ⟨c,r,rfl,decN_all n c (by rw [h];exact List.mem_cons_self ..)⟩
def signL (x:Int):B8:=if x < 0 then 45 :: decN (-x).toNat else decN x.toNat
theorem dec_ne {c:UInt8} (h:decC c = true):blankC c = false ∧ c ≠ 120 ∧ c ≠ 45 ∧ c ≠ 123 ∧ c ≠ 10:=by
 unfold decC at h
 rw [Bool.and_eq_true,decide_eq_true_eq,decide_eq_true_eq] at h
 refine ⟨?_,?_,?_,?_,?_⟩
 · unfold blankC
   rw [decide_eq_false,decide_eq_false]
   · rfl
   · rintro rfl
     exact absurd h.1 (by decide)
   · rintro rfl
     exact absurd h.1 (by decide)
 all_goals
  rintro rfl
  revert h
  decide
theorem value_back (n:Nat) (t:B8) (hn:n ≤ 18446744073709551615) (ht:t.head?.all (fun c => !decC c && c != 120) = true):valueP (decN n ++ t) = some ((n:Int),t):=by
 have ht2:t.head?.all (fun c => !decC c) = true:=by
  cases t with
  | nil => rfl
  | cons c t =>
    simp only [List.head?_cons,Option.all_some,Bool.and_eq_true] at ht ⊢
    exact ht.1
 have hm:(decN n).length ≤ 20:=(decN_len 19 n (by omega)).2
 have hx:∀ r,decN n ++ t ≠ 48 :: 120 :: r:=by
  intro r e
  have ha:=decN_all n
  cases hd:decN n with
  | nil =>
    have:=(decN_len 20 n (by omega)).1
    rw [hd] at this
    simp at this
  | cons c q =>
    rw [hd] at e ha
    cases q with
    | nil =>
      cases t with
      | nil => simp at e
      | cons d t =>
        simp at e ht
        exact ht.2 e.2.1
    | cons d q =>
      simp at e
      exact (dec_ne (ha d (by simp))).2.1 e.2.1
 unfold valueP
 split
 · rename_i r h
   exact absurd h (hx r)
 · exact valueD_back n 20 t hn hm ht2
theorem time_nat (n:Nat) (h:n ≤ 9223372036854775808):valueD false 19 10 (decN n) = some ((n:Int),[]):=by
 have h1:n < 10 ^ (18 + 1):=by
  have:(10:Nat) ^ (18 + 1) = 10000000000000000000:=rfl
  omega
 have e:=valueD_back n 19 [] (by omega) (decN_len 18 n h1).2 rfl
 rw [List.append_nil] at e
 exact e
theorem time_minus (r:B8):timeP (45 :: r) = (valueD false 19 10 r).bind fun p => if p.1 ≤ 9223372036854775808 then some (-p.1,p.2) else none:=rfl
theorem time_plus (s:B8) (h:∀ r,s ≠ 45 :: r):timeP s = (valueD false 19 10 s).bind fun p => if p.1 < 9223372036854775808 then some p else none:=by
 unfold timeP
 split
 · rename_i r
   exact absurd rfl (h r)
 · rfl
theorem time_back (x:Int) (h0 : -9223372036854775808 ≤ x) (h1:x < 9223372036854775808):timeP (signL x) = some (x,[]):=by
 unfold signL
 by_cases h:x < 0
 · obtain ⟨n,hn⟩:∃ n:Nat,n = (-x).toNat:=⟨_,rfl⟩
   have hx:x = -(n:Int):=by omega
   have hb:n ≤ 9223372036854775808:=by omega
   rw [if_pos h,time_minus,← hn,time_nat n hb,Option.bind_some,if_pos (by simp only;omega),hx]
 · obtain ⟨n,hn⟩:∃ n:Nat,n = x.toNat:=⟨_,rfl⟩
   have hx:x = (n:Int):=by omega
   have hb:n ≤ 9223372036854775808:=by omega
   rw [if_neg h,← hn,time_plus,time_nat n hb,Option.bind_some,if_pos (by simp only;omega),hx]
   intro r e
   have:=decN_all n 45 (by rw [e];exact List.mem_cons_self ..)
   exact absurd this (by decide)
theorem sign_head (x:Int):∃ c r,signL x = c :: r ∧ blankC c = false:=by
 unfold signL
 split
 · exact ⟨45,_,rfl,by decide⟩
 · obtain ⟨c,r,h,hc⟩:=decN_head x.toNat
   exact ⟨c,r,h,(dec_ne hc).1⟩
theorem end_back (n:Nat) (x now:Int) (hn:n ≤ 18446744073709551615) (h0 : -9223372036854775808 ≤ x) (h1:x < 9223372036854775808):endP (32 :: (decN n ++ 32 :: signL x)) now = some (x,(n:Int)):=by
 obtain ⟨c,r,hd,hc⟩:=decN_head n
 obtain ⟨c2,r2,hd2,hc2⟩:=sign_head x
 have hb:=(dec_ne hc).1
 have e1:(32 :: (decN n ++ 32 :: signL x)).takeWhile blankC = [32]:=by
  rw [hd]
  simp [hb,show blankC 32 = true from by decide]
 have e2:(32 :: (decN n ++ 32 :: signL x)).dropWhile blankC = decN n ++ 32 :: signL x:=by
  rw [hd]
  simp [hb,show blankC 32 = true from by decide]
 have e3:(32 :: signL x).takeWhile blankC = [32]:=by
  rw [hd2]
  simp [hc2,show blankC 32 = true from by decide]
 have e4:(32 :: signL x).dropWhile blankC = signL x:=by
  rw [hd2]
  simp [hc2,show blankC 32 = true from by decide]
 unfold endP
 rw [e1,e2,if_neg (by simp),value_back n (32 :: signL x) hn (by simp only [List.head?_cons,Option.all_some];decide)]
 simp only [Option.bind_some,e3,e4]
 rw [if_neg (by rw [hd2];simp),if_neg (by simp),time_back x h0 h1]
 rfl
def u3e:List Lb → B8
 | [] => []
 | x :: l => 123 :: (pieceQ x ++ l.flatMap (fun x => 44 :: pieceQ x)) ++ [125]
theorem labs_braces (x:Lb) (l:List Lb) (t:B8) (hn:∀ y ∈ x :: l,Base.nameB y.f0 = true) (hl:l.length ≤ 8):labsP (u3e (x :: l) ++ t) = some (x :: l,t):=by
 have e:u3e (x :: l) ++ t = 123 :: (pieceQ x ++ l.flatMap (fun x => 44 :: pieceQ x)) ++ 125 :: t:=by simp [u3e]
 have h:=braces_back x l t hn hl
 rw [e]
 unfold labsP headP
 simp only [List.cons_append,List.append_assoc] at h ⊢
 rw [if_neg (by decide)]
 simp only [Option.bind_some,restP,h,Option.map_some,List.nil_append]
theorem labs_name (n:ByteArray) (l:List Lb) (t:B8) (h0:Base.nameB n = true) (hn:∀ y ∈ l,Base.nameB y.f0 = true) (hl:l.length ≤ 8) (ht:t.head?.all (fun c => !wordC c && c != 123) = true) (hne:l = [] → t ≠ []):labsP (n.data.toList ++ (u3e l ++ t)) = some (⟨metric,n⟩ :: l,t):=by
 have hw:=all_word h0
 have hsz:n.data.toList ≠ []:=by
  intro e
  have:n = Base.ofL []:=by rw [← Base.ofL_of n,e]
  subst this
  revert h0
  decide
 obtain ⟨c0,q0,hc0⟩:∃ c q,n.data.toList = c :: q:=by
  cases h:n.data.toList with
  | nil => exact absurd h hsz
  | cons c q => exact ⟨c,q,rfl⟩
 have hhead:∃ c r,u3e l ++ t = c :: r ∧ wordC c = false ∧ (l = [] → c ≠ 123):=by
  cases l with
  | nil =>
    cases t with
    | nil => exact absurd rfl (hne rfl)
    | cons c t =>
      simp only [List.head?_cons,Option.all_some,Bool.and_eq_true] at ht
      exact ⟨c,t,rfl,by simpa using ht.1,fun _ => by simpa using ht.2⟩
  | cons x l => exact ⟨123,_,rfl,by decide,fun h => by cases h⟩
 obtain ⟨c,r,hr,hc,hc3⟩:=hhead
 obtain ⟨g1,g2⟩:=take_word n.data.toList hw c hc r
 unfold labsP
 rw [hr]
 have hcons:n.data.toList ++ c :: r = c0 :: (q0 ++ c :: r):=by rw [hc0];rfl
 have hnm:nameP (n.data.toList ++ c :: r) = some (n,c :: r):=by
  unfold nameP
  rw [g1,g2,Base.ofL_of,if_pos h0]
 have hnm0:(nameP (n.data.toList ++ c :: r)).map (fun p => (([⟨metric,p.1⟩]:List Lb),p.2)) = some ([⟨metric,n⟩],c :: r):=by
  rw [hnm]
  rfl
 have hhd:headP (n.data.toList ++ c :: r) = some ([⟨metric,n⟩],c :: r):=by
  rw [← hnm0,hcons]
  exact if_pos (hw c0 (by rw [hc0];exact List.mem_cons_self ..))
 rw [hhd]
 simp only [Option.bind_some]
 cases l with
 | nil =>
   unfold restP
   split
   · rename_i h9
     injection h9 with h9
     exact absurd h9 (hc3 rfl)
   · rw [← hr]
     rfl
 | cons x l =>
   have e:u3e (x :: l) ++ t = 123 :: (pieceQ x ++ l.flatMap (fun x => 44 :: pieceQ x)) ++ 125 :: t:=by simp [u3e]
   have h:=braces_back x l t hn (by simp at hl;omega)
   rw [← hr,e]
   simp only [List.cons_append,List.append_assoc] at h ⊢
   simp only [restP,h,Option.map_some,List.singleton_append]
end Go.Proofs.YtmcpeifhapekoaaGreatDoor.Tx
namespace Go.Proofs.YtmcpeifhapekoaaGreatDoor.Tx
open Go.RowKit Go.Proofs.YtmcpeifhapekoaaGreatDoor.PAll Go.Proofs.YtmcpeifhapekoaaGreatDoorW.PrintWords Go.Proofs.YtmcpeifhapekoaaGreatDoorW.PrintLast
set_option linter.unusedVariables false
set_option linter.unusedSimpArgs false
theorem join_pieces (l:List Lb) (x:Lb):Lib.join ((x :: l).map pieceQ) [44] = pieceQ x ++ l.flatMap (fun x => 44 :: pieceQ x):=by
 rw [List.map_cons,Lib.join_cons]
 unfold Lib.joinTail
 congr 1
 induction l with
 | nil => rfl
 | cons y l ih =>
   simp only [List.map_cons,List.flatten_cons,List.flatMap_cons,List.singleton_append] at ih ⊢
   rw [ih]
theorem braces_text (x:Lb) (l:List Lb):(123 :: (Lib.join ((x :: l).map pieceQ) [44] ++ [125]):B8) = u3e (x :: l):=by
 rw [join_pieces]
 rfl
end Go.Proofs.YtmcpeifhapekoaaGreatDoor.Tx
namespace Go.Proofs.YtmcpeifhapekoaaGreatDoor.Tx
open Go.RowKit Go.Proofs.YtmcpeifhapekoaaGreatDoor.PAll Go.Proofs.YtmcpeifhapekoaaGreatDoorW.PrintWords Go.Proofs.YtmcpeifhapekoaaGreatDoorW.PrintLast
open Go.Proofs.YtmcpeifhapekoaaGreatDoor.Laws (okFrom canB)
set_option linter.unusedVariables false
set_option linter.unusedSimpArgs false
theorem can_each {l:List Lb} (h:canB l = true):1 ≤ l.length ∧ l.length ≤ 8 ∧ ∀ x ∈ l,Base.nameB x.f0 = true ∧ Base.valueB x.f1 = true:=by
 unfold canB at h
 rw [Bool.and_eq_true,Bool.and_eq_true] at h
 refine ⟨of_decide_eq_true h.1.1,of_decide_eq_true h.1.2,?_⟩
 have:∀ (l:List Lb) (last:List UInt8),okFrom last l = true → ∀ x ∈ l,Base.nameB x.f0 = true ∧ Base.valueB x.f1 = true:=fun l => by
  induction l with
  | nil => exact fun _ _ x hx => by cases hx
  | cons y l ih =>
    intro last h x hx
    unfold okFrom at h
    rw [Bool.and_eq_true,Bool.and_eq_true,Bool.and_eq_true] at h
    rcases List.mem_cons.1 hx with rfl | hx
    · exact ⟨h.1.1.1,h.1.1.2⟩
    · exact ih _ h.2 x hx
 exact this _ _ h.2
theorem word_ge {c:UInt8} (h:wordC c = true):35 < c.toNat:=by
 rcases Nat.lt_or_ge 35 c.toNat with h9 | h9
 · exact h9
 · exfalso
   have:∀ n:Fin 36,wordC (UInt8.ofNat n.val) = false:=by decide
   have h8:=this ⟨c.toNat,by omega⟩
   rw [UInt8.ofNat_toNat,h] at h8
   cases h8
def fine (b:B8):Prop:=∀ c ∈ b,32 ≤ c.toNat
theorem fine_app {a b:B8} (ha:fine a) (hb:fine b):fine (a ++ b):=fun c hc => (List.mem_append.1 hc).elim (ha c) (hb c)
theorem fine_cons {c:UInt8} {b:B8} (hc:32 ≤ c.toNat) (hb:fine b):fine (c :: b):=fun x hx => (List.mem_cons.1 hx).elim (fun e => by rw [e];exact hc) (hb x)
theorem fine_nil:fine []:=fun c hc => by cases hc
theorem quote_fine (b:B8) (h:fine b):fine (Base.quoteL b):=by
 unfold Base.quoteL
 refine fine_cons (by decide) (fine_app (fun c hc => ?_) (fine_cons (by decide) fine_nil))
 obtain ⟨x,hx,hc⟩:=List.mem_flatMap.1 hc
 rw [show Base.quoteByte x = if x = 34 ∨ x = 92 then [92,x] else [x] from rfl] at hc
 have:=h x hx
 split at hc
 · simp at hc
   rcases hc with rfl | rfl
   · decide
   · exact this
 · simp at hc
   subst hc
   exact this
theorem quote_len (b:B8):(Base.quoteL b).length ≤ 2 * b.length + 2:=by
 unfold Base.quoteL
 have:(b.flatMap Base.quoteByte).length ≤ 2 * b.length:=by
  induction b with
  | nil => simp
  | cons x b ih =>
    rw [List.flatMap_cons,List.length_append,List.length_cons,show Base.quoteByte x = if x = 34 ∨ x = 92 then [92,x] else [x] from rfl]
    split
    · simp only [List.length_cons,List.length_nil]
      omega
    · simp only [List.length_cons,List.length_nil]
      omega
 simp only [List.length_cons,List.length_append,List.length_nil]
 omega
theorem name_len {s:ByteArray} (h:Base.nameB s = true):1 ≤ s.data.toList.length ∧ s.data.toList.length ≤ 24:=by
 unfold Base.nameB at h
 simp only [Bool.and_eq_true,decide_eq_true_eq] at h
 rw [u2f]
 exact ⟨h.1.1.1,h.1.1.2⟩
theorem value_len {s:ByteArray} (h:Base.valueB s = true):s.data.toList.length ≤ 40:=by
 unfold Base.valueB at h
 simp only [Bool.and_eq_true,decide_eq_true_eq] at h
 rw [u2f]
 exact h.2
theorem name_fine {s:ByteArray} (h:Base.nameB s = true):fine s.data.toList:=fun c hc => by
 have:=word_ge (all_word h c hc)
 omega
theorem piece_fine {x:Lb} (h0:Base.nameB x.f0 = true) (h1:Base.valueB x.f1 = true):fine (pieceQ x) :=
 fine_app (name_fine h0) (fine_cons (by decide) (quote_fine _ (value_bytes h1)))
theorem piece_len {x:Lb} (h0:Base.nameB x.f0 = true) (h1:Base.valueB x.f1 = true):(pieceQ x).length ≤ 107:=by
 have a:=(name_len h0).2
 have b:=value_len h1
 have c:=quote_len x.f1.data.toList
 unfold pieceQ
 rw [List.length_append,List.length_cons]
 omega
theorem braces_fine:∀ (l:List Lb),(∀ x ∈ l,Base.nameB x.f0 = true ∧ Base.valueB x.f1 = true) → fine (u3e l)
 | [],_ => fine_nil
 | x :: l,h => by
   have hx:=h x (List.mem_cons_self ..)
   refine fine_app (fine_cons (by decide) (fine_app (piece_fine hx.1 hx.2) fun c hc => ?_)) (fine_cons (by decide) fine_nil)
   obtain ⟨y,hy,hc⟩:=List.mem_flatMap.1 hc
   have:=h y (List.mem_cons_of_mem _ hy)
   exact fine_cons (by decide) (piece_fine this.1 this.2) c hc
theorem braces_len (l:List Lb) (h:∀ x ∈ l,Base.nameB x.f0 = true ∧ Base.valueB x.f1 = true):(u3e l).length ≤ 108 * l.length + 1:=by
 cases l with
 | nil => simp [u3e]
 | cons x l =>
   have hx:=h x (List.mem_cons_self ..)
   have h1:=piece_len hx.1 hx.2
   have h2:(l.flatMap fun x => 44 :: pieceQ x).length ≤ 108 * l.length:=by
    have hl:∀ y ∈ l,Base.nameB y.f0 = true ∧ Base.valueB y.f1 = true:=fun y hy => h y (List.mem_cons_of_mem _ hy)
    clear h hx h1
    induction l with
    | nil => simp
    | cons y l ih =>
      have hy:=hl y (List.mem_cons_self ..)
      have:=piece_len hy.1 hy.2
      have:=ih (fun z hz => hl z (List.mem_cons_of_mem _ hz))
      rw [List.flatMap_cons,List.length_append,List.length_cons,List.length_cons]
      omega
   simp only [u3e,List.length_append,List.length_cons,List.length_nil]
   omega
theorem dec_fine (n:Nat):fine (decN n):=fun c hc => by
 have:=decN_all n c hc
 unfold decC at this
 simp only [Bool.and_eq_true,decide_eq_true_eq] at this
 omega
theorem sign_fine (x:Int):fine (signL x):=by
 unfold signL
 split
 · exact fine_cons (by decide) (dec_fine _)
 · exact dec_fine _
theorem sign_len (x:Int) (h0 : -9223372036854775808 ≤ x) (h1:x < 9223372036854775808):(signL x).length ≤ 20:=by
 unfold signL
 split
 · have:=(decN_len 18 (-x).toNat (by have:(10:Nat) ^ (18 + 1) = 10000000000000000000:=rfl
                                     omega)).2
   rw [List.length_cons]
   omega
 · have:=(decN_len 18 x.toNat (by have:(10:Nat) ^ (18 + 1) = 10000000000000000000:=rfl
                                  omega)).2
   omega
theorem no_line {b:B8} (h:fine b):b.contains 10 = false:=by
 rw [List.contains_eq_mem,decide_eq_false]
 intro hm
 exact absurd (h 10 hm) (by decide)
theorem read_sample (can:List Lb → Bool) (b:B8) (now:Int) (r:Rw) (hl:b.length ≤ 1000) (hf:fine b) (c:UInt8) (t:B8) (hb:b = c :: t) (hc:35 < c.toNat) (hs:sampleP can b now = some r):readP can b now = (some r,me0,0):=by
 unfold readP
 rw [if_neg (by omega),no_line hf,if_neg (by decide)]
 have hbl:b.all blankC = false:=by
  rw [hb,List.all_cons]
  have:blankC c = false:=by
   unfold blankC
   rw [decide_eq_false,decide_eq_false]
   · rfl
   · rintro rfl
     exact absurd hc (by decide)
   · rintro rfl
     exact absurd hc (by decide)
  rw [this,Bool.false_and]
 split
 · injection hb with hb
   rw [← hb] at hc
   exact absurd hc (by decide)
 · rw [hbl,if_neg (by decide),hs]
def u3j (l:List Lb):ByteArray:=match l.find? (fun x => x.f0 = metric) with
 | none => Base.ofL []
 | some x => x.f1
def endL (r:Rw):B8:=32 :: (decN r.f2.toNat ++ 32 :: signL r.f1)
def rowL (r:Rw):B8:=if Base.nameB (u3j r.f0) = true then (u3j r.f0).data.toList ++ (u3e (r.f0.filter fun x => x.f0 ≠ metric) ++ endL r) else u3e r.f0 ++ endL r
theorem find_perm (l:List Lb) (hn:(l.map (·.f0)).Nodup) (h:Base.nameB (u3j l) = true):((⟨metric,u3j l⟩:Lb) :: l.filter fun x => x.f0 ≠ metric).Perm l:=by
 induction l with
 | nil =>
   exfalso
   have:u3j [] = Base.ofL []:=rfl
   rw [this] at h
   revert h
   decide
 | cons y l ih =>
   rw [List.map_cons,List.nodup_cons] at hn
   by_cases hy:y.f0 = metric
   · have e:u3j (y :: l) = y.f1:=by
      unfold u3j
      rw [List.find?_cons_of_pos (by simpa using hy)]
     have hf:(y :: l).filter (fun x => x.f0 ≠ metric) = l:=by
      rw [List.filter_cons_of_neg (by simpa using hy),List.filter_eq_self]
      intro x hx
      have:x.f0 ≠ metric:=fun e => hn.1 (List.mem_map.2 ⟨x,hx,by rw [e,hy]⟩)
      simpa using this
     rw [e,hf,← hy]
   · have e:u3j (y :: l) = u3j l:=by
      unfold u3j
      rw [List.find?_cons_of_neg (by simpa using hy)]
     rw [e] at h ⊢
     rw [List.filter_cons_of_pos (by simpa using hy)]
     exact (List.Perm.swap _ _ _).trans ((ih hn.2 h).cons y)
theorem row_back (r:Rw) (now:Int) (hc:canB r.f0 = true) (h0 : -9223372036854775808 ≤ r.f1) (h1:r.f1 < 9223372036854775808) (h2:0 ≤ r.f2) (h3:r.f2 ≤ 18446744073709551615):readP canB (rowL r) now = (some r,me0,0) ∧ fine (rowL r) ∧ (rowL r).length ≤ 1000:=by
 obtain ⟨g1,g2,g3⟩:=can_each hc
 have hnd:=(can_names hc).2.2
 have hef:fine (endL r):=fine_cons (by decide) (fine_app (dec_fine _) (fine_cons (by decide) (sign_fine _)))
 have hel:(endL r).length ≤ 42:=by
  have a:=(decN_len 19 r.f2.toNat (by omega)).2
  have b:=sign_len r.f1 h0 h1
  unfold endL
  simp only [List.length_append,List.length_cons]
  omega
 have hend:endP (endL r) now = some (r.f1,r.f2):=by
  have:=end_back r.f2.toNat r.f1 now (by omega) h0 h1
  rw [show ((r.f2.toNat:Nat):Int) = r.f2 by omega] at this
  exact this
 have hrow:(⟨r.f0,r.f1,r.f2⟩:Rw) = r:=rfl
 unfold rowL
 by_cases hn:Base.nameB (u3j r.f0) = true
 · rw [if_pos hn]
   have hp:=find_perm r.f0 hnd hn
   obtain ⟨o,ho⟩:∃ o,o = r.f0.filter fun x => x.f0 ≠ metric:=⟨_,rfl⟩
   rw [← ho] at hp ⊢
   have hof:∀ y ∈ o,Base.nameB y.f0 = true ∧ Base.valueB y.f1 = true:=fun y hy => g3 y (by rw [ho] at hy;exact (List.mem_filter.1 hy).1)
   have hol:o.length ≤ 7:=by
    have:=hp.length_eq
    rw [List.length_cons] at this
    omega
   have hbl:=braces_len o hof
   have hnl:=name_len hn
   have hfine:fine ((u3j r.f0).data.toList ++ (u3e o ++ endL r)):=fine_app (name_fine hn) (fine_app (braces_fine o hof) hef)
   have hlen:((u3j r.f0).data.toList ++ (u3e o ++ endL r)).length ≤ 1000:=by
    rw [List.length_append,List.length_append]
    omega
   obtain ⟨c,t,hct⟩:∃ c t,(u3j r.f0).data.toList = c :: t:=by
    cases h:(u3j r.f0).data.toList with
    | nil => rw [h] at hnl;simp at hnl
    | cons c t => exact ⟨c,t,rfl⟩
   refine ⟨read_sample _ _ _ _ hlen hfine c (t ++ (u3e o ++ endL r)) (by rw [hct];rfl) (word_ge (all_word hn c (by rw [hct];exact List.mem_cons_self ..))) ?_,hfine,hlen⟩
   unfold sampleP
   rw [labs_name (u3j r.f0) o (endL r) hn (fun y hy => (hof y hy).1) (by omega) (by unfold endL;simp only [List.head?_cons,Option.all_some];decide) (fun _ => by unfold endL;simp)]
   simp only [Option.bind_some]
   rw [sort_back r.f0 _ hc hp,if_pos hc,hend]
   rfl
 · rw [if_neg hn]
   cases hl:r.f0 with
   | nil => rw [hl] at g1;simp at g1
   | cons x m =>
     rw [hl] at hc g3 g2
     have hbl:=braces_len (x :: m) g3
     have hfine:fine (u3e (x :: m) ++ endL r):=fine_app (braces_fine _ g3) hef
     have hlen:(u3e (x :: m) ++ endL r).length ≤ 1000:=by
      rw [List.length_append]
      omega
     refine ⟨read_sample _ _ _ _ hlen hfine 123 (pieceQ x ++ m.flatMap (fun x => 44 :: pieceQ x) ++ [125] ++ endL r) (by simp [u3e]) (by decide) ?_,hfine,hlen⟩
     unfold sampleP
     rw [labs_braces x m _ (fun y hy => (g3 y hy).1) (by rw [List.length_cons] at g2;omega)]
     simp only [Option.bind_some]
     rw [sort_back (x :: m) _ hc (List.Perm.refl _),if_pos hc,hend]
     simp only [Option.map_some]
     rw [← hl]
def helpLine (m:Me):B8:=helpW ++ (m.1.data.toList ++ 32 :: m.2.2.data.toList)
def typeLine (m:Me):B8:=typeW ++ (m.1.data.toList ++ 32 :: m.2.1.data.toList)
def metaLines (m:Me):List B8:=(if m.2.2 ≠ Base.ofL [] then [helpLine m] else []) ++ (if m.2.1 ≠ Base.ofL [] then [typeLine m] else [])
theorem known_fine {b:B8} (h:knownL b = true):fine b ∧ b.length ≤ 9:=by
 unfold knownL kinds at h
 simp only [List.contains_eq_mem,List.mem_cons,List.not_mem_nil,or_false,decide_eq_true_eq] at h
 rcases h with rfl | rfl | rfl | rfl | rfl <;> exact ⟨by unfold fine;decide,by decide⟩
def printP (l:List Rw) (m:List Me):B8:=(m.flatMap metaLines ++ l.map rowL).flatMap fun s => s ++ [10]
end Go.Proofs.YtmcpeifhapekoaaGreatDoor.Tx
namespace Go.Proofs.YtmcpeifhapekoaaGreatDoor.PAll
open Go.RowKit Go.Proofs.YtmcpeifhapekoaaGreatDoorW.PrintWords Go.Proofs.YtmcpeifhapekoaaGreatDoorW.PrintLast Go.Proofs.YtmcpeifhapekoaaGreatDoorW.PrintMore
attribute [local go_sem] max2_int min2_int max_two min_two max_three min_three max_four min_four
set_option linter.unusedVariables false
set_option linter.unusedSimpArgs false
structure uc.Mid (w0 W wx:World) (g:Nat) (v:Value) (l:List Tx.Lb) (s:List UInt8):Prop where
 row:Kd.R k66 66 wx W.heap.size (fun k => k ≠ g ∧ k ≠ W.heap.size) v l
 st:ua.St w0 wx g s
 keep:u1q W wx g none
 res:wx.heap[W.heap.size]? = some (.cells #[.slice none 0 0,.int .i64 0,.int .u64 0] 53 (0,0))
 lt:g < W.heap.size
theorem uc.Mid.scan {w0 W wx w':World} {g:Nat} {v:Value} {l:List Tx.Lb} {s s':List UInt8} (h:uc.Mid w0 W wx g v l s) (hs:ua.St w0 w' g s') (hk:u1q wx w' g none):uc.Mid w0 W w' g v l s' :=
 ⟨Kd.R_keep h.row hk (fun _ hk => hk.1),hs,ua.keep_then h.keep hk,ua.kept_at hk (by have:=h.lt;omega) h.res,h.lt⟩
theorem uc.Mid.more {w0 W wx w':World} {g:Nat} {v:Value} {l:List Tx.Lb} {s:List UInt8} (h:uc.Mid w0 W wx g v l s) (hb:Below wx.heap.size wx w'):uc.Mid w0 W w' g v l s:=h.scan (h.st.more hb) (u1q.of_below hb g none)
theorem uc.Mid.drew {w0 W wx:World} {g:Nat} {v:Value} {l:List Tx.Lb} {s:List UInt8} (h:uc.Mid w0 W wx g v l s) (n:Nat):uc.Mid w0 W (wx.drewN n) g v l s:=h.more (ub (Below.refl _ _) n)
theorem uc.Mid.own {w0 W wx:World} {g:Nat} {v:Value} {l:List Tx.Lb} {s:List UInt8} (h:uc.Mid w0 W wx g v l s):∀ b,v.ownBlock = some b → b ≠ g ∧ b ≠ W.heap.size ∧ W.heap.size ≤ b ∧ w0.heap.size ≤ b:=fun b hb =>
 ⟨(h.row.1 b hb).1,(h.row.1 b hb).2,Kd.R_base h.row b hb,Nat.le_trans (Nat.le_trans h.st.base (Nat.le_of_lt h.lt)) (Kd.R_base h.row b hb)⟩
theorem uc.Mid.app {w0 W wx w1:World} {g:Nat} {v v1:Value} {l l1:List Tx.Lb} {s:List UInt8} (h:uc.Mid w0 W wx g v l s) (hg:wx.grownBy w1 v.ownBlock) (hr:Kd.R k66 66 w1 W.heap.size (fun k => k ≠ g ∧ k ≠ W.heap.size) v1 l1):uc.Mid w0 W w1 g v1 l1 s :=
 ⟨hr,ui.grown_st h.st (fun b hb => ⟨(h.own b hb).1,(h.own b hb).2.2.2⟩) hg,ui.grown_keep h.keep (fun b hb => (h.own b hb).2.2.1) hg,u3i h.res hg (fun e => (h.own _ e.symm).2.1 rfl),h.lt⟩
theorem uc.Mid.start {w0 W:World} {g:Nat} {s:List UInt8} (h:ua.St w0 W g s):uc.Mid w0 W (W.alloc (.cells #[.slice none 0 0,.int .i64 0,.int .u64 0] 53)) g (.slice none 0 0) [] s :=
 ⟨Kd.R_nil _ _ _ _ _,h.one_more _,keep_alloc (u1q.refl _ _ _) _,ua.new_at W _,h.lt⟩
def uc.hd (s:List UInt8):Bool:=match s with
 | [] => false
 | c :: _ => Tx.wordC c
theorem uc.named_at (s:List UInt8) (z:Int) (hz:ua.pk s = z) (W:World):Calls Tryz.prog 91 #[.int .u8 z] W fun e W' => e = .returned (.bool (uc.hd s)) ∧ uy W W':=by
 subst hz
 cases s with
 | nil => exact text_named.calls _ _ _ (by decide)
 | cons c r => exact u1d.test_named c _ rfl W
theorem uc.head_is (s:List UInt8):Tx.headP s = if uc.hd s = true then (Tx.nameP s).map fun p => ([⟨Tx.metric,p.1⟩],p.2) else some ([],s):=by
 cases s with
 | nil => rfl
 | cons c r => rfl
theorem uc.rest_is (l:List Tx.Lb) (s:List UInt8):((∃ u,s = 123 :: u) ∧ Tx.restP l s = (Tx.bracesP s).map fun q => (l ++ q.1,q.2)) ∨ ((∀ u,s ≠ 123 :: u) ∧ Tx.restP l s = some (l,s)):=by
 by_cases h:∃ u,s = 123 :: u
 · obtain ⟨u,rfl⟩:=h
   exact Or.inl ⟨⟨u,rfl⟩,rfl⟩
 · refine Or.inr ⟨fun u e => h ⟨u,e⟩,?_⟩
   unfold Tx.restP
   split
   · exact absurd ⟨_,rfl⟩ h
   · rfl
theorem uc.labels_len:∀ (n:Nat) (acc:List Tx.Lb) (s:List UInt8) (l:List Tx.Lb) (r:List UInt8),acc.length ≤ 9 → Tx.labelsP n acc s = some (l,r) → l.length ≤ 9 ∧ r.length ≤ s.length
 | 0,acc,s,l,r,_,h => by cases h
 | n + 1,acc,s,l,r,ha,h => by
   unfold Tx.labelsP at h
   split at h
   · split at h
     · rename_i h8
       obtain ⟨⟨x,t⟩,hx,h⟩:=Option.bind_eq_some_iff.1 h
       have h1:=ui.label_rest hx
       obtain ⟨h2,h3⟩:=uc.labels_len n _ t l r (by rw [List.length_append,List.length_singleton];omega) h
       exact ⟨h2,by rw [List.length_cons];omega⟩
     · cases h
   · obtain ⟨rfl,rfl⟩:=Prod.mk.inj (Option.some.inj h)
     exact ⟨ha,Nat.le_refl _⟩
theorem uc.braces_len {s r:List UInt8} {l:List Tx.Lb} (h:Tx.bracesP s = some (l,r)):l.length ≤ 9 ∧ r.length ≤ s.length:=by
 unfold Tx.bracesP at h
 obtain ⟨q,hq,h⟩:=Option.bind_eq_some_iff.1 h
 obtain ⟨⟨x,t⟩,hx,h⟩:=Option.bind_eq_some_iff.1 h
 obtain ⟨⟨l2,t2⟩,hl,h⟩:=Option.bind_eq_some_iff.1 h
 obtain ⟨t3,ht,h⟩:=Option.map_eq_some_iff.1 h
 obtain ⟨rfl,rfl⟩:=Prod.mk.inj h
 have h1:=(u1j.expect_is 123 s).1 q hq
 have h2:=(u1j.expect_is 125 t2).1 t3 ht
 have h3:=ui.label_rest hx
 obtain ⟨h4,h5⟩:=uc.labels_len _ _ t l2 t2 (by simp) hl
 refine ⟨h4,?_⟩
 rw [h1,List.length_cons]
 rw [h2,List.length_cons] at h5
 omega
theorem uc.br_no (w0 W:World) (g:Nat) (s:List UInt8) (hl:s.length ≤ 1000) (hq:Tx.bracesP s = none) (h:ua.St w0 W g s):Calls Tryz.prog 92 #[.pointer (some ⟨g,0,none⟩)] W fun e W' => e = .panicked (u2l.chain 280) ∧ Below w0.heap.size w0 W' :=
 (ui.calls w0 W g s hl h).mono fun e W' ho => by rw [hq] at ho;exact ho
theorem uc.br_ok (w0 W:World) (g:Nat) (s:List UInt8) (hl:s.length ≤ 1000) (l:List Tx.Lb) (r:List UInt8) (hq:Tx.bracesP s = some (l,r)) (h:ua.St w0 W g s):Calls Tryz.prog 92 #[.pointer (some ⟨g,0,none⟩)] W fun e W' => ∃ A c,e = .returned (.slice A l.length c) ∧ Kd.R k66 66 W' W.heap.size (fun k => k ≠ g) (.slice A l.length c) l ∧ ua.St w0 W' g r ∧ u1q W W' g none :=
 (ui.calls w0 W g s hl h).mono fun e W' ho => by
   rw [hq] at ho
   obtain ⟨v,rfl,h1,h2,h3⟩:=ho
   obtain ⟨A,c,rfl⟩:=Kd.R_slice h1
   exact ⟨A,c,rfl,h1,h2,h3⟩
theorem uc.Mid.new {w0 W wx:World} {g:Nat} {v:Value} {l:List Tx.Lb} {s:List UInt8} (h:uc.Mid w0 W wx g v l s) (o:Obj):uc.Mid w0 W (wx.alloc o) g v l s:=h.more (Below.alloc (Below.refl _ _) (Nat.le_refl _) o)
theorem uc.Mid.set {w0 W wx:World} {g:Nat} {v:Value} {l:List Tx.Lb} {s:List UInt8} (h:uc.Mid w0 W wx g v l s) (b i:Nat) (u:Value) (h1:b ≠ g) (h2:b ≠ W.heap.size) (h3:W.heap.size ≤ b) (hne:some b ≠ v.ownBlock):uc.Mid w0 W (wx.setCell ⟨b,i,none⟩ u) g v l s :=
 ⟨Kd.R_mono (Kd.R_far (p:=⟨b,i,none⟩) (Kd.R_far1 h.row rfl hne) (fun k hk => hk.2) u) (fun k hk => hk.1),h.st.far (p:=⟨b,i,none⟩) (Nat.le_trans (Nat.le_trans h.st.base (Nat.le_of_lt h.lt)) h3) (fun e => h1 e.symm) u,ua.keep_new h.keep (p:=⟨b,i,none⟩) h3 u,blk_far h.res (p:=⟨b,i,none⟩) (fun e => h2 e.symm) u,h.lt⟩
theorem uc.look3 {W:World} {b t:Nat} {u v x:Value} (h:W.heap[b]? = some (.cells #[u,v,x] t (0,0))):(W.cell? ⟨b,0,none⟩ = some u ∧ W.cell? ⟨b,1,none⟩ = some v ∧ W.cell? ⟨b,2,none⟩ = some x) ∧ (W.frozen? ⟨b,0,none⟩ = false ∧ W.frozen? ⟨b,1,none⟩ = false ∧ W.frozen? ⟨b,2,none⟩ = false):=by
 have h0:=um h 0
 have h1:=um h 1
 have h2:=um h 2
 simp only [List.size_toArray,List.length_cons,List.length_nil,List.getElem?_toArray,List.getElem?_cons_zero,List.getElem?_cons_succ] at h0 h1 h2
 exact ⟨⟨h0,h1,h2⟩,uk h 0,uk h 1,uk h 2⟩
theorem uc.can_at (k:Nat) (A:Option Addr) (c n base:Nat) (ok:Nat → Prop) (ls:List Tx.Lb) (b:Bool) (w:World) (hR:Kd.R k66 66 w base ok (.slice A n c) ls) (h:u1s.f k ls = some b):Calls Tryz.prog 33 #[.slice A n c] w fun e w' => e = .returned (.bool b) ∧ Below w.heap.size w w':=by
 obtain ⟨h1,h2,h3⟩:=Kd.R_reads' hR
 subst h1
 exact u1s.calls k A c ls b w h3 h2 h
theorem uc.drop_len (p:UInt8 → Bool) (s:List UInt8):(s.dropWhile p).length ≤ s.length:=by
 have h1:=congrArg List.length (List.takeWhile_append_dropWhile (p:=p) (l:=s))
 rw [List.length_append] at h1
 omega
theorem uc.valueD_rest {h:Bool} {most:Nat} {base n:Int} {s r:List UInt8} (hv:Tx.valueD h most base s = some (n,r)):r.length ≤ s.length:=by
 unfold Tx.valueD at hv
 obtain ⟨⟨d,r'⟩,hd,hv⟩:=Option.bind_eq_some_iff.1 hv
 obtain ⟨n',hn,hv⟩:=Option.map_eq_some_iff.1 hv
 obtain ⟨_,rfl⟩:=Prod.mk.inj hv
 exact (u1g.dig_is hd).2.2
theorem uc.value_rest {n:Int} {s r:List UInt8} (hv:Tx.valueP s = some (n,r)):r.length ≤ s.length:=by
 rcases u1g.value_is s with ⟨q,hq,e⟩ | ⟨hq,e⟩
 · rw [e] at hv
   have:=uc.valueD_rest hv
   rw [hq,List.length_cons,List.length_cons]
   omega
 · rw [e] at hv
   exact uc.valueD_rest hv
theorem uc.time_rest {n:Int} {s r:List UInt8} (hv:Tx.timeP s = some (n,r)):r.length ≤ s.length:=by
 rcases uv.time_is s with ⟨q,hq,e⟩ | ⟨hq,e⟩
 · rw [e] at hv
   obtain ⟨⟨n',r'⟩,hd,hv⟩:=Option.bind_eq_some_iff.1 hv
   simp only at hv
   split at hv
   · obtain ⟨_,rfl⟩:=Prod.mk.inj (Option.some.inj hv)
     have:=uc.valueD_rest hd
     rw [hq,List.length_cons]
     omega
   · cases hv
 · rw [e] at hv
   obtain ⟨⟨n',r'⟩,hd,hv⟩:=Option.bind_eq_some_iff.1 hv
   simp only at hv
   split at hv
   · obtain ⟨_,rfl⟩:=Prod.mk.inj (Option.some.inj hv)
     exact uc.valueD_rest hd
   · cases hv
def uc.Out (w0 W:World) (g:Nat) (o:Option Tx.Rw) (e:Ending) (W':World):Prop:=match o with
 | some r => ∃ v:Value,e = .returned (.agg #[v,.int .i64 r.f1,.int .u64 r.f2]) ∧ Kd.R k66 66 W' W.heap.size (fun k => k ≠ g) v r.f0 ∧ Below w0.heap.size w0 W' ∧ u1q W W' g none
 | none => e = .panicked (u2l.chain 280) ∧ Below w0.heap.size w0 W'
theorem uc.out_none {w0 W:World} {g:Nat} {o:Option Tx.Rw} (ho:o = none) {W':World} (h1:Below w0.heap.size w0 W'):uc.Out w0 W g o (.panicked (u2l.chain 280)) W':=by
 subst ho
 exact ⟨rfl,h1⟩
theorem uc.out_some {w0 W:World} {g:Nat} {o:Option Tx.Rw} {l:List Tx.Lb} {t n:Int} (ho:o = some ⟨l,t,n⟩) {v:Value} {W':World} (h1:Kd.R k66 66 W' W.heap.size (fun k => k ≠ g) v l) (h2:Below w0.heap.size w0 W') (h3:u1q W W' g none):uc.Out w0 W g o (.returned (.agg #[v,.int .i64 t,.int .u64 n])) W':=by
 subst ho
 exact ⟨v,rfl,h1,h2,h3⟩
set_option maxRecDepth 100000 in
set_option maxHeartbeats 4000000 in
theorem uc.calls (can:List Tx.Lb → Bool) (hcan:∀ l:List Tx.Lb,l.length ≤ 10 → ∃ k,u1s.f k l = some (can l)) (w0 W:World) (g:Nat) (s:List UInt8) (now:Int) (hl:s.length ≤ 1000) (h:ua.St w0 W g s) :
 Calls Tryz.prog 50 #[.pointer (some ⟨g,0,none⟩),.int .i64 now] W fun e W' => uc.Out w0 W g (Tx.sampleP can s now) e W':=by
 have HM:=Aside0.mk (uc.Mid.start h)
 have HCN:=Aside0.mk hcan
 generalize HZ:Tx.sampleP can s now = o
 have HO:=Aside0.mk HZ
 obtain ⟨z,hz⟩:∃ z,ua.pk s = z:=⟨_,rfl⟩
 have HP:=Aside0.mk hz
 have hh:=uc.head_is s
 clear h hcan HZ hz
 go_enter Tryz.func50,Tryz.ntmps50
 go_upto_if 10 with (first
  | (go_at_call 47;(with_reducible refine (uv.peek_at w0 _ g s z HP.out (by exact HM.out.st)).mono ?_);rintro e W1 ⟨rfl,⟨nd,rfl⟩⟩)
  | (go_at_call 91;(with_reducible refine (uc.named_at s z HP.out _).mono ?_);rintro e W2 ⟨rfl,⟨md,rfl⟩⟩))
 go_cut [5] (fun v5 wx => ∃ (l0:List Tx.Lb) (s1:List UInt8),Tx.headP s = some (l0,s1) ∧ l0.length ≤ 1 ∧ s1.length ≤ 1000 ∧ Aside0 (uc.Mid w0 W wx g v5 l0 s1))
 case first =>
  cases hhd:uc.hd s with
  | true =>
    rw [hhd,if_pos rfl] at hh
    cases hn:Tx.nameP s with
    | none =>
      have HN:=Aside0.mk hn
      have HE:Aside0 (o = none):=⟨by rw [← HO.out];unfold Tx.sampleP Tx.labsP;rw [hh,hn];rfl⟩
      clear hn hh
      go_wp2_with (go_at_call 81;(with_reducible refine (u2m.calls_no w0 _ g s (by omega) HN.out (by exact (HM.out.drew _).st)).mono ?_);rintro e W3 ⟨rfl,hb3⟩)
      exact ⟨rfl,uc.out_none HE.out hb3⟩
    | some p =>
      obtain ⟨n,r⟩:=p
      rw [hn] at hh
      have hr:=u1j.name_rest hn
      have HN:=Aside0.mk hn
      have HH:=Aside0.mk hh
      clear hn hh
      go_wp2_with (first
       | (go_at_call 81;(with_reducible refine (u2m.calls_ok w0 _ g s (by omega) n r HN.out (by exact (HM.out.drew _).st)).mono ?_);rintro e W3 ⟨rfl,hs3,hk3⟩;have HM3:=Aside0.mk ((HM.out.drew _).scan hs3 hk3);clear hs3 hk3)
       | ((with_reducible refine u3f (b:=.append) (xs:=#[.tmp 11,.tmp 15]) rfl ?_);at_builtin;refine Kd.R_append k66 (w0:=W3) (W:=W3) W.heap.size rfl (.tmp 11) (.tmp 15) 50 66 (.agg #[(.string ⟨#[]⟩),(.string ⟨#[]⟩)]) 32 rfl Tryz.underlying50 ui.infoL rfl (by decide) (by decide) _ [] (⟨Tx.metric,n⟩:Tx.Lb) [.string Tx.metric,.string n] (fun k => k ≠ g ∧ k ≠ W.heap.size) (fun _ => False) rfl rfl (k66_mkM _ _ _ _) (fun _ hk => hk.elim) ?hfr HM3.out.row (Below.refl _ _) HM3.out.keep.1 (by decide) ?_;(case hfr => have h1:=HM3.out.st.lt;have h2:=u2u HM3.out.res;intro k hk;omega);intro v8 w8 ho hb hg8 hat;have HM8:=Aside0.mk (HM3.out.app hg8 ho);clear ho hb hg8 hat))
      go_meet
      exact ⟨[⟨Tx.metric,n⟩],r,HH.out,Nat.le_refl _,by omega,HM8⟩
  | false =>
    rw [hhd,if_neg (by decide)] at hh
    have HH:=Aside0.mk hh
    clear hh
    go_wp2_with fail
    go_meet
    exact ⟨[],s,HH.out,by decide,hl,⟨HM.out.drew _⟩⟩
 case rest =>
  clear HM HP hh
  obtain ⟨l0,s1,hh,hl0,hs1,HM⟩:=hcut
  obtain ⟨A0,c0,e0⟩:=Kd.R_slice HM.out.row
  subst e0
  have HH:=Aside0.mk hh
  obtain ⟨y,hy⟩:∃ y,ua.pk s1 = y:=⟨_,rfl⟩
  have HP:=Aside0.mk hy
  clear hh hy
  go_upto_if 19 with (go_at_call 47;(with_reducible refine (uv.peek_at w0 _ g s1 y HP.out (by exact HM.out.st)).mono ?_);rintro e W1 ⟨rfl,⟨nd,rfl⟩⟩)
  go_cut [5] (fun v5 wx => ∃ (l:List Tx.Lb) (s2:List UInt8),Tx.labsP s = some (l,s2) ∧ l.length ≤ 10 ∧ s2.length ≤ 1000 ∧ Aside0 (uc.Mid w0 W wx g v5 l s2))
  case first =>
   rcases uc.rest_is l0 s1 with ⟨⟨u,hu⟩,hr⟩ | ⟨hu,hr⟩
   · have hb5:(y == 123) = true:=by
      have h1:=HP.out
      rw [hu] at h1
      rw [← h1]
      rfl
     cases hq:Tx.bracesP s1 with
     | none =>
       have HQ:=Aside0.mk hq
       have HE:Aside0 (o = none):=⟨by rw [← HO.out];unfold Tx.sampleP Tx.labsP;rw [HH.out];simp only [Option.bind_some];rw [hr,hq];rfl⟩
       clear hq hr hu
       go_wp2_with (go_at_call 92;(with_reducible refine (uc.br_no w0 _ g s1 (by omega) HQ.out (by exact (HM.out.drew _).st)).mono ?_);rintro e W3 ⟨rfl,hb3⟩)
       exact ⟨rfl,uc.out_none HE.out hb3⟩
     | some p =>
       obtain ⟨lb,r⟩:=p
       obtain ⟨hlb,hrl⟩:=uc.braces_len hq
       have HQ:=Aside0.mk hq
       have HL:Aside0 (Tx.labsP s = some (l0 ++ lb,r)):=⟨by unfold Tx.labsP;rw [HH.out];simp only [Option.bind_some];rw [hr,hq];rfl⟩
       clear hq hr hu
       go_wp2_with (first
        | (go_at_call 92;(with_reducible refine (uc.br_ok w0 _ g s1 (by omega) lb r HQ.out (by exact (HM.out.drew _).st)).mono ?_);rintro e W3 ⟨A,c,rfl,hr3,hs3,hk3⟩;have HM3:=Aside0.mk ((HM.out.drew _).scan hs3 hk3);have HR3:=Aside0.mk (Kd.R_reads' hr3).2.2;clear hr3 hs3 hk3)
        | ((with_reducible refine u3f (b:=.append) (xs:=#[.tmp 20,.tmp 22]) rfl ?_);at_builtin;refine Kd.R_append_rows k66 (w0:=W3) W.heap.size rfl (.tmp 20) (.tmp 22) 50 66 (.agg #[(.string ⟨#[]⟩),(.string ⟨#[]⟩)]) 32 rfl Tryz.underlying50 ui.infoL rfl (by decide) (by omega) _ l0 lb _ _ _ (fun k => k ≠ g ∧ k ≠ W.heap.size) (fun _ => False) rfl rfl HM3.out.row HR3.out (fun _ _ h => h) (fun _ h => h.elim) ?hfr (Below.refl _ _) HM3.out.keep.1 ?hbig ?_;(case hfr => have h1:=HM3.out.st.lt;have h2:=u2u HM3.out.res;intro k hk;omega);(case hbig => omega);intro v8 w8 ho hb hg8 hat;have HM8:=Aside0.mk (HM3.out.app hg8 ho);clear ho hb hg8 hat))
       go_meet
       exact ⟨l0 ++ lb,r,HL.out,by rw [List.length_append];omega,by omega,HM8⟩
   · have hb5:(y == 123) = false:=beq_eq_false_iff_ne.2 (by
      intro e
      exact ui.pk_ne s1 123 (by decide) hu (HP.out.trans e))
     have HL:Aside0 (Tx.labsP s = some (l0,s1)):=⟨by unfold Tx.labsP;rw [HH.out];simp only [Option.bind_some];exact hr⟩
     clear hr hu
     go_wp2_with fail
     go_meet
     exact ⟨l0,s1,HL.out,by omega,hs1,⟨HM.out.drew _⟩⟩
  case rest =>
   clear HM HP HH
   obtain ⟨l,s2,hh,hl2,hs2,HM⟩:=hcut
   obtain ⟨A,c,e0⟩:=Kd.R_slice HM.out.row
   subst e0
   have HH:=Aside0.mk hh
   have hsl:(Tx.sortP l).length = l.length:=by
    rw [← Tx.sortedTo_all,Tx.sortedTo_len l l.length (Nat.le_refl _)]
   obtain ⟨kc,hkc⟩:=HCN.out (Tx.sortP l) (by omega)
   have HSL:=Aside0.mk hsl
   have HKC:=Aside0.mk hkc
   have hsz:=u1l.txt (s2.takeWhile Tx.blankC)
   obtain ⟨_,tw2,tw2n⟩:=hsz
   clear hh hkc hsl HCN
   have HOV:Aside0 (o = if can (Tx.sortP l) = true then (Tx.endP s2 now).map fun q => ⟨Tx.sortP l,q.1,q.2⟩ else none):=⟨by rw [← HO.out];unfold Tx.sampleP;rw [HH.out];rfl⟩
   clear HO HH
   cases hc:can (Tx.sortP l) with
   | false =>
     rw [hc] at HKC HOV
     have HE:Aside0 (o = none):=⟨by rw [HOV.out];rfl⟩
     clear hc tw2 tw2n
     go_wp2_with (first
      | (go_at_call 93;(with_reducible refine (u1e.calls _ W.heap.size (fun k => k ≠ g ∧ k ≠ W.heap.size) A c l (by omega) HM.out.row).mono ?_);rintro e W3 ⟨rfl,hr3,hg3⟩;have HM3:=Aside0.mk (HM.out.app hg3 hr3);clear hr3 hg3)
      | (go_at_call 33;(with_reducible refine (uc.can_at kc A c l.length _ _ (Tx.sortP l) _ _ HM3.out.row HKC.out).mono ?_);rintro e W4 ⟨rfl,hb4⟩;have HM4:=Aside0.mk (HM3.out.more hb4);clear hb4)
      | (go_at_call 83;(with_reducible refine (u2e.calls_no _).mono ?_);rintro e W9 ⟨rfl,rfl⟩))
     exact ⟨rfl,uc.out_none HE.out HM4.out.st.below⟩
   | true =>
     rw [hc] at HKC HOV
     have HOW:Aside0 (o = (Tx.endP s2 now).map fun q => ⟨Tx.sortP l,q.1,q.2⟩):=⟨by rw [HOV.out,if_pos rfl]⟩
     clear hc HOV
     by_cases htw:s2.takeWhile Tx.blankC = []
     · obtain ⟨e1,e2⟩:=tw2n htw
       have HE:Aside0 (o = none):=⟨by rw [HOW.out];unfold Tx.endP;rw [if_pos htw];rfl⟩
       clear tw2 tw2n htw
       go_wp2_with (first
        | (go_at_call 93;(with_reducible refine (u1e.calls _ W.heap.size (fun k => k ≠ g ∧ k ≠ W.heap.size) A c l (by omega) HM.out.row).mono ?_);rintro e W3 ⟨rfl,hr3,hg3⟩;have HM3:=Aside0.mk (HM.out.app hg3 hr3);clear hr3 hg3)
        | (go_at_call 33;(with_reducible refine (uc.can_at kc A c l.length _ _ (Tx.sortP l) _ _ HM3.out.row HKC.out).mono ?_);rintro e W4 ⟨rfl,hb4⟩;have HM4:=Aside0.mk (HM3.out.more hb4);clear hb4)
        | (go_at_call 83;(with_reducible refine (u2e.calls_ok _).mono ?_);rintro e W9 ⟨rfl,rfl⟩)
        | (go_at_call 96;(with_reducible refine (u1d.calls_blank w0 _ g s2 (by omega) (by exact HM4.out.st)).mono ?_);rintro e W5 ⟨rfl,hs5,hk5⟩;have HM5:=Aside0.mk (HM4.out.scan hs5 hk5);clear hs5 hk5)
        | (go_at_call 83;(with_reducible refine (u2e.calls_no _).mono ?_);rintro e W9 ⟨rfl,rfl⟩))
       exact ⟨rfl,uc.out_none HE.out HM5.out.st.below⟩
     · obtain ⟨e1,e2⟩:=tw2 htw
       have hd2:=uc.drop_len Tx.blankC s2
       cases hv:Tx.valueP (s2.dropWhile Tx.blankC) with
       | none =>
         have HV:=Aside0.mk hv
         have HE:Aside0 (o = none):=⟨by rw [HOW.out];unfold Tx.endP;rw [if_neg htw,hv];rfl⟩
         clear tw2 tw2n htw hv
         go_wp2_with (first
          | (go_at_call 93;(with_reducible refine (u1e.calls _ W.heap.size (fun k => k ≠ g ∧ k ≠ W.heap.size) A c l (by omega) HM.out.row).mono ?_);rintro e W3 ⟨rfl,hr3,hg3⟩;have HM3:=Aside0.mk (HM.out.app hg3 hr3);clear hr3 hg3)
          | (go_at_call 33;(with_reducible refine (uc.can_at kc A c l.length _ _ (Tx.sortP l) _ _ HM3.out.row HKC.out).mono ?_);rintro e W4 ⟨rfl,hb4⟩;have HM4:=Aside0.mk (HM3.out.more hb4);clear hb4)
          | (go_at_call 83;(with_reducible refine (u2e.calls_ok _).mono ?_);rintro e W9 ⟨rfl,rfl⟩)
          | (go_at_call 96;(with_reducible refine (u1d.calls_blank w0 _ g s2 (by omega) (by exact HM4.out.st)).mono ?_);rintro e W5 ⟨rfl,hs5,hk5⟩;have HM5:=Aside0.mk (HM4.out.scan hs5 hk5);clear hs5 hk5)
          | (go_at_call 98;(with_reducible refine (u1g.calls_no w0 _ g _ (by omega) HV.out (by exact HM5.out.st)).mono ?_);rintro e W6 ⟨rfl,hb6⟩))
         exact ⟨rfl,uc.out_none HE.out hb6⟩
       | some p =>
         obtain ⟨n,s4⟩:=p
         have hs4:=uc.value_rest hv
         have HV:=Aside0.mk hv
         have HOX:Aside0 (o = (if s4.dropWhile Tx.blankC = [] then some (now,n) else if s4.takeWhile Tx.blankC = [] then none else (Tx.timeP (s4.dropWhile Tx.blankC)).bind fun q => if q.2.dropWhile Tx.blankC = [] then some (q.1,n) else none).map fun q => ⟨Tx.sortP l,q.1,q.2⟩):=⟨by rw [HOW.out];unfold Tx.endP;rw [if_neg htw,hv];rfl⟩
         clear tw2 tw2n htw hv HOW
         have hd4:=uc.drop_len Tx.blankC s4
         obtain ⟨_,dw,dwn⟩:=u1l.txt (s4.dropWhile Tx.blankC)
         obtain ⟨b44,hb44⟩:∃ b:Bool,(Base.ofL (s4.dropWhile Tx.blankC)).toList.isEmpty = !b:=⟨_,(Bool.not_not _).symm⟩
         have HB44:=Aside0.mk hb44
         go_upto_if 44 with (first
          | (go_at_call 93;(with_reducible refine (u1e.calls _ W.heap.size (fun k => k ≠ g ∧ k ≠ W.heap.size) A c l (by omega) HM.out.row).mono ?_);rintro e W3 ⟨rfl,hr3,hg3⟩;have HM3:=Aside0.mk (HM.out.app hg3 hr3);clear hr3 hg3)
          | (go_at_call 33;(with_reducible refine (uc.can_at kc A c l.length _ _ (Tx.sortP l) _ _ HM3.out.row HKC.out).mono ?_);rintro e W4 ⟨rfl,hb4⟩;have HM4:=Aside0.mk (HM3.out.more hb4);clear hb4)
          | (go_at_call 83;(with_reducible refine (u2e.calls_ok _).mono ?_);rintro e W9 ⟨rfl,rfl⟩)
          | (go_at_call 96;(with_reducible refine (u1d.calls_blank w0 _ g s2 (by omega) (by exact HM4.out.st)).mono ?_);rintro e W5 ⟨rfl,hs5,hk5⟩;have HM5:=Aside0.mk (HM4.out.scan hs5 hk5);clear hs5 hk5)
          | (go_at_call 98;(with_reducible refine (u1g.calls_ok w0 _ g _ (by omega) n s4 HV.out (by exact HM5.out.st)).mono ?_);rintro e W6 ⟨rfl,hs6,hk6⟩;have HM6:=Aside0.mk (HM5.out.scan hs6 hk6);clear hs6 hk6)
          | (go_at_call 96;(with_reducible refine (u1d.calls_blank w0 _ g s4 (by omega) (by exact (HM6.out.new _).st)).mono ?_);rintro e W7 ⟨rfl,hs7,hk7⟩;have HM7:=Aside0.mk ((HM6.out.new _).scan hs7 hk7);have HB7:=Aside0.mk (ua.kept_at hk7 (by have:=HM6.out.st.lt;omega) (ua.new_at W6 _));obtain ⟨h0,f0⟩:=hs7.look;clear hs7 hk7))
         go_cut [7] (fun v7 wx => ∃ (t:Int) (s6:List UInt8),s6.length ≤ 1000 ∧ Aside0 (o = if s6 = [] then some ⟨Tx.sortP l,t,n⟩ else none) ∧ Aside0 (uc.Mid w0 W wx g (.slice A l.length c) (Tx.sortP l) s6) ∧ Aside0 (wx.heap[W6.heap.size]? = some (.cells #[.slice A l.length c,.int .i64 t,.int .u64 n] 53 (0,0))))
         case first =>
          clear hb44
          obtain ⟨_,gw,gwn⟩:=u1l.txt (s4.takeWhile Tx.blankC)
          by_cases he5:s4.dropWhile Tx.blankC = []
          · obtain ⟨e3,e4⟩:=dwn he5
            obtain rfl:b44 = false:=by have h1:=HB44.out;rw [e3] at h1;revert h1;cases b44 <;> decide
            have HF:Aside0 (o = if s4.dropWhile Tx.blankC = [] then some ⟨Tx.sortP l,now,n⟩ else none):=⟨by rw [HOX.out,if_pos he5,if_pos he5];rfl⟩
            clear he5 dw dwn gw gwn HOX
            go_wp2_with fail
            go_meet
            exact ⟨now,s4.dropWhile Tx.blankC,by omega,HF,HM7,HB7⟩
          · obtain ⟨e3,e4⟩:=dw he5
            obtain rfl:b44 = true:=by have h1:=HB44.out;rw [e3] at h1;revert h1;cases b44 <;> decide
            by_cases hg4:s4.takeWhile Tx.blankC = []
            · obtain ⟨e5,e6⟩:=gwn hg4
              have HE:Aside0 (o = none):=⟨by rw [HOX.out,if_neg he5,if_pos hg4];rfl⟩
              clear he5 dw dwn gw gwn HOX hg4
              go_wp2_with (go_at_call 83;(with_reducible refine (u2e.calls_no _).mono ?_);rintro e W9 ⟨rfl,rfl⟩)
              exact ⟨rfl,uc.out_none HE.out HM7.out.st.below⟩
            · obtain ⟨e5,e6⟩:=gw hg4
              cases ht:Tx.timeP (s4.dropWhile Tx.blankC) with
              | none =>
                have HT:=Aside0.mk ht
                have HE:Aside0 (o = none):=⟨by rw [HOX.out,if_neg he5,if_neg hg4,ht];rfl⟩
                clear he5 dw dwn gw gwn HOX hg4 ht
                go_wp2_with (first
                 | (go_at_call 83;(with_reducible refine (u2e.calls_ok _).mono ?_);rintro e W9 ⟨rfl,rfl⟩)
                 | (go_at_call 99;(with_reducible refine (uv.calls_no w0 _ g _ (by omega) HT.out (by exact HM7.out.st)).mono ?_);rintro e W8 ⟨rfl,hb8⟩))
                exact ⟨rfl,uc.out_none HE.out hb8⟩
              | some p =>
                obtain ⟨t,s7⟩:=p
                have hs7:=uc.time_rest ht
                have hd7:=uc.drop_len Tx.blankC s7
                have HT:=Aside0.mk ht
                have HF:Aside0 (o = if s7.dropWhile Tx.blankC = [] then some ⟨Tx.sortP l,t,n⟩ else none):=⟨by
                 rw [HOX.out,if_neg he5,if_neg hg4,ht]
                 simp only [Option.bind_some]
                 split <;> rfl⟩
                have N1:Aside0 (W6.heap.size ≠ g):=⟨by have:=HM6.out.st.lt;omega⟩
                have N2:Aside0 (W6.heap.size ≠ W.heap.size ∧ W.heap.size ≤ W6.heap.size):=⟨by have:=u2u HM6.out.res;omega⟩
                have N3:Aside0 (some W6.heap.size ≠ (Value.slice A l.length c).ownBlock):=⟨fun e => by have:=Kd.R_lt HM6.out.row W6.heap.size e.symm;omega⟩
                have n1:¬ g = W6.heap.size:=fun e => N1.out e.symm
                clear he5 dw dwn gw gwn HOX hg4 ht h0 f0
                go_wp2_with (first
                 | (go_at_call 83;(with_reducible refine (u2e.calls_ok _).mono ?_);rintro e W9 ⟨rfl,rfl⟩)
                 | (go_at_call 99;(with_reducible refine (uv.calls_ok w0 _ g _ (by omega) t s7 HT.out (by exact HM7.out.st)).mono ?_);rintro e W8 ⟨rfl,hs8,hk8⟩;have HM8:=Aside0.mk (HM7.out.scan hs8 hk8);have HB8:=Aside0.mk (ua.kept_at hk8 N1.out HB7.out);obtain ⟨⟨a0,a1,a2⟩,b0,b1,b2⟩:=uc.look3 HB8.out;clear hs8 hk8)
                 | (go_at_call 96;(with_reducible refine (u1d.calls_blank w0 _ g s7 (by omega) (by exact (HM8.out.set W6.heap.size 1 _ N1.out N2.out.1 N2.out.2 N3.out).st)).mono ?_);rintro e W9 ⟨rfl,hs9,hk9⟩;have HM9:=Aside0.mk ((HM8.out.set W6.heap.size 1 _ N1.out N2.out.1 N2.out.2 N3.out).scan hs9 hk9);have HB9:=Aside0.mk (ua.kept_at hk9 N1.out (blk_set HB8.out 1 (.int .i64 t)));clear hs9 hk9))
                go_meet
                exact ⟨t,s7.dropWhile Tx.blankC,by omega,HF,HM9,HB9⟩
         case rest =>
          have N1:Aside0 (W6.heap.size ≠ g):=⟨by have:=HM6.out.st.lt;omega⟩
          have N2:Aside0 (W6.heap.size ≠ W.heap.size ∧ W.heap.size ≤ W6.heap.size):=⟨by have:=u2u HM6.out.res;omega⟩
          clear HM HM3 HM4 HM5 HM6 HM7 HB7 h0 f0 HOX hb44 HB44 dw dwn
          obtain ⟨t,s6,hs6,HF,HM,HB⟩:=hcut
          obtain ⟨h0,f0⟩:=HM.out.st.look
          obtain ⟨⟨a0,a1,a2⟩,b0,b1,b2⟩:=uc.look3 HB.out
          obtain ⟨⟨c0,c1,c2⟩,d0,d1,d2⟩:=uc.look3 HM.out.res
          obtain ⟨_,dw,dwn⟩:=u1l.txt s6
          have n1:¬ W6.heap.size = W.heap.size:=N2.out.1
          have n2:¬ W.heap.size = W6.heap.size:=fun e => N2.out.1 e.symm
          by_cases he:s6 = []
          · obtain ⟨e3,e4⟩:=dwn he
            have HE:Aside0 (o = some ⟨Tx.sortP l,t,n⟩):=⟨by rw [HF.out,if_pos he]⟩
            clear dw dwn he HF
            go_wp2_with (go_at_call 83;(with_reducible refine (u2e.calls_ok _).mono ?_);rintro e W9 ⟨rfl,rfl⟩)
            refine bodyPost_ret (v:=.agg #[.slice A l.length c,.int .i64 t,.int .u64 n]) (by simp [results,Tryz.results50,go_sem,c0,c1,c2]) rfl (uc.out_some HE.out ?_ ?_ ?_)
            · exact Kd.R_mono (Kd.R_far (p:=⟨W.heap.size,2,none⟩) (Kd.R_far (p:=⟨W.heap.size,1,none⟩) (Kd.R_far (p:=⟨W.heap.size,0,none⟩) HM.out.row (fun k hk => hk.2) _) (fun k hk => hk.2) _) (fun k hk => hk.2) _) (fun k hk => hk.1)
            · have hw:w0.heap.size ≤ W.heap.size:=Nat.le_trans HM.out.st.base (Nat.le_of_lt HM.out.lt)
              exact ((HM.out.st.below.setCell (p:=⟨W.heap.size,0,none⟩) hw _).setCell (p:=⟨W.heap.size,1,none⟩) hw _).setCell (p:=⟨W.heap.size,2,none⟩) hw _
            · exact ua.keep_new (p:=⟨W.heap.size,2,none⟩) (ua.keep_new (p:=⟨W.heap.size,1,none⟩) (ua.keep_new (p:=⟨W.heap.size,0,none⟩) HM.out.keep (Nat.le_refl _) _) (Nat.le_refl _) _) (Nat.le_refl _) _
          · obtain ⟨e3,e4⟩:=dw he
            have HE:Aside0 (o = none):=⟨by rw [HF.out,if_neg he]⟩
            clear dw dwn he HF
            go_wp2_with (go_at_call 83;(with_reducible refine (u2e.calls_no _).mono ?_);rintro e W9 ⟨rfl,rfl⟩)
            exact ⟨rfl,uc.out_none HE.out HM.out.st.below⟩
def u1t.metaB (a b c:ByteArray):List Int:=(if c = Base.ofL [] then [] else ug.parts [⟨#[35,32,72,69,76,80,32]⟩,a,⟨#[32]⟩,c] ++ [10]) ++ (if b = Base.ofL [] then [] else ug.parts [⟨#[35,32,84,89,80,69,32]⟩,a,⟨#[32]⟩,b] ++ [10])
theorem u1t.emp {a:ByteArray} (h:a = Base.ofL []):a.toList.isEmpty = true:=by rw [h,ByteArray.toList_eq,Base.ofL_data];rfl
theorem u1t.nonemp {a:ByteArray} (h:¬ a = Base.ofL []):a.toList.isEmpty = false:=by
 cases e:a.toList with
 | nil => exact absurd (Base.ext_data (by rw [Base.ofL_data,← ByteArray.toList_eq];exact e)) h
 | cons _ _ => rfl
set_option maxRecDepth 100000 in
set_option maxHeartbeats 4000000 in
theorem u1t.calls (w0 W:World) (g:Nat) (bs:List Int) (a b c:ByteArray) (h:ug.Pr w0 W g bs) (hB:Below w0.heap.size w0 W) (hl:bs.length + (u1t.metaB a b c).length ≤ 100000000) :
 Calls Tryz.prog 35 #[.pointer (some ⟨g,0,none⟩),.agg #[.string a,.string b,.string c]] W fun e W' => e = .returned (.tuple #[]) ∧ ug.Pr w0 W' g (bs ++ u1t.metaB a b c) ∧ Below w0.heap.size w0 W' ∧ ug.Stay W W' ∧ W.heap.size ≤ W'.heap.size:=by
 have hb1:=ud (Below.refl W.heap.size W) (.cells #[.string a,.string b,.string c] 34)
 have HP1:=Aside0.mk (h.more hb1)
 have HB1:=Aside0.mk (uo hB hB.size hb1)
 have HS1:=Aside0.mk (ug.Stay.below hb1)
 have HZ1:=Aside0.mk hb1.size
 have HN1:=Aside0.mk (ua.new_at W (.cells #[.string a,.string b,.string c] 34))
 clear hb1 h hB
 unfold u1t.metaB at hl ⊢
 by_cases hc:c = Base.ofL []
 · have hc1:=u1t.emp hc
   rw [if_pos hc,List.nil_append] at hl ⊢
   clear hc
   by_cases hbb:b = Base.ofL []
   · have hb1:=u1t.emp hbb
     rw [if_pos hbb] at hl ⊢
     clear hbb
     have HL:=Aside0.mk hl
     clear hl
     go_enter Tryz.func35,Tryz.ntmps35
     go_wp2
     go_end0
     exact ⟨rfl,by rw [List.append_nil];exact HP1.out,HB1.out,HS1.out,HZ1.out⟩
   · have hb1:=u1t.nonemp hbb
     rw [if_neg hbb] at hl ⊢
     clear hbb
     have HL:=Aside0.mk hl
     clear hl
     go_enter Tryz.func35,Tryz.ntmps35
     go_wp2_with (first
      | (go_at_call 62;((with_reducible refine (ug.four w0 _ g _ (bs) ⟨#[35,32,84,89,80,69,32]⟩ a ⟨#[32]⟩ b (by first | rfl | (rw [World.size_alloc])) HP1.out HB1.out (by have:=HL.out;simp only [List.length_append] at this ⊢;omega)).mono ?_);rintro e W2 ⟨rfl,hp2,hb2,hs2,hz2⟩;have HP2:=Aside0.mk hp2;have HB2:=Aside0.mk hb2;have HS2:=Aside0.mk (HS1.out.trans hs2);have HZ2:=Aside0.mk (Nat.le_trans HZ1.out hz2);have hn2:=(hs2 W.heap.size 34 _ HN1.out (by decide) (by decide)).trans HN1.out;have HN2:=Aside0.mk hn2;obtain ⟨⟨q0,q1,q2⟩,fq⟩:=uc.look3 hn2;clear hp2 hb2 hs2 hz2 hn2)))
     go_end0
     exact ⟨rfl,by rw [← List.append_assoc];exact HP2.out,HB2.out,HS2.out,HZ2.out⟩
 · have hc1:=u1t.nonemp hc
   rw [if_neg hc] at hl ⊢
   clear hc
   by_cases hbb:b = Base.ofL []
   · have hb1:=u1t.emp hbb
     rw [if_pos hbb,List.append_nil] at hl ⊢
     clear hbb
     have HL:=Aside0.mk hl
     clear hl
     go_enter Tryz.func35,Tryz.ntmps35
     go_wp2_with (first
      | (go_at_call 62;((with_reducible refine (ug.four w0 _ g _ (bs) ⟨#[35,32,72,69,76,80,32]⟩ a ⟨#[32]⟩ c (by first | rfl | (rw [World.size_alloc])) HP1.out HB1.out (by have:=HL.out;simp only [List.length_append] at this ⊢;omega)).mono ?_);rintro e W2 ⟨rfl,hp2,hb2,hs2,hz2⟩;have HP2:=Aside0.mk hp2;have HB2:=Aside0.mk hb2;have HS2:=Aside0.mk (HS1.out.trans hs2);have HZ2:=Aside0.mk (Nat.le_trans HZ1.out hz2);have hn2:=(hs2 W.heap.size 34 _ HN1.out (by decide) (by decide)).trans HN1.out;have HN2:=Aside0.mk hn2;obtain ⟨⟨q0,q1,q2⟩,fq⟩:=uc.look3 hn2;clear hp2 hb2 hs2 hz2 hn2)))
     go_end0
     exact ⟨rfl,by rw [← List.append_assoc];exact HP2.out,HB2.out,HS2.out,HZ2.out⟩
   · have hb1:=u1t.nonemp hbb
     rw [if_neg hbb] at hl ⊢
     clear hbb
     have HL:=Aside0.mk hl
     clear hl
     go_enter Tryz.func35,Tryz.ntmps35
     go_wp2_with (first
      | (go_at_call 62;((with_reducible refine (ug.four w0 _ g _ (bs) ⟨#[35,32,72,69,76,80,32]⟩ a ⟨#[32]⟩ c (by first | rfl | (rw [World.size_alloc])) HP1.out HB1.out (by have:=HL.out;simp only [List.length_append] at this ⊢;omega)).mono ?_);rintro e W2 ⟨rfl,hp2,hb2,hs2,hz2⟩;have HP2:=Aside0.mk hp2;have HB2:=Aside0.mk hb2;have HS2:=Aside0.mk (HS1.out.trans hs2);have HZ2:=Aside0.mk (Nat.le_trans HZ1.out hz2);have hn2:=(hs2 W.heap.size 34 _ HN1.out (by decide) (by decide)).trans HN1.out;have HN2:=Aside0.mk hn2;obtain ⟨⟨q0,q1,q2⟩,fq⟩:=uc.look3 hn2;clear hp2 hb2 hs2 hz2 hn2))
      | (go_at_call 62;((with_reducible refine (ug.four w0 W2 g _ (bs ++ ug.parts [⟨#[35,32,72,69,76,80,32]⟩,a,⟨#[32]⟩,c] ++ [10]) ⟨#[35,32,84,89,80,69,32]⟩ a ⟨#[32]⟩ b (by first | rfl | (rw [World.size_alloc])) HP2.out HB2.out (by have:=HL.out;simp only [List.length_append] at this ⊢;omega)).mono ?_);rintro e W3 ⟨rfl,hp3,hb3,hs3,hz3⟩;have HP3:=Aside0.mk hp3;have HB3:=Aside0.mk hb3;have HS3:=Aside0.mk (HS2.out.trans hs3);have HZ3:=Aside0.mk (Nat.le_trans HZ2.out hz3);have hn3:=(hs3 W.heap.size 34 _ HN2.out (by decide) (by decide)).trans HN2.out;have HN3:=Aside0.mk hn3;clear q0 q1 q2 fq;obtain ⟨⟨q0,q1,q2⟩,fq⟩:=uc.look3 hn3;clear hp3 hb3 hs3 hz3 hn3)))
     go_end0
     exact ⟨rfl,by rw [← List.append_assoc,← List.append_assoc,← List.append_assoc];exact HP3.out,HB3.out,HS3.out,HZ3.out⟩
end Go.Proofs.YtmcpeifhapekoaaGreatDoor.PAll
