/- Texts of this seat, joined in the order in which they build. -/
import Derived.Test.YtmcpeifhapekoaaGreatDoorBw5
import Derived.Test.YtmcpeifhapekoaaGreatDoorBw4
import Derived.Test.YtmcpeifhapekoaaGreatDoorGx91Bw
import Derived.Test.YtmcpeifhapekoaaGreatDoorBw1
import Derived.Test.YtmcpeifhapekoaaGreatDoorBw2
namespace Go.Proofs.YtmcpeifhapekoaaGreatDoor.Tx
open Go.RowKit Go.Proofs.YtmcpeifhapekoaaGreatDoor.PAll Go.Proofs.YtmcpeifhapekoaaGreatDoorW.PrintWords Go.Proofs.YtmcpeifhapekoaaGreatDoorW.PrintLast
open Go.Proofs.YtmcpeifhapekoaaGreatDoor.Laws (okFrom canB wrap_up at_byte no_byte rd_drop textL)
set_option linter.unusedVariables false
set_option linter.unusedSimpArgs false
abbrev bi9:=ue.bi
theorem bi_app (a b:B8):bi9 (a ++ b) = bi9 a ++ bi9 b:=List.map_append
theorem bi_of9 (s:ByteArray):bytesOf s = bi9 s.data.toList:=rfl
theorem meta_is (x:S34):ur.metB x = bi9 (metaS (ue.me x)):=by
 unfold ur.metB u1t.metaB
 rw [metaS_is]
 by_cases h1:x.f2 = Base.ofL [] <;> by_cases h2:x.f1 = Base.ofL [] <;>
  simp [h1,h2,ue.me,ug.parts,bytesOf,ue.bi,helpW,typeW]
theorem dec_is (n:Nat):Lib.decDigits n = decN n:=by
 induction n using Nat.strongRecOn with
 | ind n ih =>
   unfold Lib.decDigits decN
   by_cases h:n < 10
   · rw [dif_pos h,if_pos h]
   · rw [dif_neg h,if_neg h,ih (n / 10) (by omega)]
theorem sign_is (x:Int):Lib.itoa x = signL x:=by
 unfold Lib.itoa signL
 rw [dec_is,dec_is]
 by_cases h:x < 0
 · rw [if_pos h,if_pos h,show x.natAbs = (-x).toNat by omega]
 · rw [if_neg h,if_neg h]
theorem get_is (l:List Lb):u2h.get ⟨#[95,95,110,97,109,101,95,95]⟩ l = u3j l:=by
 induction l with
 | nil => rfl
 | cons x l ih =>
   unfold u2h.get
   rw [met_lit] at *
   by_cases h:x.f0 = metric
   · rw [if_pos (text_is.2 h)]
     unfold u3j
     rw [List.find?_cons_of_pos (by simpa using h)]
   · rw [if_neg (fun e => h (text_is.1 e)),ih]
     unfold u3j
     rw [List.find?_cons_of_neg (by simpa using h)]
theorem own_is (l:List Lb):(u1b.own l).data.toList = ownL l:=by
 unfold u1b.own ownL
 rw [get_is]
 split <;> rfl
theorem oth_is (l:List Lb):u1b.oth l = othL l:=by
 unfold u1b.oth othL
 rw [get_is]
 split
 · refine List.filter_congr (fun x _ => ?_)
   unfold u1b.met
   rw [← met_list]
   by_cases h:x.f0 = metric
   · simp [h]
   · have:¬ x.f0.toList = metric.toList:=fun e => h (text_is.1 e)
     simp [h,this]
 · rfl
theorem br_is (l:List Lb) (h:canB l = true):(ur.brOf l).data.toList = u3e (othL l):=by
 unfold ur.brOf
 rw [oth_is]
 by_cases hn:othL l = []
 · rw [if_pos hn,hn]
   rfl
 · rw [if_neg hn,if_pos (can_oth h hn),Base.ofL_data,text_braces _ hn]
theorem rowB_is (r:Rw) (h:canB r.f0 = true):ur.rowB r = bi9 (rowL r ++ [10]):=by
 have h1:=own_is r.f0
 have h2:=br_is r.f0 h
 unfold ur.rowB u1b.lineB
 rw [row_is,dec_is,sign_is]
 simp only [ug.parts,List.flatMap_cons,List.flatMap_nil,bi_of9,h1,h2]
 simp [ue.bi,endL]
theorem wrong_is:ur.wrongB = ue.wrongB:=rfl
theorem flat_congr {α:Type} (f:α → List Int) (g:α → B8):∀ (l:List α),(∀ x ∈ l,f x = bi9 (g x)) → l.flatMap f = bi9 (l.flatMap g)
 | [],_ => rfl
 | x :: l,h => by
   rw [List.flatMap_cons,List.flatMap_cons,bi_app,h x (by simp),flat_congr f g l (fun y hy => h y (by simp [hy]))]
theorem print_is (l:List Rw) (m:List S34) (hf:ue.fits l m) (hl:l.length ≤ 40) (hm:m.length ≤ 20):ur.f l m = some (ue.outB l m):=by
 unfold ur.f
 rw [if_pos ⟨fun x hx => (hf.1 x hx).2,fun r hr => by have:=(hf.2.1 r hr).1;omega,hf.2.2.1,hf.2.2.2⟩,wrong_is]
 unfold ue.outB
 by_cases hb:m.any ue.wrongB = true ∨ l.any (fun r => !canB r.f0) = true
 · rw [if_pos hb,if_pos hb]
 · rw [if_neg hb,if_neg hb]
   have hok1:∀ x ∈ m,ue.wrongB x = false:=fun x hx => by
    cases h:ue.wrongB x with
    | false => rfl
    | true => exact absurd (Or.inl (List.any_eq_true.2 ⟨x,hx,h⟩)) hb
   have hok2:∀ r ∈ l,canB r.f0 = true:=fun r hr => by
    cases h:canB r.f0 with
    | true => rfl
    | false => exact absurd (Or.inr (List.any_eq_true.2 ⟨r,hr,by rw [h];rfl⟩)) hb
   have e:ur.bytesB l m = bi9 (printP l (m.map ue.me)):=by
    rw [printP_is,bi_app,List.flatMap_map]
    unfold ur.bytesB
    rw [flat_congr ur.metB (fun x => metaS (ue.me x)) m (fun x _ => meta_is x),flat_congr ur.rowB (fun r => rowL r ++ [10]) l (fun r hr => rowB_is r (hok2 r hr))]
   have hlen:(bi9 (printP l (m.map ue.me))).length ≤ 100000000:=by
    have h1:=flat_len (fun x => metaS (ue.me x)) 2000 m (fun x hx => ue.me_len x (hok1 x hx))
    have h2:=flat_len (fun r:Rw => rowL r ++ [10]) 1001 l (fun r hr => ue.row_len r (hok2 r hr) (hf.2.1 r hr).1)
    unfold bi9 ue.bi
    rw [List.length_map,printP_is,List.length_append,List.flatMap_map]
    have h3:=Nat.add_le_add h1 h2
    exact Nat.le_trans h3 (by omega)
   rw [e,if_pos hlen]
end Go.Proofs.YtmcpeifhapekoaaGreatDoor.Tx
namespace Go.Proofs.YtmcpeifhapekoaaGreatDoor.PAll
open Go.RowKit Go.Proofs.YtmcpeifhapekoaaGreatDoorW.PrintWords Go.Proofs.YtmcpeifhapekoaaGreatDoorW.PrintLast Go.Proofs.YtmcpeifhapekoaaGreatDoorW.PrintMore
attribute [local go_sem] max2_int min2_int max_two min_two max_three min_three max_four min_four
set_option linter.unusedVariables false
set_option linter.unusedSimpArgs false
theorem dryrotlaw27_TextWrites.take_C {α:Type} {k:Kd α} {w:World} {A:Option Addr} {xs:List α} (h:k.C w A xs.length xs) (m:Nat):k.C w A (xs.take m).length (xs.take m):=by
 by_cases hm:m ≤ xs.length
 · exact Kd.C_take h hm
 · rw [List.take_of_length_le (by omega)]
   exact h
set_option maxRecDepth 100000 in
set_option maxHeartbeats 4000000 in
theorem dryrotlaw27_TextWrites.walk (A0:Option Addr) (c0:Nat) (l0:List S53) (A1:Option Addr) (c1:Nat) (l1:List S34) (w:World) (hr0:Kd.C k53 w A0 l0.length l0) (hc0:l0.length ≤ c0) (hr1:Kd.C k34 w A1 l1.length l1) (hc1:l1.length ≤ c1) (hG:u1i.Gd w)
 (k:Nat) (r1:List Int) (r2:Int) (hp:ur.f (l0.take 40) (l1.take 20) = some (r1,r2)) (hf:ue.fits (l0.take 40) (l1.take 20)) (hout:ue.outB (l0.take 40) (l1.take 20) = (r1,r2)) (heq:u1u.f k r1 r1 = some true) (haw:u2z.f = some true) :
 Calls Tryz.prog 4 #[.slice A0 l0.length c0,.slice A1 l1.length c1] w fun e w' => e = .returned (.bool true) ∧ Below w.heap.size w w':=by
 have HAW:=Aside0.mk haw
 have ht0:=dryrotlaw27_TextWrites.take_C hr0 40
 have ht1:=dryrotlaw27_TextWrites.take_C hr1 20
 have g0:(l0.take 40).length ≤ c0:=by rw [List.length_take];omega
 have g1:(l1.take 20).length ≤ c1:=by rw [List.length_take];omega
 have HPR:Aside0 (∀ W,Below w.heap.size w W → Calls Tryz.prog 13 #[.slice A0 (l0.take 40).length c0,.slice A1 (l1.take 20).length c1] W fun e w' => ∃ A c,e = .returned (.tuple #[.slice A r1.length c,.int .i64 r2]) ∧ r1.length ≤ c ∧ Kd.C (Kd.int .u8) w' A r1.length r1 ∧ Below W.heap.size W w'):=⟨fun W hW => (ur.callsP A0 c0 (l0.take 40) A1 c1 (l1.take 20) r1 r2 W (Kd.C_below ht0 hW) g0 (Kd.C_below ht1 hW) g1 (hG.below hW) hp).mono fun e w' ⟨v,h1,h2,h3⟩ => by
  obtain ⟨A,c,e5,hl5,hC5⟩:=Kd.R_reads h2
  exact ⟨A,c,by rw [h1,e5],hl5,hC5,h3⟩⟩
 have HRF:Aside0 (∀ W,Below w.heap.size w W → Calls Tryz.prog 14 #[.slice A0 (l0.take 40).length c0,.slice A1 (l1.take 20).length c1] W fun e w' => ∃ A c,e = .returned (.tuple #[.slice A r1.length c,.int .i64 r2]) ∧ Kd.C (Kd.int .u8) w' A r1.length r1 ∧ r1.length ≤ c ∧ Below W.heap.size W w'):=⟨fun W hW => by
  have h:=ue.walk A0 c0 (l0.take 40) A1 c1 (l1.take 20) W (Kd.C_below ht0 hW) g0 (Kd.C_below ht1 hW) g1 hf
  rw [hout] at h
  exact h⟩
 have HEQ:Aside0 (∀ (W:World) (A:Option Addr) (c:Nat) (A':Option Addr) (c':Nat),Kd.C (Kd.int .u8) W A r1.length r1 → r1.length ≤ c → Kd.C (Kd.int .u8) W A' r1.length r1 → r1.length ≤ c' → Calls Tryz.prog 11 #[.slice A r1.length c,.slice A' r1.length c'] W fun e w' => e = .returned (.bool true) ∧ Below W.heap.size W w'):=⟨fun W A c A' c' h1 h2 h3 h4 => (u1u.calls k A c r1 A' c' r1 true W h1 h2 h3 h4 heq).mono fun e w' ⟨a,b⟩ => ⟨a,b.below⟩⟩
 simp only [List.length_take] at HRF HPR
 clear hr0 hr1 hG hp hf hout heq haw ht0 ht1 g0 g1
 by_cases h0:l0.length ≤ 40
 · by_cases h1:l1.length ≤ 20
   · rw [show min 40 l0.length = l0.length by omega,show min 20 l1.length = l1.length by omega] at HPR HRF
     have pl0:((l0.length:Int) ≤ 40) = True:=eq_true (by omega)
     have ql0:((40:Int) < (l0.length:Int)) = False:=eq_false (by omega)
     have rl0:(l0.length ≤ 40) = True:=eq_true (by omega)
     have pl1:((l1.length:Int) ≤ 20) = True:=eq_true (by omega)
     have ql1:((20:Int) < (l1.length:Int)) = False:=eq_false (by omega)
     have rl1:(l1.length ≤ 20) = True:=eq_true (by omega)
     go_enter Tryz.func4,Tryz.ntmps4
     go_wp2
     go_region
     go_wp2_with (first
      | (go_at_call 13;go_loud (with_reducible refine (HPR.out _ (u3h (Below.refl _ _))).mono ?_);rintro e W1 ⟨A5,c5,rfl,hl5,hC5,hb1⟩;have HR1:=Aside0.mk hC5;have HL1:=Aside0.mk hl5;have HB1:=Aside0.mk (uo (u3h (Below.refl w.heap.size w)) (u3h (Below.refl w.heap.size w)).size hb1);clear hb1 hl5 hC5)
      | (go_at_call 14;go_loud (with_reducible refine (HRF.out _ HB1.out).mono ?_);rintro e W2 ⟨A6,c6,rfl,hr2,hc2,hb2⟩;have HR2:=Aside0.mk hr2;have HC2:=Aside0.mk hc2;have HB2:=Aside0.mk (uo HB1.out HB1.out.size hb2);have HK2:=Aside0.mk hb2;clear hr2 hc2 hb2)
      | (go_at_call 11;go_loud (with_reducible refine (HEQ.out _ _ _ _ _ (Kd.C_below HR1.out HK2.out) HL1.out HR2.out HC2.out).mono ?_);rintro e W3 ⟨rfl,hb3⟩;have HB3:=Aside0.mk (uo HB2.out HB2.out.size hb3);clear hb3)
      | (go_at_call 12;go_loud (with_reducible refine (u2z.calls true _ HAW.out).mono ?_);rintro e W4 ⟨rfl,hb4⟩;have HB4:=Aside0.mk (uo HB3.out HB3.out.size hb4);clear hb4))
     go_ret
     exact ⟨rfl,HB4.out⟩
   · rw [show min 40 l0.length = l0.length by omega,show min 20 l1.length = 20 by omega] at HPR HRF
     have pl0:((l0.length:Int) ≤ 40) = True:=eq_true (by omega)
     have ql0:((40:Int) < (l0.length:Int)) = False:=eq_false (by omega)
     have rl0:(l0.length ≤ 40) = True:=eq_true (by omega)
     have pl1:((l1.length:Int) ≤ 20) = False:=eq_false (by omega)
     have ql1:((20:Int) < (l1.length:Int)) = True:=eq_true (by omega)
     have rl1:(l1.length ≤ 20) = False:=eq_false (by omega)
     go_enter Tryz.func4,Tryz.ntmps4
     go_wp2
     go_region
     go_wp2_with (first
      | (go_at_call 13;go_loud (with_reducible refine (HPR.out _ (u3h (Below.refl _ _))).mono ?_);rintro e W1 ⟨A5,c5,rfl,hl5,hC5,hb1⟩;have HR1:=Aside0.mk hC5;have HL1:=Aside0.mk hl5;have HB1:=Aside0.mk (uo (u3h (Below.refl w.heap.size w)) (u3h (Below.refl w.heap.size w)).size hb1);clear hb1 hl5 hC5)
      | (go_at_call 14;go_loud (with_reducible refine (HRF.out _ HB1.out).mono ?_);rintro e W2 ⟨A6,c6,rfl,hr2,hc2,hb2⟩;have HR2:=Aside0.mk hr2;have HC2:=Aside0.mk hc2;have HB2:=Aside0.mk (uo HB1.out HB1.out.size hb2);have HK2:=Aside0.mk hb2;clear hr2 hc2 hb2)
      | (go_at_call 11;go_loud (with_reducible refine (HEQ.out _ _ _ _ _ (Kd.C_below HR1.out HK2.out) HL1.out HR2.out HC2.out).mono ?_);rintro e W3 ⟨rfl,hb3⟩;have HB3:=Aside0.mk (uo HB2.out HB2.out.size hb3);clear hb3)
      | (go_at_call 12;go_loud (with_reducible refine (u2z.calls true _ HAW.out).mono ?_);rintro e W4 ⟨rfl,hb4⟩;have HB4:=Aside0.mk (uo HB3.out HB3.out.size hb4);clear hb4))
     go_ret
     exact ⟨rfl,HB4.out⟩
 · by_cases h1:l1.length ≤ 20
   · rw [show min 40 l0.length = 40 by omega,show min 20 l1.length = l1.length by omega] at HPR HRF
     have pl0:((l0.length:Int) ≤ 40) = False:=eq_false (by omega)
     have ql0:((40:Int) < (l0.length:Int)) = True:=eq_true (by omega)
     have rl0:(l0.length ≤ 40) = False:=eq_false (by omega)
     have pl1:((l1.length:Int) ≤ 20) = True:=eq_true (by omega)
     have ql1:((20:Int) < (l1.length:Int)) = False:=eq_false (by omega)
     have rl1:(l1.length ≤ 20) = True:=eq_true (by omega)
     go_enter Tryz.func4,Tryz.ntmps4
     go_wp2
     go_region
     go_wp2_with (first
      | (go_at_call 13;go_loud (with_reducible refine (HPR.out _ (u3h (Below.refl _ _))).mono ?_);rintro e W1 ⟨A5,c5,rfl,hl5,hC5,hb1⟩;have HR1:=Aside0.mk hC5;have HL1:=Aside0.mk hl5;have HB1:=Aside0.mk (uo (u3h (Below.refl w.heap.size w)) (u3h (Below.refl w.heap.size w)).size hb1);clear hb1 hl5 hC5)
      | (go_at_call 14;go_loud (with_reducible refine (HRF.out _ HB1.out).mono ?_);rintro e W2 ⟨A6,c6,rfl,hr2,hc2,hb2⟩;have HR2:=Aside0.mk hr2;have HC2:=Aside0.mk hc2;have HB2:=Aside0.mk (uo HB1.out HB1.out.size hb2);have HK2:=Aside0.mk hb2;clear hr2 hc2 hb2)
      | (go_at_call 11;go_loud (with_reducible refine (HEQ.out _ _ _ _ _ (Kd.C_below HR1.out HK2.out) HL1.out HR2.out HC2.out).mono ?_);rintro e W3 ⟨rfl,hb3⟩;have HB3:=Aside0.mk (uo HB2.out HB2.out.size hb3);clear hb3)
      | (go_at_call 12;go_loud (with_reducible refine (u2z.calls true _ HAW.out).mono ?_);rintro e W4 ⟨rfl,hb4⟩;have HB4:=Aside0.mk (uo HB3.out HB3.out.size hb4);clear hb4))
     go_ret
     exact ⟨rfl,HB4.out⟩
   · rw [show min 40 l0.length = 40 by omega,show min 20 l1.length = 20 by omega] at HPR HRF
     have pl0:((l0.length:Int) ≤ 40) = False:=eq_false (by omega)
     have ql0:((40:Int) < (l0.length:Int)) = True:=eq_true (by omega)
     have rl0:(l0.length ≤ 40) = False:=eq_false (by omega)
     have pl1:((l1.length:Int) ≤ 20) = False:=eq_false (by omega)
     have ql1:((20:Int) < (l1.length:Int)) = True:=eq_true (by omega)
     have rl1:(l1.length ≤ 20) = False:=eq_false (by omega)
     go_enter Tryz.func4,Tryz.ntmps4
     go_wp2
     go_region
     go_wp2_with (first
      | (go_at_call 13;go_loud (with_reducible refine (HPR.out _ (u3h (Below.refl _ _))).mono ?_);rintro e W1 ⟨A5,c5,rfl,hl5,hC5,hb1⟩;have HR1:=Aside0.mk hC5;have HL1:=Aside0.mk hl5;have HB1:=Aside0.mk (uo (u3h (Below.refl w.heap.size w)) (u3h (Below.refl w.heap.size w)).size hb1);clear hb1 hl5 hC5)
      | (go_at_call 14;go_loud (with_reducible refine (HRF.out _ HB1.out).mono ?_);rintro e W2 ⟨A6,c6,rfl,hr2,hc2,hb2⟩;have HR2:=Aside0.mk hr2;have HC2:=Aside0.mk hc2;have HB2:=Aside0.mk (uo HB1.out HB1.out.size hb2);have HK2:=Aside0.mk hb2;clear hr2 hc2 hb2)
      | (go_at_call 11;go_loud (with_reducible refine (HEQ.out _ _ _ _ _ (Kd.C_below HR1.out HK2.out) HL1.out HR2.out HC2.out).mono ?_);rintro e W3 ⟨rfl,hb3⟩;have HB3:=Aside0.mk (uo HB2.out HB2.out.size hb3);clear hb3)
      | (go_at_call 12;go_loud (with_reducible refine (u2z.calls true _ HAW.out).mono ?_);rintro e W4 ⟨rfl,hb4⟩;have HB4:=Aside0.mk (uo HB3.out HB3.out.size hb4);clear hb4))
     go_ret
     exact ⟨rfl,HB4.out⟩
end Go.Proofs.YtmcpeifhapekoaaGreatDoor.PAll
namespace Go.Proofs.YtmcpeifhapekoaaGreatDoor.Tx
open Go.RowKit Go.Proofs.YtmcpeifhapekoaaGreatDoor.PAll Go.Proofs.YtmcpeifhapekoaaGreatDoorW.PrintWords Go.Proofs.YtmcpeifhapekoaaGreatDoorW.PrintLast
open Go.Proofs.YtmcpeifhapekoaaGreatDoor.Laws (okFrom canB wrap_up)
set_option linter.unusedVariables false
set_option linter.unusedSimpArgs false
theorem same9_by (m:List Int) (hm:m.length ≤ 9223372036854775806):∀ (r:List Int) (i:Nat),m.drop i = r → Ev (fun k => u1u.l0 k m m (m.length:Int) (i:Int)) true:=by
 intro r
 induction r with
 | nil =>
   intro i h
   have hi:m.length ≤ i:=List.drop_eq_nil_iff.1 h
   refine Ev.step (f:=fun _ => some true) (fun k => ?_) (Ev.now true)
   simp only [u1u.l0]
   rw [if_neg (by omega)]
 | cons x r ih =>
   intro i h
   have hi:i < m.length:=by
    rcases Nat.lt_or_ge i m.length with h1 | h1
    · exact h1
    · rw [List.drop_eq_nil_of_le h1] at h
      cases h
   have hr:m.drop (i + 1) = r:=by
    rw [List.drop_eq_getElem_cons hi] at h
    exact (List.cons.inj h).2
   have hw:=wrap_up i (by omega)
   refine Ev.step (fun k => ?_) (ih (i + 1) hr)
   simp only [u1u.l0]
   rw [if_pos (by omega),if_pos (by omega),if_pos (by omega),if_pos (by omega)]
   simp only [if_true,hw]
theorem same9_bytes (m:List Int) (hm:m.length ≤ 9223372036854775806):Ev (fun k => u1u.f k m m) true:=by
 refine Ev.congr (fun k => ?_) (same9_by m hm m 0 rfl)
 show u1u.f k m m = _
 unfold u1u.f
 rw [if_pos rfl]
 rfl
theorem fits_of (l:List Rw) (m:List S34) (hl:∀ r ∈ l,(∀ y ∈ r.f0,y.f0.size ≤ 140737488351232 ∧ y.f1.size ≤ 140737488351232) ∧ (Lit.int .i64 r.f1).wf = true ∧ (Lit.int .u64 r.f2).wf = true)
 (hm:∀ x ∈ m,x.f0.size ≤ 140737488351232 ∧ x.f1.size ≤ 140737488351232 ∧ x.f2.size ≤ 140737488351232):ue.fits (l.take 40) (m.take 20):=by
 refine ⟨fun x hx => ?_,fun r hr => ?_,?_,?_⟩
 · have h:=hm x (List.mem_of_mem_take hx)
   exact ⟨h.1,h.2.2⟩
 · obtain ⟨h1,h2,h3⟩:=hl r (List.mem_of_mem_take hr)
   simp [Lit.wf,IntKind.min,IntKind.max,IntKind.bits,IntKind.signed] at h2 h3
   refine ⟨by omega,fun y hy => ?_⟩
   have h:=h1 y hy
   unfold maxLen
   omega
 · rw [List.length_take]
   omega
 · rw [List.length_take]
   omega
theorem writes_walk (A0:Option Addr) (c0:Nat) (l0:List S53) (A1:Option Addr) (c1:Nat) (l1:List S34) (w:World) (hG:u1i.Gd w) (hr0:Kd.C k53 w A0 l0.length l0) (hc0:l0.length ≤ c0) (hr1:Kd.C k34 w A1 l1.length l1) (hc1:l1.length ≤ c1)
 (b0:l0.length * 40 ≤ 140737488351232 ∧ ∀ y ∈ l0,(y.f0.length * 32 ≤ 140737488351232 ∧ ∀ z ∈ y.f0,z.f0.size ≤ 140737488351232 ∧ z.f1.size ≤ 140737488351232) ∧ (Lit.int .i64 y.f1).wf = true ∧ (Lit.int .u64 y.f2).wf = true)
 (b1:l1.length * 48 ≤ 140737488351232 ∧ ∀ y ∈ l1,y.f0.size ≤ 140737488351232 ∧ y.f1.size ≤ 140737488351232 ∧ y.f2.size ≤ 140737488351232) :
 Calls Tryz.prog 4 #[.slice A0 l0.length c0,.slice A1 l1.length c1] w fun e w' => e = .returned (.bool true) ∧ Below w.heap.size w w':=by
 have hf:=fits_of l0 l1 (fun r hr => ⟨(b0.2 r hr).1.2,(b0.2 r hr).2⟩) b1.2
 have hp:=print_is _ _ hf (by rw [List.length_take];omega) (by rw [List.length_take];omega)
 obtain ⟨⟨r1,r2⟩,ho⟩:∃ x,ue.outB (l0.take 40) (l1.take 20) = x:=⟨_,rfl⟩
 rw [ho] at hp
 have hl:r1.length ≤ 9223372036854775806:=by
  have h1:=congrArg Prod.fst ho
  unfold ue.outB at h1
  split at h1
  · have e:r1 = []:=h1.symm
    rw [e]
    decide
  · rename_i hb
    have e:r1 = bi9 (printP (l0.take 40) ((l1.take 20).map ue.me)):=h1.symm
    have hok1:∀ x ∈ l1.take 20,ue.wrongB x = false:=fun x hx => by
     cases h:ue.wrongB x with
     | false => rfl
     | true => exact absurd (Or.inl (List.any_eq_true.2 ⟨x,hx,h⟩)) hb
    have hok2:∀ r ∈ l0.take 40,canB r.f0 = true:=fun r hr => by
     cases h:canB r.f0 with
     | true => rfl
     | false => exact absurd (Or.inr (List.any_eq_true.2 ⟨r,hr,by rw [h];rfl⟩)) hb
    have h1:=flat_len (fun x => metaS (ue.me x)) 2000 (l1.take 20) (fun x hx => ue.me_len x (hok1 x hx))
    have h2:=flat_len (fun r:Rw => rowL r ++ [10]) 1001 (l0.take 40) (fun r hr => ue.row_len r (hok2 r hr) (hf.2.1 r hr).1)
    have h5:(l0.take 40).length ≤ 40:=by rw [List.length_take];omega
    have h6:(l1.take 20).length ≤ 20:=by rw [List.length_take];omega
    rw [e]
    unfold bi9 ue.bi
    rw [List.length_map,printP_is,List.length_append,List.flatMap_map]
    have h3:=Nat.add_le_add h1 h2
    exact Nat.le_trans h3 (by omega)
 obtain ⟨k,hk⟩:=(same9_bytes r1 hl).rounds
 exact dryrotlaw27_TextWrites.walk A0 c0 l0 A1 c1 l1 w hr0 hc0 hr1 hc1 hG k r1 r2 hp hf ho hk awake9
end Go.Proofs.YtmcpeifhapekoaaGreatDoor.Tx
