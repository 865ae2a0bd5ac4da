/- Texts of this seat, joined in the order in which they build. -/
import Derived.Test.YtmcpeifhapekoaaGreatDoorBk6
import Derived.Test.YtmcpeifhapekoaaGreatDoorBk5
import Derived.Test.YtmcpeifhapekoaaGreatDoorGx91Bk
import Derived.Test.YtmcpeifhapekoaaGreatDoorBk1
import Derived.Test.YtmcpeifhapekoaaGreatDoorBk2
import Derived.Test.YtmcpeifhapekoaaGreatDoorBk4
import Derived.Test.YtmcpeifhapekoaaGreatDoorGx40Bk
namespace Go.Proofs.YtmcpeifhapekoaaGreatDoor.Tx
open Go.RowKit Go.Proofs.YtmcpeifhapekoaaGreatDoor.PAll Go.Proofs.YtmcpeifhapekoaaGreatDoorW.PrintWords Go.Proofs.YtmcpeifhapekoaaGreatDoorW.PrintLast
open Go.Proofs.YtmcpeifhapekoaaGreatDoor.Laws (okFrom canB wrap_up at_byte no_byte rd_drop textL)
set_option linter.unusedVariables false
set_option linter.unusedSimpArgs false
abbrev bi9:=ue.bi
theorem bi_app (a b:B8):bi9 (a ++ b) = bi9 a ++ bi9 b:=List.map_append
theorem bi_of9 (s:ByteArray):bytesOf s = bi9 s.data.toList:=rfl
theorem meta_is (x:S34):ut.metB x = bi9 (metaS (ue.me x)):=by
 unfold ut.metB u1y.metaB
 rw [metaS_is]
 by_cases h1:x.f2 = Base.ofL [] <;> by_cases h2:x.f1 = Base.ofL [] <;>
  simp [h1,h2,ue.me,ug.parts,bytesOf,ue.bi,helpW,typeW]
theorem dec_is (n:Nat):Lib.decDigits n = decN n:=by
 induction n using Nat.strongRecOn with
 | ind n ih =>
   unfold Lib.decDigits decN
   by_cases h:n < 10
   · rw [dif_pos h,if_pos h]
   · rw [dif_neg h,if_neg h,ih (n / 10) (by omega)]
theorem sign_is (x:Int):Lib.itoa x = signL x:=by
 unfold Lib.itoa signL
 rw [dec_is,dec_is]
 by_cases h:x < 0
 · rw [if_pos h,if_pos h,show x.natAbs = (-x).toNat by omega]
 · rw [if_neg h,if_neg h]
theorem get_is (l:List Lb):u2m.get ⟨#[95,95,110,97,109,101,95,95]⟩ l = u3p l:=by
 induction l with
 | nil => rfl
 | cons x l ih =>
   unfold u2m.get
   rw [met_lit] at *
   by_cases h:x.f0 = metric
   · rw [if_pos (text_is.2 h)]
     unfold u3p
     rw [List.find?_cons_of_pos (by simpa using h)]
   · rw [if_neg (fun e => h (text_is.1 e)),ih]
     unfold u3p
     rw [List.find?_cons_of_neg (by simpa using h)]
theorem own_is (l:List Lb):(u1f.own l).data.toList = ownL l:=by
 unfold u1f.own ownL
 rw [get_is]
 split <;> rfl
theorem oth_is (l:List Lb):u1f.oth l = othL l:=by
 unfold u1f.oth othL
 rw [get_is]
 split
 · refine List.filter_congr (fun x _ => ?_)
   unfold u1f.met
   rw [← met_list]
   by_cases h:x.f0 = metric
   · simp [h]
   · have:¬ x.f0.toList = metric.toList:=fun e => h (text_is.1 e)
     simp [h,this]
 · rfl
theorem br_is (l:List Lb) (h:canB l = true):(ut.brOf l).data.toList = u3l (othL l):=by
 unfold ut.brOf
 rw [oth_is]
 by_cases hn:othL l = []
 · rw [if_pos hn,hn]
   rfl
 · rw [if_neg hn,if_pos (can_oth h hn),Base.ofL_data,text_braces _ hn]
theorem rowB_is (r:Rw) (h:canB r.f0 = true):ut.rowB r = bi9 (rowL r ++ [10]):=by
 have h1:=own_is r.f0
 have h2:=br_is r.f0 h
 unfold ut.rowB u1f.lineB
 rw [row_is,dec_is,sign_is]
 simp only [ug.parts,List.flatMap_cons,List.flatMap_nil,bi_of9,h1,h2]
 simp [ue.bi,endL]
theorem wrong_is:ut.wrongB = ue.wrongB:=rfl
theorem flat_congr {α:Type} (f:α → List Int) (g:α → B8):∀ (l:List α),(∀ x ∈ l,f x = bi9 (g x)) → l.flatMap f = bi9 (l.flatMap g)
 | [],_ => rfl
 | x :: l,h => by
   rw [List.flatMap_cons,List.flatMap_cons,bi_app,h x (by simp),flat_congr f g l (fun y hy => h y (by simp [hy]))]
theorem print_is (l:List Rw) (m:List S34) (hf:ue.fits l m) (hl:l.length ≤ 40) (hm:m.length ≤ 20):ut.f l m = some (ue.outB l m):=by
 unfold ut.f
 rw [if_pos ⟨fun x hx => (hf.1 x hx).2,fun r hr => by have:=(hf.2.1 r hr).1;omega,hf.2.2.1,hf.2.2.2⟩,wrong_is]
 unfold ue.outB
 by_cases hb:m.any ue.wrongB = true ∨ l.any (fun r => !canB r.f0) = true
 · rw [if_pos hb,if_pos hb]
 · rw [if_neg hb,if_neg hb]
   have hok1:∀ x ∈ m,ue.wrongB x = false:=fun x hx => by
    cases h:ue.wrongB x with
    | false => rfl
    | true => exact absurd (Or.inl (List.any_eq_true.2 ⟨x,hx,h⟩)) hb
   have hok2:∀ r ∈ l,canB r.f0 = true:=fun r hr => by
    cases h:canB r.f0 with
    | true => rfl
    | false => exact absurd (Or.inr (List.any_eq_true.2 ⟨r,hr,by rw [h];rfl⟩)) hb
   have e:ut.bytesB l m = bi9 (printP l (m.map ue.me)):=by
    rw [printP_is,bi_app,List.flatMap_map]
    unfold ut.bytesB
    rw [flat_congr ut.metB (fun x => metaS (ue.me x)) m (fun x _ => meta_is x),flat_congr ut.rowB (fun r => rowL r ++ [10]) l (fun r hr => rowB_is r (hok2 r hr))]
   have hlen:(bi9 (printP l (m.map ue.me))).length ≤ 100000000:=by
    have h1:=flat_len (fun x => metaS (ue.me x)) 2000 m (fun x hx => ue.me_len x (hok1 x hx))
    have h2:=flat_len (fun r:Rw => rowL r ++ [10]) 1001 l (fun r hr => ue.row_len r (hok2 r hr) (hf.2.1 r hr).1)
    unfold bi9 ue.bi
    rw [List.length_map,printP_is,List.length_append,List.flatMap_map]
    have h3:=Nat.add_le_add h1 h2
    exact Nat.le_trans h3 (by omega)
   rw [e,if_pos hlen]
end Go.Proofs.YtmcpeifhapekoaaGreatDoor.Tx
namespace Go.Proofs.YtmcpeifhapekoaaGreatDoor.PAll
open Go.RowKit Go.Proofs.YtmcpeifhapekoaaGreatDoorW.PrintWords Go.Proofs.YtmcpeifhapekoaaGreatDoorW.PrintLast Go.Proofs.YtmcpeifhapekoaaGreatDoorW.PrintMore
attribute [local go_sem] max2_int min2_int max_two min_two max_three min_three max_four min_four
set_option linter.unusedVariables false
set_option linter.unusedSimpArgs false
theorem u2a.take_C {α:Type} {k:Kd α} {w:World} {A:Option Addr} {xs:List α} (h:k.C w A xs.length xs) (m:Nat):k.C w A (xs.take m).length (xs.take m):=by
 by_cases hm:m ≤ xs.length
 · exact Kd.C_take h hm
 · rw [List.take_of_length_le (by omega)]
   exact h
theorem u2a.enters:∀ args W,(callFunc 16 args).run Tryz.prog W = .ok (.enter 16 args) W:=enters_of Tryz.func16 (by kernel_rfl) rfl
set_option maxRecDepth 100000 in
theorem u2a.test (x y:S34) (g:Nat) (W:World) (h:W.heap[g]? = some (.cells #[.string x.f0,.string x.f1,.string x.f2] 34 (0,0))) :
 Calls Tryz.prog 16 (#[.agg #[.string y.f0,.string y.f1,.string y.f2]] ++ #[.pointer (some ⟨g,0,none⟩)]) W fun e w' => e = .returned (.bool (y.f0.toList == x.f0.toList)) ∧ Below W.heap.size W w':=by
 rw [show (#[Value.agg #[.string y.f0,.string y.f1,.string y.f2]] ++ #[.pointer (some ⟨g,0,none⟩)]:Array Value) = #[.agg #[.string y.f0,.string y.f1,.string y.f2],.pointer (some ⟨g,0,none⟩)] from by simp]
 have hz1:=ud (Below.refl W.heap.size W) (.cells #[.string y.f0,.string y.f1,.string y.f2] 34)
 obtain ⟨⟨n0,n1,n2⟩,n3⟩:=uc.look3 (ua.below_at hz1 h)
 have HN1:=Aside0.mk (ua.new_at W (.cells #[.string y.f0,.string y.f1,.string y.f2] 34))
 obtain ⟨⟨m0,m1,m2⟩,m3⟩:=uc.look3 HN1.out
 have HZ1:=Aside0.mk hz1
 clear hz1 h
 go_enter Tryz.func16,Tryz.ntmps16
 go_wp2
 go_ret
 exact ⟨rfl,HZ1.out⟩
set_option maxRecDepth 100000 in
set_option maxHeartbeats 4000000 in
theorem u2a.refused (A0:Option Addr) (c0:Nat) (l0:List S53) (A1:Option Addr) (c1:Nat) (l1:List S34) (now:Int) (w:World) (hr0:Kd.C k53 w A0 l0.length l0) (hc0:l0.length ≤ c0) (hr1:Kd.C k34 w A1 l1.length l1) (hc1:l1.length ≤ c1) (hG:u1k.Gd w)
 (hp:ut.f (l0.take 40) (l1.take 20) = some ([],1)) (hf:ue.fits (l0.take 40) (l1.take 20)) (hout:ue.outB (l0.take 40) (l1.take 20) = ([],1)) (haw:u2s.f = some true) :
 Calls Tryz.prog 5 #[.slice A0 l0.length c0,.slice A1 l1.length c1,.int .i64 now] w fun e w' => e = .returned (.bool true) ∧ Below w.heap.size w w':=by
 have HAW:=Aside0.mk haw
 have ht0:=u2a.take_C hr0 40
 have ht1:=u2a.take_C hr1 20
 have g0:(l0.take 40).length ≤ c0:=by rw [List.length_take];omega
 have g1:(l1.take 20).length ≤ c1:=by rw [List.length_take];omega
 have HPR:Aside0 (∀ W,Below w.heap.size w W → Calls Tryz.prog 13 #[.slice A0 (l0.take 40).length c0,.slice A1 (l1.take 20).length c1] W fun e w' => ∃ A c,e = .returned (.tuple #[.slice A 0 c,.int .i64 1]) ∧ 0 ≤ c ∧ Kd.C (Kd.int .u8) w' A 0 [] ∧ Below W.heap.size W w'):=⟨fun W hW => (ut.callsP A0 c0 (l0.take 40) A1 c1 (l1.take 20) [] 1 W (Kd.C_below ht0 hW) g0 (Kd.C_below ht1 hW) g1 (hG.below hW) hp).mono fun e w' ⟨v,h1,h2,h3⟩ => by
  obtain ⟨A,c,e5,hl5,hC5⟩:=Kd.R_reads h2
  exact ⟨A,c,by rw [h1,e5];rfl,hl5,hC5,h3⟩⟩
 have HRF:Aside0 (∀ W,Below w.heap.size w W → Calls Tryz.prog 14 #[.slice A0 (l0.take 40).length c0,.slice A1 (l1.take 20).length c1] W fun e w' => ∃ A c,e = .returned (.tuple #[.slice A 0 c,.int .i64 1]) ∧ Below W.heap.size W w'):=⟨fun W hW => by
  have h:=ue.walk A0 c0 (l0.take 40) A1 c1 (l1.take 20) W (Kd.C_below ht0 hW) g0 (Kd.C_below ht1 hW) g1 hf
  rw [hout] at h
  exact h.mono fun e w' ⟨A,c,h1,_,_,h2⟩ => ⟨A,c,h1,h2⟩⟩
 simp only [List.length_take] at HRF HPR
 clear hr0 hr1 hG hp hf hout haw ht0 ht1 g0 g1
 by_cases h0:l0.length ≤ 40
 · by_cases h1:l1.length ≤ 20
   · rw [show min 40 l0.length = l0.length by omega,show min 20 l1.length = l1.length by omega] at HPR HRF
     have pl0:((l0.length:Int) ≤ 40) = True:=eq_true (by omega)
     have ql0:((40:Int) < (l0.length:Int)) = False:=eq_false (by omega)
     have rl0:(l0.length ≤ 40) = True:=eq_true (by omega)
     have pl1:((l1.length:Int) ≤ 20) = True:=eq_true (by omega)
     have ql1:((20:Int) < (l1.length:Int)) = False:=eq_false (by omega)
     have rl1:(l1.length ≤ 20) = True:=eq_true (by omega)
     go_enter Tryz.func5,Tryz.ntmps5
     go_wp2
     go_region
     go_wp2_with (first
      | (go_at_call 13;go_loud (with_reducible refine (HPR.out _ (u2t (Below.refl _ _))).mono ?_);rintro e W1 ⟨A5,c5,rfl,hl5,hC5,hb1⟩;have HR1:=Aside0.mk hC5;have HL1:=Aside0.mk hl5;have HB1:=Aside0.mk (ui (u2t (Below.refl w.heap.size w)) (u2t (Below.refl w.heap.size w)).size hb1);clear hb1 hl5 hC5)
      | (go_at_call 14;go_loud (with_reducible refine (HRF.out _ HB1.out).mono ?_);rintro e W2 ⟨A6,c6,rfl,hb2⟩;have HB2:=Aside0.mk (ui HB1.out HB1.out.size hb2);clear hb2)
      | (go_at_call 12;go_loud (with_reducible refine (u2s.calls true _ HAW.out).mono ?_);rintro e W4 ⟨rfl,hb4⟩;have HB4:=Aside0.mk (ui HB2.out HB2.out.size hb4);clear hb4))
     go_ret
     exact ⟨rfl,HB4.out⟩
   · rw [show min 40 l0.length = l0.length by omega,show min 20 l1.length = 20 by omega] at HPR HRF
     have pl0:((l0.length:Int) ≤ 40) = True:=eq_true (by omega)
     have ql0:((40:Int) < (l0.length:Int)) = False:=eq_false (by omega)
     have rl0:(l0.length ≤ 40) = True:=eq_true (by omega)
     have pl1:((l1.length:Int) ≤ 20) = False:=eq_false (by omega)
     have ql1:((20:Int) < (l1.length:Int)) = True:=eq_true (by omega)
     have rl1:(l1.length ≤ 20) = False:=eq_false (by omega)
     go_enter Tryz.func5,Tryz.ntmps5
     go_wp2
     go_region
     go_wp2_with (first
      | (go_at_call 13;go_loud (with_reducible refine (HPR.out _ (u2t (Below.refl _ _))).mono ?_);rintro e W1 ⟨A5,c5,rfl,hl5,hC5,hb1⟩;have HR1:=Aside0.mk hC5;have HL1:=Aside0.mk hl5;have HB1:=Aside0.mk (ui (u2t (Below.refl w.heap.size w)) (u2t (Below.refl w.heap.size w)).size hb1);clear hb1 hl5 hC5)
      | (go_at_call 14;go_loud (with_reducible refine (HRF.out _ HB1.out).mono ?_);rintro e W2 ⟨A6,c6,rfl,hb2⟩;have HB2:=Aside0.mk (ui HB1.out HB1.out.size hb2);clear hb2)
      | (go_at_call 12;go_loud (with_reducible refine (u2s.calls true _ HAW.out).mono ?_);rintro e W4 ⟨rfl,hb4⟩;have HB4:=Aside0.mk (ui HB2.out HB2.out.size hb4);clear hb4))
     go_ret
     exact ⟨rfl,HB4.out⟩
 · by_cases h1:l1.length ≤ 20
   · rw [show min 40 l0.length = 40 by omega,show min 20 l1.length = l1.length by omega] at HPR HRF
     have pl0:((l0.length:Int) ≤ 40) = False:=eq_false (by omega)
     have ql0:((40:Int) < (l0.length:Int)) = True:=eq_true (by omega)
     have rl0:(l0.length ≤ 40) = False:=eq_false (by omega)
     have pl1:((l1.length:Int) ≤ 20) = True:=eq_true (by omega)
     have ql1:((20:Int) < (l1.length:Int)) = False:=eq_false (by omega)
     have rl1:(l1.length ≤ 20) = True:=eq_true (by omega)
     go_enter Tryz.func5,Tryz.ntmps5
     go_wp2
     go_region
     go_wp2_with (first
      | (go_at_call 13;go_loud (with_reducible refine (HPR.out _ (u2t (Below.refl _ _))).mono ?_);rintro e W1 ⟨A5,c5,rfl,hl5,hC5,hb1⟩;have HR1:=Aside0.mk hC5;have HL1:=Aside0.mk hl5;have HB1:=Aside0.mk (ui (u2t (Below.refl w.heap.size w)) (u2t (Below.refl w.heap.size w)).size hb1);clear hb1 hl5 hC5)
      | (go_at_call 14;go_loud (with_reducible refine (HRF.out _ HB1.out).mono ?_);rintro e W2 ⟨A6,c6,rfl,hb2⟩;have HB2:=Aside0.mk (ui HB1.out HB1.out.size hb2);clear hb2)
      | (go_at_call 12;go_loud (with_reducible refine (u2s.calls true _ HAW.out).mono ?_);rintro e W4 ⟨rfl,hb4⟩;have HB4:=Aside0.mk (ui HB2.out HB2.out.size hb4);clear hb4))
     go_ret
     exact ⟨rfl,HB4.out⟩
   · rw [show min 40 l0.length = 40 by omega,show min 20 l1.length = 20 by omega] at HPR HRF
     have pl0:((l0.length:Int) ≤ 40) = False:=eq_false (by omega)
     have ql0:((40:Int) < (l0.length:Int)) = True:=eq_true (by omega)
     have rl0:(l0.length ≤ 40) = False:=eq_false (by omega)
     have pl1:((l1.length:Int) ≤ 20) = False:=eq_false (by omega)
     have ql1:((20:Int) < (l1.length:Int)) = True:=eq_true (by omega)
     have rl1:(l1.length ≤ 20) = False:=eq_false (by omega)
     go_enter Tryz.func5,Tryz.ntmps5
     go_wp2
     go_region
     go_wp2_with (first
      | (go_at_call 13;go_loud (with_reducible refine (HPR.out _ (u2t (Below.refl _ _))).mono ?_);rintro e W1 ⟨A5,c5,rfl,hl5,hC5,hb1⟩;have HR1:=Aside0.mk hC5;have HL1:=Aside0.mk hl5;have HB1:=Aside0.mk (ui (u2t (Below.refl w.heap.size w)) (u2t (Below.refl w.heap.size w)).size hb1);clear hb1 hl5 hC5)
      | (go_at_call 14;go_loud (with_reducible refine (HRF.out _ HB1.out).mono ?_);rintro e W2 ⟨A6,c6,rfl,hb2⟩;have HB2:=Aside0.mk (ui HB1.out HB1.out.size hb2);clear hb2)
      | (go_at_call 12;go_loud (with_reducible refine (u2s.calls true _ HAW.out).mono ?_);rintro e W4 ⟨rfl,hb4⟩;have HB4:=Aside0.mk (ui HB2.out HB2.out.size hb4);clear hb4))
     go_ret
     exact ⟨rfl,HB4.out⟩
set_option maxRecDepth 100000 in
set_option maxHeartbeats 4000000 in
theorem u2a.back (A0:Option Addr) (c0:Nat) (l0:List S53) (A1:Option Addr) (c1:Nat) (l1:List S34) (now:Int) (w:World) (hr0:Kd.C k53 w A0 l0.length l0) (hc0:l0.length ≤ c0) (hr1:Kd.C k34 w A1 l1.length l1) (hc1:l1.length ≤ c1) (hG:u1k.Gd w)
 (r1:List Int) (kk:List S53) (told:List S34) (ks:Nat) (hp:ut.f (l0.take 40) (l1.take 20) = some (r1,0)) (hpa:u1a.f r1 now = some (kk,told,0,0)) (htold:∀ x ∈ told,(l1.take 20).any (fun y => y.f0.toList == x.f0.toList) = true) (hsame:u1p.f ks kk (l0.take 40) = some true) (haw:u2s.f = some true) :
 Calls Tryz.prog 5 #[.slice A0 l0.length c0,.slice A1 l1.length c1,.int .i64 now] w fun e w' => e = .returned (.bool true) ∧ Below w.heap.size w w':=by
 have HAW:=Aside0.mk haw
 have ht0:=u2a.take_C hr0 40
 have ht1:=u2a.take_C hr1 20
 have g0:(l0.take 40).length ≤ c0:=by rw [List.length_take];omega
 have g1:(l1.take 20).length ≤ c1:=by rw [List.length_take];omega
 have HPR:Aside0 (∀ W,Below w.heap.size w W → Calls Tryz.prog 13 #[.slice A0 (l0.take 40).length c0,.slice A1 (l1.take 20).length c1] W fun e w' => ∃ A c,e = .returned (.tuple #[.slice A r1.length c,.int .i64 0]) ∧ r1.length ≤ c ∧ Kd.C (Kd.int .u8) w' A r1.length r1 ∧ Below W.heap.size W w'):=⟨fun W hW => (ut.callsP A0 c0 (l0.take 40) A1 c1 (l1.take 20) r1 0 W (Kd.C_below ht0 hW) g0 (Kd.C_below ht1 hW) g1 (hG.below hW) hp).mono fun e w' ⟨v,h1,h2,h3⟩ => by
  obtain ⟨A,c,e5,hl5,hC5⟩:=Kd.R_reads h2
  exact ⟨A,c,by rw [h1,e5],hl5,hC5,h3⟩⟩
 have HPA:=Aside0.mk hpa
 have HTOLD:=Aside0.mk htold
 have HSAME:=Aside0.mk hsame
 have HT0:=Aside0.mk ht0
 have HT1:=Aside0.mk ht1
 simp only [List.length_take] at HPR
 clear hr0 hr1 hG hp hpa htold hsame haw ht0 ht1 g0 g1
 by_cases h0:l0.length ≤ 40
 · by_cases h1:l1.length ≤ 20
   · rw [show min 40 l0.length = l0.length by omega,show min 20 l1.length = l1.length by omega] at HPR
     have pl0:((l0.length:Int) ≤ 40) = True:=eq_true (by omega)
     have ql0:((40:Int) < (l0.length:Int)) = False:=eq_false (by omega)
     have rl0:(l0.length ≤ 40) = True:=eq_true (by omega)
     have pl1:((l1.length:Int) ≤ 20) = True:=eq_true (by omega)
     have ql1:((20:Int) < (l1.length:Int)) = False:=eq_false (by omega)
     have rl1:(l1.length ≤ 20) = True:=eq_true (by omega)
     go_enter Tryz.func5,Tryz.ntmps5
     go_wp2
     go_region
     go_wp2_with (first
      | (go_at_call 13;go_loud (with_reducible refine (HPR.out _ (u2t (Below.refl _ _))).mono ?_);rintro e W1 ⟨A5,c5,rfl,hl5,hC5,hb1⟩;have HR1:=Aside0.mk hC5;have HL1:=Aside0.mk hl5;have HB1:=Aside0.mk (ui (u2t (Below.refl w.heap.size w)) (u2t (Below.refl w.heap.size w)).size hb1);clear hb1 hl5 hC5)
      | (go_at_call 7;go_loud (with_reducible refine (u1a.calls A5 c5 r1 now kk told 0 0 W1 HR1.out HL1.out HPA.out).mono ?_);rintro e W2 ⟨v7,v8,rfl,hr7,hr8,hb2⟩;obtain ⟨A7,c7,e7,hl7,hC7⟩:=Kd.R_reads hr7;obtain ⟨A8,c8,e8,hl8,hC8⟩:=Kd.R_reads hr8;subst e7;subst e8;have HL7:=Aside0.mk hl7;have HC7:=Aside0.mk hC7;have HC8:=Aside0.mk hC8;have HB2:=Aside0.mk (ui HB1.out HB1.out.size hb2);clear hr7 hr8 hb2 hl7 hC7 hl8 hC8))
     have HF0:=Aside0.mk (ua.new_at W2 (.cells #[.int .i64 0,.int .i64 0] 28))
     have HB3:=Aside0.mk (ud HB2.out (.cells #[.int .i64 0,.int .i64 0] 28))
     have HD3:=Aside0.mk (ud (Below.refl W2.heap.size W2) (.cells #[.int .i64 0,.int .i64 0] 28))
     have HC73:=Aside0.mk (Kd.C_below HC7.out HD3.out)
     have HC83:=Aside0.mk (Kd.C_below HC8.out HD3.out)
     have htm:=Kd.C_max HC8.out
     clear HD3 HC7 HC8
     generalize W2.alloc (.cells #[.int .i64 0,.int .i64 0] 28) = W3 at *
     generalize hgz:W2.heap.size = g at *
     clear hgz
     go_loopw [60] (fun v60 wr => ∃ i:Nat,v60 = .int .i64 (i:Int) ∧ i ≤ told.length ∧ Aside0 (Below W3.heap.size W3 wr)) (fun v60 _ => told.length - (intOf v60).toNat)
     case atStart => exact ⟨0,rfl,Nat.zero_le _,⟨Below.refl _ _⟩⟩
     case round =>
      obtain ⟨i,rfl,hi,HW⟩:=hrel
      have HB:=Aside0.mk (ui HB3.out HB3.out.size HW.out)
      by_cases hlt:i < told.length
      · obtain ⟨ad,ea,f0,f1,f2⟩:=at_T34 (Kd.C_below HC83.out HW.out) (i:Int) (by omega) (by omega)
        subst ea
        obtain ⟨x,hx⟩:∃ x,told[i] = x:=⟨_,rfl⟩
        have hx9:rd_T34 told (i:Int) = x:=by rw [← hx];simp [rd_T34,List.getD_eq_getElem?_getD,hlt]
        rw [hx9] at f0 f1 f2
        have hmem:x ∈ told:=by rw [← hx];exact List.getElem_mem hlt
        have hd0:wr.cell? (ad.add (i * 3)) = some (.string x.f0):=by simpa using f0
        have hd1:wr.cell? ⟨(ad.add (i * 3)).block,(ad.add (i * 3)).off + 1,none⟩ = some (.string x.f1):=by simpa using f1
        have hd2:wr.cell? ⟨(ad.add (i * 3)).block,(ad.add (i * 3)).off + 2,none⟩ = some (.string x.f2):=by simpa using f2
        have hq:decide ((i:Int) < (told.length:Int)) = true:=decide_eq_true (by omega)
        have hq2:(i:Int) < (told.length:Int):=by omega
        have hz1:=ud (Below.refl wr.heap.size wr) (.cells #[.string x.f0,.string x.f1,.string x.f2] 34)
        have HN1:=Aside0.mk (ua.new_at wr (.cells #[.string x.f0,.string x.f1,.string x.f2] 34))
        have HZ1:=Aside0.mk (ui HB.out HB.out.size hz1)
        have HZ2:=Aside0.mk (ui HW.out HW.out.size hz1)
        have HCT:Aside0 (Calls Tryz.prog 15 #[.slice A1 l1.length c1,.func (.func 16) #[] #[.pointer (some ⟨wr.heap.size,0,none⟩)]] (wr.alloc (.cells #[.string x.f0,.string x.f1,.string x.f2] 34)) fun e w' => e = .returned (.bool true) ∧ Below (wr.alloc (.cells #[.string x.f0,.string x.f1,.string x.f2] 34)).heap.size (wr.alloc (.cells #[.string x.f0,.string x.f1,.string x.f2] 34)) w'):=⟨by
         have h:=api_Meta_15.calls A1 c1 (l1.take 20) 16 #[.pointer (some ⟨wr.heap.size,0,none⟩)] (fun y => y.f0.toList == x.f0.toList) (wr.alloc (.cells #[.string x.f0,.string x.f1,.string x.f2] 34)) (Kd.C_below HT1.out HZ1.out) (by rw [List.length_take];omega) u2a.enters (fun W' y hb _ => u2a.test x y wr.heap.size W' (ua.below_at hb HN1.out))
         rw [HTOLD.out x hmem,List.length_take,show min 20 l1.length = l1.length by omega] at h
         exact h⟩
        clear f0 f1 f2 hx9 hx hmem hz1
        go_wp2_with (go_at_call 15;go_loud (with_reducible refine HCT.out.mono ?_);rintro e W6 ⟨rfl,hb6⟩;have HW6:=Aside0.mk (ui HZ2.out HZ2.out.size hb6);clear hb6)
        go_roundw
        case rel => exact ⟨i + 1,by go_num,by omega,HW6⟩
        case measure => simp [intOf];omega
      · have hq:decide ((i:Int) < (told.length:Int)) = false:=decide_eq_false (by omega)
        have hq2:decide (i < told.length) = false:=decide_eq_false hlt
        have HF1:=Aside0.mk (ua.below_at HW.out HF0.out)
        have z0:=(uj HF1.out 0).trans rfl
        have z1:=(uj HF1.out 1).trans rfl
        have HC9:=Aside0.mk (Kd.C_below HC73.out HW.out)
        have HS:Aside0 (Calls Tryz.prog 9 #[.slice A7 kk.length c7,.slice A0 l0.length c0] wr fun e w' => e = .returned (.bool true) ∧ Below wr.heap.size wr w'):=⟨by
         have h:=u1p.calls ks A7 c7 kk A0 c0 (l0.take 40) true wr HC9.out HL7.out (Kd.C_below HT0.out HB.out) (by rw [List.length_take];omega) HSAME.out
         rw [List.length_take,show min 40 l0.length = l0.length by omega] at h
         exact h⟩
        clear hlt
        go_wp2_with (first
         | (go_at_call 9;go_loud (with_reducible refine HS.out.mono ?_);rintro e W7 ⟨rfl,hb7⟩;have HB7:=Aside0.mk (ui HB.out HB.out.size hb7);clear hb7)
         | (go_at_call 12;go_loud (with_reducible refine (u2s.calls true _ HAW.out).mono ?_);rintro e W4 ⟨rfl,hb4⟩;have HB4:=Aside0.mk (ui HB7.out HB7.out.size hb4);clear hb4))
        go_ret
        exact ⟨rfl,HB4.out⟩
   · rw [show min 40 l0.length = l0.length by omega,show min 20 l1.length = 20 by omega] at HPR
     have pl0:((l0.length:Int) ≤ 40) = True:=eq_true (by omega)
     have ql0:((40:Int) < (l0.length:Int)) = False:=eq_false (by omega)
     have rl0:(l0.length ≤ 40) = True:=eq_true (by omega)
     have pl1:((l1.length:Int) ≤ 20) = False:=eq_false (by omega)
     have ql1:((20:Int) < (l1.length:Int)) = True:=eq_true (by omega)
     have rl1:(l1.length ≤ 20) = False:=eq_false (by omega)
     go_enter Tryz.func5,Tryz.ntmps5
     go_wp2
     go_region
     go_wp2_with (first
      | (go_at_call 13;go_loud (with_reducible refine (HPR.out _ (u2t (Below.refl _ _))).mono ?_);rintro e W1 ⟨A5,c5,rfl,hl5,hC5,hb1⟩;have HR1:=Aside0.mk hC5;have HL1:=Aside0.mk hl5;have HB1:=Aside0.mk (ui (u2t (Below.refl w.heap.size w)) (u2t (Below.refl w.heap.size w)).size hb1);clear hb1 hl5 hC5)
      | (go_at_call 7;go_loud (with_reducible refine (u1a.calls A5 c5 r1 now kk told 0 0 W1 HR1.out HL1.out HPA.out).mono ?_);rintro e W2 ⟨v7,v8,rfl,hr7,hr8,hb2⟩;obtain ⟨A7,c7,e7,hl7,hC7⟩:=Kd.R_reads hr7;obtain ⟨A8,c8,e8,hl8,hC8⟩:=Kd.R_reads hr8;subst e7;subst e8;have HL7:=Aside0.mk hl7;have HC7:=Aside0.mk hC7;have HC8:=Aside0.mk hC8;have HB2:=Aside0.mk (ui HB1.out HB1.out.size hb2);clear hr7 hr8 hb2 hl7 hC7 hl8 hC8))
     have HF0:=Aside0.mk (ua.new_at W2 (.cells #[.int .i64 0,.int .i64 0] 28))
     have HB3:=Aside0.mk (ud HB2.out (.cells #[.int .i64 0,.int .i64 0] 28))
     have HD3:=Aside0.mk (ud (Below.refl W2.heap.size W2) (.cells #[.int .i64 0,.int .i64 0] 28))
     have HC73:=Aside0.mk (Kd.C_below HC7.out HD3.out)
     have HC83:=Aside0.mk (Kd.C_below HC8.out HD3.out)
     have htm:=Kd.C_max HC8.out
     clear HD3 HC7 HC8
     generalize W2.alloc (.cells #[.int .i64 0,.int .i64 0] 28) = W3 at *
     generalize hgz:W2.heap.size = g at *
     clear hgz
     go_loopw [60] (fun v60 wr => ∃ i:Nat,v60 = .int .i64 (i:Int) ∧ i ≤ told.length ∧ Aside0 (Below W3.heap.size W3 wr)) (fun v60 _ => told.length - (intOf v60).toNat)
     case atStart => exact ⟨0,rfl,Nat.zero_le _,⟨Below.refl _ _⟩⟩
     case round =>
      obtain ⟨i,rfl,hi,HW⟩:=hrel
      have HB:=Aside0.mk (ui HB3.out HB3.out.size HW.out)
      by_cases hlt:i < told.length
      · obtain ⟨ad,ea,f0,f1,f2⟩:=at_T34 (Kd.C_below HC83.out HW.out) (i:Int) (by omega) (by omega)
        subst ea
        obtain ⟨x,hx⟩:∃ x,told[i] = x:=⟨_,rfl⟩
        have hx9:rd_T34 told (i:Int) = x:=by rw [← hx];simp [rd_T34,List.getD_eq_getElem?_getD,hlt]
        rw [hx9] at f0 f1 f2
        have hmem:x ∈ told:=by rw [← hx];exact List.getElem_mem hlt
        have hd0:wr.cell? (ad.add (i * 3)) = some (.string x.f0):=by simpa using f0
        have hd1:wr.cell? ⟨(ad.add (i * 3)).block,(ad.add (i * 3)).off + 1,none⟩ = some (.string x.f1):=by simpa using f1
        have hd2:wr.cell? ⟨(ad.add (i * 3)).block,(ad.add (i * 3)).off + 2,none⟩ = some (.string x.f2):=by simpa using f2
        have hq:decide ((i:Int) < (told.length:Int)) = true:=decide_eq_true (by omega)
        have hq2:(i:Int) < (told.length:Int):=by omega
        have hz1:=ud (Below.refl wr.heap.size wr) (.cells #[.string x.f0,.string x.f1,.string x.f2] 34)
        have HN1:=Aside0.mk (ua.new_at wr (.cells #[.string x.f0,.string x.f1,.string x.f2] 34))
        have HZ1:=Aside0.mk (ui HB.out HB.out.size hz1)
        have HZ2:=Aside0.mk (ui HW.out HW.out.size hz1)
        have HCT:Aside0 (Calls Tryz.prog 15 #[.slice A1 20 c1,.func (.func 16) #[] #[.pointer (some ⟨wr.heap.size,0,none⟩)]] (wr.alloc (.cells #[.string x.f0,.string x.f1,.string x.f2] 34)) fun e w' => e = .returned (.bool true) ∧ Below (wr.alloc (.cells #[.string x.f0,.string x.f1,.string x.f2] 34)).heap.size (wr.alloc (.cells #[.string x.f0,.string x.f1,.string x.f2] 34)) w'):=⟨by
         have h:=api_Meta_15.calls A1 c1 (l1.take 20) 16 #[.pointer (some ⟨wr.heap.size,0,none⟩)] (fun y => y.f0.toList == x.f0.toList) (wr.alloc (.cells #[.string x.f0,.string x.f1,.string x.f2] 34)) (Kd.C_below HT1.out HZ1.out) (by rw [List.length_take];omega) u2a.enters (fun W' y hb _ => u2a.test x y wr.heap.size W' (ua.below_at hb HN1.out))
         rw [HTOLD.out x hmem,List.length_take,show min 20 l1.length = 20 by omega] at h
         exact h⟩
        clear f0 f1 f2 hx9 hx hmem hz1
        go_wp2_with (go_at_call 15;go_loud (with_reducible refine HCT.out.mono ?_);rintro e W6 ⟨rfl,hb6⟩;have HW6:=Aside0.mk (ui HZ2.out HZ2.out.size hb6);clear hb6)
        go_roundw
        case rel => exact ⟨i + 1,by go_num,by omega,HW6⟩
        case measure => simp [intOf];omega
      · have hq:decide ((i:Int) < (told.length:Int)) = false:=decide_eq_false (by omega)
        have hq2:decide (i < told.length) = false:=decide_eq_false hlt
        have HF1:=Aside0.mk (ua.below_at HW.out HF0.out)
        have z0:=(uj HF1.out 0).trans rfl
        have z1:=(uj HF1.out 1).trans rfl
        have HC9:=Aside0.mk (Kd.C_below HC73.out HW.out)
        have HS:Aside0 (Calls Tryz.prog 9 #[.slice A7 kk.length c7,.slice A0 l0.length c0] wr fun e w' => e = .returned (.bool true) ∧ Below wr.heap.size wr w'):=⟨by
         have h:=u1p.calls ks A7 c7 kk A0 c0 (l0.take 40) true wr HC9.out HL7.out (Kd.C_below HT0.out HB.out) (by rw [List.length_take];omega) HSAME.out
         rw [List.length_take,show min 40 l0.length = l0.length by omega] at h
         exact h⟩
        clear hlt
        go_wp2_with (first
         | (go_at_call 9;go_loud (with_reducible refine HS.out.mono ?_);rintro e W7 ⟨rfl,hb7⟩;have HB7:=Aside0.mk (ui HB.out HB.out.size hb7);clear hb7)
         | (go_at_call 12;go_loud (with_reducible refine (u2s.calls true _ HAW.out).mono ?_);rintro e W4 ⟨rfl,hb4⟩;have HB4:=Aside0.mk (ui HB7.out HB7.out.size hb4);clear hb4))
        go_ret
        exact ⟨rfl,HB4.out⟩
 · by_cases h1:l1.length ≤ 20
   · rw [show min 40 l0.length = 40 by omega,show min 20 l1.length = l1.length by omega] at HPR
     have pl0:((l0.length:Int) ≤ 40) = False:=eq_false (by omega)
     have ql0:((40:Int) < (l0.length:Int)) = True:=eq_true (by omega)
     have rl0:(l0.length ≤ 40) = False:=eq_false (by omega)
     have pl1:((l1.length:Int) ≤ 20) = True:=eq_true (by omega)
     have ql1:((20:Int) < (l1.length:Int)) = False:=eq_false (by omega)
     have rl1:(l1.length ≤ 20) = True:=eq_true (by omega)
     go_enter Tryz.func5,Tryz.ntmps5
     go_wp2
     go_region
     go_wp2_with (first
      | (go_at_call 13;go_loud (with_reducible refine (HPR.out _ (u2t (Below.refl _ _))).mono ?_);rintro e W1 ⟨A5,c5,rfl,hl5,hC5,hb1⟩;have HR1:=Aside0.mk hC5;have HL1:=Aside0.mk hl5;have HB1:=Aside0.mk (ui (u2t (Below.refl w.heap.size w)) (u2t (Below.refl w.heap.size w)).size hb1);clear hb1 hl5 hC5)
      | (go_at_call 7;go_loud (with_reducible refine (u1a.calls A5 c5 r1 now kk told 0 0 W1 HR1.out HL1.out HPA.out).mono ?_);rintro e W2 ⟨v7,v8,rfl,hr7,hr8,hb2⟩;obtain ⟨A7,c7,e7,hl7,hC7⟩:=Kd.R_reads hr7;obtain ⟨A8,c8,e8,hl8,hC8⟩:=Kd.R_reads hr8;subst e7;subst e8;have HL7:=Aside0.mk hl7;have HC7:=Aside0.mk hC7;have HC8:=Aside0.mk hC8;have HB2:=Aside0.mk (ui HB1.out HB1.out.size hb2);clear hr7 hr8 hb2 hl7 hC7 hl8 hC8))
     have HF0:=Aside0.mk (ua.new_at W2 (.cells #[.int .i64 0,.int .i64 0] 28))
     have HB3:=Aside0.mk (ud HB2.out (.cells #[.int .i64 0,.int .i64 0] 28))
     have HD3:=Aside0.mk (ud (Below.refl W2.heap.size W2) (.cells #[.int .i64 0,.int .i64 0] 28))
     have HC73:=Aside0.mk (Kd.C_below HC7.out HD3.out)
     have HC83:=Aside0.mk (Kd.C_below HC8.out HD3.out)
     have htm:=Kd.C_max HC8.out
     clear HD3 HC7 HC8
     generalize W2.alloc (.cells #[.int .i64 0,.int .i64 0] 28) = W3 at *
     generalize hgz:W2.heap.size = g at *
     clear hgz
     go_loopw [60] (fun v60 wr => ∃ i:Nat,v60 = .int .i64 (i:Int) ∧ i ≤ told.length ∧ Aside0 (Below W3.heap.size W3 wr)) (fun v60 _ => told.length - (intOf v60).toNat)
     case atStart => exact ⟨0,rfl,Nat.zero_le _,⟨Below.refl _ _⟩⟩
     case round =>
      obtain ⟨i,rfl,hi,HW⟩:=hrel
      have HB:=Aside0.mk (ui HB3.out HB3.out.size HW.out)
      by_cases hlt:i < told.length
      · obtain ⟨ad,ea,f0,f1,f2⟩:=at_T34 (Kd.C_below HC83.out HW.out) (i:Int) (by omega) (by omega)
        subst ea
        obtain ⟨x,hx⟩:∃ x,told[i] = x:=⟨_,rfl⟩
        have hx9:rd_T34 told (i:Int) = x:=by rw [← hx];simp [rd_T34,List.getD_eq_getElem?_getD,hlt]
        rw [hx9] at f0 f1 f2
        have hmem:x ∈ told:=by rw [← hx];exact List.getElem_mem hlt
        have hd0:wr.cell? (ad.add (i * 3)) = some (.string x.f0):=by simpa using f0
        have hd1:wr.cell? ⟨(ad.add (i * 3)).block,(ad.add (i * 3)).off + 1,none⟩ = some (.string x.f1):=by simpa using f1
        have hd2:wr.cell? ⟨(ad.add (i * 3)).block,(ad.add (i * 3)).off + 2,none⟩ = some (.string x.f2):=by simpa using f2
        have hq:decide ((i:Int) < (told.length:Int)) = true:=decide_eq_true (by omega)
        have hq2:(i:Int) < (told.length:Int):=by omega
        have hz1:=ud (Below.refl wr.heap.size wr) (.cells #[.string x.f0,.string x.f1,.string x.f2] 34)
        have HN1:=Aside0.mk (ua.new_at wr (.cells #[.string x.f0,.string x.f1,.string x.f2] 34))
        have HZ1:=Aside0.mk (ui HB.out HB.out.size hz1)
        have HZ2:=Aside0.mk (ui HW.out HW.out.size hz1)
        have HCT:Aside0 (Calls Tryz.prog 15 #[.slice A1 l1.length c1,.func (.func 16) #[] #[.pointer (some ⟨wr.heap.size,0,none⟩)]] (wr.alloc (.cells #[.string x.f0,.string x.f1,.string x.f2] 34)) fun e w' => e = .returned (.bool true) ∧ Below (wr.alloc (.cells #[.string x.f0,.string x.f1,.string x.f2] 34)).heap.size (wr.alloc (.cells #[.string x.f0,.string x.f1,.string x.f2] 34)) w'):=⟨by
         have h:=api_Meta_15.calls A1 c1 (l1.take 20) 16 #[.pointer (some ⟨wr.heap.size,0,none⟩)] (fun y => y.f0.toList == x.f0.toList) (wr.alloc (.cells #[.string x.f0,.string x.f1,.string x.f2] 34)) (Kd.C_below HT1.out HZ1.out) (by rw [List.length_take];omega) u2a.enters (fun W' y hb _ => u2a.test x y wr.heap.size W' (ua.below_at hb HN1.out))
         rw [HTOLD.out x hmem,List.length_take,show min 20 l1.length = l1.length by omega] at h
         exact h⟩
        clear f0 f1 f2 hx9 hx hmem hz1
        go_wp2_with (go_at_call 15;go_loud (with_reducible refine HCT.out.mono ?_);rintro e W6 ⟨rfl,hb6⟩;have HW6:=Aside0.mk (ui HZ2.out HZ2.out.size hb6);clear hb6)
        go_roundw
        case rel => exact ⟨i + 1,by go_num,by omega,HW6⟩
        case measure => simp [intOf];omega
      · have hq:decide ((i:Int) < (told.length:Int)) = false:=decide_eq_false (by omega)
        have hq2:decide (i < told.length) = false:=decide_eq_false hlt
        have HF1:=Aside0.mk (ua.below_at HW.out HF0.out)
        have z0:=(uj HF1.out 0).trans rfl
        have z1:=(uj HF1.out 1).trans rfl
        have HC9:=Aside0.mk (Kd.C_below HC73.out HW.out)
        have HS:Aside0 (Calls Tryz.prog 9 #[.slice A7 kk.length c7,.slice A0 40 c0] wr fun e w' => e = .returned (.bool true) ∧ Below wr.heap.size wr w'):=⟨by
         have h:=u1p.calls ks A7 c7 kk A0 c0 (l0.take 40) true wr HC9.out HL7.out (Kd.C_below HT0.out HB.out) (by rw [List.length_take];omega) HSAME.out
         rw [List.length_take,show min 40 l0.length = 40 by omega] at h
         exact h⟩
        clear hlt
        go_wp2_with (first
         | (go_at_call 9;go_loud (with_reducible refine HS.out.mono ?_);rintro e W7 ⟨rfl,hb7⟩;have HB7:=Aside0.mk (ui HB.out HB.out.size hb7);clear hb7)
         | (go_at_call 12;go_loud (with_reducible refine (u2s.calls true _ HAW.out).mono ?_);rintro e W4 ⟨rfl,hb4⟩;have HB4:=Aside0.mk (ui HB7.out HB7.out.size hb4);clear hb4))
        go_ret
        exact ⟨rfl,HB4.out⟩
   · rw [show min 40 l0.length = 40 by omega,show min 20 l1.length = 20 by omega] at HPR
     have pl0:((l0.length:Int) ≤ 40) = False:=eq_false (by omega)
     have ql0:((40:Int) < (l0.length:Int)) = True:=eq_true (by omega)
     have rl0:(l0.length ≤ 40) = False:=eq_false (by omega)
     have pl1:((l1.length:Int) ≤ 20) = False:=eq_false (by omega)
     have ql1:((20:Int) < (l1.length:Int)) = True:=eq_true (by omega)
     have rl1:(l1.length ≤ 20) = False:=eq_false (by omega)
     go_enter Tryz.func5,Tryz.ntmps5
     go_wp2
     go_region
     go_wp2_with (first
      | (go_at_call 13;go_loud (with_reducible refine (HPR.out _ (u2t (Below.refl _ _))).mono ?_);rintro e W1 ⟨A5,c5,rfl,hl5,hC5,hb1⟩;have HR1:=Aside0.mk hC5;have HL1:=Aside0.mk hl5;have HB1:=Aside0.mk (ui (u2t (Below.refl w.heap.size w)) (u2t (Below.refl w.heap.size w)).size hb1);clear hb1 hl5 hC5)
      | (go_at_call 7;go_loud (with_reducible refine (u1a.calls A5 c5 r1 now kk told 0 0 W1 HR1.out HL1.out HPA.out).mono ?_);rintro e W2 ⟨v7,v8,rfl,hr7,hr8,hb2⟩;obtain ⟨A7,c7,e7,hl7,hC7⟩:=Kd.R_reads hr7;obtain ⟨A8,c8,e8,hl8,hC8⟩:=Kd.R_reads hr8;subst e7;subst e8;have HL7:=Aside0.mk hl7;have HC7:=Aside0.mk hC7;have HC8:=Aside0.mk hC8;have HB2:=Aside0.mk (ui HB1.out HB1.out.size hb2);clear hr7 hr8 hb2 hl7 hC7 hl8 hC8))
     have HF0:=Aside0.mk (ua.new_at W2 (.cells #[.int .i64 0,.int .i64 0] 28))
     have HB3:=Aside0.mk (ud HB2.out (.cells #[.int .i64 0,.int .i64 0] 28))
     have HD3:=Aside0.mk (ud (Below.refl W2.heap.size W2) (.cells #[.int .i64 0,.int .i64 0] 28))
     have HC73:=Aside0.mk (Kd.C_below HC7.out HD3.out)
     have HC83:=Aside0.mk (Kd.C_below HC8.out HD3.out)
     have htm:=Kd.C_max HC8.out
     clear HD3 HC7 HC8
     generalize W2.alloc (.cells #[.int .i64 0,.int .i64 0] 28) = W3 at *
     generalize hgz:W2.heap.size = g at *
     clear hgz
     go_loopw [60] (fun v60 wr => ∃ i:Nat,v60 = .int .i64 (i:Int) ∧ i ≤ told.length ∧ Aside0 (Below W3.heap.size W3 wr)) (fun v60 _ => told.length - (intOf v60).toNat)
     case atStart => exact ⟨0,rfl,Nat.zero_le _,⟨Below.refl _ _⟩⟩
     case round =>
      obtain ⟨i,rfl,hi,HW⟩:=hrel
      have HB:=Aside0.mk (ui HB3.out HB3.out.size HW.out)
      by_cases hlt:i < told.length
      · obtain ⟨ad,ea,f0,f1,f2⟩:=at_T34 (Kd.C_below HC83.out HW.out) (i:Int) (by omega) (by omega)
        subst ea
        obtain ⟨x,hx⟩:∃ x,told[i] = x:=⟨_,rfl⟩
        have hx9:rd_T34 told (i:Int) = x:=by rw [← hx];simp [rd_T34,List.getD_eq_getElem?_getD,hlt]
        rw [hx9] at f0 f1 f2
        have hmem:x ∈ told:=by rw [← hx];exact List.getElem_mem hlt
        have hd0:wr.cell? (ad.add (i * 3)) = some (.string x.f0):=by simpa using f0
        have hd1:wr.cell? ⟨(ad.add (i * 3)).block,(ad.add (i * 3)).off + 1,none⟩ = some (.string x.f1):=by simpa using f1
        have hd2:wr.cell? ⟨(ad.add (i * 3)).block,(ad.add (i * 3)).off + 2,none⟩ = some (.string x.f2):=by simpa using f2
        have hq:decide ((i:Int) < (told.length:Int)) = true:=decide_eq_true (by omega)
        have hq2:(i:Int) < (told.length:Int):=by omega
        have hz1:=ud (Below.refl wr.heap.size wr) (.cells #[.string x.f0,.string x.f1,.string x.f2] 34)
        have HN1:=Aside0.mk (ua.new_at wr (.cells #[.string x.f0,.string x.f1,.string x.f2] 34))
        have HZ1:=Aside0.mk (ui HB.out HB.out.size hz1)
        have HZ2:=Aside0.mk (ui HW.out HW.out.size hz1)
        have HCT:Aside0 (Calls Tryz.prog 15 #[.slice A1 20 c1,.func (.func 16) #[] #[.pointer (some ⟨wr.heap.size,0,none⟩)]] (wr.alloc (.cells #[.string x.f0,.string x.f1,.string x.f2] 34)) fun e w' => e = .returned (.bool true) ∧ Below (wr.alloc (.cells #[.string x.f0,.string x.f1,.string x.f2] 34)).heap.size (wr.alloc (.cells #[.string x.f0,.string x.f1,.string x.f2] 34)) w'):=⟨by
         have h:=api_Meta_15.calls A1 c1 (l1.take 20) 16 #[.pointer (some ⟨wr.heap.size,0,none⟩)] (fun y => y.f0.toList == x.f0.toList) (wr.alloc (.cells #[.string x.f0,.string x.f1,.string x.f2] 34)) (Kd.C_below HT1.out HZ1.out) (by rw [List.length_take];omega) u2a.enters (fun W' y hb _ => u2a.test x y wr.heap.size W' (ua.below_at hb HN1.out))
         rw [HTOLD.out x hmem,List.length_take,show min 20 l1.length = 20 by omega] at h
         exact h⟩
        clear f0 f1 f2 hx9 hx hmem hz1
        go_wp2_with (go_at_call 15;go_loud (with_reducible refine HCT.out.mono ?_);rintro e W6 ⟨rfl,hb6⟩;have HW6:=Aside0.mk (ui HZ2.out HZ2.out.size hb6);clear hb6)
        go_roundw
        case rel => exact ⟨i + 1,by go_num,by omega,HW6⟩
        case measure => simp [intOf];omega
      · have hq:decide ((i:Int) < (told.length:Int)) = false:=decide_eq_false (by omega)
        have hq2:decide (i < told.length) = false:=decide_eq_false hlt
        have HF1:=Aside0.mk (ua.below_at HW.out HF0.out)
        have z0:=(uj HF1.out 0).trans rfl
        have z1:=(uj HF1.out 1).trans rfl
        have HC9:=Aside0.mk (Kd.C_below HC73.out HW.out)
        have HS:Aside0 (Calls Tryz.prog 9 #[.slice A7 kk.length c7,.slice A0 40 c0] wr fun e w' => e = .returned (.bool true) ∧ Below wr.heap.size wr w'):=⟨by
         have h:=u1p.calls ks A7 c7 kk A0 c0 (l0.take 40) true wr HC9.out HL7.out (Kd.C_below HT0.out HB.out) (by rw [List.length_take];omega) HSAME.out
         rw [List.length_take,show min 40 l0.length = 40 by omega] at h
         exact h⟩
        clear hlt
        go_wp2_with (first
         | (go_at_call 9;go_loud (with_reducible refine HS.out.mono ?_);rintro e W7 ⟨rfl,hb7⟩;have HB7:=Aside0.mk (ui HB.out HB.out.size hb7);clear hb7)
         | (go_at_call 12;go_loud (with_reducible refine (u2s.calls true _ HAW.out).mono ?_);rintro e W4 ⟨rfl,hb4⟩;have HB4:=Aside0.mk (ui HB7.out HB7.out.size hb4);clear hb4))
        go_ret
        exact ⟨rfl,HB4.out⟩
end Go.Proofs.YtmcpeifhapekoaaGreatDoor.PAll
namespace Go.Proofs.YtmcpeifhapekoaaGreatDoor.Tx
open Go.RowKit Go.Proofs.YtmcpeifhapekoaaGreatDoor.PAll Go.Proofs.YtmcpeifhapekoaaGreatDoorW.PrintWords Go.Proofs.YtmcpeifhapekoaaGreatDoorW.PrintLast
open Go.Proofs.YtmcpeifhapekoaaGreatDoor.Laws (okFrom canB wrap_up)
set_option linter.unusedVariables false
set_option linter.unusedSimpArgs false
theorem fits9_of (l:List Rw) (m:List S34) (hl:∀ r ∈ l,(∀ y ∈ r.f0,y.f0.size ≤ 140737488351232 ∧ y.f1.size ≤ 140737488351232) ∧ (Lit.int .i64 r.f1).wf = true ∧ (Lit.int .u64 r.f2).wf = true)
 (hm:∀ x ∈ m,x.f0.size ≤ 140737488351232 ∧ x.f1.size ≤ 140737488351232 ∧ x.f2.size ≤ 140737488351232):ue.fits (l.take 40) (m.take 20):=by
 refine ⟨fun x hx => ?_,fun r hr => ?_,?_,?_⟩
 · have h:=hm x (List.mem_of_mem_take hx)
   exact ⟨h.1,h.2.2⟩
 · obtain ⟨h1,h2,h3⟩:=hl r (List.mem_of_mem_take hr)
   simp [Lit.wf,IntKind.min,IntKind.max,IntKind.bits,IntKind.signed] at h2 h3
   refine ⟨by omega,fun y hy => ?_⟩
   have h:=h1 y hy
   unfold maxLen
   omega
 · rw [List.length_take]
   omega
 · rw [List.length_take]
   omega
theorem bytes_of_bi (s:B8):Lib.bytesOf (bi9 s) = s:=by
 unfold Lib.bytesOf bi9 ue.bi
 rw [List.map_map]
 have e:((fun n:Int => UInt8.ofNat n.toNat) ∘ fun c:UInt8 => (c.toNat:Int)) = id:=by
  funext c
  show UInt8.ofNat ((c.toNat:Int)).toNat = c
  rw [Int.toNat_natCast,UInt8.ofNat_toNat]
 rw [e,List.map_id]
theorem okMe_of (x:S34) (h:ue.wrongB x = false):okMe (ue.me x):=by
 unfold ue.wrongB at h
 rw [Bool.or_eq_false_iff,Bool.or_eq_false_iff,Bool.or_eq_false_iff] at h
 obtain ⟨⟨⟨h1,h2⟩,h3⟩,h4⟩:=h
 rw [Bool.not_eq_false'] at h1 h3
 refine ⟨h1,?_,h3,?_⟩
 · show x.f1 = Base.ofL [] ∨ knownL x.f1.data.toList = true
   by_cases hb:x.f1 = Base.ofL []
   · exact Or.inl hb
   · rw [decide_eq_false hb,Bool.not_false,Bool.true_and,Bool.not_eq_false'] at h2
     exact Or.inr h2
 · show x.f2.data.toList.length ≤ 900
   rw [← Base.size_list]
   have:=of_decide_eq_false h4
   omega
theorem back_walk (A0:Option Addr) (c0:Nat) (l0:List S53) (A1:Option Addr) (c1:Nat) (l1:List S34) (now:Int) (w:World) (hG:u1k.Gd w) (hr0:Kd.C k53 w A0 l0.length l0) (hc0:l0.length ≤ c0) (hr1:Kd.C k34 w A1 l1.length l1) (hc1:l1.length ≤ c1)
 (b0:l0.length * 40 ≤ 140737488351232 ∧ ∀ y ∈ l0,(y.f0.length * 32 ≤ 140737488351232 ∧ ∀ z ∈ y.f0,z.f0.size ≤ 140737488351232 ∧ z.f1.size ≤ 140737488351232) ∧ (Lit.int .i64 y.f1).wf = true ∧ (Lit.int .u64 y.f2).wf = true)
 (b1:l1.length * 48 ≤ 140737488351232 ∧ ∀ y ∈ l1,y.f0.size ≤ 140737488351232 ∧ y.f1.size ≤ 140737488351232 ∧ y.f2.size ≤ 140737488351232) (b2:(Lit.int .i64 now).wf = true) :
 Calls Tryz.prog 5 #[.slice A0 l0.length c0,.slice A1 l1.length c1,.int .i64 now] w fun e w' => e = .returned (.bool true) ∧ Below w.heap.size w w':=by
 have hf:=fits9_of l0 l1 (fun r hr => ⟨(b0.2 r hr).1.2,(b0.2 r hr).2⟩) b1.2
 have hp:=print_is _ _ hf (by rw [List.length_take];omega) (by rw [List.length_take];omega)
 by_cases hb:(l1.take 20).any ue.wrongB = true ∨ (l0.take 40).any (fun r => !canB r.f0) = true
 · have ho:ue.outB (l0.take 40) (l1.take 20) = ([],1):=by
    unfold ue.outB
    rw [if_pos hb]
   rw [ho] at hp
   exact u2a.refused A0 c0 l0 A1 c1 l1 now w hr0 hc0 hr1 hc1 hG hp hf ho awake9
 · have ho:ue.outB (l0.take 40) (l1.take 20) = (bi9 (printP (l0.take 40) ((l1.take 20).map ue.me)),0):=by
    unfold ue.outB
    rw [if_neg hb]
   rw [ho] at hp
   have hok1:∀ x ∈ l1.take 20,ue.wrongB x = false:=fun x hx => by
    cases h:ue.wrongB x with
    | false => rfl
    | true => exact absurd (Or.inl (List.any_eq_true.2 ⟨x,hx,h⟩)) hb
   have hok2:∀ r ∈ l0.take 40,canB r.f0 = true:=fun r hr => by
    cases h:canB r.f0 with
    | true => rfl
    | false => exact absurd (Or.inr (List.any_eq_true.2 ⟨r,hr,by rw [h];rfl⟩)) hb
   obtain ⟨book,hbk,hnames⟩:=print_back (l0.take 40) ((l1.take 20).map ue.me) now (fun r hr => by
    have h1:=(hf.2.1 r hr).1
    exact ⟨hok2 r hr,by omega,by omega,by omega,by omega⟩) (fun x hx => by
    obtain ⟨y,hy,rfl⟩:=List.mem_map.1 hx
    exact okMe_of y (hok1 y hy)) (by rw [List.length_take];omega) ((printP (l0.take 40) ((l1.take 20).map ue.me)).length + 1) (Nat.lt_succ_self _)
   have hlen:(bi9 (printP (l0.take 40) ((l1.take 20).map ue.me))).length ≤ 100000000:=by
    have h1:=flat_len (fun x => metaS (ue.me x)) 2000 (l1.take 20) (fun x hx => ue.me_len x (hok1 x hx))
    have h2:=flat_len (fun r:Rw => rowL r ++ [10]) 1001 (l0.take 40) (fun r hr => ue.row_len r (hok2 r hr) (hf.2.1 r hr).1)
    have h5:(l0.take 40).length ≤ 40:=by rw [List.length_take];omega
    have h6:(l1.take 20).length ≤ 20:=by rw [List.length_take];omega
    unfold bi9 ue.bi
    rw [List.length_map,printP_is,List.length_append,List.flatMap_map]
    have h3:=Nat.add_le_add h1 h2
    exact Nat.le_trans h3 (by omega)
   have hbl:(bi9 (printP (l0.take 40) ((l1.take 20).map ue.me))).length = (printP (l0.take 40) ((l1.take 20).map ue.me)).length:=by
    unfold bi9 ue.bi
    rw [List.length_map]
   have hpa:u1a.f (bi9 (printP (l0.take 40) ((l1.take 20).map ue.me))) now = some (l0.take 40,book.map u1a.un,0,0):=by
    unfold u1a.f
    rw [if_pos (by omega),bytes_of_bi,hbl,hbk]
   obtain ⟨ks,hks⟩:=(same9_rowsf (l0.take 40) (by rw [List.length_take];omega) (fun r hr => by
    have:=(can_each (hok2 r hr)).2.1
    omega)).rounds
   refine u2a.back A0 c0 l0 A1 c1 l1 now w hr0 hc0 hr1 hc1 hG _ (l0.take 40) (book.map u1a.un) ks hp hpa (fun x hx => ?_) hks awake9
   obtain ⟨z,hz,rfl⟩:=List.mem_map.1 hx
   obtain ⟨y,hy,hyz⟩:=hnames z hz
   obtain ⟨v,hv,rfl⟩:=List.mem_map.1 hy
   refine List.any_eq_true.2 ⟨v,hv,?_⟩
   have e:v.f0 = (u1a.un z).f0:=hyz
   rw [e]
   exact beq_self_eq_true _
end Go.Proofs.YtmcpeifhapekoaaGreatDoor.Tx
