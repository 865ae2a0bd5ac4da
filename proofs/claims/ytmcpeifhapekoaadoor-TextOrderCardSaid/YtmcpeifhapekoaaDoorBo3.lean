/- Texts of this seat, joined in the order in which they build. -/
import Derived.Test.YtmcpeifhapekoaaDoorBo1
import Derived.Test.YtmcpeifhapekoaaDoorBo2
import Derived.Sort.Walk0
namespace Go.Proofs.YtmcpeifhapekoaaDoor.PAll
open Go.RowKit Go.Proofs.YtmcpeifhapekoaaDoorW.PrintWords Go.Proofs.YtmcpeifhapekoaaDoorW.PrintLast Go.Proofs.YtmcpeifhapekoaaDoorW.PrintMore
attribute [local go_sem] max2_int min2_int max_two min_two max_three min_three max_four min_four
set_option linter.unusedVariables false
set_option linter.unusedSimpArgs false
mutual
def u1o.j0:Nat → List (S37) → Bool → Option (Bool)
 | 0,_,_ => none
 | k + 1,x0,x13 => if x13 = true then (some false) else (u1o.l0 k (⟨#[]⟩:ByteArray) x0 (x0.length:Int) 0)
def u1o.l0:Nat → ByteArray → List (S37) → Int → Int → Option (Bool)
 | 0,_,_,_,_ => none
 | k + 1,x3,x14,x15,x16 => if x16 < x15 then (if 0 ≤ x16 then (if x16 < (x14.length:Int) then ((u1m.f ((uq x14 x16).f0)).bind fun t107 => (if t107 = true then ((u2n.f ((uq x14 x16).f1)).bind fun t108 => (if t108 = true then (if ((Op.bytesLess x3.toList (((uq x14 x16).f0).toList)) = true) then (u1o.l0 k ((uq x14 x16).f0) x14 x15 (wrap64 (x16 + 1))) else (some false)) else (some false))) else (some false))) else (none)) else (none)) else (some true)
end
def u1o.f (k:Nat) (l0:List (S37)):Option (Bool):=if (l0.length:Int) = 0 then (u1o.j0 k l0 true) else (u1o.j0 k l0 (decide ((l0.length:Int) > 8)))
set_option maxHeartbeats 8000000 in
set_option maxRecDepth 100000 in
theorem u1o.calls (k:Nat) (A0:Option Addr) (c0:Nat) (l0:List (S37)) (r:Bool) (w:World) (hr0:Kd.C k37 w A0 l0.length l0) (hc0:l0.length ≤ c0) (h:u1o.f k l0 = some r) :
 Calls Tryd.prog 60 #[.slice A0 l0.length c0] w fun e w' => e = .returned (.bool r) ∧ Below w.heap.size w w':=by
 have hu37:=Tryd.underlying37
 have HR0:=Aside0.mk hr0
 have HC0:=Aside0.mk hc0
 clear hr0 hc0
 have HB:=Aside0.mk (Below.refl w.heap.size w)
 have H:(if (l0.length:Int) = 0 then (u1o.j0 k l0 true) else (u1o.j0 k l0 (decide ((l0.length:Int) > 8)))) = some r:=h
 clear h
 have HC2:=Aside0.mk H
 clear H
 go_enter Tryd.func60,Tryd.ntmps60
 go_upto_region 1 with (fail)
 go_cut [13] (fun v13 wc => ∃ (kq:Nat) (x13_1:Bool),v13 = .bool x13_1 ∧ Aside0 (u1o.j0 kq l0 x13_1 = some r) ∧ Aside0 (kq ≤ k) ∧ Aside0 (Below w.heap.size w wc))
 case first =>
  have H:=HC2.out
  clear HC2
  by_cases c3:(l0.length:Int) = 0
  · rw [if_pos c3] at H
    have c3b0:((l0.length:Int) == 0) = true:=beq_iff_eq.mpr c3
    have c3b1:((l0.length:Int) != 0) = false:=bne_eq_false_iff_eq.mpr c3
    clear c3
    (first | rw [c3b0] | (simp only [i64_w,i32_w];rw [c3b0]) | skip)
    have H':=Aside0.mk H
    clear H
    go_wp2
    go_meet
    case rel => exact ⟨_,(true),(by first | rfl | (simp;done) | (simp [*];done)),H',⟨by first | omega | exact Nat.le_refl _⟩,⟨by repeat (first | (with_reducible first | exact HB.out | apply uc | apply ub | apply ud) | exact HB.out)⟩⟩
  · rw [if_neg c3] at H
    have c3b0:((l0.length:Int) == 0) = false:=beq_eq_false_iff_ne.mpr c3
    have c3b1:((l0.length:Int) != 0) = true:=bne_iff_ne.mpr c3
    have c3b2:¬ (l0 = []):=fun h_ => c3 (by rw [h_];rfl)
    (first | rw [c3b0] | (simp only [i64_w,i32_w];rw [c3b0]) | skip)
    have H':=Aside0.mk H
    clear H
    go_wp2
    go_meet
    case rel => exact ⟨_,(decide ((l0.length:Int) > 8)),(by first | rfl | (simp;done) | (simp [*];done)),H',⟨by first | omega | exact Nat.le_refl _⟩,⟨by repeat (first | (with_reducible first | exact HB.out | apply uc | apply ub | apply ud) | exact HB.out)⟩⟩
 case rest =>
  clear HC2
  try clear p2
  try clear c3
  try clear c3b0
  try clear c3b1
  try clear c3b2
  obtain ⟨kq,x13_1,rfl,HA,HJ1,HB⟩:=hcut
  cases kq with
  | zero => exact absurd HA.out (by simp [u1o.j0])
  | succ kj1 =>
    have H:=HA.out
    clear HA
    simp only [u1o.j0] at H
    by_cases c4:x13_1 = true
    · subst c4
      have H1:(some false) = some r:=by rw [if_pos rfl] at H;exact H
      clear H
      have H:=H1
      clear H1
      obtain rfl:=Option.some.inj H
      go_wp2
      go_ret
      exact ⟨by first | rfl | (simp [u1w,u1v] <;> rfl) | (simp [*,u1w,u1v] <;> rfl),by repeat (first | (with_reducible first | exact HB.out | apply uc | apply ub | apply ud) | exact HB.out)⟩
    · replace c4:=Bool.eq_false_iff.mpr c4
      subst c4
      have H1:(u1o.l0 kj1 (⟨#[]⟩:ByteArray) l0 (l0.length:Int) 0) = some r:=by rw [if_neg (show ¬ (false = true) by decide)] at H;exact H
      clear H
      have H:=H1
      clear H1
      have H':=Aside0.mk H
      clear H
      go_wp2
      go_loopg [3,16] kj1 (fun kq v3 v16 w' => ∃ (x3_2:ByteArray) (x16_2:Int),v3 = .string x3_2 ∧ v16 = .int .i64 x16_2 ∧ Aside0 (u1o.l0 kq x3_2 l0 (l0.length:Int) x16_2 = some r) ∧ Aside0 (kq ≤ kj1) ∧ Aside0 (Below w.heap.size w w'))
      case atStart => exact ⟨((⟨#[]⟩:ByteArray)),(0),(by first | rfl | (simp;done) | (simp [*];done)),(by first | rfl | (simp;done) | (simp [*];done)),H',⟨Nat.le_refl _⟩,⟨by repeat (first | (with_reducible first | exact HB.out | apply uc | apply ub | apply ud) | exact HB.out)⟩⟩
      case round =>
       clear H'
       try clear p2
       try clear c3
       try clear c3b0
       try clear c3b1
       try clear c3b2
       try clear c4
       try clear p2
       obtain ⟨x3_2,x16_2,rfl,rfl,HA,HK2,HB⟩:=hrel
       cases gk with
       | zero => exact absurd HA.out (by simp [u1o.l0])
       | succ k2 =>
         have H:=HA.out
         clear HA
         simp only [u1o.l0] at H
         by_cases c5:x16_2 < (l0.length:Int)
         · rw [if_pos c5] at H
           have c5b0:decide (x16_2 < (l0.length:Int)) = true:=decide_eq_true c5
           clear c5
           by_cases c6:0 ≤ x16_2
           · rw [if_pos c6] at H
             have c6b0:decide (0 ≤ x16_2) = true:=decide_eq_true c6
             clear c6
             by_cases c7:x16_2 < (l0.length:Int)
             · rw [if_pos c7] at H
               have c7b0:decide (x16_2 < (l0.length:Int)) = true:=decide_eq_true c7
               clear c7
               replace H:=Option.bind_eq_some_iff.mp H
               obtain ⟨t107,A80,H⟩:=H
               replace H:(if t107 = true then ((u2n.f ((uq l0 x16_2).f1)).bind fun t108 => (if t108 = true then (if ((Op.bytesLess x3_2.toList (((uq l0 x16_2).f0).toList)) = true) then (u1o.l0 k2 ((uq l0 x16_2).f0) l0 (l0.length:Int) (wrap64 (x16_2 + 1))) else (some false)) else (some false))) else (some false)) = some r:=H
               have A8:=Aside0.mk A80
               clear A80
               by_cases c9:t107 = true
               · subst c9
                 have H1:((u2n.f ((uq l0 x16_2).f1)).bind fun t108 => (if t108 = true then (if ((Op.bytesLess x3_2.toList (((uq l0 x16_2).f0).toList)) = true) then (u1o.l0 k2 ((uq l0 x16_2).f0) l0 (l0.length:Int) (wrap64 (x16_2 + 1))) else (some false)) else (some false))) = some r:=by rw [if_pos rfl] at H;exact H
                 clear H
                 have H:=H1
                 clear H1
                 replace H:=Option.bind_eq_some_iff.mp H
                 obtain ⟨t108,A100,H⟩:=H
                 replace H:(if t108 = true then (if ((Op.bytesLess x3_2.toList (((uq l0 x16_2).f0).toList)) = true) then (u1o.l0 k2 ((uq l0 x16_2).f0) l0 (l0.length:Int) (wrap64 (x16_2 + 1))) else (some false)) else (some false)) = some r:=H
                 have A10:=Aside0.mk A100
                 clear A100
                 by_cases c11:t108 = true
                 · subst c11
                   have H1:(if ((Op.bytesLess x3_2.toList (((uq l0 x16_2).f0).toList)) = true) then (u1o.l0 k2 ((uq l0 x16_2).f0) l0 (l0.length:Int) (wrap64 (x16_2 + 1))) else (some false)) = some r:=by rw [if_pos rfl] at H;exact H
                   clear H
                   have H:=H1
                   clear H1
                   by_cases c12:((Op.bytesLess x3_2.toList (((uq l0 x16_2).f0).toList)) = true)
                   · rw [if_pos c12] at H
                     have c12b0:(Op.bytesLess x3_2.toList (((uq l0 x16_2).f0).toList)) = true:=c12
                     clear c12
                     have H':=Aside0.mk H
                     clear H
                     have p105:0 ≤ (x16_2:Int):=of_decide_eq_true (by first | (with_reducible assumption) | assumption)
                     have q105:x16_2 < (l0.length:Int):=of_decide_eq_true (by first | (with_reducible assumption) | assumption)
                     obtain ⟨ad105,e105,hx105_0,hx105_1⟩:=at_T37 HR0.out x16_2 p105 q105
                     cases e105
                     replace hx105_0:=(HB.out.cell (World.block_lt_of_cell? w _ hx105_0)).trans hx105_0
                     replace hx105_1:=(HB.out.cell (World.block_lt_of_cell? w _ hx105_1)).trans hx105_1
                     replace p105:=eq_true p105
                     replace q105:=eq_true q105
                     go_wp2_with (first | ((with_reducible refine u2e (N:=5) rfl ?_);(try (refine u2r (by rfl) ?_;dsimp only));refine u1y ?hg (N:=5) ?hd (cs:=#[.string (⟨#[]⟩:ByteArray),.string (⟨#[]⟩:ByteArray)]) (t:=37) ?hr ?_;(case hd => rfl);(case hg => rfl);(case hr => first | (go_simp;done) | (go_simp;rfl));intro gb106 hg w13 hbox hb;have n0_:=Aside0.mk (uw (by repeat (first | (with_reducible first | exact HB.out | apply uc | apply ub | apply ud) | exact HB.out)) hb);have n1_:=Aside0.mk (hbox);have n2_:=Aside0.mk ((by rw [hg];exact (us (by repeat (first | (with_reducible first | exact HB.out | apply uc | apply ub | apply ud) | exact HB.out))):w.heap.size ≤ gb106));have n3_:=Aside0.mk ((by rw [hg];exact (us (by repeat (first | (with_reducible first | exact HB.out | apply uc | apply ub | apply ud) | exact HB.out))):w.heap.size ≤ gb106));clear HB;have HB:=n0_;have BK106:=n1_;have GW106:=n2_;have GE106:=n3_;clear n0_ n1_ n2_ n3_;clear hb hbox hg;have hcz14_0:w13.cell? ⟨gb106,0,none⟩ = some (.string (⟨#[]⟩:ByteArray)):=(un BK106.out 0).trans rfl;have hcz14_1:w13.cell? ⟨gb106,1,none⟩ = some (.string (⟨#[]⟩:ByteArray)):=(un BK106.out 1).trans rfl;have hfz14_0:=um BK106.out 0;have hfz14_1:=um BK106.out 1) | ((with_reducible refine u1s (f:=77) rfl ?_);refine u2q (some 22) rfl rfl Tryd.func77 (by kernel_rfl) rfl #[.string ((uq l0 x16_2).f0)] rfl (by (try simp only [List.map_toArray,List.map_cons,List.map_nil]);first | done | rfl | (simp only [List.length_drop,List.length_take];rfl)) ?_;(with_reducible refine (u1m.calls ((uq l0 x16_2).f0) true _ A8.out).mono ?_);rintro e w15 ⟨rfl,hb⟩;refine ⟨_,rfl,?_⟩;have n0_:=Aside0.mk (uz (g:=gb106) (o:=.cells #[.string ((uq l0 x16_2).f0),.string ((uq l0 x16_2).f1)] 37 (0,0)) (by (with_reducible repeat (first | refine uf ?_ _ | refine ug ?_ | refine ue ?_ _));refine u2b (cs:=#[.string ((uq l0 x16_2).f0),.string (⟨#[]⟩:ByteArray)]) ?_ 1 _ rfl;(with_reducible repeat (first | refine uf ?_ _ | refine ug ?_ | refine ue ?_ _));refine u2b (cs:=#[.string (⟨#[]⟩:ByteArray),.string (⟨#[]⟩:ByteArray)]) ?_ 0 _ rfl;(with_reducible repeat (first | refine uf ?_ _ | refine ug ?_ | refine ue ?_ _));exact BK106.out) hb);have n1_:=Aside0.mk (uw (by repeat (first | (with_reducible first | exact HB.out | apply uc | apply ub | apply ud | refine uh ?_ GE106.out) | exact HB.out)) hb);clear BK106;clear HB;have BK106:=n0_;have HB:=n1_;clear n0_ n1_;(try clear hb);(try clear hb2);(try clear hk);(try clear hi);have hcz16_0:w15.cell? ⟨gb106,0,none⟩ = some (.string ((uq l0 x16_2).f0)):=(un BK106.out 0).trans rfl;have hcz16_1:w15.cell? ⟨gb106,1,none⟩ = some (.string ((uq l0 x16_2).f1)):=(un BK106.out 1).trans rfl;have hfz16_0:=um BK106.out 0;have hfz16_1:=um BK106.out 1) | (go_at_call 88;(with_reducible refine (u2n.calls ((uq l0 x16_2).f1) true _ A10.out).mono ?_);rintro e w17 ⟨rfl,hb⟩;have n0_:=Aside0.mk (uz (g:=gb106) (o:=.cells #[.string ((uq l0 x16_2).f0),.string ((uq l0 x16_2).f1)] 37 (0,0)) (by (with_reducible repeat (first | refine uf ?_ _ | refine ug ?_ | refine ue ?_ _));exact BK106.out) hb);have n1_:=Aside0.mk (uw (by repeat (first | (with_reducible first | exact HB.out | apply uc | apply ub | apply ud | refine uh ?_ GE106.out) | exact HB.out)) hb);clear BK106;clear HB;have BK106:=n0_;have HB:=n1_;clear n0_ n1_;(try clear hb);(try clear hb2);(try clear hk);(try clear hi);have hcz18_0:w17.cell? ⟨gb106,0,none⟩ = some (.string ((uq l0 x16_2).f0)):=(un BK106.out 0).trans rfl;have hcz18_1:w17.cell? ⟨gb106,1,none⟩ = some (.string ((uq l0 x16_2).f1)):=(un BK106.out 1).trans rfl;have hfz18_0:=um BK106.out 0;have hfz18_1:=um BK106.out 1))
                     go_roundg k2
                     case measure => have:=HJ1.out;have:=HK2.out;omega
                     case rel => exact ⟨((uq l0 x16_2).f0),(wrap64 (x16_2 + 1)),(by first | rfl | (simp;done) | (simp [*];done)),(by first | rfl | (simp;done) | (simp [*];done)),H',⟨by have:=HJ1.out;have:=HK2.out;omega⟩,⟨by repeat (first | (with_reducible first | exact HB.out | apply uc | apply ub | apply ud | refine uh ?_ GE106.out) | exact HB.out)⟩⟩
                   · rw [if_neg c12] at H
                     have c12b0:(Op.bytesLess x3_2.toList (((uq l0 x16_2).f0).toList)) = false:=by simpa using c12
                     clear c12
                     obtain rfl:=Option.some.inj H
                     have p105:0 ≤ (x16_2:Int):=of_decide_eq_true (by first | (with_reducible assumption) | assumption)
                     have q105:x16_2 < (l0.length:Int):=of_decide_eq_true (by first | (with_reducible assumption) | assumption)
                     obtain ⟨ad105,e105,hx105_0,hx105_1⟩:=at_T37 HR0.out x16_2 p105 q105
                     cases e105
                     replace hx105_0:=(HB.out.cell (World.block_lt_of_cell? w _ hx105_0)).trans hx105_0
                     replace hx105_1:=(HB.out.cell (World.block_lt_of_cell? w _ hx105_1)).trans hx105_1
                     replace p105:=eq_true p105
                     replace q105:=eq_true q105
                     go_wp2_with (first | ((with_reducible refine u2e (N:=5) rfl ?_);(try (refine u2r (by rfl) ?_;dsimp only));refine u1y ?hg (N:=5) ?hd (cs:=#[.string (⟨#[]⟩:ByteArray),.string (⟨#[]⟩:ByteArray)]) (t:=37) ?hr ?_;(case hd => rfl);(case hg => rfl);(case hr => first | (go_simp;done) | (go_simp;rfl));intro gb106 hg w19 hbox hb;have n0_:=Aside0.mk (uw (by repeat (first | (with_reducible first | exact HB.out | apply uc | apply ub | apply ud) | exact HB.out)) hb);have n1_:=Aside0.mk (hbox);have n2_:=Aside0.mk ((by rw [hg];exact (us (by repeat (first | (with_reducible first | exact HB.out | apply uc | apply ub | apply ud) | exact HB.out))):w.heap.size ≤ gb106));have n3_:=Aside0.mk ((by rw [hg];exact (us (by repeat (first | (with_reducible first | exact HB.out | apply uc | apply ub | apply ud) | exact HB.out))):w.heap.size ≤ gb106));clear HB;have HB:=n0_;have BK106:=n1_;have GW106:=n2_;have GE106:=n3_;clear n0_ n1_ n2_ n3_;clear hb hbox hg;have hcz20_0:w19.cell? ⟨gb106,0,none⟩ = some (.string (⟨#[]⟩:ByteArray)):=(un BK106.out 0).trans rfl;have hcz20_1:w19.cell? ⟨gb106,1,none⟩ = some (.string (⟨#[]⟩:ByteArray)):=(un BK106.out 1).trans rfl;have hfz20_0:=um BK106.out 0;have hfz20_1:=um BK106.out 1) | ((with_reducible refine u1s (f:=77) rfl ?_);refine u2q (some 22) rfl rfl Tryd.func77 (by kernel_rfl) rfl #[.string ((uq l0 x16_2).f0)] rfl (by (try simp only [List.map_toArray,List.map_cons,List.map_nil]);first | done | rfl | (simp only [List.length_drop,List.length_take];rfl)) ?_;(with_reducible refine (u1m.calls ((uq l0 x16_2).f0) true _ A8.out).mono ?_);rintro e w21 ⟨rfl,hb⟩;refine ⟨_,rfl,?_⟩;have n0_:=Aside0.mk (uz (g:=gb106) (o:=.cells #[.string ((uq l0 x16_2).f0),.string ((uq l0 x16_2).f1)] 37 (0,0)) (by (with_reducible repeat (first | refine uf ?_ _ | refine ug ?_ | refine ue ?_ _));refine u2b (cs:=#[.string ((uq l0 x16_2).f0),.string (⟨#[]⟩:ByteArray)]) ?_ 1 _ rfl;(with_reducible repeat (first | refine uf ?_ _ | refine ug ?_ | refine ue ?_ _));refine u2b (cs:=#[.string (⟨#[]⟩:ByteArray),.string (⟨#[]⟩:ByteArray)]) ?_ 0 _ rfl;(with_reducible repeat (first | refine uf ?_ _ | refine ug ?_ | refine ue ?_ _));exact BK106.out) hb);have n1_:=Aside0.mk (uw (by repeat (first | (with_reducible first | exact HB.out | apply uc | apply ub | apply ud | refine uh ?_ GE106.out) | exact HB.out)) hb);clear BK106;clear HB;have BK106:=n0_;have HB:=n1_;clear n0_ n1_;(try clear hb);(try clear hb2);(try clear hk);(try clear hi);have hcz22_0:w21.cell? ⟨gb106,0,none⟩ = some (.string ((uq l0 x16_2).f0)):=(un BK106.out 0).trans rfl;have hcz22_1:w21.cell? ⟨gb106,1,none⟩ = some (.string ((uq l0 x16_2).f1)):=(un BK106.out 1).trans rfl;have hfz22_0:=um BK106.out 0;have hfz22_1:=um BK106.out 1) | (go_at_call 88;(with_reducible refine (u2n.calls ((uq l0 x16_2).f1) true _ A10.out).mono ?_);rintro e w23 ⟨rfl,hb⟩;have n0_:=Aside0.mk (uz (g:=gb106) (o:=.cells #[.string ((uq l0 x16_2).f0),.string ((uq l0 x16_2).f1)] 37 (0,0)) (by (with_reducible repeat (first | refine uf ?_ _ | refine ug ?_ | refine ue ?_ _));exact BK106.out) hb);have n1_:=Aside0.mk (uw (by repeat (first | (with_reducible first | exact HB.out | apply uc | apply ub | apply ud | refine uh ?_ GE106.out) | exact HB.out)) hb);clear BK106;clear HB;have BK106:=n0_;have HB:=n1_;clear n0_ n1_;(try clear hb);(try clear hb2);(try clear hk);(try clear hi);have hcz24_0:w23.cell? ⟨gb106,0,none⟩ = some (.string ((uq l0 x16_2).f0)):=(un BK106.out 0).trans rfl;have hcz24_1:w23.cell? ⟨gb106,1,none⟩ = some (.string ((uq l0 x16_2).f1)):=(un BK106.out 1).trans rfl;have hfz24_0:=um BK106.out 0;have hfz24_1:=um BK106.out 1))
                     go_ret
                     exact ⟨by first | rfl | (simp [u1w,u1v] <;> rfl) | (simp [*,u1w,u1v] <;> rfl),by repeat (first | (with_reducible first | exact HB.out | apply uc | apply ub | apply ud | refine uh ?_ GE106.out) | exact HB.out)⟩
                 · replace c11:=Bool.eq_false_iff.mpr c11
                   subst c11
                   have H1:(some false) = some r:=by rw [if_neg (show ¬ (false = true) by decide)] at H;exact H
                   clear H
                   have H:=H1
                   clear H1
                   obtain rfl:=Option.some.inj H
                   have p105:0 ≤ (x16_2:Int):=of_decide_eq_true (by first | (with_reducible assumption) | assumption)
                   have q105:x16_2 < (l0.length:Int):=of_decide_eq_true (by first | (with_reducible assumption) | assumption)
                   obtain ⟨ad105,e105,hx105_0,hx105_1⟩:=at_T37 HR0.out x16_2 p105 q105
                   cases e105
                   replace hx105_0:=(HB.out.cell (World.block_lt_of_cell? w _ hx105_0)).trans hx105_0
                   replace hx105_1:=(HB.out.cell (World.block_lt_of_cell? w _ hx105_1)).trans hx105_1
                   replace p105:=eq_true p105
                   replace q105:=eq_true q105
                   go_wp2_with (first | ((with_reducible refine u2e (N:=5) rfl ?_);(try (refine u2r (by rfl) ?_;dsimp only));refine u1y ?hg (N:=5) ?hd (cs:=#[.string (⟨#[]⟩:ByteArray),.string (⟨#[]⟩:ByteArray)]) (t:=37) ?hr ?_;(case hd => rfl);(case hg => rfl);(case hr => first | (go_simp;done) | (go_simp;rfl));intro gb106 hg w25 hbox hb;have n0_:=Aside0.mk (uw (by repeat (first | (with_reducible first | exact HB.out | apply uc | apply ub | apply ud) | exact HB.out)) hb);have n1_:=Aside0.mk (hbox);have n2_:=Aside0.mk ((by rw [hg];exact (us (by repeat (first | (with_reducible first | exact HB.out | apply uc | apply ub | apply ud) | exact HB.out))):w.heap.size ≤ gb106));have n3_:=Aside0.mk ((by rw [hg];exact (us (by repeat (first | (with_reducible first | exact HB.out | apply uc | apply ub | apply ud) | exact HB.out))):w.heap.size ≤ gb106));clear HB;have HB:=n0_;have BK106:=n1_;have GW106:=n2_;have GE106:=n3_;clear n0_ n1_ n2_ n3_;clear hb hbox hg;have hcz26_0:w25.cell? ⟨gb106,0,none⟩ = some (.string (⟨#[]⟩:ByteArray)):=(un BK106.out 0).trans rfl;have hcz26_1:w25.cell? ⟨gb106,1,none⟩ = some (.string (⟨#[]⟩:ByteArray)):=(un BK106.out 1).trans rfl;have hfz26_0:=um BK106.out 0;have hfz26_1:=um BK106.out 1) | ((with_reducible refine u1s (f:=77) rfl ?_);refine u2q (some 22) rfl rfl Tryd.func77 (by kernel_rfl) rfl #[.string ((uq l0 x16_2).f0)] rfl (by (try simp only [List.map_toArray,List.map_cons,List.map_nil]);first | done | rfl | (simp only [List.length_drop,List.length_take];rfl)) ?_;(with_reducible refine (u1m.calls ((uq l0 x16_2).f0) true _ A8.out).mono ?_);rintro e w27 ⟨rfl,hb⟩;refine ⟨_,rfl,?_⟩;have n0_:=Aside0.mk (uz (g:=gb106) (o:=.cells #[.string ((uq l0 x16_2).f0),.string ((uq l0 x16_2).f1)] 37 (0,0)) (by (with_reducible repeat (first | refine uf ?_ _ | refine ug ?_ | refine ue ?_ _));refine u2b (cs:=#[.string ((uq l0 x16_2).f0),.string (⟨#[]⟩:ByteArray)]) ?_ 1 _ rfl;(with_reducible repeat (first | refine uf ?_ _ | refine ug ?_ | refine ue ?_ _));refine u2b (cs:=#[.string (⟨#[]⟩:ByteArray),.string (⟨#[]⟩:ByteArray)]) ?_ 0 _ rfl;(with_reducible repeat (first | refine uf ?_ _ | refine ug ?_ | refine ue ?_ _));exact BK106.out) hb);have n1_:=Aside0.mk (uw (by repeat (first | (with_reducible first | exact HB.out | apply uc | apply ub | apply ud | refine uh ?_ GE106.out) | exact HB.out)) hb);clear BK106;clear HB;have BK106:=n0_;have HB:=n1_;clear n0_ n1_;(try clear hb);(try clear hb2);(try clear hk);(try clear hi);have hcz28_0:w27.cell? ⟨gb106,0,none⟩ = some (.string ((uq l0 x16_2).f0)):=(un BK106.out 0).trans rfl;have hcz28_1:w27.cell? ⟨gb106,1,none⟩ = some (.string ((uq l0 x16_2).f1)):=(un BK106.out 1).trans rfl;have hfz28_0:=um BK106.out 0;have hfz28_1:=um BK106.out 1) | (go_at_call 88;(with_reducible refine (u2n.calls ((uq l0 x16_2).f1) false _ A10.out).mono ?_);rintro e w29 ⟨rfl,hb⟩;have n0_:=Aside0.mk (uz (g:=gb106) (o:=.cells #[.string ((uq l0 x16_2).f0),.string ((uq l0 x16_2).f1)] 37 (0,0)) (by (with_reducible repeat (first | refine uf ?_ _ | refine ug ?_ | refine ue ?_ _));exact BK106.out) hb);have n1_:=Aside0.mk (uw (by repeat (first | (with_reducible first | exact HB.out | apply uc | apply ub | apply ud | refine uh ?_ GE106.out) | exact HB.out)) hb);clear BK106;clear HB;have BK106:=n0_;have HB:=n1_;clear n0_ n1_;(try clear hb);(try clear hb2);(try clear hk);(try clear hi)))
                   go_ret
                   exact ⟨by first | rfl | (simp [u1w,u1v] <;> rfl) | (simp [*,u1w,u1v] <;> rfl),by repeat (first | (with_reducible first | exact HB.out | apply uc | apply ub | apply ud | refine uh ?_ GE106.out) | exact HB.out)⟩
               · replace c9:=Bool.eq_false_iff.mpr c9
                 subst c9
                 have H1:(some false) = some r:=by rw [if_neg (show ¬ (false = true) by decide)] at H;exact H
                 clear H
                 have H:=H1
                 clear H1
                 obtain rfl:=Option.some.inj H
                 have p105:0 ≤ (x16_2:Int):=of_decide_eq_true (by first | (with_reducible assumption) | assumption)
                 have q105:x16_2 < (l0.length:Int):=of_decide_eq_true (by first | (with_reducible assumption) | assumption)
                 obtain ⟨ad105,e105,hx105_0,hx105_1⟩:=at_T37 HR0.out x16_2 p105 q105
                 cases e105
                 replace hx105_0:=(HB.out.cell (World.block_lt_of_cell? w _ hx105_0)).trans hx105_0
                 replace hx105_1:=(HB.out.cell (World.block_lt_of_cell? w _ hx105_1)).trans hx105_1
                 replace p105:=eq_true p105
                 replace q105:=eq_true q105
                 go_wp2_with (first | ((with_reducible refine u2e (N:=5) rfl ?_);(try (refine u2r (by rfl) ?_;dsimp only));refine u1y ?hg (N:=5) ?hd (cs:=#[.string (⟨#[]⟩:ByteArray),.string (⟨#[]⟩:ByteArray)]) (t:=37) ?hr ?_;(case hd => rfl);(case hg => rfl);(case hr => first | (go_simp;done) | (go_simp;rfl));intro gb106 hg w30 hbox hb;have n0_:=Aside0.mk (uw (by repeat (first | (with_reducible first | exact HB.out | apply uc | apply ub | apply ud) | exact HB.out)) hb);have n1_:=Aside0.mk (hbox);have n2_:=Aside0.mk ((by rw [hg];exact (us (by repeat (first | (with_reducible first | exact HB.out | apply uc | apply ub | apply ud) | exact HB.out))):w.heap.size ≤ gb106));have n3_:=Aside0.mk ((by rw [hg];exact (us (by repeat (first | (with_reducible first | exact HB.out | apply uc | apply ub | apply ud) | exact HB.out))):w.heap.size ≤ gb106));clear HB;have HB:=n0_;have BK106:=n1_;have GW106:=n2_;have GE106:=n3_;clear n0_ n1_ n2_ n3_;clear hb hbox hg;have hcz31_0:w30.cell? ⟨gb106,0,none⟩ = some (.string (⟨#[]⟩:ByteArray)):=(un BK106.out 0).trans rfl;have hcz31_1:w30.cell? ⟨gb106,1,none⟩ = some (.string (⟨#[]⟩:ByteArray)):=(un BK106.out 1).trans rfl;have hfz31_0:=um BK106.out 0;have hfz31_1:=um BK106.out 1) | ((with_reducible refine u1s (f:=77) rfl ?_);refine u2q (some 22) rfl rfl Tryd.func77 (by kernel_rfl) rfl #[.string ((uq l0 x16_2).f0)] rfl (by (try simp only [List.map_toArray,List.map_cons,List.map_nil]);first | done | rfl | (simp only [List.length_drop,List.length_take];rfl)) ?_;(with_reducible refine (u1m.calls ((uq l0 x16_2).f0) false _ A8.out).mono ?_);rintro e w32 ⟨rfl,hb⟩;refine ⟨_,rfl,?_⟩;have n0_:=Aside0.mk (uz (g:=gb106) (o:=.cells #[.string ((uq l0 x16_2).f0),.string ((uq l0 x16_2).f1)] 37 (0,0)) (by (with_reducible repeat (first | refine uf ?_ _ | refine ug ?_ | refine ue ?_ _));refine u2b (cs:=#[.string ((uq l0 x16_2).f0),.string (⟨#[]⟩:ByteArray)]) ?_ 1 _ rfl;(with_reducible repeat (first | refine uf ?_ _ | refine ug ?_ | refine ue ?_ _));refine u2b (cs:=#[.string (⟨#[]⟩:ByteArray),.string (⟨#[]⟩:ByteArray)]) ?_ 0 _ rfl;(with_reducible repeat (first | refine uf ?_ _ | refine ug ?_ | refine ue ?_ _));exact BK106.out) hb);have n1_:=Aside0.mk (uw (by repeat (first | (with_reducible first | exact HB.out | apply uc | apply ub | apply ud | refine uh ?_ GE106.out) | exact HB.out)) hb);clear BK106;clear HB;have BK106:=n0_;have HB:=n1_;clear n0_ n1_;(try clear hb);(try clear hb2);(try clear hk);(try clear hi)))
                 go_ret
                 exact ⟨by first | rfl | (simp [u1w,u1v] <;> rfl) | (simp [*,u1w,u1v] <;> rfl),by repeat (first | (with_reducible first | exact HB.out | apply uc | apply ub | apply ud | refine uh ?_ GE106.out) | exact HB.out)⟩
             · rw [if_neg c7] at H
               exact absurd H (by simp)
           · rw [if_neg c6] at H
             exact absurd H (by simp)
         · rw [if_neg c5] at H
           have c5b0:decide (x16_2 < (l0.length:Int)) = false:=decide_eq_false c5
           clear c5
           obtain rfl:=Option.some.inj H
           go_wp2
           go_ret
           exact ⟨by first | rfl | (simp [u1w,u1v] <;> rfl) | (simp [*,u1w,u1v] <;> rfl),by repeat (first | (with_reducible first | exact HB.out | apply uc | apply ub | apply ud) | exact HB.out)⟩
end Go.Proofs.YtmcpeifhapekoaaDoor.PAll
namespace Go.Proofs.YtmcpeifhapekoaaDoor.Laws
open Go.RowKit Go.Proofs.YtmcpeifhapekoaaDoor.PAll Go.Proofs.YtmcpeifhapekoaaDoorW.PrintWords Go.Proofs.YtmcpeifhapekoaaDoorW.PrintLast
set_option linter.unusedVariables false
set_option linter.unusedSimpArgs false
def okFrom:List UInt8 → List S37 → Bool
 | _,[] => true
 | last,x :: r => Base.nameB x.f0 && Base.valueB x.f1 && Op.bytesLess last x.f0.data.toList && okFrom x.f0.data.toList r
def canB (l:List S37):Bool:=decide (1 ≤ l.length) && decide (l.length ≤ 8) && okFrom [] l
theorem rd_drop (l:List S37) (i:Nat) (x:S37) (r:List S37) (h:l.drop i = x :: r):uq l (i:Int) = x ∧ i < l.length ∧ l.drop (i + 1) = r:=by
 have hlt:i < l.length:=by
  rcases Nat.lt_or_ge i l.length with h1 | h1
  · exact h1
  · rw [List.drop_eq_nil_of_le h1] at h
    cases h
 rw [List.drop_eq_getElem_cons hlt] at h
 obtain ⟨h1,h2⟩:=List.cons.inj h
 refine ⟨?_,hlt,h2⟩
 rw [← h1]
 simp [uq,List.getD_eq_getElem?_getD,hlt]
theorem can_l0 (l:List S37) (hl:l.length ≤ 8):∀ (r:List S37) (i:Nat) (last:ByteArray),l.drop i = r →
 Ev (fun k => u1o.l0 k last l (l.length:Int) (i:Int)) (okFrom last.data.toList r):=by
 intro r
 induction r with
 | nil =>
   intro i last h
   have hi:l.length ≤ i:=by
    rcases Nat.lt_or_ge i l.length with h1 | h1
    · rw [List.drop_eq_getElem_cons h1] at h
      cases h
    · exact h1
   refine Ev.step (f:=fun _ => some true) (fun k => ?_) (Ev.now _)
   simp only [u1o.l0]
   rw [if_neg (by omega)]
 | cons x r ih =>
   intro i last h
   obtain ⟨hx,hi,hr⟩:=rd_drop l i x r h
   have hw:wrap64 ((i:Int) + 1) = ((i + 1:Nat):Int):=Base.wrap_nat i (by omega)
   have h1:((i:Int) < (l.length:Int)):=by omega
   have h0:((0:Int) ≤ (i:Int)):=by omega
   cases hn:Base.nameB x.f0 with
   | false =>
     refine Ev.step (f:=fun _ => some false) (fun k => ?_) ?_
     · simp only [u1o.l0]
       rw [if_pos h1,if_pos h0,if_pos h1,hx]
       simp [u1m.f,hn]
     · have:okFrom last.data.toList (x :: r) = false:=by simp [okFrom,hn]
       rw [this]
       exact Ev.now _
   | true =>
     cases hv:Base.valueB x.f1 with
     | false =>
       refine Ev.step (f:=fun _ => some false) (fun k => ?_) ?_
       · simp only [u1o.l0]
         rw [if_pos h1,if_pos h0,if_pos h1,hx]
         simp [u1m.f,u2n.f,hn,hv]
       · have:okFrom last.data.toList (x :: r) = false:=by simp [okFrom,hn,hv]
         rw [this]
         exact Ev.now _
     | true =>
       cases hb:Op.bytesLess last.data.toList x.f0.data.toList with
       | false =>
         refine Ev.step (f:=fun _ => some false) (fun k => ?_) ?_
         · simp only [u1o.l0]
           rw [if_pos h1,if_pos h0,if_pos h1,hx]
           simp [u1m.f,u2n.f,hn,hv,ByteArray.toList_eq,hb]
         · have:okFrom last.data.toList (x :: r) = false:=by simp [okFrom,hn,hv,hb]
           rw [this]
           exact Ev.now _
       | true =>
         have ih2:=ih (i + 1) x.f0 hr
         refine Ev.step (f:=fun k => u1o.l0 k x.f0 l (l.length:Int) ((i + 1:Nat):Int)) (fun k => ?_) ?_
         · simp only [u1o.l0]
           rw [if_pos h1,if_pos h0,if_pos h1,hx,hw]
           simp [u1m.f,u2n.f,hn,hv,ByteArray.toList_eq,hb]
         · have:okFrom last.data.toList (x :: r) = okFrom x.f0.data.toList r:=by simp [okFrom,hn,hv,hb]
           rw [this]
           exact ih2
theorem can_ev (l:List S37):Ev (fun k => u1o.f k l) (canB l):=by
 by_cases h0:l.length = 0
 · have hc:canB l = false:=by simp [canB,h0]
   rw [hc]
   refine Ev.congr (f:=fun k => u1o.j0 k l true) (fun k => ?_) ?_
   · simp only [u1o.f]
     rw [if_pos (by omega)]
   · refine Ev.step (f:=fun _ => some false) (fun k => ?_) (Ev.now _)
     simp only [u1o.j0]
     simp
 · refine Ev.congr (f:=fun k => u1o.j0 k l (decide ((l.length:Int) > 8))) (fun k => ?_) ?_
   · simp only [u1o.f]
     rw [if_neg (by omega)]
   · by_cases h8:l.length ≤ 8
     · have hc:canB l = okFrom [] l:=by
        have h1:1 ≤ l.length:=by omega
        simp [canB,h1,h8]
       rw [hc]
       refine Ev.step (f:=fun k => u1o.l0 k (⟨#[]⟩:ByteArray) l (l.length:Int) 0) (fun k => ?_) (can_l0 l h8 l 0 ⟨#[]⟩ rfl)
       simp only [u1o.j0]
       rw [if_neg (by simp;omega)]
     · have hc:canB l = false:=by simp [canB,h8]
       rw [hc]
       refine Ev.step (f:=fun _ => some false) (fun k => ?_) (Ev.now _)
       simp only [u1o.j0]
       rw [if_pos (by simp;omega)]
theorem nameB_size {s:ByteArray} (h:Base.nameB s = true):1 ≤ s.size ∧ s.size ≤ 24:=by
 simp only [Base.nameB,Bool.and_eq_true,decide_eq_true_eq] at h
 omega
end Go.Proofs.YtmcpeifhapekoaaDoor.Laws
namespace Go.Proofs.YtmcpeifhapekoaaDoor.Tx
open Go.RowKit Go.Proofs.YtmcpeifhapekoaaDoor.PAll Go.Proofs.YtmcpeifhapekoaaDoorW.PrintWords Go.Proofs.YtmcpeifhapekoaaDoorW.PrintLast
open Go.Proofs.YtmcpeifhapekoaaDoor.Laws (okFrom canB)
set_option linter.unusedVariables false
set_option linter.unusedSimpArgs false
theorem expect_cons (c d:UInt8) (t:B8):expectP [c] (d :: t) = if d = c then some t else none:=by
 unfold expectP
 by_cases h:d = c
 · subst h
   simp [List.isPrefixOf]
 · rw [if_neg h,if_neg]
   simp [List.isPrefixOf]
   exact fun e => h e.symm
def okN (l:List Lb):Bool:=l.all fun x => Base.nameB x.f0
theorem label_is (s:B8):labelP s = if Base.nameB (Base.ofL (s.takeWhile wordC)) = true then (valP (s.dropWhile wordC)).map fun q => (⟨Base.ofL (s.takeWhile wordC),q.1⟩,q.2) else none:=by
 unfold labelP nameP
 split <;> rfl
theorem insR_perm (x:Lb):∀ r:List Lb,(insR x r).Perm (x :: r)
 | [] => List.Perm.refl _
 | y :: r => by
   unfold insR
   split
   · exact ((insR_perm x r).cons y).trans (List.Perm.swap x y r)
   · exact List.Perm.refl _
theorem ins_fold_perm:∀ (l acc:List Lb),(l.foldl (fun r x => insR x r) acc).Perm (acc ++ l)
 | [],acc => by simp
 | x :: l,acc => by
   rw [List.foldl_cons]
   refine (ins_fold_perm l (insR x acc)).trans ?_
   refine ((insR_perm x acc).append_right l).trans ?_
   exact List.perm_middle.symm
theorem less_iff (a b:List UInt8):Op.bytesLess a b = true ↔ a < b:=by rw [Go.Proofs.bytesLess_eq];exact decide_eq_true_iff
theorem less_tr {a b c:List UInt8} (h1:Op.bytesLess a b = true) (h2:Op.bytesLess b c = true):Op.bytesLess a c = true:=by
 rw [less_iff] at *
 exact List.lt_trans h1 h2
theorem ok_above:∀ (l:List Lb) (last:List UInt8),okFrom last l = true → ∀ x ∈ l,Op.bytesLess last x.f0.data.toList = true
 | y :: l,last,h,x,hx => by
   unfold okFrom at h
   rw [Bool.and_eq_true,Bool.and_eq_true] at h
   rcases List.mem_cons.1 hx with rfl | hx
   · exact h.1.2
   · exact less_tr h.1.2 (ok_above l _ h.2 x hx)
theorem ok_nodup:∀ (l:List Lb) (last:List UInt8),okFrom last l = true → (l.map (·.f0)).Nodup
 | [],last,h => List.nodup_nil
 | y :: l,last,h => by
   unfold okFrom at h
   rw [Bool.and_eq_true] at h
   rw [List.map_cons,List.nodup_cons]
   refine ⟨fun hm => ?_,ok_nodup l _ h.2⟩
   obtain ⟨x,hx,e⟩:=List.mem_map.1 hm
   have:=ok_above l _ h.2 x hx
   rw [e,Base.less_irrefl] at this
   cases this
theorem can_names {l:List Lb} (h:canB l = true):l.length ≤ 8 ∧ okN l = true ∧ (l.map (·.f0)).Nodup:=by
 unfold canB at h
 rw [Bool.and_eq_true,Bool.and_eq_true] at h
 refine ⟨of_decide_eq_true h.1.2,?_,ok_nodup _ _ h.2⟩
 have:∀ (l:List Lb) (last:List UInt8),okFrom last l = true → okN l = true:=fun l => by
  induction l with
  | nil => exact fun _ _ => rfl
  | cons y l ih =>
    intro last h
    unfold okFrom at h
    rw [Bool.and_eq_true,Bool.and_eq_true,Bool.and_eq_true] at h
    unfold okN
    rw [List.all_cons,h.1.1.1,Bool.true_and]
    exact ih _ h.2
 exact this _ _ h.2
end Go.Proofs.YtmcpeifhapekoaaDoor.Tx
namespace Go.Proofs.YtmcpeifhapekoaaDoor.Tx
open Go.RowKit Go.Proofs.YtmcpeifhapekoaaDoor.PAll Go.Proofs.YtmcpeifhapekoaaDoorW.PrintWords Go.Proofs.YtmcpeifhapekoaaDoorW.PrintLast
open Go.Proofs.YtmcpeifhapekoaaDoor.Laws (okFrom canB)
theorem awake_read:readP canB [117,112,123,106,111,98,61,34,120,34,125,32,48,120,49,102,32,55] 0 = (some ⟨[⟨metric,Base.ofL [117,112]⟩,⟨Base.ofL [106,111,98],Base.ofL [120]⟩],7,31⟩,me0,0):=by kernel_rfl
end Go.Proofs.YtmcpeifhapekoaaDoor.Tx
namespace Go.Proofs.YtmcpeifhapekoaaDoor.Laws
open Go.RowKit Go.Proofs.YtmcpeifhapekoaaDoor.PAll Go.Proofs.YtmcpeifhapekoaaDoorW.PrintWords Go.Proofs.YtmcpeifhapekoaaDoorW.PrintLast
set_option linter.unusedVariables false
set_option linter.unusedSimpArgs false
theorem head_drop (s:ByteArray) (i:Nat) (c:UInt8) (r:List UInt8) (h:s.data.toList.drop i = c :: r):i < s.size ∧ bt s (i:Int) = (c.toNat:Int) ∧ s.data.toList.drop (i + 1) = r ∧ (s.extract i (i + 1)) = Base.ofL [c] ∧ r.length + i + 1 = s.size:=by
 have hlt:i < s.data.toList.length:=by
  rcases Nat.lt_or_ge i s.data.toList.length with h1 | h1
  · exact h1
  · rw [List.drop_eq_nil_of_le h1] at h
    cases h
 have hs:s.size = s.data.toList.length:=Base.size_list s
 have hlen:(s.data.toList.drop i).length = s.data.toList.length - i:=List.length_drop
 rw [h] at hlen
 simp only [List.length_cons] at hlen
 have h':=h
 rw [List.drop_eq_getElem_cons hlt] at h
 obtain ⟨h1,h2⟩:=List.cons.inj h
 refine ⟨by omega,?_,h2,?_,by omega⟩
 · rw [Base.bt_list s i (by omega),List.getD_eq_getElem?_getD,List.getElem?_eq_getElem hlt,h1]
   rfl
 · refine Base.ext_data ?_
   rw [Base.extract_list,Base.ofL_data,h']
   have:i + 1 - i = 1:=by omega
   rw [this]
   rfl
theorem byte_is (c:UInt8):((c.toNat:Int) = 34 ↔ c = 34) ∧ ((c.toNat:Int) = 92 ↔ c = 92):=by
 refine ⟨⟨fun e => UInt8.toNat_inj.1 (by simpa using (by omega:c.toNat = 34)),fun e => by rw [e];rfl⟩,⟨fun e => UInt8.toNat_inj.1 (by simpa using (by omega:c.toNat = 92)),fun e => by rw [e];rfl⟩⟩
theorem drop_end (s:ByteArray) (i:Nat) (h:s.data.toList.drop i = []):s.size ≤ i:=by
 have hs:s.size = s.data.toList.length:=Base.size_list s
 rcases Nat.lt_or_ge i s.data.toList.length with h1 | h1
 · rw [List.drop_eq_getElem_cons h1] at h
   cases h
 · omega
theorem rquote_l0 (s:ByteArray) (hs:s.size ≤ 140737488355232):∀ (r:List UInt8) (i:Nat) (acc:ByteArray),s.data.toList.drop i = r → i ≤ s.size → acc.size ≤ 2 * i + 1 →
 Ev (fun k => u1h.l0 k s acc (i:Int)) (Base.ofL (acc.data.toList ++ (r.flatMap Base.quoteByte ++ [34]))):=by
 intro r
 induction r with
 | nil =>
   intro i acc h hi ha
   have hi2:=drop_end s i h
   refine Ev.step (f:=fun _ => some (Base.ofL (acc.data.toList ++ [34]))) (fun k => ?_) (by simpa using Ev.now (Base.ofL (acc.data.toList ++ [34])))
   simp only [u1h.l0]
   rw [if_neg (by omega),if_pos (by omega)]
   congr 1
 | cons c r ih =>
   intro i acc h hi ha
   obtain ⟨hlt,hbt,hr,hex,hlen⟩:=head_drop s i c r h
   have hw:wrap64 ((i:Int) + 1) = ((i + 1:Nat):Int):=Base.wrap_nat i (by omega)
   have h1:((i:Int) < (s.size:Int)):=by omega
   have h0:((0:Int) ≤ (i:Int)):=by omega
   have hb:=Aside0.mk (byte_is c)
   have hsz1:(Base.ofL [c]).size = 1:=by rw [Base.size_list,Base.ofL_data];rfl
   have hszb:(acc ++ (⟨#[92]⟩:ByteArray)).size = acc.size + 1:=by
    rw [Base.size_list,Base.append_data,List.length_append,← Base.size_list]
    rfl
   have hex2:s.extract (i:Int).toNat ((i + 1:Nat):Int).toNat = Base.ofL [c]:=hex
   by_cases hq:c = 34 ∨ c = 92
   · have hqb:Base.quoteByte c = [92,c]:=by unfold Base.quoteByte;rw [if_pos hq]
     have ih2:=ih (i + 1) ((acc ++ (⟨#[92]⟩:ByteArray)) ++ Base.ofL [c]) hr (by omega) (by rw [Base.size_list,Base.append_data,List.length_append,← Base.size_list,hszb,Base.ofL_data];simp;omega)
     have he:Base.ofL (acc.data.toList ++ ((c :: r).flatMap Base.quoteByte ++ [34])) = Base.ofL (((acc ++ (⟨#[92]⟩:ByteArray)) ++ Base.ofL [c]).data.toList ++ (r.flatMap Base.quoteByte ++ [34])):=by
      congr 1
      rw [Base.append_data,Base.append_data,Base.ofL_data,List.flatMap_cons,hqb]
      simp
     rw [he]
     refine Ev.step (fun k => ?_) ih2
     simp only [u1h.l0]
     rw [if_pos h1,if_pos h0,hbt,hw]
     rcases hq with hq | hq
     · rw [if_pos (hb.out.1.2 hq),if_pos (by omega),if_pos (by omega),if_pos (by omega),hex2,if_pos (by rw [hszb,hsz1];omega)]
     · rw [if_neg (fun e => by have:=hb.out.1.1 e;rw [hq] at this;exact absurd this (by decide)),if_pos (hb.out.2.2 hq),if_pos (by omega),if_pos (by omega),if_pos (by omega),hex2,if_pos (by rw [hszb,hsz1];omega)]
   · have hqb:Base.quoteByte c = [c]:=by unfold Base.quoteByte;rw [if_neg hq]
     have ih2:=ih (i + 1) (acc ++ Base.ofL [c]) hr (by omega) (by rw [Base.size_list,Base.append_data,List.length_append,← Base.size_list,Base.ofL_data];simp;omega)
     have he:Base.ofL (acc.data.toList ++ ((c :: r).flatMap Base.quoteByte ++ [34])) = Base.ofL ((acc ++ Base.ofL [c]).data.toList ++ (r.flatMap Base.quoteByte ++ [34])):=by
      congr 1
      rw [Base.append_data,Base.ofL_data,List.flatMap_cons,hqb]
      simp
     rw [he]
     refine Ev.step (fun k => ?_) ih2
     simp only [u1h.l0]
     rw [if_pos h1,if_pos h0,hbt,hw,if_neg (fun e => hq (.inl (hb.out.1.1 e))),if_neg (fun e => hq (.inr (hb.out.2.1 e))),if_pos (by omega),if_pos (by omega),hex2,if_pos (by rw [hsz1];omega)]
theorem rquote_ev (s:ByteArray) (hs:s.size ≤ 140737488355232):Ev (fun k => u1h.f k s) (Base.quoteS s):=by
 have h:=rquote_l0 s hs s.data.toList 0 ⟨#[34]⟩ rfl (by omega) (by decide)
 refine Ev.congr (fun k => rfl) ?_
 have he:Base.quoteS s = Base.ofL ((⟨#[34]⟩:ByteArray).data.toList ++ (s.data.toList.flatMap Base.quoteByte ++ [34])):=rfl
 rw [he]
 exact h
end Go.Proofs.YtmcpeifhapekoaaDoor.Laws
namespace Go.Proofs.YtmcpeifhapekoaaDoor.Tx
open Go.RowKit Go.Proofs.YtmcpeifhapekoaaDoor.PAll Go.Proofs.YtmcpeifhapekoaaDoorW.PrintWords Go.Proofs.YtmcpeifhapekoaaDoorW.PrintLast
open Go.Proofs.YtmcpeifhapekoaaDoor.Laws (okFrom canB)
set_option linter.unusedVariables false
set_option linter.unusedSimpArgs false
def pieceQ (x:Lb):B8:=x.f0.data.toList ++ 61 :: Base.quoteL x.f1.data.toList
theorem unq_gen:∀ (l acc rest:List UInt8),Base.unqL (l.flatMap Base.quoteByte ++ (34 :: rest)) acc = some (acc ++ l,rest):=by
 intro l
 induction l with
 | nil =>
   intro acc rest
   simp [Base.unqL_end]
 | cons c r ih =>
   intro acc rest
   rw [List.flatMap_cons,List.append_assoc]
   rw [show Base.quoteByte c = if c = 34 ∨ c = 92 then [92,c] else [c] from rfl]
   by_cases h:c = 34 ∨ c = 92
   · rw [if_pos h]
     simp only [List.cons_append,List.nil_append]
     rw [Base.unqL_esc _ _ _ h,ih]
     simp
   · rw [if_neg h]
     simp only [List.cons_append,List.nil_append]
     rw [Base.unqL_plain _ _ _ (fun e => h (Or.inl e)) (fun e => h (Or.inr e)),ih]
     simp
theorem quoted_back (s:ByteArray) (t:B8):quotedP (Base.quoteL s.data.toList ++ t) = some (s,t):=by
 unfold Base.quoteL quotedP
 simp only [List.cons_append,List.append_assoc,List.nil_append]
 rw [if_pos trivial,unq_gen]
 simp [Base.ofL_of]
theorem all_word {s:ByteArray} (h:Base.nameB s = true):∀ c ∈ s.data.toList,wordC c = true:=by
 unfold Base.nameB at h
 rw [Bool.and_eq_true] at h
 have h2:=List.all_eq_true.1 h.2
 intro c hc
 have:=h2 (c.toNat:Int) (by
  unfold bytesOf
  exact List.mem_map_of_mem hc)
 exact this
theorem take_word (a:B8) (h:∀ c ∈ a,wordC c = true) (c:UInt8) (hc:wordC c = false) (t:B8):(a ++ c :: t).takeWhile wordC = a ∧ (a ++ c :: t).dropWhile wordC = c :: t:=by
 induction a with
 | nil => simp [hc]
 | cons x a ih =>
   have hx:=h x (List.mem_cons_self ..)
   obtain ⟨h1,h2⟩:=ih (fun c hc => h c (List.mem_cons_of_mem _ hc))
   simp only [List.cons_append,List.takeWhile_cons,List.dropWhile_cons,hx,if_true,h1,h2,and_self]
theorem label_back (x:Lb) (hn:Base.nameB x.f0 = true) (t:B8):labelP (pieceQ x ++ t) = some (x,t):=by
 obtain ⟨h1,h2⟩:=take_word x.f0.data.toList (all_word hn) 61 (by decide) (Base.quoteL x.f1.data.toList ++ t)
 have e:pieceQ x ++ t = x.f0.data.toList ++ 61 :: (Base.quoteL x.f1.data.toList ++ t):=by simp [pieceQ]
 rw [label_is,e,h1,h2,Base.ofL_of,if_pos hn]
 unfold valP
 rw [expect_cons,if_pos rfl]
 simp only [Option.bind_some,quoted_back,Option.map_some]
theorem labels_back:∀ (l acc:List Lb) (n:Nat) (t:B8),(∀ x ∈ l,Base.nameB x.f0 = true) → acc.length + l.length ≤ 9 → l.length < n → labelsP n acc (l.flatMap (fun x => 44 :: pieceQ x) ++ 125 :: t) = some (acc ++ l,125 :: t)
 | [],acc,0,t,_,_,h => by simp at h
 | [],acc,n + 1,t,_,_,_ => by simp [labelsP]
 | x :: l,acc,0,t,_,_,h => by simp at h
 | x :: l,acc,n + 1,t,hn,hl,h => by
   simp only [List.flatMap_cons,List.cons_append,List.append_assoc,labelsP,List.length_cons] at hl h ⊢
   rw [if_pos (by omega),label_back x (hn x (List.mem_cons_self ..))]
   simp only [Option.bind_some]
   rw [labels_back l (acc ++ [x]) n t (fun y hy => hn y (List.mem_cons_of_mem _ hy)) (by simp;omega) (by omega)]
   simp
theorem braces_back (x:Lb) (l:List Lb) (t:B8) (hn:∀ y ∈ x :: l,Base.nameB y.f0 = true) (hl:l.length ≤ 8):bracesP (123 :: (pieceQ x ++ l.flatMap (fun x => 44 :: pieceQ x)) ++ 125 :: t) = some (x :: l,t):=by
 unfold bracesP
 have hlen:l.length < (123 :: (pieceQ x ++ l.flatMap (fun x => 44 :: pieceQ x)) ++ 125 :: t).length:=by
  have:l.length ≤ (l.flatMap (fun x => 44 :: pieceQ x)).length:=by
   clear hn hl
   induction l with
   | nil => exact Nat.zero_le _
   | cons y l ih =>
     rw [List.flatMap_cons,List.length_append,List.length_cons,List.length_cons]
     omega
  simp only [List.length_append,List.length_cons]
  omega
 simp only [List.cons_append,List.append_assoc] at hlen ⊢
 rw [expect_cons,if_pos rfl]
 simp only [Option.bind_some]
 rw [label_back x (hn x (List.mem_cons_self ..))]
 simp only [Option.bind_some]
 rw [labels_back l [x] _ t (fun y hy => hn y (List.mem_cons_of_mem _ hy)) (by simp;omega) hlen]
 simp only [Option.bind_some,expect_cons,if_pos,Option.map_some,List.singleton_append]
def Desc (r:List Lb):Prop:=r.Pairwise fun y z => less z.f0 y.f0 = true
theorem less_or {a b:ByteArray} (h:¬ less a b = true) (hne:b ≠ a):less b a = true:=by
 have h0:Op.bytesLess a.data.toList b.data.toList = false:=by simpa [less] using h
 have h1:=Base.less_or a.data.toList b.data.toList
 rw [h0,Bool.false_or] at h1
 cases h2:Op.bytesLess b.data.toList a.data.toList with
 | true => exact h2
 | false =>
   rw [h2] at h1
   simp at h1
   exact absurd (Base.ext_data (by rw [h1])).symm hne
theorem desc_ins (x:Lb):∀ r:List Lb,Desc r → (∀ y ∈ r,y.f0 ≠ x.f0) → Desc (insR x r)
 | [],_,_ => List.pairwise_singleton _ _
 | y :: r,hd,hx => by
   obtain ⟨h1,h2⟩:=List.pairwise_cons.1 hd
   unfold insR
   split
   · rename_i h
     refine List.pairwise_cons.2 ⟨fun z hz => ?_,desc_ins x r h2 (fun z hz => hx z (List.mem_cons_of_mem _ hz))⟩
     rcases List.mem_cons.1 ((insR_perm x r).mem_iff.1 hz) with rfl | hz
     · exact h
     · exact h1 z hz
   · rename_i h
     have hyx:=less_or h (hx y (List.mem_cons_self ..))
     refine List.pairwise_cons.2 ⟨fun z hz => ?_,hd⟩
     rcases List.mem_cons.1 hz with rfl | hz
     · exact hyx
     · exact less_tr (h1 z hz) hyx
theorem desc_fold:∀ (l r:List Lb),Desc r → ((r ++ l).map (·.f0)).Nodup → Desc (l.foldl (fun r x => insR x r) r)
 | [],r,h,_ => h
 | x :: l,r,h,hn => by
   rw [List.foldl_cons]
   have hp:(insR x r ++ l).Perm (r ++ x :: l):=((insR_perm x r).append_right l).trans List.perm_middle.symm
   refine desc_fold l _ (desc_ins x r h fun y hy e => ?_) ((hp.map _).nodup_iff.2 hn)
   rw [List.map_append,List.nodup_append] at hn
   exact hn.2.2 y.f0 (List.mem_map_of_mem hy) x.f0 (by simp) e
theorem desc_same:∀ (a b:List Lb),Desc a → Desc b → a.Perm b → a = b
 | [],b,_,_,h => by simpa using h.symm.eq_nil.symm
 | x :: a,[],_,_,h => by simpa using h.length_eq
 | x :: a,y :: b,ha,hb,h => by
   obtain ⟨h1,h2⟩:=List.pairwise_cons.1 ha
   obtain ⟨h3,h4⟩:=List.pairwise_cons.1 hb
   have e:x = y:=by
    rcases List.mem_cons.1 (h.mem_iff.1 (List.mem_cons_self ..)) with e | hx
    · exact e
    · rcases List.mem_cons.1 (h.mem_iff.2 (List.mem_cons_self ..)) with e | hy
      · exact e.symm
      · have g1:=h3 x hx
        have g2:=h1 y hy
        have:=less_tr g1 g2
        rw [Base.less_irrefl] at this
        cases this
   subst e
   rw [desc_same a b h2 h4 (List.perm_cons x |>.1 h)]
theorem ok_desc:∀ (l:List Lb) (last:List UInt8),okFrom last l = true → l.Pairwise fun y z => less y.f0 z.f0 = true
 | [],_,_ => List.Pairwise.nil
 | y :: l,last,h => by
   unfold okFrom at h
   rw [Bool.and_eq_true] at h
   exact List.pairwise_cons.2 ⟨fun z hz => ok_above l _ h.2 z hz,ok_desc l _ h.2⟩
theorem sort_back (l m:List Lb) (hl:canB l = true) (hp:m.Perm l):sortP m = l:=by
 have hn:=(can_names hl).2.2
 unfold canB at hl
 rw [Bool.and_eq_true] at hl
 have hd:=ok_desc l [] hl.2
 have h1:Desc (m.foldl (fun r x => insR x r) []):=desc_fold m [] List.Pairwise.nil (by rw [List.nil_append];exact ((hp.map _).nodup_iff).2 hn)
 have h2:Desc l.reverse:=List.pairwise_reverse.2 hd
 have h3:(m.foldl (fun r x => insR x r) []).Perm l.reverse:=by
  have:=ins_fold_perm m []
  rw [List.nil_append] at this
  exact (this.trans hp).trans (List.reverse_perm l).symm
 unfold sortP
 rw [desc_same _ _ h1 h2 h3,List.reverse_reverse]
def decN (n:Nat):B8:=if n < 10 then [UInt8.ofNat (48 + n)] else decN (n / 10) ++ [UInt8.ofNat (48 + n % 10)]
decreasing_by omega
theorem dec_dig (n:Nat) (h:n < 10):(UInt8.ofNat (48 + n)).toNat = 48 + n:=by
 rw [UInt8.toNat_ofNat']
 omega
theorem decN_all (n:Nat):∀ c ∈ decN n,decC c = true:=by
 induction n using Nat.strongRecOn with
 | ind n ih =>
   unfold decN
   split
   · rename_i h
     intro c hc
     rw [List.mem_singleton] at hc
     subst hc
     unfold decC
     rw [dec_dig n h,decide_eq_true (by omega),decide_eq_true (by omega)]
     rfl
   · rename_i h
     intro c hc
     rcases List.mem_append.1 hc with hc | hc
     · exact ih (n / 10) (by omega) c hc
     · rw [List.mem_singleton] at hc
       subst hc
       unfold decC
       rw [dec_dig (n % 10) (by omega),decide_eq_true (by omega),decide_eq_true (by omega)]
       rfl
theorem decN_len (k:Nat):∀ n:Nat,n < 10 ^ (k + 1) → 1 ≤ (decN n).length ∧ (decN n).length ≤ k + 1:=by
 induction k with
 | zero =>
   intro n h
   unfold decN
   rw [if_pos (by simpa using h)]
   simp
 | succ k ih =>
   intro n h
   unfold decN
   split
   · simp
   · rename_i h9
     have:=ih (n / 10) (by rw [Nat.pow_succ] at h;omega)
     simp only [List.length_append,List.length_singleton]
     omega
theorem numL_app (b:Int):∀ (l m:B8) (n:Int),numL b (l ++ m) n = (numL b l n).bind fun x => numL b m x
 | [],m,n => rfl
 | c :: l,m,n => by
   simp only [List.cons_append,numL]
   split
   · exact numL_app b l m _
   · rfl
theorem dec_step (x:Int) (d:Nat) (hx:0 ≤ x) (hd:d < 10) (h:x * 10 + d ≤ 18446744073709551615):numL 10 [UInt8.ofNat (48 + d)] x = some (x * 10 + d):=by
 have e:digV (UInt8.ofNat (48 + d)) = d:=by
  unfold digV
  rw [dec_dig d hd,if_neg (by omega)]
  omega
 unfold numL
 rw [e,if_pos (by omega)]
 rfl
theorem decN_back:∀ n:Nat,n ≤ 18446744073709551615 → numL 10 (decN n) 0 = some (n:Int):=by
 intro n
 induction n using Nat.strongRecOn with
 | ind n ih =>
   intro hn
   unfold decN
   split
   · rename_i h
     have:=dec_step 0 n (by omega) h (by omega)
     rw [this]
     simp
   · rename_i h
     rw [numL_app,ih (n / 10) (by omega) (by omega)]
     simp only [Option.bind_some]
     rw [dec_step _ (n % 10) (by omega) (by omega) (by omega)]
     congr 1
     omega
theorem take_dig (h:Bool) (a:B8) (ha:∀ c ∈ a,digC h c = true) (t:B8) (ht:t.head?.all (fun c => !digC h c) = true):(a ++ t).takeWhile (digC h) = a ∧ (a ++ t).dropWhile (digC h) = t:=by
 induction a with
 | nil =>
   cases t with
   | nil => simp
   | cons c t =>
     have:digC h c = false:=by simpa using ht
     simp [this]
 | cons x a ih =>
   have hx:=ha x (List.mem_cons_self ..)
   obtain ⟨h1,h2⟩:=ih (fun c hc => ha c (List.mem_cons_of_mem _ hc))
   simp only [List.cons_append,List.takeWhile_cons,List.dropWhile_cons,hx,if_true,h1,h2,and_self]
theorem valueD_back (n most:Nat) (t:B8) (hn:n ≤ 18446744073709551615) (hm:(decN n).length ≤ most) (ht:t.head?.all (fun c => !decC c) = true):valueD false most 10 (decN n ++ t) = some ((n:Int),t):=by
 obtain ⟨h1,h2⟩:=take_dig false (decN n) (fun c hc => decN_all n c hc) t ht
 have h3:decN n ≠ []:=by
  have:=(decN_len 20 n (by omega)).1
  intro e
  rw [e] at this
  simp at this
 unfold valueD digitsP
 rw [h1,h2,if_pos ⟨h3,hm⟩]
 simp only [Option.bind_some,decN_back n hn,Option.map_some]
theorem decN_head (n:Nat):∃ c r,decN n = c :: r ∧ decC c = true:=by
 have h1:=(decN_len n n (by
  have:=Nat.lt_pow_self (n:=n + 1) (a:=10) (by decide)
  omega)).1
 cases h:decN n with
 | nil => rw [h] at h1;simp at h1
 | cons c r => exact ⟨c,r,rfl,decN_all n c (by rw [h];exact List.mem_cons_self ..)⟩
def signL (x:Int):B8:=if x < 0 then 45 :: decN (-x).toNat else decN x.toNat
theorem dec_ne {c:UInt8} (h:decC c = true):blankC c = false ∧ c ≠ 120 ∧ c ≠ 45 ∧ c ≠ 123 ∧ c ≠ 10:=by
 unfold decC at h
 rw [Bool.and_eq_true,decide_eq_true_eq,decide_eq_true_eq] at h
 refine ⟨?_,?_,?_,?_,?_⟩
 · unfold blankC
   rw [decide_eq_false,decide_eq_false]
   · rfl
   · rintro rfl
     exact absurd h.1 (by decide)
   · rintro rfl
     exact absurd h.1 (by decide)
 all_goals
  rintro rfl
  revert h
  decide
theorem value_back (n:Nat) (t:B8) (hn:n ≤ 18446744073709551615) (ht:t.head?.all (fun c => !decC c && c != 120) = true):valueP (decN n ++ t) = some ((n:Int),t):=by
 have ht2:t.head?.all (fun c => !decC c) = true:=by
  cases t with
  | nil => rfl
  | cons c t =>
    simp only [List.head?_cons,Option.all_some,Bool.and_eq_true] at ht ⊢
    exact ht.1
 have hm:(decN n).length ≤ 20:=(decN_len 19 n (by omega)).2
 have hx:∀ r,decN n ++ t ≠ 48 :: 120 :: r:=by
  intro r e
  have ha:=decN_all n
  cases hd:decN n with
  | nil =>
    have:=(decN_len 20 n (by omega)).1
    rw [hd] at this
    simp at this
  | cons c q =>
    rw [hd] at e ha
    cases q with
    | nil =>
      cases t with
      | nil => simp at e
      | cons d t =>
        simp at e ht
        exact ht.2 e.2.1
    | cons d q =>
      simp at e
      exact (dec_ne (ha d (by simp))).2.1 e.2.1
 unfold valueP
 split
 · rename_i r h
   exact absurd h (hx r)
 · exact valueD_back n 20 t hn hm ht2
theorem time_nat (n:Nat) (h:n ≤ 9223372036854775808):valueD false 19 10 (decN n) = some ((n:Int),[]):=by
 have h1:n < 10 ^ (18 + 1):=by
  have:(10:Nat) ^ (18 + 1) = 10000000000000000000:=rfl
  omega
 have e:=valueD_back n 19 [] (by omega) (decN_len 18 n h1).2 rfl
 rw [List.append_nil] at e
 exact e
theorem time_minus (r:B8):timeP (45 :: r) = (valueD false 19 10 r).bind fun p => if p.1 ≤ 9223372036854775808 then some (-p.1,p.2) else none:=rfl
theorem time_plus (s:B8) (h:∀ r,s ≠ 45 :: r):timeP s = (valueD false 19 10 s).bind fun p => if p.1 < 9223372036854775808 then some p else none:=by
 unfold timeP
 split
 · rename_i r
   exact absurd rfl (h r)
 · rfl
theorem time_back (x:Int) (h0 : -9223372036854775808 ≤ x) (h1:x < 9223372036854775808):timeP (signL x) = some (x,[]):=by
 unfold signL
 by_cases h:x < 0
 · obtain ⟨n,hn⟩:∃ n:Nat,n = (-x).toNat:=⟨_,rfl⟩
   have hx:x = -(n:Int):=by omega
   have hb:n ≤ 9223372036854775808:=by omega
   rw [if_pos h,time_minus,← hn,time_nat n hb,Option.bind_some,if_pos (by simp only;omega),hx]
 · obtain ⟨n,hn⟩:∃ n:Nat,n = x.toNat:=⟨_,rfl⟩
   have hx:x = (n:Int):=by omega
   have hb:n ≤ 9223372036854775808:=by omega
   rw [if_neg h,← hn,time_plus,time_nat n hb,Option.bind_some,if_pos (by simp only;omega),hx]
   intro r e
   have:=decN_all n 45 (by rw [e];exact List.mem_cons_self ..)
   exact absurd this (by decide)
theorem sign_head (x:Int):∃ c r,signL x = c :: r ∧ blankC c = false:=by
 unfold signL
 split
 · exact ⟨45,_,rfl,by decide⟩
 · obtain ⟨c,r,h,hc⟩:=decN_head x.toNat
   exact ⟨c,r,h,(dec_ne hc).1⟩
theorem end_back (n:Nat) (x now:Int) (hn:n ≤ 18446744073709551615) (h0 : -9223372036854775808 ≤ x) (h1:x < 9223372036854775808):endP (32 :: (decN n ++ 32 :: signL x)) now = some (x,(n:Int)):=by
 obtain ⟨c,r,hd,hc⟩:=decN_head n
 obtain ⟨c2,r2,hd2,hc2⟩:=sign_head x
 have hb:=(dec_ne hc).1
 have e1:(32 :: (decN n ++ 32 :: signL x)).takeWhile blankC = [32]:=by
  rw [hd]
  simp [hb,show blankC 32 = true from by decide]
 have e2:(32 :: (decN n ++ 32 :: signL x)).dropWhile blankC = decN n ++ 32 :: signL x:=by
  rw [hd]
  simp [hb,show blankC 32 = true from by decide]
 have e3:(32 :: signL x).takeWhile blankC = [32]:=by
  rw [hd2]
  simp [hc2,show blankC 32 = true from by decide]
 have e4:(32 :: signL x).dropWhile blankC = signL x:=by
  rw [hd2]
  simp [hc2,show blankC 32 = true from by decide]
 unfold endP
 rw [e1,e2,if_neg (by simp),value_back n (32 :: signL x) hn (by simp only [List.head?_cons,Option.all_some];decide)]
 simp only [Option.bind_some,e3,e4]
 rw [if_neg (by rw [hd2];simp),if_neg (by simp),time_back x h0 h1]
 rfl
theorem end_back1 (n:Nat) (now:Int) (hn:n ≤ 18446744073709551615):endP (32 :: decN n) now = some (now,(n:Int)):=by
 obtain ⟨c,r,hd,hc⟩:=decN_head n
 have hb:=(dec_ne hc).1
 have e1:(32 :: decN n).takeWhile blankC = [32]:=by
  rw [hd]
  simp [hb,show blankC 32 = true from by decide]
 have e2:(32 :: decN n).dropWhile blankC = decN n:=by
  rw [hd]
  simp [hb,show blankC 32 = true from by decide]
 have e:=value_back n [] hn rfl
 rw [List.append_nil] at e
 unfold endP
 rw [e1,e2,if_neg (by simp),e]
 rfl
def bracesL:List Lb → B8
 | [] => []
 | x :: l => 123 :: (pieceQ x ++ l.flatMap (fun x => 44 :: pieceQ x)) ++ [125]
theorem labs_braces (x:Lb) (l:List Lb) (t:B8) (hn:∀ y ∈ x :: l,Base.nameB y.f0 = true) (hl:l.length ≤ 8):labsP (bracesL (x :: l) ++ t) = some (x :: l,t):=by
 have e:bracesL (x :: l) ++ t = 123 :: (pieceQ x ++ l.flatMap (fun x => 44 :: pieceQ x)) ++ 125 :: t:=by simp [bracesL]
 have h:=braces_back x l t hn hl
 rw [e]
 unfold labsP headP
 simp only [List.cons_append,List.append_assoc] at h ⊢
 rw [if_neg (by decide)]
 simp only [Option.bind_some,restP,h,Option.map_some,List.nil_append]
theorem can_each {l:List Lb} (h:canB l = true):1 ≤ l.length ∧ l.length ≤ 8 ∧ ∀ x ∈ l,Base.nameB x.f0 = true ∧ Base.valueB x.f1 = true:=by
 unfold canB at h
 rw [Bool.and_eq_true,Bool.and_eq_true] at h
 refine ⟨of_decide_eq_true h.1.1,of_decide_eq_true h.1.2,?_⟩
 have:∀ (l:List Lb) (last:List UInt8),okFrom last l = true → ∀ x ∈ l,Base.nameB x.f0 = true ∧ Base.valueB x.f1 = true:=fun l => by
  induction l with
  | nil => exact fun _ _ x hx => by cases hx
  | cons y l ih =>
    intro last h x hx
    unfold okFrom at h
    rw [Bool.and_eq_true,Bool.and_eq_true,Bool.and_eq_true] at h
    rcases List.mem_cons.1 hx with rfl | hx
    · exact ⟨h.1.1.1,h.1.1.2⟩
    · exact ih _ h.2 x hx
 exact this _ _ h.2
theorem word_ge {c:UInt8} (h:wordC c = true):35 < c.toNat:=by
 rcases Nat.lt_or_ge 35 c.toNat with h9 | h9
 · exact h9
 · exfalso
   have:∀ n:Fin 36,wordC (UInt8.ofNat n.val) = false:=by decide
   have h8:=this ⟨c.toNat,by omega⟩
   rw [UInt8.ofNat_toNat,h] at h8
   cases h8
def fine (b:B8):Prop:=∀ c ∈ b,32 ≤ c.toNat
theorem fine_app {a b:B8} (ha:fine a) (hb:fine b):fine (a ++ b):=fun c hc => (List.mem_append.1 hc).elim (ha c) (hb c)
theorem fine_cons {c:UInt8} {b:B8} (hc:32 ≤ c.toNat) (hb:fine b):fine (c :: b):=fun x hx => (List.mem_cons.1 hx).elim (fun e => by rw [e];exact hc) (hb x)
theorem fine_nil:fine []:=fun c hc => by cases hc
theorem quote_fine (b:B8) (h:fine b):fine (Base.quoteL b):=by
 unfold Base.quoteL
 refine fine_cons (by decide) (fine_app (fun c hc => ?_) (fine_cons (by decide) fine_nil))
 obtain ⟨x,hx,hc⟩:=List.mem_flatMap.1 hc
 rw [show Base.quoteByte x = if x = 34 ∨ x = 92 then [92,x] else [x] from rfl] at hc
 have:=h x hx
 split at hc
 · simp at hc
   rcases hc with rfl | rfl
   · decide
   · exact this
 · simp at hc
   subst hc
   exact this
theorem quote_len (b:B8):(Base.quoteL b).length ≤ 2 * b.length + 2:=by
 unfold Base.quoteL
 have:(b.flatMap Base.quoteByte).length ≤ 2 * b.length:=by
  induction b with
  | nil => simp
  | cons x b ih =>
    rw [List.flatMap_cons,List.length_append,List.length_cons,show Base.quoteByte x = if x = 34 ∨ x = 92 then [92,x] else [x] from rfl]
    split
    · simp only [List.length_cons,List.length_nil]
      omega
    · simp only [List.length_cons,List.length_nil]
      omega
 simp only [List.length_cons,List.length_append,List.length_nil]
 omega
theorem name_len {s:ByteArray} (h:Base.nameB s = true):1 ≤ s.data.toList.length ∧ s.data.toList.length ≤ 24:=by
 unfold Base.nameB at h
 simp only [Bool.and_eq_true,decide_eq_true_eq] at h
 rw [u2h]
 exact ⟨h.1.1.1,h.1.1.2⟩
theorem value_len {s:ByteArray} (h:Base.valueB s = true):s.data.toList.length ≤ 40:=by
 unfold Base.valueB at h
 simp only [Bool.and_eq_true,decide_eq_true_eq] at h
 rw [u2h]
 exact h.2
theorem name_fine {s:ByteArray} (h:Base.nameB s = true):fine s.data.toList:=fun c hc => by
 have:=word_ge (all_word h c hc)
 omega
theorem piece_fine {x:Lb} (h0:Base.nameB x.f0 = true) (h1:Base.valueB x.f1 = true):fine (pieceQ x) :=
 fine_app (name_fine h0) (fine_cons (by decide) (quote_fine _ (value_bytes h1)))
theorem piece_len {x:Lb} (h0:Base.nameB x.f0 = true) (h1:Base.valueB x.f1 = true):(pieceQ x).length ≤ 107:=by
 have a:=(name_len h0).2
 have b:=value_len h1
 have c:=quote_len x.f1.data.toList
 unfold pieceQ
 rw [List.length_append,List.length_cons]
 omega
theorem braces_fine:∀ (l:List Lb),(∀ x ∈ l,Base.nameB x.f0 = true ∧ Base.valueB x.f1 = true) → fine (bracesL l)
 | [],_ => fine_nil
 | x :: l,h => by
   have hx:=h x (List.mem_cons_self ..)
   refine fine_app (fine_cons (by decide) (fine_app (piece_fine hx.1 hx.2) fun c hc => ?_)) (fine_cons (by decide) fine_nil)
   obtain ⟨y,hy,hc⟩:=List.mem_flatMap.1 hc
   have:=h y (List.mem_cons_of_mem _ hy)
   exact fine_cons (by decide) (piece_fine this.1 this.2) c hc
theorem braces_len (l:List Lb) (h:∀ x ∈ l,Base.nameB x.f0 = true ∧ Base.valueB x.f1 = true):(bracesL l).length ≤ 108 * l.length + 1:=by
 cases l with
 | nil => simp [bracesL]
 | cons x l =>
   have hx:=h x (List.mem_cons_self ..)
   have h1:=piece_len hx.1 hx.2
   have h2:(l.flatMap fun x => 44 :: pieceQ x).length ≤ 108 * l.length:=by
    have hl:∀ y ∈ l,Base.nameB y.f0 = true ∧ Base.valueB y.f1 = true:=fun y hy => h y (List.mem_cons_of_mem _ hy)
    clear h hx h1
    induction l with
    | nil => simp
    | cons y l ih =>
      have hy:=hl y (List.mem_cons_self ..)
      have:=piece_len hy.1 hy.2
      have:=ih (fun z hz => hl z (List.mem_cons_of_mem _ hz))
      rw [List.flatMap_cons,List.length_append,List.length_cons,List.length_cons]
      omega
   simp only [bracesL,List.length_append,List.length_cons,List.length_nil]
   omega
theorem dec_fine (n:Nat):fine (decN n):=fun c hc => by
 have:=decN_all n c hc
 unfold decC at this
 simp only [Bool.and_eq_true,decide_eq_true_eq] at this
 omega
theorem no_line {b:B8} (h:fine b):b.contains 10 = false:=by
 rw [List.contains_eq_mem,decide_eq_false]
 intro hm
 exact absurd (h 10 hm) (by decide)
theorem read_sample (can:List Lb → Bool) (b:B8) (now:Int) (r:Rw) (hl:b.length ≤ 1000) (hf:fine b) (c:UInt8) (t:B8) (hb:b = c :: t) (hc:35 < c.toNat) (hs:sampleP can b now = some r):readP can b now = (some r,me0,0):=by
 unfold readP
 rw [if_neg (by omega),no_line hf,if_neg (by decide)]
 have hbl:b.all blankC = false:=by
  rw [hb,List.all_cons]
  have:blankC c = false:=by
   unfold blankC
   rw [decide_eq_false,decide_eq_false]
   · rfl
   · rintro rfl
     exact absurd hc (by decide)
   · rintro rfl
     exact absurd hc (by decide)
  rw [this,Bool.false_and]
 split
 · injection hb with hb
   rw [← hb] at hc
   exact absurd hc (by decide)
 · rw [hbl,if_neg (by decide),hs]
theorem order_back (l:List Lb) (x:Lb) (m:List Lb) (hl:canB l = true) (hp:(x :: m).Perm l) (n:Nat) (hn:n ≤ 18446744073709551615) (now:Int) :
 readP canB (bracesL (x :: m) ++ 32 :: decN n) now = (some ⟨l,now,n⟩,me0,0) ∧ readP canB (bracesL (x :: m) ++ 32 :: (decN n ++ [32,53])) now = (some ⟨l,5,n⟩,me0,0):=by
 obtain ⟨g1,g2,g3⟩:=can_each hl
 have hm:∀ y ∈ x :: m,Base.nameB y.f0 = true ∧ Base.valueB y.f1 = true:=fun y hy => g3 y (hp.mem_iff.1 hy)
 have hlen:(x :: m).length ≤ 8:=by rw [hp.length_eq];exact g2
 have hml:m.length ≤ 8:=by rw [List.length_cons] at hlen;omega
 have hb:=braces_len (x :: m) hm
 have hd:=(decN_len 19 n (by omega)).2
 have h5:signL 5 = [53]:=by
  unfold signL
  rw [if_neg (by decide)]
  unfold decN
  rw [if_pos (by decide)]
  rfl
 have hh:∀ t,bracesL (x :: m) ++ t = 123 :: (pieceQ x ++ m.flatMap (fun x => 44 :: pieceQ x) ++ [125] ++ t):=fun t => by simp [bracesL]
 refine ⟨read_sample _ _ _ _ ?_ (fine_app (braces_fine _ hm) (fine_cons (by decide) (dec_fine n))) 123 _ (hh _) (by decide) ?_,read_sample _ _ _ _ ?_ (fine_app (braces_fine _ hm) (fine_cons (by decide) (fine_app (dec_fine n) (fine_cons (by decide) (fine_cons (by decide) fine_nil))))) 123 _ (hh _) (by decide) ?_⟩
 · rw [List.length_append,List.length_cons]
   omega
 · unfold sampleP
   rw [labs_braces x m _ (fun y hy => (hm y hy).1) hml]
   simp only [Option.bind_some]
   rw [sort_back l _ hl hp,if_pos hl,end_back1 n now hn]
   rfl
 · simp only [List.length_append,List.length_cons,List.length_nil]
   simp only [List.length_cons] at hb hlen
   omega
 · unfold sampleP
   rw [labs_braces x m _ (fun y hy => (hm y hy).1) hml]
   simp only [Option.bind_some]
   have e:=end_back n 5 now hn (by decide) (by decide)
   rw [h5] at e
   rw [sort_back l _ hl hp,if_pos hl,e]
   rfl
end Go.Proofs.YtmcpeifhapekoaaDoor.Tx
namespace Go.Proofs.YtmcpeifhapekoaaDoor.PAll
open Go.RowKit Go.Proofs.YtmcpeifhapekoaaDoorW.PrintWords Go.Proofs.YtmcpeifhapekoaaDoorW.PrintLast Go.Proofs.YtmcpeifhapekoaaDoorW.PrintMore
attribute [local go_sem] max2_int min2_int max_two min_two max_three min_three max_four min_four
set_option linter.unusedVariables false
set_option linter.unusedSimpArgs false
structure ui.Mid (w0 W wx:World) (g:Nat) (v:Value) (l:List Tx.Lb) (s:List UInt8):Prop where
 row:Kd.R k37 37 wx W.heap.size (fun k => k ≠ g ∧ k ≠ W.heap.size) v l
 st:ua.St w0 wx g s
 keep:u1l W wx g none
 res:wx.heap[W.heap.size]? = some (.cells #[.slice none 0 0,.int .i64 0,.int .u64 0] 25 (0,0))
 lt:g < W.heap.size
theorem ui.Mid.scan {w0 W wx w':World} {g:Nat} {v:Value} {l:List Tx.Lb} {s s':List UInt8} (h:ui.Mid w0 W wx g v l s) (hs:ua.St w0 w' g s') (hk:u1l wx w' g none):ui.Mid w0 W w' g v l s' :=
 ⟨Kd.R_keep h.row hk (fun _ hk => hk.1),hs,ua.keep_then h.keep hk,ua.kept_at hk (by have:=h.lt;omega) h.res,h.lt⟩
theorem ui.Mid.more {w0 W wx w':World} {g:Nat} {v:Value} {l:List Tx.Lb} {s:List UInt8} (h:ui.Mid w0 W wx g v l s) (hb:Below wx.heap.size wx w'):ui.Mid w0 W w' g v l s:=h.scan (h.st.more hb) (u1l.of_below hb g none)
theorem ui.Mid.drew {w0 W wx:World} {g:Nat} {v:Value} {l:List Tx.Lb} {s:List UInt8} (h:ui.Mid w0 W wx g v l s) (n:Nat):ui.Mid w0 W (wx.drewN n) g v l s:=h.more (ub (Below.refl _ _) n)
theorem ui.Mid.own {w0 W wx:World} {g:Nat} {v:Value} {l:List Tx.Lb} {s:List UInt8} (h:ui.Mid w0 W wx g v l s):∀ b,v.ownBlock = some b → b ≠ g ∧ b ≠ W.heap.size ∧ W.heap.size ≤ b ∧ w0.heap.size ≤ b:=fun b hb =>
 ⟨(h.row.1 b hb).1,(h.row.1 b hb).2,Kd.R_base h.row b hb,Nat.le_trans (Nat.le_trans h.st.base (Nat.le_of_lt h.lt)) (Kd.R_base h.row b hb)⟩
theorem ui.Mid.app {w0 W wx w1:World} {g:Nat} {v v1:Value} {l l1:List Tx.Lb} {s:List UInt8} (h:ui.Mid w0 W wx g v l s) (hg:wx.grownBy w1 v.ownBlock) (hr:Kd.R k37 37 w1 W.heap.size (fun k => k ≠ g ∧ k ≠ W.heap.size) v1 l1):ui.Mid w0 W w1 g v1 l1 s :=
 ⟨hr,uo.grown_st h.st (fun b hb => ⟨(h.own b hb).1,(h.own b hb).2.2.2⟩) hg,uo.grown_keep h.keep (fun b hb => (h.own b hb).2.2.1) hg,blk_grown h.res hg (fun e => (h.own _ e.symm).2.1 rfl),h.lt⟩
theorem ui.Mid.start {w0 W:World} {g:Nat} {s:List UInt8} (h:ua.St w0 W g s):ui.Mid w0 W (W.alloc (.cells #[.slice none 0 0,.int .i64 0,.int .u64 0] 25)) g (.slice none 0 0) [] s :=
 ⟨Kd.R_nil _ _ _ _ _,h.one_more _,keep_alloc (u1l.refl _ _ _) _,ua.new_at W _,h.lt⟩
def ui.hd (s:List UInt8):Bool:=match s with
 | [] => false
 | c :: _ => Tx.wordC c
theorem ui.named_at (s:List UInt8) (z:Int) (hz:ua.pk s = z) (W:World):Calls Tryd.prog 55 #[.int .u8 z] W fun e W' => e = .returned (.bool (ui.hd s)) ∧ ux W W':=by
 subst hz
 cases s with
 | nil => exact text_named.calls _ _ _ (by decide)
 | cons c r => exact u1b.test_named c _ rfl W
theorem ui.head_is (s:List UInt8):Tx.headP s = if ui.hd s = true then (Tx.nameP s).map fun p => ([⟨Tx.metric,p.1⟩],p.2) else some ([],s):=by
 cases s with
 | nil => rfl
 | cons c r => rfl
theorem ui.rest_is (l:List Tx.Lb) (s:List UInt8):((∃ u,s = 123 :: u) ∧ Tx.restP l s = (Tx.bracesP s).map fun q => (l ++ q.1,q.2)) ∨ ((∀ u,s ≠ 123 :: u) ∧ Tx.restP l s = some (l,s)):=by
 by_cases h:∃ u,s = 123 :: u
 · obtain ⟨u,rfl⟩:=h
   exact Or.inl ⟨⟨u,rfl⟩,rfl⟩
 · refine Or.inr ⟨fun u e => h ⟨u,e⟩,?_⟩
   unfold Tx.restP
   split
   · exact absurd ⟨_,rfl⟩ h
   · rfl
theorem ui.labels_len:∀ (n:Nat) (acc:List Tx.Lb) (s:List UInt8) (l:List Tx.Lb) (r:List UInt8),acc.length ≤ 9 → Tx.labelsP n acc s = some (l,r) → l.length ≤ 9 ∧ r.length ≤ s.length
 | 0,acc,s,l,r,_,h => by cases h
 | n + 1,acc,s,l,r,ha,h => by
   unfold Tx.labelsP at h
   split at h
   · split at h
     · rename_i h8
       obtain ⟨⟨x,t⟩,hx,h⟩:=Option.bind_eq_some_iff.1 h
       have h1:=uo.label_rest hx
       obtain ⟨h2,h3⟩:=ui.labels_len n _ t l r (by rw [List.length_append,List.length_singleton];omega) h
       exact ⟨h2,by rw [List.length_cons];omega⟩
     · cases h
   · obtain ⟨rfl,rfl⟩:=Prod.mk.inj (Option.some.inj h)
     exact ⟨ha,Nat.le_refl _⟩
theorem ui.braces_len {s r:List UInt8} {l:List Tx.Lb} (h:Tx.bracesP s = some (l,r)):l.length ≤ 9 ∧ r.length ≤ s.length:=by
 unfold Tx.bracesP at h
 obtain ⟨q,hq,h⟩:=Option.bind_eq_some_iff.1 h
 obtain ⟨⟨x,t⟩,hx,h⟩:=Option.bind_eq_some_iff.1 h
 obtain ⟨⟨l2,t2⟩,hl,h⟩:=Option.bind_eq_some_iff.1 h
 obtain ⟨t3,ht,h⟩:=Option.map_eq_some_iff.1 h
 obtain ⟨rfl,rfl⟩:=Prod.mk.inj h
 have h1:=(u1d.expect_is 123 s).1 q hq
 have h2:=(u1d.expect_is 125 t2).1 t3 ht
 have h3:=uo.label_rest hx
 obtain ⟨h4,h5⟩:=ui.labels_len _ _ t l2 t2 (by simp) hl
 refine ⟨h4,?_⟩
 rw [h1,List.length_cons]
 rw [h2,List.length_cons] at h5
 omega
theorem ui.br_no (w0 W:World) (g:Nat) (s:List UInt8) (hl:s.length ≤ 1000) (hq:Tx.bracesP s = none) (h:ua.St w0 W g s):Calls Tryd.prog 56 #[.pointer (some ⟨g,0,none⟩)] W fun e W' => e = .panicked (u2d.chain 280) ∧ Below w0.heap.size w0 W' :=
 (uo.calls w0 W g s hl h).mono fun e W' ho => by rw [hq] at ho;exact ho
theorem ui.br_ok (w0 W:World) (g:Nat) (s:List UInt8) (hl:s.length ≤ 1000) (l:List Tx.Lb) (r:List UInt8) (hq:Tx.bracesP s = some (l,r)) (h:ua.St w0 W g s):Calls Tryd.prog 56 #[.pointer (some ⟨g,0,none⟩)] W fun e W' => ∃ A c,e = .returned (.slice A l.length c) ∧ Kd.R k37 37 W' W.heap.size (fun k => k ≠ g) (.slice A l.length c) l ∧ ua.St w0 W' g r ∧ u1l W W' g none :=
 (uo.calls w0 W g s hl h).mono fun e W' ho => by
   rw [hq] at ho
   obtain ⟨v,rfl,h1,h2,h3⟩:=ho
   obtain ⟨A,c,rfl⟩:=Kd.R_slice h1
   exact ⟨A,c,rfl,h1,h2,h3⟩
theorem ui.Mid.new {w0 W wx:World} {g:Nat} {v:Value} {l:List Tx.Lb} {s:List UInt8} (h:ui.Mid w0 W wx g v l s) (o:Obj):ui.Mid w0 W (wx.alloc o) g v l s:=h.more (Below.alloc (Below.refl _ _) (Nat.le_refl _) o)
theorem ui.Mid.set {w0 W wx:World} {g:Nat} {v:Value} {l:List Tx.Lb} {s:List UInt8} (h:ui.Mid w0 W wx g v l s) (b i:Nat) (u:Value) (h1:b ≠ g) (h2:b ≠ W.heap.size) (h3:W.heap.size ≤ b) (hne:some b ≠ v.ownBlock):ui.Mid w0 W (wx.setCell ⟨b,i,none⟩ u) g v l s :=
 ⟨Kd.R_mono (Kd.R_far (p:=⟨b,i,none⟩) (Kd.R_far1 h.row rfl hne) (fun k hk => hk.2) u) (fun k hk => hk.1),h.st.far (p:=⟨b,i,none⟩) (Nat.le_trans (Nat.le_trans h.st.base (Nat.le_of_lt h.lt)) h3) (fun e => h1 e.symm) u,ua.keep_new h.keep (p:=⟨b,i,none⟩) h3 u,u1t h.res (p:=⟨b,i,none⟩) (fun e => h2 e.symm) u,h.lt⟩
theorem ui.look3 {W:World} {b t:Nat} {u v x:Value} (h:W.heap[b]? = some (.cells #[u,v,x] t (0,0))):(W.cell? ⟨b,0,none⟩ = some u ∧ W.cell? ⟨b,1,none⟩ = some v ∧ W.cell? ⟨b,2,none⟩ = some x) ∧ (W.frozen? ⟨b,0,none⟩ = false ∧ W.frozen? ⟨b,1,none⟩ = false ∧ W.frozen? ⟨b,2,none⟩ = false):=by
 have h0:=un h 0
 have h1:=un h 1
 have h2:=un h 2
 simp only [List.size_toArray,List.length_cons,List.length_nil,List.getElem?_toArray,List.getElem?_cons_zero,List.getElem?_cons_succ] at h0 h1 h2
 exact ⟨⟨h0,h1,h2⟩,um h 0,um h 1,um h 2⟩
theorem ui.can_at (k:Nat) (A:Option Addr) (c n base:Nat) (ok:Nat → Prop) (ls:List Tx.Lb) (b:Bool) (w:World) (hR:Kd.R k37 37 w base ok (.slice A n c) ls) (h:u1o.f k ls = some b):Calls Tryd.prog 60 #[.slice A n c] w fun e w' => e = .returned (.bool b) ∧ Below w.heap.size w w':=by
 obtain ⟨h1,h2,h3⟩:=Kd.R_reads' hR
 subst h1
 exact u1o.calls k A c ls b w h3 h2 h
theorem ui.drop_len (p:UInt8 → Bool) (s:List UInt8):(s.dropWhile p).length ≤ s.length:=by
 have h1:=congrArg List.length (List.takeWhile_append_dropWhile (p:=p) (l:=s))
 rw [List.length_append] at h1
 omega
theorem ui.valueD_rest {h:Bool} {most:Nat} {base n:Int} {s r:List UInt8} (hv:Tx.valueD h most base s = some (n,r)):r.length ≤ s.length:=by
 unfold Tx.valueD at hv
 obtain ⟨⟨d,r'⟩,hd,hv⟩:=Option.bind_eq_some_iff.1 hv
 obtain ⟨n',hn,hv⟩:=Option.map_eq_some_iff.1 hv
 obtain ⟨_,rfl⟩:=Prod.mk.inj hv
 exact (u1c.dig_is hd).2.2
theorem ui.value_rest {n:Int} {s r:List UInt8} (hv:Tx.valueP s = some (n,r)):r.length ≤ s.length:=by
 rcases u1c.value_is s with ⟨q,hq,e⟩ | ⟨hq,e⟩
 · rw [e] at hv
   have:=ui.valueD_rest hv
   rw [hq,List.length_cons,List.length_cons]
   omega
 · rw [e] at hv
   exact ui.valueD_rest hv
theorem ui.time_rest {n:Int} {s r:List UInt8} (hv:Tx.timeP s = some (n,r)):r.length ≤ s.length:=by
 rcases uv.time_is s with ⟨q,hq,e⟩ | ⟨hq,e⟩
 · rw [e] at hv
   obtain ⟨⟨n',r'⟩,hd,hv⟩:=Option.bind_eq_some_iff.1 hv
   simp only at hv
   split at hv
   · obtain ⟨_,rfl⟩:=Prod.mk.inj (Option.some.inj hv)
     have:=ui.valueD_rest hd
     rw [hq,List.length_cons]
     omega
   · cases hv
 · rw [e] at hv
   obtain ⟨⟨n',r'⟩,hd,hv⟩:=Option.bind_eq_some_iff.1 hv
   simp only at hv
   split at hv
   · obtain ⟨_,rfl⟩:=Prod.mk.inj (Option.some.inj hv)
     exact ui.valueD_rest hd
   · cases hv
def ui.Out (w0 W:World) (g:Nat) (o:Option Tx.Rw) (e:Ending) (W':World):Prop:=match o with
 | some r => ∃ v:Value,e = .returned (.agg #[v,.int .i64 r.f1,.int .u64 r.f2]) ∧ Kd.R k37 37 W' W.heap.size (fun k => k ≠ g) v r.f0 ∧ Below w0.heap.size w0 W' ∧ u1l W W' g none
 | none => e = .panicked (u2d.chain 280) ∧ Below w0.heap.size w0 W'
theorem ui.out_none {w0 W:World} {g:Nat} {o:Option Tx.Rw} (ho:o = none) {W':World} (h1:Below w0.heap.size w0 W'):ui.Out w0 W g o (.panicked (u2d.chain 280)) W':=by
 subst ho
 exact ⟨rfl,h1⟩
theorem ui.out_some {w0 W:World} {g:Nat} {o:Option Tx.Rw} {l:List Tx.Lb} {t n:Int} (ho:o = some ⟨l,t,n⟩) {v:Value} {W':World} (h1:Kd.R k37 37 W' W.heap.size (fun k => k ≠ g) v l) (h2:Below w0.heap.size w0 W') (h3:u1l W W' g none):ui.Out w0 W g o (.returned (.agg #[v,.int .i64 t,.int .u64 n])) W':=by
 subst ho
 exact ⟨v,rfl,h1,h2,h3⟩
set_option maxRecDepth 100000 in
set_option maxHeartbeats 4000000 in
theorem ui.calls (can:List Tx.Lb → Bool) (hcan:∀ l:List Tx.Lb,l.length ≤ 10 → ∃ k,u1o.f k l = some (can l)) (w0 W:World) (g:Nat) (s:List UInt8) (now:Int) (hl:s.length ≤ 1000) (h:ua.St w0 W g s) :
 Calls Tryd.prog 34 #[.pointer (some ⟨g,0,none⟩),.int .i64 now] W fun e W' => ui.Out w0 W g (Tx.sampleP can s now) e W':=by
 have HM:=Aside0.mk (ui.Mid.start h)
 have HCN:=Aside0.mk hcan
 generalize HZ:Tx.sampleP can s now = o
 have HO:=Aside0.mk HZ
 obtain ⟨z,hz⟩:∃ z,ua.pk s = z:=⟨_,rfl⟩
 have HP:=Aside0.mk hz
 have hh:=ui.head_is s
 clear h hcan HZ hz
 go_enter Tryd.func34,Tryd.ntmps34
 go_upto_if 10 with (first
  | (go_at_call 31;(with_reducible refine (uv.peek_at w0 _ g s z HP.out (by exact HM.out.st)).mono ?_);rintro e W1 ⟨rfl,⟨nd,rfl⟩⟩)
  | (go_at_call 55;(with_reducible refine (ui.named_at s z HP.out _).mono ?_);rintro e W2 ⟨rfl,⟨md,rfl⟩⟩))
 go_cut [5] (fun v5 wx => ∃ (l0:List Tx.Lb) (s1:List UInt8),Tx.headP s = some (l0,s1) ∧ l0.length ≤ 1 ∧ s1.length ≤ 1000 ∧ Aside0 (ui.Mid w0 W wx g v5 l0 s1))
 case first =>
  cases hhd:ui.hd s with
  | true =>
    rw [hhd,if_pos rfl] at hh
    cases hn:Tx.nameP s with
    | none =>
      have HN:=Aside0.mk hn
      have HE:Aside0 (o = none):=⟨by rw [← HO.out];unfold Tx.sampleP Tx.labsP;rw [hh,hn];rfl⟩
      clear hn hh
      go_wp2_with (go_at_call 43;(with_reducible refine (u2c.calls_no w0 _ g s (by omega) HN.out (by exact (HM.out.drew _).st)).mono ?_);rintro e W3 ⟨rfl,hb3⟩)
      exact ⟨rfl,ui.out_none HE.out hb3⟩
    | some p =>
      obtain ⟨n,r⟩:=p
      rw [hn] at hh
      have hr:=u1d.name_rest hn
      have HN:=Aside0.mk hn
      have HH:=Aside0.mk hh
      clear hn hh
      go_wp2_with (first
       | (go_at_call 43;(with_reducible refine (u2c.calls_ok w0 _ g s (by omega) n r HN.out (by exact (HM.out.drew _).st)).mono ?_);rintro e W3 ⟨rfl,hs3,hk3⟩;have HM3:=Aside0.mk ((HM.out.drew _).scan hs3 hk3);clear hs3 hk3)
       | ((with_reducible refine gate_builtin (b:=.append) (xs:=#[.tmp 11,.tmp 15]) rfl ?_);at_builtin;refine Kd.R_append k37 (w0:=W3) (W:=W3) W.heap.size rfl (.tmp 11) (.tmp 15) 22 37 (.agg #[(.string ⟨#[]⟩),(.string ⟨#[]⟩)]) 32 rfl Tryd.underlying22 uo.infoL rfl (by decide) (by decide) _ [] (⟨Tx.metric,n⟩:Tx.Lb) [.string Tx.metric,.string n] (fun k => k ≠ g ∧ k ≠ W.heap.size) (fun _ => False) rfl rfl (k37_mkM _ _ _ _) (fun _ hk => hk.elim) ?hfr HM3.out.row (Below.refl _ _) HM3.out.keep.1 (by decide) ?_;(case hfr => have h1:=HM3.out.st.lt;have h2:=u1n HM3.out.res;intro k hk;omega);intro v8 w8 ho hb hg8 hat;have HM8:=Aside0.mk (HM3.out.app hg8 ho);clear ho hb hg8 hat))
      go_meet
      exact ⟨[⟨Tx.metric,n⟩],r,HH.out,Nat.le_refl _,by omega,HM8⟩
  | false =>
    rw [hhd,if_neg (by decide)] at hh
    have HH:=Aside0.mk hh
    clear hh
    go_wp2_with fail
    go_meet
    exact ⟨[],s,HH.out,by decide,hl,⟨HM.out.drew _⟩⟩
 case rest =>
  clear HM HP hh
  obtain ⟨l0,s1,hh,hl0,hs1,HM⟩:=hcut
  obtain ⟨A0,c0,e0⟩:=Kd.R_slice HM.out.row
  subst e0
  have HH:=Aside0.mk hh
  obtain ⟨y,hy⟩:∃ y,ua.pk s1 = y:=⟨_,rfl⟩
  have HP:=Aside0.mk hy
  clear hh hy
  go_upto_if 19 with (go_at_call 31;(with_reducible refine (uv.peek_at w0 _ g s1 y HP.out (by exact HM.out.st)).mono ?_);rintro e W1 ⟨rfl,⟨nd,rfl⟩⟩)
  go_cut [5] (fun v5 wx => ∃ (l:List Tx.Lb) (s2:List UInt8),Tx.labsP s = some (l,s2) ∧ l.length ≤ 10 ∧ s2.length ≤ 1000 ∧ Aside0 (ui.Mid w0 W wx g v5 l s2))
  case first =>
   rcases ui.rest_is l0 s1 with ⟨⟨u,hu⟩,hr⟩ | ⟨hu,hr⟩
   · have hb5:(y == 123) = true:=by
      have h1:=HP.out
      rw [hu] at h1
      rw [← h1]
      rfl
     cases hq:Tx.bracesP s1 with
     | none =>
       have HQ:=Aside0.mk hq
       have HE:Aside0 (o = none):=⟨by rw [← HO.out];unfold Tx.sampleP Tx.labsP;rw [HH.out];simp only [Option.bind_some];rw [hr,hq];rfl⟩
       clear hq hr hu
       go_wp2_with (go_at_call 56;(with_reducible refine (ui.br_no w0 _ g s1 (by omega) HQ.out (by exact (HM.out.drew _).st)).mono ?_);rintro e W3 ⟨rfl,hb3⟩)
       exact ⟨rfl,ui.out_none HE.out hb3⟩
     | some p =>
       obtain ⟨lb,r⟩:=p
       obtain ⟨hlb,hrl⟩:=ui.braces_len hq
       have HQ:=Aside0.mk hq
       have HL:Aside0 (Tx.labsP s = some (l0 ++ lb,r)):=⟨by unfold Tx.labsP;rw [HH.out];simp only [Option.bind_some];rw [hr,hq];rfl⟩
       clear hq hr hu
       go_wp2_with (first
        | (go_at_call 56;(with_reducible refine (ui.br_ok w0 _ g s1 (by omega) lb r HQ.out (by exact (HM.out.drew _).st)).mono ?_);rintro e W3 ⟨A,c,rfl,hr3,hs3,hk3⟩;have HM3:=Aside0.mk ((HM.out.drew _).scan hs3 hk3);have HR3:=Aside0.mk (Kd.R_reads' hr3).2.2;clear hr3 hs3 hk3)
        | ((with_reducible refine gate_builtin (b:=.append) (xs:=#[.tmp 20,.tmp 22]) rfl ?_);at_builtin;refine Kd.R_append_rows k37 (w0:=W3) W.heap.size rfl (.tmp 20) (.tmp 22) 22 37 (.agg #[(.string ⟨#[]⟩),(.string ⟨#[]⟩)]) 32 rfl Tryd.underlying22 uo.infoL rfl (by decide) (by omega) _ l0 lb _ _ _ (fun k => k ≠ g ∧ k ≠ W.heap.size) (fun _ => False) rfl rfl HM3.out.row HR3.out (fun _ _ h => h) (fun _ h => h.elim) ?hfr (Below.refl _ _) HM3.out.keep.1 ?hbig ?_;(case hfr => have h1:=HM3.out.st.lt;have h2:=u1n HM3.out.res;intro k hk;omega);(case hbig => omega);intro v8 w8 ho hb hg8 hat;have HM8:=Aside0.mk (HM3.out.app hg8 ho);clear ho hb hg8 hat))
       go_meet
       exact ⟨l0 ++ lb,r,HL.out,by rw [List.length_append];omega,by omega,HM8⟩
   · have hb5:(y == 123) = false:=beq_eq_false_iff_ne.2 (by
      intro e
      exact uo.pk_ne s1 123 (by decide) hu (HP.out.trans e))
     have HL:Aside0 (Tx.labsP s = some (l0,s1)):=⟨by unfold Tx.labsP;rw [HH.out];simp only [Option.bind_some];exact hr⟩
     clear hr hu
     go_wp2_with fail
     go_meet
     exact ⟨l0,s1,HL.out,by omega,hs1,⟨HM.out.drew _⟩⟩
  case rest =>
   clear HM HP HH
   obtain ⟨l,s2,hh,hl2,hs2,HM⟩:=hcut
   obtain ⟨A,c,e0⟩:=Kd.R_slice HM.out.row
   subst e0
   have HH:=Aside0.mk hh
   have hsl:(Tx.sortP l).length = l.length:=by
    rw [← Tx.sortedTo_all,Tx.sortedTo_len l l.length (Nat.le_refl _)]
   obtain ⟨kc,hkc⟩:=HCN.out (Tx.sortP l) (by omega)
   have HSL:=Aside0.mk hsl
   have HKC:=Aside0.mk hkc
   have hsz:=u1f.txt (s2.takeWhile Tx.blankC)
   obtain ⟨_,tw2,tw2n⟩:=hsz
   clear hh hkc hsl HCN
   have HOV:Aside0 (o = if can (Tx.sortP l) = true then (Tx.endP s2 now).map fun q => ⟨Tx.sortP l,q.1,q.2⟩ else none):=⟨by rw [← HO.out];unfold Tx.sampleP;rw [HH.out];rfl⟩
   clear HO HH
   cases hc:can (Tx.sortP l) with
   | false =>
     rw [hc] at HKC HOV
     have HE:Aside0 (o = none):=⟨by rw [HOV.out];rfl⟩
     clear hc tw2 tw2n
     go_wp2_with (first
      | (go_at_call 57;(with_reducible refine (u1g.calls _ W.heap.size (fun k => k ≠ g ∧ k ≠ W.heap.size) A c l (by omega) HM.out.row).mono ?_);rintro e W3 ⟨rfl,hr3,hg3⟩;have HM3:=Aside0.mk (HM.out.app hg3 hr3);clear hr3 hg3)
      | (go_at_call 60;(with_reducible refine (ui.can_at kc A c l.length _ _ (Tx.sortP l) _ _ HM3.out.row HKC.out).mono ?_);rintro e W4 ⟨rfl,hb4⟩;have HM4:=Aside0.mk (HM3.out.more hb4);clear hb4)
      | (go_at_call 45;(with_reducible refine (u1x.calls_no _).mono ?_);rintro e W9 ⟨rfl,rfl⟩))
     exact ⟨rfl,ui.out_none HE.out HM4.out.st.below⟩
   | true =>
     rw [hc] at HKC HOV
     have HOW:Aside0 (o = (Tx.endP s2 now).map fun q => ⟨Tx.sortP l,q.1,q.2⟩):=⟨by rw [HOV.out,if_pos rfl]⟩
     clear hc HOV
     by_cases htw:s2.takeWhile Tx.blankC = []
     · obtain ⟨e1,e2⟩:=tw2n htw
       have HE:Aside0 (o = none):=⟨by rw [HOW.out];unfold Tx.endP;rw [if_pos htw];rfl⟩
       clear tw2 tw2n htw
       go_wp2_with (first
        | (go_at_call 57;(with_reducible refine (u1g.calls _ W.heap.size (fun k => k ≠ g ∧ k ≠ W.heap.size) A c l (by omega) HM.out.row).mono ?_);rintro e W3 ⟨rfl,hr3,hg3⟩;have HM3:=Aside0.mk (HM.out.app hg3 hr3);clear hr3 hg3)
        | (go_at_call 60;(with_reducible refine (ui.can_at kc A c l.length _ _ (Tx.sortP l) _ _ HM3.out.row HKC.out).mono ?_);rintro e W4 ⟨rfl,hb4⟩;have HM4:=Aside0.mk (HM3.out.more hb4);clear hb4)
        | (go_at_call 45;(with_reducible refine (u1x.calls_ok _).mono ?_);rintro e W9 ⟨rfl,rfl⟩)
        | (go_at_call 61;(with_reducible refine (u1b.calls_blank w0 _ g s2 (by omega) (by exact HM4.out.st)).mono ?_);rintro e W5 ⟨rfl,hs5,hk5⟩;have HM5:=Aside0.mk (HM4.out.scan hs5 hk5);clear hs5 hk5)
        | (go_at_call 45;(with_reducible refine (u1x.calls_no _).mono ?_);rintro e W9 ⟨rfl,rfl⟩))
       exact ⟨rfl,ui.out_none HE.out HM5.out.st.below⟩
     · obtain ⟨e1,e2⟩:=tw2 htw
       have hd2:=ui.drop_len Tx.blankC s2
       cases hv:Tx.valueP (s2.dropWhile Tx.blankC) with
       | none =>
         have HV:=Aside0.mk hv
         have HE:Aside0 (o = none):=⟨by rw [HOW.out];unfold Tx.endP;rw [if_neg htw,hv];rfl⟩
         clear tw2 tw2n htw hv
         go_wp2_with (first
          | (go_at_call 57;(with_reducible refine (u1g.calls _ W.heap.size (fun k => k ≠ g ∧ k ≠ W.heap.size) A c l (by omega) HM.out.row).mono ?_);rintro e W3 ⟨rfl,hr3,hg3⟩;have HM3:=Aside0.mk (HM.out.app hg3 hr3);clear hr3 hg3)
          | (go_at_call 60;(with_reducible refine (ui.can_at kc A c l.length _ _ (Tx.sortP l) _ _ HM3.out.row HKC.out).mono ?_);rintro e W4 ⟨rfl,hb4⟩;have HM4:=Aside0.mk (HM3.out.more hb4);clear hb4)
          | (go_at_call 45;(with_reducible refine (u1x.calls_ok _).mono ?_);rintro e W9 ⟨rfl,rfl⟩)
          | (go_at_call 61;(with_reducible refine (u1b.calls_blank w0 _ g s2 (by omega) (by exact HM4.out.st)).mono ?_);rintro e W5 ⟨rfl,hs5,hk5⟩;have HM5:=Aside0.mk (HM4.out.scan hs5 hk5);clear hs5 hk5)
          | (go_at_call 63;(with_reducible refine (u1c.calls_no w0 _ g _ (by omega) HV.out (by exact HM5.out.st)).mono ?_);rintro e W6 ⟨rfl,hb6⟩))
         exact ⟨rfl,ui.out_none HE.out hb6⟩
       | some p =>
         obtain ⟨n,s4⟩:=p
         have hs4:=ui.value_rest hv
         have HV:=Aside0.mk hv
         have HOX:Aside0 (o = (if s4.dropWhile Tx.blankC = [] then some (now,n) else if s4.takeWhile Tx.blankC = [] then none else (Tx.timeP (s4.dropWhile Tx.blankC)).bind fun q => if q.2.dropWhile Tx.blankC = [] then some (q.1,n) else none).map fun q => ⟨Tx.sortP l,q.1,q.2⟩):=⟨by rw [HOW.out];unfold Tx.endP;rw [if_neg htw,hv];rfl⟩
         clear tw2 tw2n htw hv HOW
         have hd4:=ui.drop_len Tx.blankC s4
         obtain ⟨_,dw,dwn⟩:=u1f.txt (s4.dropWhile Tx.blankC)
         obtain ⟨b44,hb44⟩:∃ b:Bool,(Base.ofL (s4.dropWhile Tx.blankC)).toList.isEmpty = !b:=⟨_,(Bool.not_not _).symm⟩
         have HB44:=Aside0.mk hb44
         go_upto_if 44 with (first
          | (go_at_call 57;(with_reducible refine (u1g.calls _ W.heap.size (fun k => k ≠ g ∧ k ≠ W.heap.size) A c l (by omega) HM.out.row).mono ?_);rintro e W3 ⟨rfl,hr3,hg3⟩;have HM3:=Aside0.mk (HM.out.app hg3 hr3);clear hr3 hg3)
          | (go_at_call 60;(with_reducible refine (ui.can_at kc A c l.length _ _ (Tx.sortP l) _ _ HM3.out.row HKC.out).mono ?_);rintro e W4 ⟨rfl,hb4⟩;have HM4:=Aside0.mk (HM3.out.more hb4);clear hb4)
          | (go_at_call 45;(with_reducible refine (u1x.calls_ok _).mono ?_);rintro e W9 ⟨rfl,rfl⟩)
          | (go_at_call 61;(with_reducible refine (u1b.calls_blank w0 _ g s2 (by omega) (by exact HM4.out.st)).mono ?_);rintro e W5 ⟨rfl,hs5,hk5⟩;have HM5:=Aside0.mk (HM4.out.scan hs5 hk5);clear hs5 hk5)
          | (go_at_call 63;(with_reducible refine (u1c.calls_ok w0 _ g _ (by omega) n s4 HV.out (by exact HM5.out.st)).mono ?_);rintro e W6 ⟨rfl,hs6,hk6⟩;have HM6:=Aside0.mk (HM5.out.scan hs6 hk6);clear hs6 hk6)
          | (go_at_call 61;(with_reducible refine (u1b.calls_blank w0 _ g s4 (by omega) (by exact (HM6.out.new _).st)).mono ?_);rintro e W7 ⟨rfl,hs7,hk7⟩;have HM7:=Aside0.mk ((HM6.out.new _).scan hs7 hk7);have HB7:=Aside0.mk (ua.kept_at hk7 (by have:=HM6.out.st.lt;omega) (ua.new_at W6 _));obtain ⟨h0,f0⟩:=hs7.look;clear hs7 hk7))
         go_cut [7] (fun v7 wx => ∃ (t:Int) (s6:List UInt8),s6.length ≤ 1000 ∧ Aside0 (o = if s6 = [] then some ⟨Tx.sortP l,t,n⟩ else none) ∧ Aside0 (ui.Mid w0 W wx g (.slice A l.length c) (Tx.sortP l) s6) ∧ Aside0 (wx.heap[W6.heap.size]? = some (.cells #[.slice A l.length c,.int .i64 t,.int .u64 n] 25 (0,0))))
         case first =>
          clear hb44
          obtain ⟨_,gw,gwn⟩:=u1f.txt (s4.takeWhile Tx.blankC)
          by_cases he5:s4.dropWhile Tx.blankC = []
          · obtain ⟨e3,e4⟩:=dwn he5
            obtain rfl:b44 = false:=by have h1:=HB44.out;rw [e3] at h1;revert h1;cases b44 <;> decide
            have HF:Aside0 (o = if s4.dropWhile Tx.blankC = [] then some ⟨Tx.sortP l,now,n⟩ else none):=⟨by rw [HOX.out,if_pos he5,if_pos he5];rfl⟩
            clear he5 dw dwn gw gwn HOX
            go_wp2_with fail
            go_meet
            exact ⟨now,s4.dropWhile Tx.blankC,by omega,HF,HM7,HB7⟩
          · obtain ⟨e3,e4⟩:=dw he5
            obtain rfl:b44 = true:=by have h1:=HB44.out;rw [e3] at h1;revert h1;cases b44 <;> decide
            by_cases hg4:s4.takeWhile Tx.blankC = []
            · obtain ⟨e5,e6⟩:=gwn hg4
              have HE:Aside0 (o = none):=⟨by rw [HOX.out,if_neg he5,if_pos hg4];rfl⟩
              clear he5 dw dwn gw gwn HOX hg4
              go_wp2_with (go_at_call 45;(with_reducible refine (u1x.calls_no _).mono ?_);rintro e W9 ⟨rfl,rfl⟩)
              exact ⟨rfl,ui.out_none HE.out HM7.out.st.below⟩
            · obtain ⟨e5,e6⟩:=gw hg4
              cases ht:Tx.timeP (s4.dropWhile Tx.blankC) with
              | none =>
                have HT:=Aside0.mk ht
                have HE:Aside0 (o = none):=⟨by rw [HOX.out,if_neg he5,if_neg hg4,ht];rfl⟩
                clear he5 dw dwn gw gwn HOX hg4 ht
                go_wp2_with (first
                 | (go_at_call 45;(with_reducible refine (u1x.calls_ok _).mono ?_);rintro e W9 ⟨rfl,rfl⟩)
                 | (go_at_call 64;(with_reducible refine (uv.calls_no w0 _ g _ (by omega) HT.out (by exact HM7.out.st)).mono ?_);rintro e W8 ⟨rfl,hb8⟩))
                exact ⟨rfl,ui.out_none HE.out hb8⟩
              | some p =>
                obtain ⟨t,s7⟩:=p
                have hs7:=ui.time_rest ht
                have hd7:=ui.drop_len Tx.blankC s7
                have HT:=Aside0.mk ht
                have HF:Aside0 (o = if s7.dropWhile Tx.blankC = [] then some ⟨Tx.sortP l,t,n⟩ else none):=⟨by
                 rw [HOX.out,if_neg he5,if_neg hg4,ht]
                 simp only [Option.bind_some]
                 split <;> rfl⟩
                have N1:Aside0 (W6.heap.size ≠ g):=⟨by have:=HM6.out.st.lt;omega⟩
                have N2:Aside0 (W6.heap.size ≠ W.heap.size ∧ W.heap.size ≤ W6.heap.size):=⟨by have:=u1n HM6.out.res;omega⟩
                have N3:Aside0 (some W6.heap.size ≠ (Value.slice A l.length c).ownBlock):=⟨fun e => by have:=Kd.R_lt HM6.out.row W6.heap.size e.symm;omega⟩
                have n1:¬ g = W6.heap.size:=fun e => N1.out e.symm
                clear he5 dw dwn gw gwn HOX hg4 ht h0 f0
                go_wp2_with (first
                 | (go_at_call 45;(with_reducible refine (u1x.calls_ok _).mono ?_);rintro e W9 ⟨rfl,rfl⟩)
                 | (go_at_call 64;(with_reducible refine (uv.calls_ok w0 _ g _ (by omega) t s7 HT.out (by exact HM7.out.st)).mono ?_);rintro e W8 ⟨rfl,hs8,hk8⟩;have HM8:=Aside0.mk (HM7.out.scan hs8 hk8);have HB8:=Aside0.mk (ua.kept_at hk8 N1.out HB7.out);obtain ⟨⟨a0,a1,a2⟩,b0,b1,b2⟩:=ui.look3 HB8.out;clear hs8 hk8)
                 | (go_at_call 61;(with_reducible refine (u1b.calls_blank w0 _ g s7 (by omega) (by exact (HM8.out.set W6.heap.size 1 _ N1.out N2.out.1 N2.out.2 N3.out).st)).mono ?_);rintro e W9 ⟨rfl,hs9,hk9⟩;have HM9:=Aside0.mk ((HM8.out.set W6.heap.size 1 _ N1.out N2.out.1 N2.out.2 N3.out).scan hs9 hk9);have HB9:=Aside0.mk (ua.kept_at hk9 N1.out (blk_set HB8.out 1 (.int .i64 t)));clear hs9 hk9))
                go_meet
                exact ⟨t,s7.dropWhile Tx.blankC,by omega,HF,HM9,HB9⟩
         case rest =>
          have N1:Aside0 (W6.heap.size ≠ g):=⟨by have:=HM6.out.st.lt;omega⟩
          have N2:Aside0 (W6.heap.size ≠ W.heap.size ∧ W.heap.size ≤ W6.heap.size):=⟨by have:=u1n HM6.out.res;omega⟩
          clear HM HM3 HM4 HM5 HM6 HM7 HB7 h0 f0 HOX hb44 HB44 dw dwn
          obtain ⟨t,s6,hs6,HF,HM,HB⟩:=hcut
          obtain ⟨h0,f0⟩:=HM.out.st.look
          obtain ⟨⟨a0,a1,a2⟩,b0,b1,b2⟩:=ui.look3 HB.out
          obtain ⟨⟨c0,c1,c2⟩,d0,d1,d2⟩:=ui.look3 HM.out.res
          obtain ⟨_,dw,dwn⟩:=u1f.txt s6
          have n1:¬ W6.heap.size = W.heap.size:=N2.out.1
          have n2:¬ W.heap.size = W6.heap.size:=fun e => N2.out.1 e.symm
          by_cases he:s6 = []
          · obtain ⟨e3,e4⟩:=dwn he
            have HE:Aside0 (o = some ⟨Tx.sortP l,t,n⟩):=⟨by rw [HF.out,if_pos he]⟩
            clear dw dwn he HF
            go_wp2_with (go_at_call 45;(with_reducible refine (u1x.calls_ok _).mono ?_);rintro e W9 ⟨rfl,rfl⟩)
            refine bodyPost_ret (v:=.agg #[.slice A l.length c,.int .i64 t,.int .u64 n]) (by simp [results,Tryd.results34,go_sem,c0,c1,c2]) rfl (ui.out_some HE.out ?_ ?_ ?_)
            · exact Kd.R_mono (Kd.R_far (p:=⟨W.heap.size,2,none⟩) (Kd.R_far (p:=⟨W.heap.size,1,none⟩) (Kd.R_far (p:=⟨W.heap.size,0,none⟩) HM.out.row (fun k hk => hk.2) _) (fun k hk => hk.2) _) (fun k hk => hk.2) _) (fun k hk => hk.1)
            · have hw:w0.heap.size ≤ W.heap.size:=Nat.le_trans HM.out.st.base (Nat.le_of_lt HM.out.lt)
              exact ((HM.out.st.below.setCell (p:=⟨W.heap.size,0,none⟩) hw _).setCell (p:=⟨W.heap.size,1,none⟩) hw _).setCell (p:=⟨W.heap.size,2,none⟩) hw _
            · exact ua.keep_new (p:=⟨W.heap.size,2,none⟩) (ua.keep_new (p:=⟨W.heap.size,1,none⟩) (ua.keep_new (p:=⟨W.heap.size,0,none⟩) HM.out.keep (Nat.le_refl _) _) (Nat.le_refl _) _) (Nat.le_refl _) _
          · obtain ⟨e3,e4⟩:=dw he
            have HE:Aside0 (o = none):=⟨by rw [HF.out,if_neg he]⟩
            clear dw dwn he HF
            go_wp2_with (go_at_call 45;(with_reducible refine (u1x.calls_no _).mono ?_);rintro e W9 ⟨rfl,rfl⟩)
            exact ⟨rfl,ui.out_none HE.out HM.out.st.below⟩
theorem ur.pre_is (p s:List UInt8):u1j.f (Base.ofL s) (Base.ofL p) = some (p.isPrefixOf s):=by
 have hs:(Base.ofL s).size = s.length:=(Tx.cut_ofL s 0 (by omega)).2.2
 have hp:(Base.ofL p).size = p.length:=(Tx.cut_ofL p 0 (by omega)).2.2
 unfold u1j.f u1p.f
 rw [hs,hp]
 by_cases h:p.length ≤ s.length
 · have e1:((Base.ofL s).extract 0 ((p.length:Int)).toNat).toList = s.take p.length:=by
    rw [ByteArray.toList_eq,Base.extract_list,Base.ofL_data]
    simp
   have e2:(Base.ofL p).toList = p:=by rw [ByteArray.toList_eq,Base.ofL_data]
   have e4:(s.take p.length == p) = p.isPrefixOf s:=by
    rw [Bool.eq_iff_iff,beq_iff_eq,List.isPrefixOf_iff_prefix]
    constructor
    · intro e
      rw [← e]
      exact List.take_prefix _ _
    · intro e
      exact (List.prefix_iff_eq_take.1 e).symm
   rw [if_pos (by omega),if_pos (by omega),if_pos (by omega),e1,e2,e4]
   rfl
 · have e5:p.isPrefixOf s = false:=by
    cases e:p.isPrefixOf s with
    | false => rfl
    | true => exact absurd (List.IsPrefix.length_le (List.isPrefixOf_iff_prefix.1 e)) h
   rw [if_neg (by omega),e5]
   rfl
theorem ur.known_is (s:List UInt8):text_known.f (Base.ofL s) = some (Tx.knownL s):=by
 have e:(Base.ofL s).toList = s:=by rw [ByteArray.toList_eq,Base.ofL_data]
 unfold text_known.f Tx.knownL Tx.kinds
 rw [e]
 simp only [List.contains_cons,List.contains_nil,Bool.or_false]
 repeat' split
 all_goals first
  | (rename_i h;subst h;rfl)
  | (simp_all;done)
  | (simp_all [beq_iff_eq])
theorem ur.both {s:List UInt8} (h:Tx.typeW.isPrefixOf s = true):Tx.helpW.isPrefixOf s = false:=by
 obtain ⟨t,rfl⟩:=List.isPrefixOf_iff_prefix.1 h
 rfl
theorem ur.pre_len {p s:List UInt8} (h:p.isPrefixOf s = true):p.length ≤ s.length:=List.IsPrefix.length_le (List.isPrefixOf_iff_prefix.1 h)
theorem ur.three {w0 W W4:World} {g:Nat} (hB:Below w0.heap.size w0 W4) (hw:w0.heap.size ≤ W.heap.size) (hk:u1l W W4 g none) (u v x:Value):Below w0.heap.size w0 (((W4.setCell ⟨W.heap.size,0,none⟩ u).setCell ⟨W.heap.size,1,none⟩ v).setCell ⟨W.heap.size,2,none⟩ x) ∧ u1l W (((W4.setCell ⟨W.heap.size,0,none⟩ u).setCell ⟨W.heap.size,1,none⟩ v).setCell ⟨W.heap.size,2,none⟩ x) g none :=
 ⟨((hB.setCell (p:=⟨W.heap.size,0,none⟩) hw u).setCell (p:=⟨W.heap.size,1,none⟩) hw v).setCell (p:=⟨W.heap.size,2,none⟩) hw x,ua.keep_new (p:=⟨W.heap.size,2,none⟩) (ua.keep_new (p:=⟨W.heap.size,1,none⟩) (ua.keep_new (p:=⟨W.heap.size,0,none⟩) hk (Nat.le_refl _) u) (Nat.le_refl _) v) (Nat.le_refl _) x⟩
theorem ur.res0 (W:World) (t n g:Nat) (b:ByteArray) (hg:g < W.heap.size):(((W.alloc (.cells #[.string ⟨#[]⟩,.string ⟨#[]⟩,.string ⟨#[]⟩] t)).drewN n).setCell ⟨g,0,none⟩ (.string b)).heap[W.heap.size]? = some (.cells #[.string ⟨#[]⟩,.string ⟨#[]⟩,.string ⟨#[]⟩] t (0,0)) :=
 (Below.heap_setCell _ ⟨g,0,none⟩ _ W.heap.size (by show W.heap.size ≠ g;omega)).trans (ua.new_at W _)
def ur.Out (w0 W:World) (g:Nat) (o:Option Tx.Me) (e:Ending) (W':World):Prop:=match o with
 | some m => e = .returned (.agg #[.string m.1,.string m.2.1,.string m.2.2]) ∧ Below w0.heap.size w0 W' ∧ u1l W W' g none
 | none => e = .panicked (u2d.chain 280) ∧ Below w0.heap.size w0 W'
theorem ur.out_none {w0 W:World} {g:Nat} {o:Option Tx.Me} (ho:o = none) {W':World} (h1:Below w0.heap.size w0 W'):ur.Out w0 W g o (.panicked (u2d.chain 280)) W':=by
 subst ho
 exact ⟨rfl,h1⟩
theorem ur.out_some {w0 W:World} {g:Nat} {o:Option Tx.Me} {a b c:ByteArray} (ho:o = some (a,b,c)) {W':World} (h2:Below w0.heap.size w0 W') (h3:u1l W W' g none):ur.Out w0 W g o (.returned (.agg #[.string a,.string b,.string c])) W':=by
 subst ho
 exact ⟨rfl,h2,h3⟩
set_option maxRecDepth 100000 in
set_option maxHeartbeats 2000000 in
theorem ur.other (w0 W:World) (g:Nat) (s:List UInt8) (hl:s.length ≤ 1000) (hh:Tx.helpW.isPrefixOf s = false) (ht:Tx.typeW.isPrefixOf s = false) (h:ua.St w0 W g s) :
 Calls Tryd.prog 32 #[.pointer (some ⟨g,0,none⟩)] W fun e W' => ur.Out w0 W g (Tx.remarkP s) e W':=by
 have HE:Aside0 (Tx.remarkP s = some (Base.ofL [],Base.ofL [],Base.ofL [])):=⟨by unfold Tx.remarkP;rw [hh,ht];rfl⟩
 have H1:Aside0 (u1j.f (Base.ofL s) (⟨#[35,32,72,69,76,80,32]⟩:ByteArray) = some false):=⟨(ur.pre_is Tx.helpW s).trans (by rw [hh])⟩
 have H2:Aside0 (u1j.f (Base.ofL s) (⟨#[35,32,84,89,80,69,32]⟩:ByteArray) = some false):=⟨(ur.pre_is Tx.typeW s).trans (by rw [ht])⟩
 have HS:=Aside0.mk h
 have hS1:=h.one_more (.cells #[.string ⟨#[]⟩,.string ⟨#[]⟩,.string ⟨#[]⟩] 51)
 obtain ⟨h0,f0⟩:=hS1.look
 clear h hh ht hS1
 go_enter Tryd.func32,Tryd.ntmps32
 go_wp2_with fail
 go_quiet (first
  | (go_at_call 24;(with_reducible refine (u1j.calls _ _ _ _ H1.out).mono ?_);rintro e w' ⟨rfl,⟨nd,rfl⟩⟩;exact ⟨rfl,_,World.drewN_drewN _ _ _⟩)
  | (go_at_call 24;(with_reducible refine (u1j.calls _ _ _ _ H2.out).mono ?_);rintro e w' ⟨rfl,⟨nd,rfl⟩⟩;exact ⟨rfl,_,World.drewN_drewN _ _ _⟩))
 go_wp2
 refine bodyPost_ret (v:=.agg #[.string ⟨#[]⟩,.string ⟨#[]⟩,.string ⟨#[]⟩]) (by simp [results,Tryd.results32,go_sem]) rfl (ur.out_some HE.out ?_ ?_)
 · exact (ur.three (g:=g) (below_then HS.out.below HS.out.below.size (ub (uc (Below.refl _ _) _) nq)) HS.out.below.size (keep_drewN (keep_alloc (u1l.refl _ _ _) _) nq) _ _ _).1
 · exact (ur.three (g:=g) (below_then HS.out.below HS.out.below.size (ub (uc (Below.refl _ _) _) nq)) HS.out.below.size (keep_drewN (keep_alloc (u1l.refl _ _ _) _) nq) _ _ _).2
set_option maxRecDepth 100000 in
set_option maxHeartbeats 4000000 in
theorem ur.help (w0 W:World) (g:Nat) (s:List UInt8) (hl:s.length ≤ 1000) (hh:Tx.helpW.isPrefixOf s = true) (ht:Tx.typeW.isPrefixOf s = false) (h:ua.St w0 W g s) :
 Calls Tryd.prog 32 #[.pointer (some ⟨g,0,none⟩)] W fun e W' => ur.Out w0 W g (Tx.remarkP s) e W':=by
 have H1:Aside0 (u1j.f (Base.ofL s) (⟨#[35,32,72,69,76,80,32]⟩:ByteArray) = some true):=⟨(ur.pre_is Tx.helpW s).trans (by rw [hh])⟩
 have H2:Aside0 (u1j.f (Base.ofL s) (⟨#[35,32,84,89,80,69,32]⟩:ByteArray) = some false):=⟨(ur.pre_is Tx.typeW s).trans (by rw [ht])⟩
 have HS:=Aside0.mk h
 have HG:=Aside0.mk h.lt
 have hS1:=h.one_more (.cells #[.string ⟨#[]⟩,.string ⟨#[]⟩,.string ⟨#[]⟩] 51)
 obtain ⟨h0,f0⟩:=hS1.look
 have h7:7 ≤ s.length:=ur.pre_len hh
 have hdl:(s.drop 7).length ≤ 1000:=by rw [List.length_drop];omega
 have hsz:(Base.ofL s).size = s.length:=(Tx.cut_ofL s 0 (by omega)).2.2
 have hcut:(Base.ofL s).extract 7 s.length = Base.ofL (s.drop 7):=by
  have:=(Tx.cut_ofL s 7 h7).2.1
  rwa [hsz] at this
 have HO:Aside0 (Tx.remarkP s = (Tx.nameP (s.drop 7)).bind fun p => (Tx.expectP [32] p.2).bind fun r => if Tx.plainL r = true then some (p.1,Base.ofL [],Base.ofL r) else none):=⟨by unfold Tx.remarkP;rw [hh,ht];rfl⟩
 generalize hoo:Tx.remarkP s = o at HO ⊢
 clear hoo h hh ht hS1
 cases hn:Tx.nameP (s.drop 7) with
 | none =>
   have HE:Aside0 (o = none):=⟨by rw [HO.out,hn];rfl⟩
   have HN:=Aside0.mk hn
   clear hn HO
   go_enter Tryd.func32,Tryd.ntmps32
   go_wp2_with fail
   go_quiet (first
    | (go_at_call 24;(with_reducible refine (u1j.calls _ _ _ _ H1.out).mono ?_);rintro e w' ⟨rfl,⟨nd,rfl⟩⟩;exact ⟨rfl,_,World.drewN_drewN _ _ _⟩)
    | (go_at_call 24;(with_reducible refine (u1j.calls _ _ _ _ H2.out).mono ?_);rintro e w' ⟨rfl,⟨nd,rfl⟩⟩;exact ⟨rfl,_,World.drewN_drewN _ _ _⟩))
   go_wp2_with (first
    | (go_at_call 43;(with_reducible refine (u2c.calls_no w0 _ g (s.drop 7) (by omega) HN.out (by exact ((HS.out.one_more _).drew nq).set _)).mono ?_);rintro e W2 ⟨rfl,hb2⟩))
   exact ⟨rfl,ur.out_none HE.out hb2⟩
 | some p =>
   obtain ⟨n,r⟩:=p
   have hr:=u1d.name_rest hn
   have HN:=Aside0.mk hn
   cases he:Tx.expectP [32] r with
   | none =>
     have HE2:Aside0 (o = none):=⟨by rw [HO.out,hn];simp only [Option.bind_some];rw [he];rfl⟩
     have HE:=Aside0.mk ((u1d.expect_is 32 r).2 he)
     clear hn he HO
     go_enter Tryd.func32,Tryd.ntmps32
     go_wp2_with fail
     go_quiet (first
      | (go_at_call 24;(with_reducible refine (u1j.calls _ _ _ _ H1.out).mono ?_);rintro e w' ⟨rfl,⟨nd,rfl⟩⟩;exact ⟨rfl,_,World.drewN_drewN _ _ _⟩)
      | (go_at_call 24;(with_reducible refine (u1j.calls _ _ _ _ H2.out).mono ?_);rintro e w' ⟨rfl,⟨nd,rfl⟩⟩;exact ⟨rfl,_,World.drewN_drewN _ _ _⟩))
     go_wp2_with (first
      | (go_at_call 43;(with_reducible refine (u2c.calls_ok w0 _ g (s.drop 7) (by omega) n r HN.out (by exact ((HS.out.one_more _).drew nq).set _)).mono ?_);rintro e W2 ⟨rfl,hs2,hk2⟩;have HS2:=Aside0.mk hs2;have HL2:Aside0 (W.heap.size < W2.heap.size):=⟨by have:=hk2.1;simp at this;omega⟩;have B2:=Aside0.mk (ua.kept_at hk2 (by have:=HG.out;omega) (ur.res0 W 51 nq g (Base.ofL (s.drop 7)) HG.out));have HK2:=Aside0.mk (ua.keep_then ((keep_drewN (keep_alloc (u1l.refl W g none) (.cells #[.string ⟨#[]⟩,.string ⟨#[]⟩,.string ⟨#[]⟩] 51)) nq).set_ 0 (.string (Base.ofL (s.drop 7)))) hk2);clear hs2 hk2)
      | (go_at_call 44;(with_reducible refine (u1i.calls_no w0 _ g 32 r HE.out (by exact HS2.out.one_more _)).mono ?_);rintro e W3 ⟨rfl,hb3⟩))
     exact ⟨rfl,ur.out_none HE2.out hb3⟩
   | some t =>
     have hrt:=(u1d.expect_is 32 r).1 t he
     have HV:Aside0 (o = if Tx.plainL t = true then some (n,Base.ofL [],Base.ofL t) else none):=⟨by rw [HO.out,hn];simp only [Option.bind_some];rw [he];rfl⟩
     subst hrt
     rw [List.length_cons] at hr
     clear hn he HO
     cases htt:Tx.plainL t with
     | false =>
       have HE:Aside0 (o = none):=⟨by rw [HV.out,htt];rfl⟩
       have HT:Aside0 (Tx.plainL t = false):=⟨htt⟩
       clear htt HV
       go_enter Tryd.func32,Tryd.ntmps32
       go_wp2_with fail
       go_quiet (first
        | (go_at_call 24;(with_reducible refine (u1j.calls _ _ _ _ H1.out).mono ?_);rintro e w' ⟨rfl,⟨nd,rfl⟩⟩;exact ⟨rfl,_,World.drewN_drewN _ _ _⟩)
        | (go_at_call 24;(with_reducible refine (u1j.calls _ _ _ _ H2.out).mono ?_);rintro e w' ⟨rfl,⟨nd,rfl⟩⟩;exact ⟨rfl,_,World.drewN_drewN _ _ _⟩))
       go_wp2_with (first
        | (go_at_call 43;(with_reducible refine (u2c.calls_ok w0 _ g (s.drop 7) (by omega) n (32 :: t) HN.out (by exact ((HS.out.one_more _).drew nq).set _)).mono ?_);rintro e W2 ⟨rfl,hs2,hk2⟩;have HS2:=Aside0.mk hs2;have HL2:Aside0 (W.heap.size < W2.heap.size):=⟨by have:=hk2.1;simp at this;omega⟩;have B2:=Aside0.mk (ua.kept_at hk2 (by have:=HG.out;omega) (ur.res0 W 51 nq g (Base.ofL (s.drop 7)) HG.out));have HK2:=Aside0.mk (ua.keep_then ((keep_drewN (keep_alloc (u1l.refl W g none) (.cells #[.string ⟨#[]⟩,.string ⟨#[]⟩,.string ⟨#[]⟩] 51)) nq).set_ 0 (.string (Base.ofL (s.drop 7)))) hk2);clear hs2 hk2)
        | (go_at_call 44;(with_reducible refine (u1i.calls_ok w0 _ g 32 t (by exact HS2.out.one_more _)).mono ?_);rintro e W3 ⟨rfl,hs3,hk3⟩;have HS3:=Aside0.mk hs3;have B3:=Aside0.mk (ua.kept_at (b:=W.heap.size) hk3 (by have:=HG.out;omega) (ua.new_old B2.out _));have C3:=Aside0.mk (ua.kept_at hk3 (by have:=HG.out;have:=HL2.out;omega) (ua.new_at W2 _));have HK3:=Aside0.mk (ua.keep_then HK2.out (ua.keep_from hk3));clear h0 f0;obtain ⟨h0,f0⟩:=hs3.look;clear hs3 hk3)
        | (go_at_call 47;(with_reducible refine (u2l.calls t (by omega) _).mono ?_);rw [HT.out];rintro e W4 ⟨rfl,hb4⟩;have HS4:=Aside0.mk (HS3.out.more hb4);have B4:=Aside0.mk (ua.below_at hb4 B3.out);have C4:=Aside0.mk (ua.below_at hb4 C3.out);have HK4:=Aside0.mk (ua.keep_then HK3.out (u1l.of_below hb4 g none));clear h0 f0;obtain ⟨h0,f0⟩:=HS4.out.look;obtain ⟨⟨a0,a1,a2⟩,a3,a4,a5⟩:=ui.look3 B4.out;obtain ⟨⟨c0,c1,c2⟩,c3,c4,c5⟩:=ui.look3 C4.out;clear hb4)
        | (go_at_call 45;(with_reducible refine (u1x.calls_no _).mono ?_);rintro e W5 ⟨rfl,rfl⟩))
       exact ⟨rfl,ur.out_none HE.out HS4.out.below⟩
     | true =>
       have HE:Aside0 (o = some (n,Base.ofL [],Base.ofL t)):=⟨by rw [HV.out,htt];rfl⟩
       have HT:Aside0 (Tx.plainL t = true):=⟨htt⟩
       have N1:Aside0 (g < W.heap.size):=⟨HG.out⟩
       clear htt HV
       go_enter Tryd.func32,Tryd.ntmps32
       go_wp2_with fail
       go_quiet (first
        | (go_at_call 24;(with_reducible refine (u1j.calls _ _ _ _ H1.out).mono ?_);rintro e w' ⟨rfl,⟨nd,rfl⟩⟩;exact ⟨rfl,_,World.drewN_drewN _ _ _⟩)
        | (go_at_call 24;(with_reducible refine (u1j.calls _ _ _ _ H2.out).mono ?_);rintro e w' ⟨rfl,⟨nd,rfl⟩⟩;exact ⟨rfl,_,World.drewN_drewN _ _ _⟩))
       go_wp2_with (first
        | (go_at_call 43;(with_reducible refine (u2c.calls_ok w0 _ g (s.drop 7) (by omega) n (32 :: t) HN.out (by exact ((HS.out.one_more _).drew nq).set _)).mono ?_);rintro e W2 ⟨rfl,hs2,hk2⟩;have HS2:=Aside0.mk hs2;have HL2:Aside0 (W.heap.size < W2.heap.size):=⟨by have:=hk2.1;simp at this;omega⟩;have B2:=Aside0.mk (ua.kept_at hk2 (by have:=HG.out;omega) (ur.res0 W 51 nq g (Base.ofL (s.drop 7)) HG.out));have HK2:=Aside0.mk (ua.keep_then ((keep_drewN (keep_alloc (u1l.refl W g none) (.cells #[.string ⟨#[]⟩,.string ⟨#[]⟩,.string ⟨#[]⟩] 51)) nq).set_ 0 (.string (Base.ofL (s.drop 7)))) hk2);clear hs2 hk2)
        | (go_at_call 44;(with_reducible refine (u1i.calls_ok w0 _ g 32 t (by exact HS2.out.one_more _)).mono ?_);rintro e W3 ⟨rfl,hs3,hk3⟩;have HS3:=Aside0.mk hs3;have B3:=Aside0.mk (ua.kept_at (b:=W.heap.size) hk3 (by have:=HG.out;omega) (ua.new_old B2.out _));have C3:=Aside0.mk (ua.kept_at hk3 (by have:=HG.out;have:=HL2.out;omega) (ua.new_at W2 _));have HK3:=Aside0.mk (ua.keep_then HK2.out (ua.keep_from hk3));clear h0 f0;obtain ⟨h0,f0⟩:=hs3.look;clear hs3 hk3)
        | (go_at_call 47;(with_reducible refine (u2l.calls t (by omega) _).mono ?_);rw [HT.out];rintro e W4 ⟨rfl,hb4⟩;have HS4:=Aside0.mk (HS3.out.more hb4);have B4:=Aside0.mk (ua.below_at hb4 B3.out);have C4:=Aside0.mk (ua.below_at hb4 C3.out);have HK4:=Aside0.mk (ua.keep_then HK3.out (u1l.of_below hb4 g none));clear h0 f0;obtain ⟨h0,f0⟩:=HS4.out.look;obtain ⟨⟨a0,a1,a2⟩,a3,a4,a5⟩:=ui.look3 B4.out;obtain ⟨⟨c0,c1,c2⟩,c3,c4,c5⟩:=ui.look3 C4.out;clear hb4;have n1:¬ W2.heap.size = g:=(by have:=HG.out;have:=HL2.out;omega);have n2:¬ W.heap.size = g:=(by have:=HG.out;omega);have n3:¬ W.heap.size = W2.heap.size:=(by have:=HL2.out;omega);have n4:¬ g = W2.heap.size:=fun e => n1 e.symm;have n5:¬ g = W.heap.size:=fun e => n2 e.symm;have n6:¬ W2.heap.size = W.heap.size:=fun e => n3 e.symm)
        | (go_at_call 45;(with_reducible refine (u1x.calls_ok _).mono ?_);rintro e W5 ⟨rfl,rfl⟩))
       refine bodyPost_ret (v:=.agg #[.string n,.string ⟨#[]⟩,.string (Base.ofL t)]) (by simp [results,Tryd.results32,go_sem,a0,a1,a2,n1,n2,n3,n4,n5,n6]) rfl ?_
       have hw:w0.heap.size ≤ W.heap.size:=HS.out.below.size
       have hw2:w0.heap.size ≤ W2.heap.size:=HS2.out.below.size
       have h3:=ur.three (u:=.string n) (v:=.string ⟨#[]⟩) (x:=.string (Base.ofL t)) (HS4.out.below.setCell (p:=⟨W2.heap.size,2,none⟩) hw2 (.string (Base.ofL t))) hw (ua.keep_new (p:=⟨W2.heap.size,2,none⟩) HK4.out (by have:=HL2.out;show W.heap.size ≤ W2.heap.size;omega) (.string (Base.ofL t)))
       exact ur.out_some HE.out h3.1 h3.2
set_option maxRecDepth 100000 in
set_option maxHeartbeats 4000000 in
theorem ur.type (w0 W:World) (g:Nat) (s:List UInt8) (hl:s.length ≤ 1000) (hh:Tx.helpW.isPrefixOf s = false) (ht:Tx.typeW.isPrefixOf s = true) (h:ua.St w0 W g s) :
 Calls Tryd.prog 32 #[.pointer (some ⟨g,0,none⟩)] W fun e W' => ur.Out w0 W g (Tx.remarkP s) e W':=by
 have H1:Aside0 (u1j.f (Base.ofL s) (⟨#[35,32,72,69,76,80,32]⟩:ByteArray) = some false):=⟨(ur.pre_is Tx.helpW s).trans (by rw [hh])⟩
 have H2:Aside0 (u1j.f (Base.ofL s) (⟨#[35,32,84,89,80,69,32]⟩:ByteArray) = some true):=⟨(ur.pre_is Tx.typeW s).trans (by rw [ht])⟩
 have HS:=Aside0.mk h
 have HG:=Aside0.mk h.lt
 have hS1:=h.one_more (.cells #[.string ⟨#[]⟩,.string ⟨#[]⟩,.string ⟨#[]⟩] 51)
 obtain ⟨h0,f0⟩:=hS1.look
 have h7:7 ≤ s.length:=ur.pre_len ht
 have hdl:(s.drop 7).length ≤ 1000:=by rw [List.length_drop];omega
 have hsz:(Base.ofL s).size = s.length:=(Tx.cut_ofL s 0 (by omega)).2.2
 have hcut:(Base.ofL s).extract 7 s.length = Base.ofL (s.drop 7):=by
  have:=(Tx.cut_ofL s 7 h7).2.1
  rwa [hsz] at this
 have HO:Aside0 (Tx.remarkP s = (Tx.nameP (s.drop 7)).bind fun p => (Tx.expectP [32] p.2).bind fun r => if Tx.knownL r = true then some (p.1,Base.ofL r,Base.ofL []) else none):=⟨by unfold Tx.remarkP;rw [hh,ht];rfl⟩
 generalize hoo:Tx.remarkP s = o at HO ⊢
 clear hoo h hh ht hS1
 cases hn:Tx.nameP (s.drop 7) with
 | none =>
   have HE:Aside0 (o = none):=⟨by rw [HO.out,hn];rfl⟩
   have HN:=Aside0.mk hn
   clear hn HO
   go_enter Tryd.func32,Tryd.ntmps32
   go_wp2_with fail
   go_quiet (first
    | (go_at_call 24;(with_reducible refine (u1j.calls _ _ _ _ H1.out).mono ?_);rintro e w' ⟨rfl,⟨nd,rfl⟩⟩;exact ⟨rfl,_,World.drewN_drewN _ _ _⟩)
    | (go_at_call 24;(with_reducible refine (u1j.calls _ _ _ _ H2.out).mono ?_);rintro e w' ⟨rfl,⟨nd,rfl⟩⟩;exact ⟨rfl,_,World.drewN_drewN _ _ _⟩))
   go_wp2_with (first
    | (go_at_call 43;(with_reducible refine (u2c.calls_no w0 _ g (s.drop 7) (by omega) HN.out (by exact ((HS.out.one_more _).drew nq).set _)).mono ?_);rintro e W2 ⟨rfl,hb2⟩))
   exact ⟨rfl,ur.out_none HE.out hb2⟩
 | some p =>
   obtain ⟨n,r⟩:=p
   have hr:=u1d.name_rest hn
   have HN:=Aside0.mk hn
   cases he:Tx.expectP [32] r with
   | none =>
     have HE2:Aside0 (o = none):=⟨by rw [HO.out,hn];simp only [Option.bind_some];rw [he];rfl⟩
     have HE:=Aside0.mk ((u1d.expect_is 32 r).2 he)
     clear hn he HO
     go_enter Tryd.func32,Tryd.ntmps32
     go_wp2_with fail
     go_quiet (first
      | (go_at_call 24;(with_reducible refine (u1j.calls _ _ _ _ H1.out).mono ?_);rintro e w' ⟨rfl,⟨nd,rfl⟩⟩;exact ⟨rfl,_,World.drewN_drewN _ _ _⟩)
      | (go_at_call 24;(with_reducible refine (u1j.calls _ _ _ _ H2.out).mono ?_);rintro e w' ⟨rfl,⟨nd,rfl⟩⟩;exact ⟨rfl,_,World.drewN_drewN _ _ _⟩))
     go_wp2_with (first
      | (go_at_call 43;(with_reducible refine (u2c.calls_ok w0 _ g (s.drop 7) (by omega) n r HN.out (by exact ((HS.out.one_more _).drew nq).set _)).mono ?_);rintro e W2 ⟨rfl,hs2,hk2⟩;have HS2:=Aside0.mk hs2;have HL2:Aside0 (W.heap.size < W2.heap.size):=⟨by have:=hk2.1;simp at this;omega⟩;have B2:=Aside0.mk (ua.kept_at hk2 (by have:=HG.out;omega) (ur.res0 W 51 nq g (Base.ofL (s.drop 7)) HG.out));have HK2:=Aside0.mk (ua.keep_then ((keep_drewN (keep_alloc (u1l.refl W g none) (.cells #[.string ⟨#[]⟩,.string ⟨#[]⟩,.string ⟨#[]⟩] 51)) nq).set_ 0 (.string (Base.ofL (s.drop 7)))) hk2);clear hs2 hk2)
      | (go_at_call 44;(with_reducible refine (u1i.calls_no w0 _ g 32 r HE.out (by exact HS2.out.one_more _)).mono ?_);rintro e W3 ⟨rfl,hb3⟩))
     exact ⟨rfl,ur.out_none HE2.out hb3⟩
   | some t =>
     have hrt:=(u1d.expect_is 32 r).1 t he
     have HV:Aside0 (o = if Tx.knownL t = true then some (n,Base.ofL t,Base.ofL []) else none):=⟨by rw [HO.out,hn];simp only [Option.bind_some];rw [he];rfl⟩
     subst hrt
     rw [List.length_cons] at hr
     clear hn he HO
     cases htt:Tx.knownL t with
     | false =>
       have HE:Aside0 (o = none):=⟨by rw [HV.out,htt];rfl⟩
       have HT:Aside0 (text_known.f (Base.ofL t) = some false):=⟨(ur.known_is t).trans (by rw [htt])⟩
       clear htt HV
       go_enter Tryd.func32,Tryd.ntmps32
       go_wp2_with fail
       go_quiet (first
        | (go_at_call 24;(with_reducible refine (u1j.calls _ _ _ _ H1.out).mono ?_);rintro e w' ⟨rfl,⟨nd,rfl⟩⟩;exact ⟨rfl,_,World.drewN_drewN _ _ _⟩)
        | (go_at_call 24;(with_reducible refine (u1j.calls _ _ _ _ H2.out).mono ?_);rintro e w' ⟨rfl,⟨nd,rfl⟩⟩;exact ⟨rfl,_,World.drewN_drewN _ _ _⟩))
       go_wp2_with (first
        | (go_at_call 43;(with_reducible refine (u2c.calls_ok w0 _ g (s.drop 7) (by omega) n (32 :: t) HN.out (by exact ((HS.out.one_more _).drew nq).set _)).mono ?_);rintro e W2 ⟨rfl,hs2,hk2⟩;have HS2:=Aside0.mk hs2;have HL2:Aside0 (W.heap.size < W2.heap.size):=⟨by have:=hk2.1;simp at this;omega⟩;have B2:=Aside0.mk (ua.kept_at hk2 (by have:=HG.out;omega) (ur.res0 W 51 nq g (Base.ofL (s.drop 7)) HG.out));have HK2:=Aside0.mk (ua.keep_then ((keep_drewN (keep_alloc (u1l.refl W g none) (.cells #[.string ⟨#[]⟩,.string ⟨#[]⟩,.string ⟨#[]⟩] 51)) nq).set_ 0 (.string (Base.ofL (s.drop 7)))) hk2);clear hs2 hk2)
        | (go_at_call 44;(with_reducible refine (u1i.calls_ok w0 _ g 32 t (by exact HS2.out.one_more _)).mono ?_);rintro e W3 ⟨rfl,hs3,hk3⟩;have HS3:=Aside0.mk hs3;have B3:=Aside0.mk (ua.kept_at (b:=W.heap.size) hk3 (by have:=HG.out;omega) (ua.new_old B2.out _));have C3:=Aside0.mk (ua.kept_at hk3 (by have:=HG.out;have:=HL2.out;omega) (ua.new_at W2 _));have HK3:=Aside0.mk (ua.keep_then HK2.out (ua.keep_from hk3));clear h0 f0;obtain ⟨h0,f0⟩:=hs3.look;clear hs3 hk3)
        | (go_at_call 46;(with_reducible refine (text_known.calls _ _ _ HT.out).mono ?_);rintro e W4 ⟨rfl,⟨kd,rfl⟩⟩;have HS4:=Aside0.mk (HS3.out.drew kd);have B4:=Aside0.mk (ua.below_at (ub (Below.refl _ _) kd) B3.out);have C4:=Aside0.mk (ua.below_at (ub (Below.refl _ _) kd) C3.out);have HK4:=Aside0.mk (keep_drewN HK3.out kd);obtain ⟨⟨a0,a1,a2⟩,a3,a4,a5⟩:=ui.look3 B3.out;obtain ⟨⟨c0,c1,c2⟩,c3,c4,c5⟩:=ui.look3 C3.out)
        | (go_at_call 45;(with_reducible refine (u1x.calls_no _).mono ?_);rintro e W5 ⟨rfl,rfl⟩))
       exact ⟨rfl,ur.out_none HE.out HS4.out.below⟩
     | true =>
       have HE:Aside0 (o = some (n,Base.ofL t,Base.ofL [])):=⟨by rw [HV.out,htt];rfl⟩
       have HT:Aside0 (text_known.f (Base.ofL t) = some true):=⟨(ur.known_is t).trans (by rw [htt])⟩
       have N1:Aside0 (g < W.heap.size):=⟨HG.out⟩
       clear htt HV
       go_enter Tryd.func32,Tryd.ntmps32
       go_wp2_with fail
       go_quiet (first
        | (go_at_call 24;(with_reducible refine (u1j.calls _ _ _ _ H1.out).mono ?_);rintro e w' ⟨rfl,⟨nd,rfl⟩⟩;exact ⟨rfl,_,World.drewN_drewN _ _ _⟩)
        | (go_at_call 24;(with_reducible refine (u1j.calls _ _ _ _ H2.out).mono ?_);rintro e w' ⟨rfl,⟨nd,rfl⟩⟩;exact ⟨rfl,_,World.drewN_drewN _ _ _⟩))
       go_wp2_with (first
        | (go_at_call 43;(with_reducible refine (u2c.calls_ok w0 _ g (s.drop 7) (by omega) n (32 :: t) HN.out (by exact ((HS.out.one_more _).drew nq).set _)).mono ?_);rintro e W2 ⟨rfl,hs2,hk2⟩;have HS2:=Aside0.mk hs2;have HL2:Aside0 (W.heap.size < W2.heap.size):=⟨by have:=hk2.1;simp at this;omega⟩;have B2:=Aside0.mk (ua.kept_at hk2 (by have:=HG.out;omega) (ur.res0 W 51 nq g (Base.ofL (s.drop 7)) HG.out));have HK2:=Aside0.mk (ua.keep_then ((keep_drewN (keep_alloc (u1l.refl W g none) (.cells #[.string ⟨#[]⟩,.string ⟨#[]⟩,.string ⟨#[]⟩] 51)) nq).set_ 0 (.string (Base.ofL (s.drop 7)))) hk2);clear hs2 hk2)
        | (go_at_call 44;(with_reducible refine (u1i.calls_ok w0 _ g 32 t (by exact HS2.out.one_more _)).mono ?_);rintro e W3 ⟨rfl,hs3,hk3⟩;have HS3:=Aside0.mk hs3;have B3:=Aside0.mk (ua.kept_at (b:=W.heap.size) hk3 (by have:=HG.out;omega) (ua.new_old B2.out _));have C3:=Aside0.mk (ua.kept_at hk3 (by have:=HG.out;have:=HL2.out;omega) (ua.new_at W2 _));have HK3:=Aside0.mk (ua.keep_then HK2.out (ua.keep_from hk3));clear h0 f0;obtain ⟨h0,f0⟩:=hs3.look;clear hs3 hk3)
        | (go_at_call 46;(with_reducible refine (text_known.calls _ _ _ HT.out).mono ?_);rintro e W4 ⟨rfl,⟨kd,rfl⟩⟩;have HS4:=Aside0.mk (HS3.out.drew kd);have B4:=Aside0.mk (ua.below_at (ub (Below.refl _ _) kd) B3.out);have C4:=Aside0.mk (ua.below_at (ub (Below.refl _ _) kd) C3.out);have HK4:=Aside0.mk (keep_drewN HK3.out kd);obtain ⟨⟨a0,a1,a2⟩,a3,a4,a5⟩:=ui.look3 B3.out;obtain ⟨⟨c0,c1,c2⟩,c3,c4,c5⟩:=ui.look3 C3.out;have n1:¬ W2.heap.size = g:=(by have:=HG.out;have:=HL2.out;omega);have n2:¬ W.heap.size = g:=(by have:=HG.out;omega);have n3:¬ W.heap.size = W2.heap.size:=(by have:=HL2.out;omega);have n4:¬ g = W2.heap.size:=fun e => n1 e.symm;have n5:¬ g = W.heap.size:=fun e => n2 e.symm;have n6:¬ W2.heap.size = W.heap.size:=fun e => n3 e.symm)
        | (go_at_call 45;(with_reducible refine (u1x.calls_ok _).mono ?_);rintro e W5 ⟨rfl,rfl⟩))
       refine bodyPost_ret (v:=.agg #[.string n,.string (Base.ofL t),.string ⟨#[]⟩]) (by simp [results,Tryd.results32,go_sem,a0,a1,a2,n1,n2,n3,n4,n5,n6]) rfl ?_
       have hw:w0.heap.size ≤ W.heap.size:=HS.out.below.size
       have hw2:w0.heap.size ≤ W2.heap.size:=HS2.out.below.size
       have h3:=ur.three (u:=.string n) (v:=.string (Base.ofL t)) (x:=.string ⟨#[]⟩) (HS4.out.below.setCell (p:=⟨W2.heap.size,1,none⟩) hw2 (.string (Base.ofL t))) hw (ua.keep_new (p:=⟨W2.heap.size,1,none⟩) HK4.out (by have:=HL2.out;show W.heap.size ≤ W2.heap.size;omega) (.string (Base.ofL t)))
       exact ur.out_some HE.out h3.1 h3.2
theorem ur.calls (w0 W:World) (g:Nat) (s:List UInt8) (hl:s.length ≤ 1000) (h:ua.St w0 W g s) :
 Calls Tryd.prog 32 #[.pointer (some ⟨g,0,none⟩)] W fun e W' => ur.Out w0 W g (Tx.remarkP s) e W':=by
 cases ht:Tx.typeW.isPrefixOf s with
 | true => exact ur.type w0 W g s hl (ur.both ht) ht h
 | false =>
   cases hh:Tx.helpW.isPrefixOf s with
   | true => exact ur.help w0 W g s hl hh ht h
   | false => exact ur.other w0 W g s hl hh ht h
abbrev ut.Lb:=S37
def ut.nm (k:Nat) (x:ut.Lb):Bool:=(u1a.f k x.f0).getD false
def ut.vl (x:ut.Lb):Bool:=(u2i.f x.f1).getD false
def ut.stepB (k:Nat) (l:List ut.Lb) (i:Nat):Bool:=ut.nm k (uq l (i:Int)) && ut.vl (uq l (i:Int)) && (decide (i = 0) || Op.bytesLess (uq l ((i:Int) - 1)).f0.toList (uq l (i:Int)).f0.toList)
def ut.canB (k:Nat) (l:List ut.Lb):Bool:=decide (1 ≤ l.length) && decide (l.length ≤ 8) && (List.range l.length).all (ut.stepB k l)
def ut.okB (k:Nat) (l:List ut.Lb):Bool:=l.all fun x => (u1a.f k x.f0).isSome && (u2i.f x.f1).isSome
def ut.f (k:Nat) (l0:List ut.Lb):Option Bool:=if ut.okB k l0 = true then some (ut.canB k l0) else none
theorem ut.is_some {a:Option Bool} (h:a.isSome = true):a = some (a.getD false):=by
 cases a with
 | none => cases h
 | some b => rfl
theorem ut.rd_mem (l:List ut.Lb) (i:Int) (h0:0 ≤ i) (h1:i < l.length):uq l i ∈ l:=by
 unfold uq
 rw [List.getD_eq_getElem?_getD,List.getElem?_eq_getElem (by omega)]
 exact List.getElem_mem _
theorem ut.ok_at {k:Nat} {l:List ut.Lb} (h:ut.okB k l = true) (x:ut.Lb) (hx:x ∈ l):u1a.f k x.f0 = some (ut.nm k x) ∧ u2i.f x.f1 = some (ut.vl x):=by
 have h1:=List.all_eq_true.1 h x hx
 rw [Bool.and_eq_true] at h1
 exact ⟨ut.is_some h1.1,ut.is_some h1.2⟩
set_option maxHeartbeats 4000000 in
set_option maxRecDepth 10000 in
theorem ut.calls (k:Nat) (A0:Option Addr) (c0:Nat) (l0:List ut.Lb) (r:Bool) (w:World) (hr0:Kd.C k37 w A0 l0.length l0) (hc0:l0.length ≤ c0) (h:ut.f k l0 = some r) :
 Calls Tryd.prog 10 #[.slice A0 l0.length c0] w fun e w' => e = .returned (.bool r) ∧ Below w.heap.size w w':=by
 have hok:ut.okB k l0 = true:=by
  unfold ut.f at h
  split at h
  · assumption
  · cases h
 unfold ut.f at h
 rw [if_pos hok] at h
 obtain rfl:=Option.some.inj h
 have HO:=Aside0.mk hok
 have HR:=Aside0.mk hr0
 have HC:=Aside0.mk hc0
 clear hr0 h hok hc0
 by_cases h1:l0.length < 1
 · have d1:decide ((l0.length:Int) < 1) = true:=decide_eq_true (by omega)
   have d2:decide (l0.length < 1) = true:=decide_eq_true h1
   have HE:Aside0 (ut.canB k l0 = false):=⟨by unfold ut.canB;rw [decide_eq_false (by omega),Bool.false_and,Bool.false_and]⟩
   rw [HE.out]
   go_enter Tryd.func10,Tryd.ntmps10
   go_wp2
   go_ret
   exact ⟨rfl,Below.refl _ _⟩
 · have d1:decide ((l0.length:Int) < 1) = false:=decide_eq_false (by omega)
   have d2:decide (l0.length < 1) = false:=decide_eq_false h1
   by_cases h8:8 < l0.length
   · have d3:decide ((l0.length:Int) > 8) = true:=decide_eq_true (by omega)
     have d4:decide (8 < l0.length) = true:=decide_eq_true h8
     have HE:Aside0 (ut.canB k l0 = false):=⟨by unfold ut.canB;rw [decide_eq_false (show ¬ l0.length ≤ 8 by omega),Bool.and_false,Bool.false_and]⟩
     rw [HE.out]
     go_enter Tryd.func10,Tryd.ntmps10
     go_wp2
     go_ret
     exact ⟨rfl,Below.refl _ _⟩
   · have d3:decide ((l0.length:Int) > 8) = false:=decide_eq_false (by omega)
     have d4:decide (8 < l0.length) = false:=decide_eq_false h8
     have HE:Aside0 (ut.canB k l0 = (List.range l0.length).all (ut.stepB k l0)):=⟨by unfold ut.canB;rw [decide_eq_true (show 1 ≤ l0.length by omega),decide_eq_true (show l0.length ≤ 8 by omega),Bool.true_and,Bool.true_and]⟩
     rw [HE.out]
     have HB0:=Aside0.mk (Below.refl w.heap.size w)
     go_enter Tryd.func10,Tryd.ntmps10
     go_wp2
     clear d1 d2 d3 d4
     go_loopg [15] (l0.length) (fun kq v15 wr => ∃ (i:Nat),i ≤ l0.length ∧ v15 = .int .i64 i ∧ Aside0 (∀ j,j < i → ut.stepB k l0 j = true) ∧ l0.length ≤ kq + i ∧ Aside0 (Below w.heap.size w wr))
     case atStart => exact ⟨0,Nat.zero_le _,rfl,⟨fun j hj => absurd hj (Nat.not_lt_zero j)⟩,by omega,HB0⟩
     case round =>
      obtain ⟨i,hi,rfl,HJ,hk,HB⟩:=hrel
      by_cases hlt:i < l0.length
      · obtain ⟨ad,e,hc0,hc1⟩:=at_T37 HR.out (i:Int) (by omega) (by omega)
        subst e
        have HX:=ut.ok_at HO.out _ (ut.rd_mem l0 (i:Int) (by omega) (by omega))
        obtain ⟨x,hx⟩:∃ x,Aside0 (uq l0 (i:Int) = x):=⟨_,⟨rfl⟩⟩
        rw [hx.out] at hc0 hc1 HX
        have q0:wr.cell? (ad.add (i * 2)) = some (.string x.f0):=(HB.out.cell (World.block_lt_of_cell? w _ (by simpa using hc0))).trans (by simpa using hc0)
        have q1:wr.cell? ⟨(ad.add (i * 2)).block,(ad.add (i * 2)).off + 1,none⟩ = some (.string x.f1):=(HB.out.cell (World.block_lt_of_cell? w _ (by simpa using hc1))).trans (by simpa using hc1)
        clear hc0 hc1
        obtain ⟨bn,hbn⟩:∃ b,Aside0 (ut.nm k x = b):=⟨_,⟨rfl⟩⟩
        obtain ⟨bv,hbv⟩:∃ b,Aside0 (ut.vl x = b):=⟨_,⟨rfl⟩⟩
        have HN:Aside0 (u1a.f k x.f0 = some bn):=⟨by rw [← hbn.out];exact HX.1⟩
        have HV:Aside0 (u2i.f x.f1 = some bv):=⟨by rw [← hbv.out];exact HX.2⟩
        have hs:ut.stepB k l0 i = (bn && bv && (decide (i = 0) || Op.bytesLess (uq l0 ((i:Int) - 1)).f0.toList x.f0.toList)):=by
         unfold ut.stepB
         rw [hx.out,hbn.out,hbv.out]
        have HS:=Aside0.mk hs
        clear hs HX
        obtain ⟨W1,hW1⟩:∃ W1,Aside0 (wr.alloc (.cells #[.string x.f0,.string x.f1] 37) = W1):=⟨_,⟨rfl⟩⟩
        have HG:Aside0 (W1.heap[wr.heap.size]? = some (.cells #[.string x.f0,.string x.f1] 37 (0,0))):=⟨by rw [← hW1.out];exact blk_new _ _⟩
        have HB1:Aside0 (Below w.heap.size w W1):=⟨by rw [← hW1.out];exact uc HB.out _⟩
        have HG1:=Aside0.mk (ug HG.out)
        have HB2:=Aside0.mk (ud HB1.out)
        have hfail:ut.stepB k l0 i = false → (List.range l0.length).all (ut.stepB k l0) = false:=fun h9 => List.all_eq_false.2 ⟨i,List.mem_range.2 hlt,by rw [h9];decide⟩
        have HFL:=Aside0.mk hfail
        clear hfail
        obtain ⟨g1,rfl⟩:∃ g1,gk = g1 + 1:=⟨gk - 1,by omega⟩
        cases bn with
        | false =>
          go_wp2
          rw [hW1.out]
          clear q0 q1
          refine startO_ (n:=25) (S:=fun w' => w'.cell? ⟨wr.heap.size,0,none⟩ = some (.string x.f0) ∧ w'.cell? ⟨wr.heap.size,1,none⟩ = some (.string x.f1)) (ds:=[]) [(0,20),(1,21),(2,0),(3,23),(4,24),(5,25),(6,26),(7,27),(8,28),(9,29),(10,30),(11,31),(12,32),(13,33),(14,34),(15,35),(16,36),(17,37),(18,38),(19,39),(20,40),(21,41),(22,42),(23,43),(24,44)] (by kernel_rfl) rfl ⟨(un HG1.out 0).trans rfl,(un HG1.out 1).trans rfl⟩ (fun hHeld => ?_)
          (refine hd_ (v:=?_) (a':=?_) rfl rfl (by kernel_rfl) (Or.inl ⟨by kernel_rfl,?_⟩) ?_ ?_;rotate_left;(intro w';go_simp;with_reducible rfl);rotate_left;(simp only [Act.put,List.setIfInBounds_toArray,List.set_cons_zero,List.set_cons_succ,i64_w,i32_w];rfl))
          refine hdS_ (v:=?_) (a':=?_) rfl rfl (by kernel_rfl) (Or.inl ⟨by kernel_rfl,?_⟩) hHeld ?_ ?_
          rotate_left
          · rintro w' hS'
            obtain ⟨s0,s1⟩:=hS'
            go_simp
            (try with_reducible rfl)
          rotate_left
          · simp only [Act.put,List.setIfInBounds_toArray,List.set_cons_zero,List.set_cons_succ,i64_w,i32_w]
            rfl
          refine oneO_ (N:=some 22) rfl rfl (by kernel_rfl) (by decide) (fun K hK => ?_)
          refine goes_ Tryd.func18 (by kernel_rfl) rfl #[.string x.f0] (by rfl) rfl rfl (by (try simp only [List.map_toArray,List.map_cons,List.map_nil]);first | done | rfl) ?_
          refine (u1a.calls k x.f0 false _ HN.out).mono ?_
          rintro e W2 ⟨rfl,hb2⟩
          refine ⟨_,rfl,?_⟩
          have hB2:=hb2.below
          have HG2:=Aside0.mk (uz HG1.out hB2)
          have HB3:=Aside0.mk (below_then HB2.out HB2.out.size hB2)
          clear hb2 hB2
          refine hK.out (Act.put _ (some 22) (.bool false)) _ ⟨(un HG2.out 0).trans rfl,(un HG2.out 1).trans rfl⟩ (fun hNext => ?_)
          simp only [Act.put,List.setIfInBounds_toArray,List.set_cons_zero,List.set_cons_succ,i64_w,i32_w]
          clear hK hHeld K
          have hHeld:=hNext
          clear hNext
          iterate 2 (refine hd_ (v:=?_) (a':=?_) rfl rfl (by kernel_rfl) (Or.inl ⟨by kernel_rfl,?_⟩) ?_ ?_;rotate_left;(intro w';go_simp;with_reducible rfl);rotate_left;(simp only [Act.put,List.setIfInBounds_toArray,List.set_cons_zero,List.set_cons_succ,i64_w,i32_w];rfl))
          iterate 4 (refine hd_ (v:=undef) (a':=?_) rfl rfl (by kernel_rfl) (Or.inr ⟨by kernel_rfl,rfl⟩) ?_ ?_;rotate_left;(simp only [Act.put,List.setIfInBounds_toArray,List.set_cons_zero,List.set_cons_succ,i64_w,i32_w];rfl))
          iterate 2 (refine hd_ (v:=?_) (a':=?_) rfl rfl (by kernel_rfl) (Or.inl ⟨by kernel_rfl,?_⟩) ?_ ?_;rotate_left;(intro w';go_simp;with_reducible rfl);rotate_left;(simp only [Act.put,List.setIfInBounds_toArray,List.set_cons_zero,List.set_cons_succ,i64_w,i32_w];rfl))
          iterate 13 (refine hd_ (v:=undef) (a':=?_) rfl rfl (by kernel_rfl) (Or.inr ⟨by kernel_rfl,rfl⟩) ?_ ?_;rotate_left;(simp only [Act.put,List.setIfInBounds_toArray,List.set_cons_zero,List.set_cons_succ,i64_w,i32_w];rfl))
          (refine hd_ (v:=?_) (a':=?_) rfl rfl (by kernel_rfl) (Or.inl ⟨by kernel_rfl,?_⟩) ?_ ?_;rotate_left;(intro w';go_simp;with_reducible rfl);rotate_left;(simp only [Act.put,List.setIfInBounds_toArray,List.set_cons_zero,List.set_cons_succ,i64_w,i32_w];rfl))
          refine doneO_ (by kernel_rfl) ?_
          try go_wp2
          go_ret
          exact ⟨by rw [HFL.out (by rw [HS.out];simp)];rfl,HB3.out⟩
        | true =>
          cases bv with
          | false =>
            go_wp2
            rw [hW1.out]
            clear q0 q1
            refine startO_ (n:=25) (S:=fun w' => w'.cell? ⟨wr.heap.size,0,none⟩ = some (.string x.f0) ∧ w'.cell? ⟨wr.heap.size,1,none⟩ = some (.string x.f1)) (ds:=[]) [(0,20),(1,21),(2,0),(3,23),(4,24),(5,25),(6,26),(7,0),(8,28),(9,29),(10,30),(11,31),(12,32),(13,33),(14,34),(15,35),(16,36),(17,37),(18,38),(19,39),(20,40),(21,41),(22,42),(23,43),(24,44)] (by kernel_rfl) rfl ⟨(un HG1.out 0).trans rfl,(un HG1.out 1).trans rfl⟩ (fun hHeld => ?_)
            (refine hd_ (v:=?_) (a':=?_) rfl rfl (by kernel_rfl) (Or.inl ⟨by kernel_rfl,?_⟩) ?_ ?_;rotate_left;(intro w';go_simp;with_reducible rfl);rotate_left;(simp only [Act.put,List.setIfInBounds_toArray,List.set_cons_zero,List.set_cons_succ,i64_w,i32_w];rfl))
            refine hdS_ (v:=?_) (a':=?_) rfl rfl (by kernel_rfl) (Or.inl ⟨by kernel_rfl,?_⟩) hHeld ?_ ?_
            rotate_left
            · rintro w' hS'
              obtain ⟨s0,s1⟩:=hS'
              go_simp
              (try with_reducible rfl)
            rotate_left
            · simp only [Act.put,List.setIfInBounds_toArray,List.set_cons_zero,List.set_cons_succ,i64_w,i32_w]
              rfl
            refine oneO_ (N:=some 22) rfl rfl (by kernel_rfl) (by decide) (fun K hK => ?_)
            refine goes_ Tryd.func18 (by kernel_rfl) rfl #[.string x.f0] (by rfl) rfl rfl (by (try simp only [List.map_toArray,List.map_cons,List.map_nil]);first | done | rfl) ?_
            refine (u1a.calls k x.f0 true _ HN.out).mono ?_
            rintro e W2 ⟨rfl,hb2⟩
            refine ⟨_,rfl,?_⟩
            have hB2:=hb2.below
            have HG2:=Aside0.mk (uz HG1.out hB2)
            have HB3:=Aside0.mk (below_then HB2.out HB2.out.size hB2)
            clear hb2 hB2
            refine hK.out (Act.put _ (some 22) (.bool true)) _ ⟨(un HG2.out 0).trans rfl,(un HG2.out 1).trans rfl⟩ (fun hNext => ?_)
            simp only [Act.put,List.setIfInBounds_toArray,List.set_cons_zero,List.set_cons_succ,i64_w,i32_w]
            clear hK hHeld K
            have hHeld:=hNext
            clear hNext
            iterate 3 (refine hd_ (v:=?_) (a':=?_) rfl rfl (by kernel_rfl) (Or.inl ⟨by kernel_rfl,?_⟩) ?_ ?_;rotate_left;(intro w';go_simp;with_reducible rfl);rotate_left;(simp only [Act.put,List.setIfInBounds_toArray,List.set_cons_zero,List.set_cons_succ,i64_w,i32_w];rfl))
            refine hdS_ (v:=?_) (a':=?_) rfl rfl (by kernel_rfl) (Or.inl ⟨by kernel_rfl,?_⟩) hHeld ?_ ?_
            rotate_left
            · rintro w' hS'
              obtain ⟨s0,s1⟩:=hS'
              go_simp
              (try with_reducible rfl)
            rotate_left
            · simp only [Act.put,List.setIfInBounds_toArray,List.set_cons_zero,List.set_cons_succ,i64_w,i32_w]
              rfl
            refine oneO_ (N:=some 27) rfl rfl (by kernel_rfl) (by decide) (fun K hK => ?_)
            refine goes_ Tryd.func19 (by kernel_rfl) rfl #[.string x.f1] (by rfl) rfl rfl (by (try simp only [List.map_toArray,List.map_cons,List.map_nil]);first | done | rfl) ?_
            refine (u2i.calls x.f1 false _ HV.out).mono ?_
            rintro e W3 ⟨rfl,hb3⟩
            refine ⟨_,rfl,?_⟩
            have HG3:=Aside0.mk (uz HG2.out hb3)
            have HB4:=Aside0.mk (below_then HB3.out HB3.out.size hb3)
            clear hb3
            refine hK.out (Act.put _ (some 27) (.bool false)) _ ⟨(un HG3.out 0).trans rfl,(un HG3.out 1).trans rfl⟩ (fun hNext => ?_)
            simp only [Act.put,List.setIfInBounds_toArray,List.set_cons_zero,List.set_cons_succ,i64_w,i32_w]
            clear hK hHeld K
            have hHeld:=hNext
            clear hNext
            iterate 3 (refine hd_ (v:=?_) (a':=?_) rfl rfl (by kernel_rfl) (Or.inl ⟨by kernel_rfl,?_⟩) ?_ ?_;rotate_left;(intro w';go_simp;with_reducible rfl);rotate_left;(simp only [Act.put,List.setIfInBounds_toArray,List.set_cons_zero,List.set_cons_succ,i64_w,i32_w];rfl))
            iterate 13 (refine hd_ (v:=undef) (a':=?_) rfl rfl (by kernel_rfl) (Or.inr ⟨by kernel_rfl,rfl⟩) ?_ ?_;rotate_left;(simp only [Act.put,List.setIfInBounds_toArray,List.set_cons_zero,List.set_cons_succ,i64_w,i32_w];rfl))
            (refine hd_ (v:=?_) (a':=?_) rfl rfl (by kernel_rfl) (Or.inl ⟨by kernel_rfl,?_⟩) ?_ ?_;rotate_left;(intro w';go_simp;with_reducible rfl);rotate_left;(simp only [Act.put,List.setIfInBounds_toArray,List.set_cons_zero,List.set_cons_succ,i64_w,i32_w];rfl))
            refine doneO_ (by kernel_rfl) ?_
            try go_wp2
            go_ret
            exact ⟨by rw [HFL.out (by rw [HS.out];simp)];rfl,HB4.out⟩
          | true =>
            by_cases hz9:i = 0
            · have z1:decide ((i:Int) > 0) = false:=decide_eq_false (by omega)
              have z2:decide (0 < i) = false:=decide_eq_false (by omega)
              have HZ9:=Aside0.mk hz9
              clear hz9
              go_wp2
              rw [hW1.out]
              clear q0 q1
              refine startO_ (n:=25) (S:=fun w' => w'.cell? ⟨wr.heap.size,0,none⟩ = some (.string x.f0) ∧ w'.cell? ⟨wr.heap.size,1,none⟩ = some (.string x.f1)) (ds:=[]) [(0,20),(1,21),(2,0),(3,23),(4,24),(5,25),(6,26),(7,0),(8,28),(9,29),(10,30),(11,31),(12,32),(13,33),(14,34),(15,35),(16,36),(17,37),(18,38),(19,39),(20,40),(21,41),(22,42),(23,43),(24,44)] (by kernel_rfl) rfl ⟨(un HG1.out 0).trans rfl,(un HG1.out 1).trans rfl⟩ (fun hHeld => ?_)
              (refine hd_ (v:=?_) (a':=?_) rfl rfl (by kernel_rfl) (Or.inl ⟨by kernel_rfl,?_⟩) ?_ ?_;rotate_left;(intro w';go_simp;with_reducible rfl);rotate_left;(simp only [Act.put,List.setIfInBounds_toArray,List.set_cons_zero,List.set_cons_succ,i64_w,i32_w];rfl))
              refine hdS_ (v:=?_) (a':=?_) rfl rfl (by kernel_rfl) (Or.inl ⟨by kernel_rfl,?_⟩) hHeld ?_ ?_
              rotate_left
              · rintro w' hS'
                obtain ⟨s0,s1⟩:=hS'
                go_simp
                (try with_reducible rfl)
              rotate_left
              · simp only [Act.put,List.setIfInBounds_toArray,List.set_cons_zero,List.set_cons_succ,i64_w,i32_w]
                rfl
              refine oneO_ (N:=some 22) rfl rfl (by kernel_rfl) (by decide) (fun K hK => ?_)
              refine goes_ Tryd.func18 (by kernel_rfl) rfl #[.string x.f0] (by rfl) rfl rfl (by (try simp only [List.map_toArray,List.map_cons,List.map_nil]);first | done | rfl) ?_
              refine (u1a.calls k x.f0 true _ HN.out).mono ?_
              rintro e W2 ⟨rfl,hb2⟩
              refine ⟨_,rfl,?_⟩
              have hB2:=hb2.below
              have HG2:=Aside0.mk (uz HG1.out hB2)
              have HB3:=Aside0.mk (below_then HB2.out HB2.out.size hB2)
              clear hb2 hB2
              refine hK.out (Act.put _ (some 22) (.bool true)) _ ⟨(un HG2.out 0).trans rfl,(un HG2.out 1).trans rfl⟩ (fun hNext => ?_)
              simp only [Act.put,List.setIfInBounds_toArray,List.set_cons_zero,List.set_cons_succ,i64_w,i32_w]
              clear hK hHeld K
              have hHeld:=hNext
              clear hNext
              iterate 3 (refine hd_ (v:=?_) (a':=?_) rfl rfl (by kernel_rfl) (Or.inl ⟨by kernel_rfl,?_⟩) ?_ ?_;rotate_left;(intro w';go_simp;with_reducible rfl);rotate_left;(simp only [Act.put,List.setIfInBounds_toArray,List.set_cons_zero,List.set_cons_succ,i64_w,i32_w];rfl))
              refine hdS_ (v:=?_) (a':=?_) rfl rfl (by kernel_rfl) (Or.inl ⟨by kernel_rfl,?_⟩) hHeld ?_ ?_
              rotate_left
              · rintro w' hS'
                obtain ⟨s0,s1⟩:=hS'
                go_simp
                (try with_reducible rfl)
              rotate_left
              · simp only [Act.put,List.setIfInBounds_toArray,List.set_cons_zero,List.set_cons_succ,i64_w,i32_w]
                rfl
              refine oneO_ (N:=some 27) rfl rfl (by kernel_rfl) (by decide) (fun K hK => ?_)
              refine goes_ Tryd.func19 (by kernel_rfl) rfl #[.string x.f1] (by rfl) rfl rfl (by (try simp only [List.map_toArray,List.map_cons,List.map_nil]);first | done | rfl) ?_
              refine (u2i.calls x.f1 true _ HV.out).mono ?_
              rintro e W3 ⟨rfl,hb3⟩
              refine ⟨_,rfl,?_⟩
              have HG3:=Aside0.mk (uz HG2.out hb3)
              have HB4:=Aside0.mk (below_then HB3.out HB3.out.size hb3)
              clear hb3
              refine hK.out (Act.put _ (some 27) (.bool true)) _ ⟨(un HG3.out 0).trans rfl,(un HG3.out 1).trans rfl⟩ (fun hNext => ?_)
              simp only [Act.put,List.setIfInBounds_toArray,List.set_cons_zero,List.set_cons_succ,i64_w,i32_w]
              clear hK hHeld K
              have hHeld:=hNext
              clear hNext
              iterate 6 (refine hd_ (v:=?_) (a':=?_) rfl rfl (by kernel_rfl) (Or.inl ⟨by kernel_rfl,?_⟩) ?_ ?_;rotate_left;(intro w';go_simp;with_reducible rfl);rotate_left;(simp only [Act.put,List.setIfInBounds_toArray,List.set_cons_zero,List.set_cons_succ,i64_w,i32_w];rfl))
              iterate 9 (refine hd_ (v:=undef) (a':=?_) rfl rfl (by kernel_rfl) (Or.inr ⟨by kernel_rfl,rfl⟩) ?_ ?_;rotate_left;(simp only [Act.put,List.setIfInBounds_toArray,List.set_cons_zero,List.set_cons_succ,i64_w,i32_w];rfl))
              iterate 2 (refine hd_ (v:=?_) (a':=?_) rfl rfl (by kernel_rfl) (Or.inl ⟨by kernel_rfl,?_⟩) ?_ ?_;rotate_left;(intro w';go_simp;with_reducible rfl);rotate_left;(simp only [Act.put,List.setIfInBounds_toArray,List.set_cons_zero,List.set_cons_succ,i64_w,i32_w];rfl))
              refine doneO_ (by kernel_rfl) ?_
              try go_wp2
              go_roundg g1
              case rel =>
               refine ⟨i + 1,hlt,by go_num,⟨fun m hm => ?_⟩,by omega,HB4⟩
               rcases Nat.lt_or_ge m i with h9 | h9
               · exact HJ.out m h9
               · have h8:m = i:=by omega
                 rw [h8,HS.out]
                 simp [HZ9.out]
              case measure => omega
            · obtain ⟨j,rfl⟩:∃ j,i = j + 1:=⟨i - 1,by omega⟩
              obtain ⟨ad2,e2,hp0,_⟩:=at_T37 HR.out (j:Int) (by omega) (by omega)
              obtain rfl:ad = ad2:=Option.some.inj e2
              obtain ⟨p,hp⟩:∃ p,Aside0 (uq l0 (j:Int) = p):=⟨_,⟨rfl⟩⟩
              rw [hp.out] at hp0
              simp only [Int.toNat_natCast] at hp0
              have HP:Aside0 (∀ W',Below w.heap.size w W' → W'.cell? (ad.add (j * 2)) = some (.string p.f0)):=⟨fun W' hW' => (hW'.cell (World.block_lt_of_cell? w _ hp0)).trans hp0⟩
              have hj1:(((j + 1:Nat):Int) - 1) = (j:Int):=by omega
              rw [hj1,hp.out] at HS
              clear hp0 hj1
              have z1:decide (((j + 1:Nat):Int) > 0) = true:=decide_eq_true (by omega)
              have z2:decide (0 < j + 1) = true:=decide_eq_true (by omega)
              have z3:decide ((0:Int) < (j:Int) + 1) = true:=decide_eq_true (by omega)
              have z4:(0:Int) ≤ (j:Int):=by omega
              have z6:wrap64 (j:Int) = (j:Int):=by unfold wrap64;omega
              have z5:(j:Int) < (l0.length:Int):=by omega
              cases hls:Op.bytesLess p.f0.toList x.f0.toList with
              | false =>
                go_wp2
                rw [hW1.out]
                clear q0 q1
                refine startO_ (n:=25) (S:=fun w' => w'.cell? ⟨wr.heap.size,0,none⟩ = some (.string x.f0) ∧ w'.cell? ⟨wr.heap.size,1,none⟩ = some (.string x.f1) ∧ w'.cell? (ad.add (j * 2)) = some (.string p.f0)) (ds:=[]) [(0,20),(1,21),(2,0),(3,23),(4,24),(5,25),(6,26),(7,0),(8,28),(9,29),(10,30),(11,31),(12,32),(13,33),(14,34),(15,35),(16,36),(17,37),(18,38),(19,39),(20,40),(21,41),(22,42),(23,43),(24,44)] (by kernel_rfl) rfl ⟨(un HG1.out 0).trans rfl,(un HG1.out 1).trans rfl,HP.out _ (HB2.out)⟩ (fun hHeld => ?_)
                (refine hd_ (v:=?_) (a':=?_) rfl rfl (by kernel_rfl) (Or.inl ⟨by kernel_rfl,?_⟩) ?_ ?_;rotate_left;(intro w';go_simp;with_reducible rfl);rotate_left;(simp only [Act.put,List.setIfInBounds_toArray,List.set_cons_zero,List.set_cons_succ,i64_w,i32_w];rfl))
                refine hdS_ (v:=?_) (a':=?_) rfl rfl (by kernel_rfl) (Or.inl ⟨by kernel_rfl,?_⟩) hHeld ?_ ?_
                rotate_left
                · rintro w' hS'
                  obtain ⟨s0,s1,s2⟩:=hS'
                  go_simp
                  (try with_reducible rfl)
                rotate_left
                · simp only [Act.put,List.setIfInBounds_toArray,List.set_cons_zero,List.set_cons_succ,i64_w,i32_w]
                  rfl
                refine oneO_ (N:=some 22) rfl rfl (by kernel_rfl) (by decide) (fun K hK => ?_)
                refine goes_ Tryd.func18 (by kernel_rfl) rfl #[.string x.f0] (by rfl) rfl rfl (by (try simp only [List.map_toArray,List.map_cons,List.map_nil]);first | done | rfl) ?_
                refine (u1a.calls k x.f0 true _ HN.out).mono ?_
                rintro e W2 ⟨rfl,hb2⟩
                refine ⟨_,rfl,?_⟩
                have hB2:=hb2.below
                have HG2:=Aside0.mk (uz HG1.out hB2)
                have HB3:=Aside0.mk (below_then HB2.out HB2.out.size hB2)
                clear hb2 hB2
                refine hK.out (Act.put _ (some 22) (.bool true)) _ ⟨(un HG2.out 0).trans rfl,(un HG2.out 1).trans rfl,HP.out _ (HB3.out)⟩ (fun hNext => ?_)
                simp only [Act.put,List.setIfInBounds_toArray,List.set_cons_zero,List.set_cons_succ,i64_w,i32_w]
                clear hK hHeld K
                have hHeld:=hNext
                clear hNext
                iterate 3 (refine hd_ (v:=?_) (a':=?_) rfl rfl (by kernel_rfl) (Or.inl ⟨by kernel_rfl,?_⟩) ?_ ?_;rotate_left;(intro w';go_simp;with_reducible rfl);rotate_left;(simp only [Act.put,List.setIfInBounds_toArray,List.set_cons_zero,List.set_cons_succ,i64_w,i32_w];rfl))
                refine hdS_ (v:=?_) (a':=?_) rfl rfl (by kernel_rfl) (Or.inl ⟨by kernel_rfl,?_⟩) hHeld ?_ ?_
                rotate_left
                · rintro w' hS'
                  obtain ⟨s0,s1,s2⟩:=hS'
                  go_simp
                  (try with_reducible rfl)
                rotate_left
                · simp only [Act.put,List.setIfInBounds_toArray,List.set_cons_zero,List.set_cons_succ,i64_w,i32_w]
                  rfl
                refine oneO_ (N:=some 27) rfl rfl (by kernel_rfl) (by decide) (fun K hK => ?_)
                refine goes_ Tryd.func19 (by kernel_rfl) rfl #[.string x.f1] (by rfl) rfl rfl (by (try simp only [List.map_toArray,List.map_cons,List.map_nil]);first | done | rfl) ?_
                refine (u2i.calls x.f1 true _ HV.out).mono ?_
                rintro e W3 ⟨rfl,hb3⟩
                refine ⟨_,rfl,?_⟩
                have HG3:=Aside0.mk (uz HG2.out hb3)
                have HB4:=Aside0.mk (below_then HB3.out HB3.out.size hb3)
                clear hb3
                refine hK.out (Act.put _ (some 27) (.bool true)) _ ⟨(un HG3.out 0).trans rfl,(un HG3.out 1).trans rfl,HP.out _ (HB4.out)⟩ (fun hNext => ?_)
                simp only [Act.put,List.setIfInBounds_toArray,List.set_cons_zero,List.set_cons_succ,i64_w,i32_w]
                clear hK hHeld K
                have hHeld:=hNext
                clear hNext
                iterate 11 (refine hd_ (v:=?_) (a':=?_) rfl rfl (by kernel_rfl) (Or.inl ⟨by kernel_rfl,?_⟩) ?_ ?_;rotate_left;(intro w';go_simp;with_reducible rfl);rotate_left;(simp only [Act.put,List.setIfInBounds_toArray,List.set_cons_zero,List.set_cons_succ,i64_w,i32_w];rfl))
                refine hdS_ (v:=?_) (a':=?_) rfl rfl (by kernel_rfl) (Or.inl ⟨by kernel_rfl,?_⟩) hHeld ?_ ?_
                rotate_left
                · rintro w' hS'
                  obtain ⟨s0,s1,s2⟩:=hS'
                  go_simp
                  (try with_reducible rfl)
                rotate_left
                · simp only [Act.put,List.setIfInBounds_toArray,List.set_cons_zero,List.set_cons_succ,i64_w,i32_w]
                  rfl
                (refine hd_ (v:=?_) (a':=?_) rfl rfl (by kernel_rfl) (Or.inl ⟨by kernel_rfl,?_⟩) ?_ ?_;rotate_left;(intro w';go_simp;with_reducible rfl);rotate_left;(simp only [Act.put,List.setIfInBounds_toArray,List.set_cons_zero,List.set_cons_succ,i64_w,i32_w];rfl))
                refine hdS_ (v:=?_) (a':=?_) rfl rfl (by kernel_rfl) (Or.inl ⟨by kernel_rfl,?_⟩) hHeld ?_ ?_
                rotate_left
                · rintro w' hS'
                  obtain ⟨s0,s1,s2⟩:=hS'
                  go_simp
                  (try with_reducible rfl)
                rotate_left
                · simp only [Act.put,List.setIfInBounds_toArray,List.set_cons_zero,List.set_cons_succ,i64_w,i32_w]
                  rfl
                iterate 3 (refine hd_ (v:=?_) (a':=?_) rfl rfl (by kernel_rfl) (Or.inl ⟨by kernel_rfl,?_⟩) ?_ ?_;rotate_left;(intro w';go_simp;with_reducible rfl);rotate_left;(simp only [Act.put,List.setIfInBounds_toArray,List.set_cons_zero,List.set_cons_succ,i64_w,i32_w];rfl))
                refine doneO_ (by kernel_rfl) ?_
                try go_wp2
                go_ret
                exact ⟨by rw [HFL.out (by rw [HS.out,hls];simp)];rfl,HB4.out⟩
              | true =>
                go_wp2
                rw [hW1.out]
                clear q0 q1
                refine startO_ (n:=25) (S:=fun w' => w'.cell? ⟨wr.heap.size,0,none⟩ = some (.string x.f0) ∧ w'.cell? ⟨wr.heap.size,1,none⟩ = some (.string x.f1) ∧ w'.cell? (ad.add (j * 2)) = some (.string p.f0)) (ds:=[]) [(0,20),(1,21),(2,0),(3,23),(4,24),(5,25),(6,26),(7,0),(8,28),(9,29),(10,30),(11,31),(12,32),(13,33),(14,34),(15,35),(16,36),(17,37),(18,38),(19,39),(20,40),(21,41),(22,42),(23,43),(24,44)] (by kernel_rfl) rfl ⟨(un HG1.out 0).trans rfl,(un HG1.out 1).trans rfl,HP.out _ (HB2.out)⟩ (fun hHeld => ?_)
                (refine hd_ (v:=?_) (a':=?_) rfl rfl (by kernel_rfl) (Or.inl ⟨by kernel_rfl,?_⟩) ?_ ?_;rotate_left;(intro w';go_simp;with_reducible rfl);rotate_left;(simp only [Act.put,List.setIfInBounds_toArray,List.set_cons_zero,List.set_cons_succ,i64_w,i32_w];rfl))
                refine hdS_ (v:=?_) (a':=?_) rfl rfl (by kernel_rfl) (Or.inl ⟨by kernel_rfl,?_⟩) hHeld ?_ ?_
                rotate_left
                · rintro w' hS'
                  obtain ⟨s0,s1,s2⟩:=hS'
                  go_simp
                  (try with_reducible rfl)
                rotate_left
                · simp only [Act.put,List.setIfInBounds_toArray,List.set_cons_zero,List.set_cons_succ,i64_w,i32_w]
                  rfl
                refine oneO_ (N:=some 22) rfl rfl (by kernel_rfl) (by decide) (fun K hK => ?_)
                refine goes_ Tryd.func18 (by kernel_rfl) rfl #[.string x.f0] (by rfl) rfl rfl (by (try simp only [List.map_toArray,List.map_cons,List.map_nil]);first | done | rfl) ?_
                refine (u1a.calls k x.f0 true _ HN.out).mono ?_
                rintro e W2 ⟨rfl,hb2⟩
                refine ⟨_,rfl,?_⟩
                have hB2:=hb2.below
                have HG2:=Aside0.mk (uz HG1.out hB2)
                have HB3:=Aside0.mk (below_then HB2.out HB2.out.size hB2)
                clear hb2 hB2
                refine hK.out (Act.put _ (some 22) (.bool true)) _ ⟨(un HG2.out 0).trans rfl,(un HG2.out 1).trans rfl,HP.out _ (HB3.out)⟩ (fun hNext => ?_)
                simp only [Act.put,List.setIfInBounds_toArray,List.set_cons_zero,List.set_cons_succ,i64_w,i32_w]
                clear hK hHeld K
                have hHeld:=hNext
                clear hNext
                iterate 3 (refine hd_ (v:=?_) (a':=?_) rfl rfl (by kernel_rfl) (Or.inl ⟨by kernel_rfl,?_⟩) ?_ ?_;rotate_left;(intro w';go_simp;with_reducible rfl);rotate_left;(simp only [Act.put,List.setIfInBounds_toArray,List.set_cons_zero,List.set_cons_succ,i64_w,i32_w];rfl))
                refine hdS_ (v:=?_) (a':=?_) rfl rfl (by kernel_rfl) (Or.inl ⟨by kernel_rfl,?_⟩) hHeld ?_ ?_
                rotate_left
                · rintro w' hS'
                  obtain ⟨s0,s1,s2⟩:=hS'
                  go_simp
                  (try with_reducible rfl)
                rotate_left
                · simp only [Act.put,List.setIfInBounds_toArray,List.set_cons_zero,List.set_cons_succ,i64_w,i32_w]
                  rfl
                refine oneO_ (N:=some 27) rfl rfl (by kernel_rfl) (by decide) (fun K hK => ?_)
                refine goes_ Tryd.func19 (by kernel_rfl) rfl #[.string x.f1] (by rfl) rfl rfl (by (try simp only [List.map_toArray,List.map_cons,List.map_nil]);first | done | rfl) ?_
                refine (u2i.calls x.f1 true _ HV.out).mono ?_
                rintro e W3 ⟨rfl,hb3⟩
                refine ⟨_,rfl,?_⟩
                have HG3:=Aside0.mk (uz HG2.out hb3)
                have HB4:=Aside0.mk (below_then HB3.out HB3.out.size hb3)
                clear hb3
                refine hK.out (Act.put _ (some 27) (.bool true)) _ ⟨(un HG3.out 0).trans rfl,(un HG3.out 1).trans rfl,HP.out _ (HB4.out)⟩ (fun hNext => ?_)
                simp only [Act.put,List.setIfInBounds_toArray,List.set_cons_zero,List.set_cons_succ,i64_w,i32_w]
                clear hK hHeld K
                have hHeld:=hNext
                clear hNext
                iterate 11 (refine hd_ (v:=?_) (a':=?_) rfl rfl (by kernel_rfl) (Or.inl ⟨by kernel_rfl,?_⟩) ?_ ?_;rotate_left;(intro w';go_simp;with_reducible rfl);rotate_left;(simp only [Act.put,List.setIfInBounds_toArray,List.set_cons_zero,List.set_cons_succ,i64_w,i32_w];rfl))
                refine hdS_ (v:=?_) (a':=?_) rfl rfl (by kernel_rfl) (Or.inl ⟨by kernel_rfl,?_⟩) hHeld ?_ ?_
                rotate_left
                · rintro w' hS'
                  obtain ⟨s0,s1,s2⟩:=hS'
                  go_simp
                  (try with_reducible rfl)
                rotate_left
                · simp only [Act.put,List.setIfInBounds_toArray,List.set_cons_zero,List.set_cons_succ,i64_w,i32_w]
                  rfl
                (refine hd_ (v:=?_) (a':=?_) rfl rfl (by kernel_rfl) (Or.inl ⟨by kernel_rfl,?_⟩) ?_ ?_;rotate_left;(intro w';go_simp;with_reducible rfl);rotate_left;(simp only [Act.put,List.setIfInBounds_toArray,List.set_cons_zero,List.set_cons_succ,i64_w,i32_w];rfl))
                refine hdS_ (v:=?_) (a':=?_) rfl rfl (by kernel_rfl) (Or.inl ⟨by kernel_rfl,?_⟩) hHeld ?_ ?_
                rotate_left
                · rintro w' hS'
                  obtain ⟨s0,s1,s2⟩:=hS'
                  go_simp
                  (try with_reducible rfl)
                rotate_left
                · simp only [Act.put,List.setIfInBounds_toArray,List.set_cons_zero,List.set_cons_succ,i64_w,i32_w]
                  rfl
                iterate 3 (refine hd_ (v:=?_) (a':=?_) rfl rfl (by kernel_rfl) (Or.inl ⟨by kernel_rfl,?_⟩) ?_ ?_;rotate_left;(intro w';go_simp;with_reducible rfl);rotate_left;(simp only [Act.put,List.setIfInBounds_toArray,List.set_cons_zero,List.set_cons_succ,i64_w,i32_w];rfl))
                refine doneO_ (by kernel_rfl) ?_
                try go_wp2
                go_roundg g1
                case rel =>
                 refine ⟨j + 1 + 1,hlt,by go_num,⟨fun m hm => ?_⟩,by omega,HB4⟩
                 rcases Nat.lt_or_ge m (j + 1) with h9 | h9
                 · exact HJ.out m h9
                 · have h8:m = j + 1:=by omega
                   rw [h8,HS.out,hls]
                   simp
                case measure => omega
      · have hie:i = l0.length:=by omega
        have HT:Aside0 ((List.range l0.length).all (ut.stepB k l0) = true):=⟨List.all_eq_true.2 (fun m hm => HJ.out m (by rw [hie];exact List.mem_range.1 hm))⟩
        go_wp2
        go_ret
        exact ⟨by rw [HT.out];rfl,HB.out⟩
end Go.Proofs.YtmcpeifhapekoaaDoor.PAll
namespace Go.Proofs.YtmcpeifhapekoaaDoor.Laws
open Go.RowKit Go.Proofs.YtmcpeifhapekoaaDoor.PAll Go.Proofs.YtmcpeifhapekoaaDoorW.PrintWords Go.Proofs.YtmcpeifhapekoaaDoorW.PrintLast
set_option linter.unusedVariables false
set_option linter.unusedSimpArgs false
theorem wrap_up (i:Nat) (h:i < 9223372036854775807):wrap64 ((i:Int) + 1) = ((i + 1:Nat):Int):=by
 unfold wrap64
 omega
theorem at_byte (s:ByteArray) (i:Nat) (c:UInt8) (r:List UInt8) (h:s.data.toList.drop i = c :: r):i < s.size ∧ bt s (i:Int) = (c.toNat:Int) ∧ s.data.toList.drop (i + 1) = r:=by
 have hlt:i < s.data.toList.length:=by
  rcases Nat.lt_or_ge i s.data.toList.length with h1 | h1
  · exact h1
  · rw [List.drop_eq_nil_of_le h1] at h
    cases h
 have hs:s.size = s.data.toList.length:=Base.size_list s
 rw [List.drop_eq_getElem_cons hlt] at h
 obtain ⟨h1,h2⟩:=List.cons.inj h
 refine ⟨by omega,?_,h2⟩
 rw [Base.bt_list s i (by omega),List.getD_eq_getElem?_getD,List.getElem?_eq_getElem hlt,h1]
 rfl
theorem no_byte (s:ByteArray) (i:Nat) (h:s.data.toList.drop i = []):s.size ≤ i:=by
 have hs:s.size = s.data.toList.length:=Base.size_list s
 have:=List.drop_eq_nil_iff.1 h
 omega
def letterI (c:Int):Bool:=(decide (97 ≤ c) && decide (c ≤ 122)) || (decide (65 ≤ c) && decide (c ≤ 90)) || decide (c = 95)
theorem letter_fin:∀ n:Fin 256,Base.letterB (n.val:Int) = letterI (n.val:Int):=by decide +kernel
theorem letter_is (c:UInt8):Base.letterB (c.toNat:Int) = letterI (c.toNat:Int):=letter_fin ⟨c.toNat,c.toNat_lt⟩
theorem name_step (k:Nat) (s:ByteArray) (i:Nat) (hi:i < s.size) (hs:s.size ≤ 9223372036854775807) :
 u1a.l0 (k + 1) s (i:Int) = if letterI (bt s i) = true then u1a.l0 k s ((i + 1:Nat):Int) else if i = 0 then some false else
  if Base.digitB (bt s i) = true then u1a.l0 k s ((i + 1:Nat):Int) else some false:=by
 have hw:=wrap_up i (by omega)
 simp only [u1a.l0]
 rw [if_pos (by omega),if_pos (by omega),hw]
 generalize bt s (i:Int) = c
 have e0:((i:Int) = 0) = (i = 0):=by simp
 simp only [e0]
 unfold letterI Base.digitB
 by_cases h1:97 ≤ c <;> by_cases h2:c ≤ 122 <;> by_cases h3:65 ≤ c <;> by_cases h4:c ≤ 90 <;> by_cases h5:c = 95 <;> first | (exfalso;omega) | skip
 all_goals by_cases h6:48 ≤ c <;> by_cases h7:c ≤ 57 <;> first | (exfalso;omega) | skip
 all_goals simp [h1,h2,h3,h4,h5,h6,h7]
 all_goals rw [if_neg (show ¬ c < 48 by omega),if_neg (show ¬ 57 < c by omega)]
theorem name_l0 (s:ByteArray) (hs:s.size ≤ 9223372036854775807):∀ (r:List UInt8) (i:Nat),1 ≤ i → s.data.toList.drop i = r →
 Ev (fun k => u1a.l0 k s (i:Int)) (r.all (fun c => Base.letterB (c.toNat:Int) || Base.digitB (c.toNat:Int)) && (decide (1 ≤ s.size) && decide (s.size ≤ 24))):=by
 intro r
 induction r with
 | nil =>
   intro i hi h
   have h1:=no_byte s i h
   refine Ev.step (f:=fun _ => some (decide (1 ≤ s.size) && decide (s.size ≤ 24))) (fun k => ?_) (by simpa using Ev.now _)
   simp only [u1a.l0]
   rw [if_neg (by omega)]
   by_cases h2:1 ≤ s.size
   · rw [if_pos (by omega)]
     simp [h2]
     omega
   · rw [if_neg (by omega)]
     simp [h2]
 | cons c r ih =>
   intro i hi h
   obtain ⟨hlt,hbt,hr⟩:=at_byte s i c r h
   have ih2:=ih (i + 1) (by omega) hr
   cases hl:Base.letterB (c.toNat:Int) with
   | true =>
     have e:(c :: r).all (fun c => Base.letterB (c.toNat:Int) || Base.digitB (c.toNat:Int)) = r.all (fun c => Base.letterB (c.toNat:Int) || Base.digitB (c.toNat:Int)):=by rw [List.all_cons,hl];rfl
     rw [e]
     refine Ev.step (fun k => ?_) ih2
     rw [name_step k s i hlt hs,hbt,← letter_is,if_pos hl]
   | false =>
     cases hd:Base.digitB (c.toNat:Int) with
     | true =>
       have e:(c :: r).all (fun c => Base.letterB (c.toNat:Int) || Base.digitB (c.toNat:Int)) = r.all (fun c => Base.letterB (c.toNat:Int) || Base.digitB (c.toNat:Int)):=by rw [List.all_cons,hl,hd];rfl
       rw [e]
       refine Ev.step (fun k => ?_) ih2
       rw [name_step k s i hlt hs,hbt,← letter_is,if_neg (by rw [hl];simp),if_neg (by omega),if_pos hd]
     | false =>
       have e:(c :: r).all (fun c => Base.letterB (c.toNat:Int) || Base.digitB (c.toNat:Int)) = false:=by rw [List.all_cons,hl,hd];rfl
       rw [e]
       refine Ev.step (f:=fun _ => some false) (fun k => ?_) (Ev.now _)
       rw [name_step k s i hlt hs,hbt,← letter_is,if_neg (by rw [hl];simp),if_neg (by omega),if_neg (by rw [hd];simp)]
theorem all_bytes (s:ByteArray) (p:Int → Bool):(bytesOf s).all p = s.data.toList.all (fun c => p (c.toNat:Int)):=by
 rw [bytesOf,List.all_map]
 rfl
theorem rname_ev (s:ByteArray) (hs:s.size ≤ 9223372036854775807):Ev (fun k => u1a.f k s) (Base.nameB s):=by
 refine Ev.congr (f:=fun k => u1a.l0 k s ((0:Nat):Int)) (fun k => rfl) ?_
 have hz:=Base.size_list s
 cases hd:s.data.toList with
 | nil =>
   have h0:s.size = 0:=by rw [hz,hd];rfl
   have e:Base.nameB s = false:=by simp [Base.nameB,h0]
   rw [e]
   refine Ev.step (f:=fun _ => some false) (fun k => ?_) (Ev.now _)
   simp only [u1a.l0]
   rw [if_neg (by omega),if_neg (by omega)]
 | cons c r =>
   obtain ⟨hlt,hbt,hr⟩:=at_byte s 0 c r (by rw [hd];rfl)
   have ih:=name_l0 s hs r 1 (Nat.le_refl _) (by rw [hd];rfl)
   have hb:(bytesOf s).headD 0 = (c.toNat:Int):=by rw [bytesOf,hd];rfl
   have e:Base.nameB s = (Base.letterB (c.toNat:Int) && (r.all (fun c => Base.letterB (c.toNat:Int) || Base.digitB (c.toNat:Int)) && (decide (1 ≤ s.size) && decide (s.size ≤ 24)))):=by
    rw [Base.nameB,all_bytes,hb,hd,List.all_cons]
    have h1:decide (0 < s.size) = decide (1 ≤ s.size):=rfl
    rw [h1]
    cases Base.letterB (c.toNat:Int) <;> cases decide (1 ≤ s.size) <;> cases decide (s.size ≤ 24) <;> simp
   rw [e]
   cases hl:Base.letterB (c.toNat:Int) with
   | true =>
     rw [Bool.true_and]
     refine Ev.step (fun k => ?_) ih
     rw [name_step k s 0 hlt hs,hbt,← letter_is,if_pos hl]
   | false =>
     rw [Bool.false_and]
     refine Ev.step (f:=fun _ => some false) (fun k => ?_) (Ev.now _)
     rw [name_step k s 0 hlt hs,hbt,← letter_is,if_neg (by rw [hl];simp),if_pos rfl]
theorem plain_is (r:Int):(!(decide (r < 32) || decide (r = 127) || decide (r = 65533))) = Base.plainB r:=by
 unfold Base.plainB
 by_cases h:r < 32
 · have:¬ 32 ≤ r:=by omega
   simp [h,this]
 · have:32 ≤ r:=by omega
   simp [h,this]
theorem rvalue_is (s:ByteArray):u2i.f s = some (Base.valueB s):=by
 have e:Base.plainTextB s = (Base.runesOf s).all Base.plainB:=by
  unfold Base.plainTextB
  congr 1
  funext r
  exact plain_is r
 simp only [u2i.f,u2f.f,Option.bind_some,e,Base.valueB]
 by_cases h1:1 ≤ s.size
 · rw [if_pos (by omega)]
   by_cases h2:s.size ≤ 40
   · rw [if_pos (by omega)]
     have:0 < s.size:=h1
     simp [h2,this]
   · rw [if_neg (by omega)]
     simp [h2]
 · rw [if_neg (by omega)]
   have:¬ 0 < s.size:=h1
   simp [this]
theorem names_ev:∀ (l:List S37),(∀ y ∈ l,y.f0.size ≤ maxLen ∧ y.f1.size ≤ maxLen) → ∃ K,∀ k,K ≤ k → ∀ x ∈ l,u1a.f k x.f0 = some (Base.nameB x.f0)
 | [],_ => ⟨0,fun _ _ x hx => by cases hx⟩
 | x :: r,hs => by
   obtain ⟨K,hK⟩:=names_ev r (fun y hy => hs y (List.mem_cons_of_mem _ hy))
   obtain ⟨M,hM⟩:=rname_ev x.f0 (Nat.le_trans (hs x (List.mem_cons_self ..)).1 (by decide))
   refine ⟨K + M,fun k hk y hy => ?_⟩
   rcases List.mem_cons.1 hy with rfl | h9
   · exact hM k (by omega)
   · exact hK k (by omega) y h9
theorem less_nil {x:ByteArray} (h:Base.nameB x = true):Op.bytesLess [] x.data.toList = true:=by
 have hz:=nameB_size h
 cases hd:x.data.toList with
 | nil => rw [Base.size_list,hd] at hz;simp at hz
 | cons c q => simp [Op.bytesLess]
theorem steps_ok (k:Nat) (l:List S37) (hn:∀ x ∈ l,u1a.f k x.f0 = some (Base.nameB x.f0)):∀ (r:List S37) (i:Nat) (last:ByteArray),l.drop i = r → (i = 0 → last = ⟨#[]⟩) → (0 < i → (uq l ((i - 1:Nat):Int)).f0 = last) →
 (List.range' i r.length).all (ut.stepB k l) = okFrom last.data.toList r:=by
 intro r
 induction r with
 | nil => intro i last _ _ _;rfl
 | cons x r ih =>
   intro i last h hfst hlast
   obtain ⟨hx,hi,hr⟩:=rd_drop l i x r h
   have hmem:x ∈ l:=List.mem_of_mem_drop (by rw [h];simp)
   have e2:=ih (i + 1) x.f0 hr (fun h => by omega) (fun _ => by rw [show i + 1 - 1 = i by omega,hx])
   have e3:ut.stepB k l i = (Base.nameB x.f0 && Base.valueB x.f1 && Op.bytesLess last.data.toList x.f0.data.toList):=by
    unfold ut.stepB ut.nm ut.vl
    rw [hx,hn x hmem,rvalue_is]
    simp only [Option.getD_some,ByteArray.toList_eq]
    by_cases h0:i = 0
    · rw [hfst h0,decide_eq_true h0,Bool.true_or]
      cases hm:Base.nameB x.f0 with
      | false => rfl
      | true =>
        have e4:Op.bytesLess (⟨#[]⟩:ByteArray).data.toList x.f0.data.toList = true:=less_nil hm
        rw [e4]
    · rw [decide_eq_false h0,Bool.false_or,show (i:Int) - 1 = ((i - 1:Nat):Int) by omega,hlast (by omega)]
   rw [List.length_cons,List.range'_succ,List.all_cons,e2,e3]
   rfl
theorem rcan_ev (l:List S37) (hs:∀ y ∈ l,y.f0.size ≤ maxLen ∧ y.f1.size ≤ maxLen):Ev (fun k => ut.f k l) (canB l):=by
 obtain ⟨K,hK⟩:=names_ev l hs
 refine ⟨K,fun k hk => ?_⟩
 have h1:ut.okB k l = true:=List.all_eq_true.2 (fun x hx => by rw [hK k hk x hx,rvalue_is];rfl)
 have h2:=steps_ok k l (hK k hk) l 0 ⟨#[]⟩ rfl (fun _ => rfl) (fun h => by omega)
 rw [← List.range_eq_range'] at h2
 show ut.f k l = some (canB l)
 unfold ut.f
 rw [if_pos h1,ut.canB,h2]
 rfl
def nb (c:UInt8):Bool:=Base.letterB (c.toNat:Int) || Base.digitB (c.toNat:Int)
theorem name_of (c:UInt8) (x:ByteArray) (h:x.data.toList = [97,c]):Base.nameB x = nb c:=by
 have hz:=Base.size_list x
 rw [h] at hz
 have h2:x.size = 2:=hz
 have h3:bytesOf x = [97,(c.toNat:Int)]:=by rw [bytesOf,h];rfl
 have h4:Base.letterB 97 = true:=by decide +kernel
 simp [Base.nameB,h2,h3,h4,nb]
theorem take_tw (p:UInt8 → Bool):∀ l:List UInt8,l.take (l.takeWhile p).length = l.takeWhile p:=by
 intro l
 induction l with
 | nil => rfl
 | cons x r ih =>
   rw [List.takeWhile_cons]
   split
   · simp [ih]
   · rfl
theorem word_l0 (s:ByteArray) (hs:s.size ≤ 140737488351232):∀ (r:List UInt8) (i:Nat),s.data.toList.drop i = r → i ≤ s.size →
 Ev (fun k => u2p.l0 k s (i:Int)) (Base.ofL (s.data.toList.take (i + (r.takeWhile nb).length)),Base.ofL (r.dropWhile nb)):=by
 intro r
 induction r with
 | nil =>
   intro i h hi
   have h1:=no_byte s i h
   have h2:i = s.size:=by omega
   have e1:s.extract 0 ((i:Nat):Int).toNat = Base.ofL (s.data.toList.take (i + (([]:List UInt8).takeWhile nb).length)):=Base.ext_data (by rw [Base.extract_list,Base.ofL_data];simp)
   have e2:s.extract ((i:Nat):Int).toNat s.size = Base.ofL (([]:List UInt8).dropWhile nb):=Base.ext_data (by rw [Base.extract_rest,Base.ofL_data];exact h)
   rw [← e1,← e2]
   refine Ev.step (f:=fun _ => some (s.extract 0 ((i:Nat):Int).toNat,s.extract ((i:Nat):Int).toNat s.size)) (fun k => ?_) (Ev.now _)
   simp only [u2p.l0]
   rw [if_neg (by omega),if_pos (by omega),if_pos (by omega)]
 | cons c r ih =>
   intro i h hi
   obtain ⟨hlt,hbt,hr⟩:=at_byte s i c r h
   have hw:=wrap_up i (by omega)
   have hx:(⟨#[97]⟩:ByteArray) ++ s.extract ((i:Nat):Int).toNat ((i + 1:Nat):Int).toNat = Base.ofL [97,c]:=Base.ext_data (by
    rw [Base.append_data,Base.extract_list,Base.ofL_data]
    have:((i + 1:Nat):Int).toNat - ((i:Nat):Int).toNat = 1:=by omega
    rw [this,show ((i:Nat):Int).toNat = i by omega,h]
    rfl)
   have hxs:(s.extract ((i:Nat):Int).toNat ((i + 1:Nat):Int).toNat).size ≤ 1:=by
    rw [ByteArray.size_extract]
    omega
   have hn:=rname_ev (Base.ofL [97,c]) (by rw [Base.size_list,Base.ofL_data];simp)
   rw [name_of c (Base.ofL [97,c]) (Base.ofL_data _)] at hn
   have hstep:∀ k,u2p.l0 (k + 1) s (i:Int) = ((u1a.f k (Base.ofL [97,c])).bind fun t255 => (if t255 = true then (u2p.l0 k s ((i + 1:Nat):Int)) else (some (s.extract 0 (i:Int).toNat,s.extract (i:Int).toNat s.size)))):=by
    intro k
    simp only [u2p.l0]
    rw [hw,if_pos (by omega),if_pos (by omega),if_pos (by omega),if_pos (by omega),if_pos (by omega),hx]
    have:((i:Int) ≤ (s.size:Int)):=by omega
    simp only [this,if_true]
   refine Ev.step hstep (Ev.bind hn ?_)
   cases hb:nb c with
   | true =>
     have ih2:=ih (i + 1) hr (by omega)
     have e1:(c :: r).takeWhile nb = c :: r.takeWhile nb:=by rw [List.takeWhile_cons,if_pos hb]
     have e2:(c :: r).dropWhile nb = r.dropWhile nb:=by rw [List.dropWhile_cons,if_pos hb]
     rw [e1,e2,show i + (c :: r.takeWhile nb).length = i + 1 + (r.takeWhile nb).length by simp;omega]
     exact Ev.congr (fun k => by simp) ih2
   | false =>
     have e1:(c :: r).takeWhile nb = []:=by rw [List.takeWhile_cons,if_neg (by simp [hb])]
     have e2:(c :: r).dropWhile nb = c :: r:=by rw [List.dropWhile_cons,if_neg (by simp [hb])]
     rw [e1,e2]
     have e3:s.extract 0 ((i:Nat):Int).toNat = Base.ofL (s.data.toList.take (i + ([]:List UInt8).length)):=Base.ext_data (by rw [Base.extract_list,Base.ofL_data];simp)
     have e4:s.extract ((i:Nat):Int).toNat s.size = Base.ofL (c :: r):=Base.ext_data (by rw [Base.extract_rest,Base.ofL_data];exact h)
     rw [← e3,← e4]
     exact Ev.congr (fun k => by simp) (Ev.now _)
theorem word_ev (s:ByteArray) (hs:s.size ≤ 140737488351232):Ev (fun k => u2p.f k s) (Base.ofL (s.data.toList.takeWhile nb),Base.ofL (s.data.toList.dropWhile nb)):=by
 have h:=word_l0 s hs s.data.toList 0 rfl (by omega)
 have e:s.data.toList.take (0 + (s.data.toList.takeWhile nb).length) = s.data.toList.takeWhile nb:=by
  rw [Nat.zero_add]
  exact take_tw nb _
 rw [e] at h
 exact h
end Go.Proofs.YtmcpeifhapekoaaDoor.Laws
namespace Go.Proofs.YtmcpeifhapekoaaDoor.Tx
open Go.RowKit Go.Proofs.YtmcpeifhapekoaaDoor.PAll Go.Proofs.YtmcpeifhapekoaaDoorW.PrintWords Go.Proofs.YtmcpeifhapekoaaDoorW.PrintLast
open Go.Proofs.YtmcpeifhapekoaaDoor.Laws (okFrom canB wrap_up at_byte no_byte word_ev)
set_option linter.unusedVariables false
set_option linter.unusedSimpArgs false
theorem sz (s:B8):(Base.ofL s).size = s.length:=(cut_ofL s 0 (by omega)).2.2
theorem u64_id (x:Int) (h0:0 ≤ x) (h1:x ≤ 18446744073709551615):IntKind.u64.wrap x = x:=by
 unfold IntKind.wrap
 simp only [IntKind.signed,IntKind.bits,Bool.false_and,Bool.false_eq_true,if_false]
 omega
theorem quo {base d:Int} (hb:base = 10 ∨ base = 16) (h0:0 ≤ d) (h1:d ≤ 15):IntKind.u64.wrap (Int.tdiv (IntKind.u64.wrap (18446744073709551615 - IntKind.u64.wrap d)) base) = (18446744073709551615 - d) / base:=by
 rw [u64_id d h0 (by omega),u64_id (18446744073709551615 - d) (by omega) (by omega),Int.tdiv_eq_ediv_of_nonneg (by omega)]
 rcases hb with rfl | rfl <;> exact u64_id _ (by omega) (by omega)
theorem fits {base d m:Int} (hb:base = 10 ∨ base = 16) (h0:0 ≤ d) (h1:d ≤ 15) (hm:0 ≤ m) (h:m ≤ (18446744073709551615 - d) / base):0 ≤ m * base + d ∧ m * base + d ≤ 18446744073709551615 ∧ IntKind.u64.wrap (IntKind.u64.wrap (m * base) + IntKind.u64.wrap d) = m * base + d:=by
 have e:IntKind.u64.wrap d = d:=u64_id d h0 (by omega)
 rcases hb with rfl | rfl
 · have e2:IntKind.u64.wrap (m * 10) = m * 10:=u64_id _ (by omega) (by omega)
   rw [e,e2]
   exact ⟨by omega,by omega,u64_id _ (by omega) (by omega)⟩
 · have e2:IntKind.u64.wrap (m * 16) = m * 16:=u64_id _ (by omega) (by omega)
   rw [e,e2]
   exact ⟨by omega,by omega,u64_id _ (by omega) (by omega)⟩
theorem dw_len (p:UInt8 → Bool) (s:B8):(s.dropWhile p).length ≤ s.length:=by
 have h1:=congrArg List.length (List.takeWhile_append_dropWhile (p:=p) (l:=s))
 rw [List.length_append] at h1
 omega
def Says (g:Nat → Option (Int × ByteArray × Bool)) (o:Option (Int × B8)):Prop:=match o with
 | some (n,r) => Ev g (n,Base.ofL r,true)
 | none => ∃ (x:Int) (y:B8),y.length ≤ 1000 ∧ Ev g (x,Base.ofL y,false)
theorem Says.congr {g f:Nat → Option (Int × ByteArray × Bool)} {o:Option (Int × B8)} (h:∀ k,g k = f k) (hf:Says f o):Says g o:=by
 have e:g = f:=funext h
 rw [e]
 exact hf
theorem neg_is {n:Int} (h0:0 ≤ n) (h:n ≤ 9223372036854775808):wrap64 (IntKind.u64.wrap (-n)) = -n:=by
 unfold wrap64 IntKind.wrap
 simp only [IntKind.signed,IntKind.bits,Bool.false_and,Bool.false_eq_true,if_false]
 omega
theorem unq_rest:∀ (n:Nat) (l acc a q:B8),l.length ≤ n → Base.unqL l acc = some (a,q) → a.length ≤ acc.length + l.length ∧ q.length < l.length:=by
 intro n
 induction n with
 | zero =>
   intro l acc a q hn h
   cases l with
   | nil => simp [Base.unqL] at h
   | cons x r => simp at hn
 | succ n ih =>
   intro l acc a q hn h
   cases l with
   | nil => simp [Base.unqL] at h
   | cons c r =>
     unfold Base.unqL at h
     by_cases h1:c = 34
     · rw [if_pos h1] at h
       obtain ⟨rfl,rfl⟩:=Prod.mk.inj (Option.some.inj h)
       simp
     · rw [if_neg h1] at h
       by_cases h2:c = 92
       · rw [if_pos h2] at h
         cases r with
         | nil => simp at h
         | cons d q2 =>
           simp only at h
           by_cases h3:d = 34 ∨ d = 92
           · rw [if_pos h3] at h
             have:=ih q2 _ _ _ (by simp at hn;omega) h
             simp at this ⊢
             omega
           · rw [if_neg h3] at h
             cases h
       · rw [if_neg h2] at h
         have:=ih r _ _ _ (by simp at hn;omega) h
         simp at this ⊢
         omega
theorem valueD_rest {h:Bool} {most:Nat} {base:Int} {s:B8} {n:Int} {r:B8} (e:valueD h most base s = some (n,r)):r.length ≤ s.length:=by
 unfold valueD digitsP at e
 split at e
 · simp only [Option.bind_some] at e
   cases hn:numL base (s.takeWhile (digC h)) 0 with
   | none => rw [hn] at e;cases e
   | some m =>
     rw [hn] at e
     obtain ⟨_,rfl⟩:=Prod.mk.inj (Option.some.inj e)
     exact dw_len _ _
 · cases e
def small (y:Lb):Prop:=y.f0.size ≤ 1000 ∧ y.f1.size ≤ 1000
def SaysR (g:Nat → Option (List Lb × Int × Int × Bool)) (o:Option Rw):Prop:=match o with
 | some r => Ev g (r.f0,r.f1,r.f2,true)
 | none => ∃ (a:List Lb) (b c:Int),Ev g (a,b,c,false)
theorem SaysR.congr {g f:Nat → Option (List Lb × Int × Int × Bool)} {o:Option Rw} (h:∀ k,g k = f k) (hf:SaysR f o):SaysR g o:=by
 rw [show g = f from funext h]
 exact hf
theorem SaysR.no {g:Nat → Option (List Lb × Int × Int × Bool)} (h:∀ k,g (k + 1) = some ([],0,0,false)):SaysR g none:=⟨[],0,0,Ev.step (f:=fun _ => some ([],0,0,false)) h (Ev.now _)⟩
theorem SaysR.step {g f:Nat → Option (List Lb × Int × Int × Bool)} {o:Option Rw} (h:∀ k,g (k + 1) = f k) (hf:SaysR f o):SaysR g o:=by
 cases o with
 | some r => exact Ev.step h hf
 | none =>
   obtain ⟨a,b,c,hf⟩:=hf
   exact ⟨a,b,c,Ev.step h hf⟩
theorem SaysR.bind {α:Type} {g:Nat → Option α} {f:Nat → α → Option (List Lb × Int × Int × Bool)} {x:α} {o:Option Rw} (hg:Ev g x) (hf:SaysR (fun k => f k x) o):SaysR (fun k => (g k).bind (f k)) o:=by
 cases o with
 | some r => exact Ev.bind hg hf
 | none =>
   obtain ⟨a,b,c,hf⟩:=hf
   exact ⟨a,b,c,Ev.bind hg hf⟩
def SaysM (g:Nat → Option (ByteArray × ByteArray × ByteArray × Bool)) (o:Option Me):Prop:=match o with
 | some m => Ev g (m.1,m.2.1,m.2.2,true)
 | none => ∃ (a b c:ByteArray),Ev g (a,b,c,false)
theorem SaysM.congr {g f:Nat → Option (ByteArray × ByteArray × ByteArray × Bool)} {o:Option Me} (h:∀ k,g k = f k) (hf:SaysM f o):SaysM g o:=by
 rw [show g = f from funext h]
 exact hf
theorem SaysM.step {g f:Nat → Option (ByteArray × ByteArray × ByteArray × Bool)} {o:Option Me} (h:∀ k,g (k + 1) = f k) (hf:SaysM f o):SaysM g o:=by
 cases o with
 | some r => exact Ev.step h hf
 | none =>
   obtain ⟨a,b,c,hf⟩:=hf
   exact ⟨a,b,c,Ev.step h hf⟩
theorem SaysM.bind {α:Type} {g:Nat → Option α} {f:Nat → α → Option (ByteArray × ByteArray × ByteArray × Bool)} {x:α} {o:Option Me} (hg:Ev g x) (hf:SaysM (fun k => f k x) o):SaysM (fun k => (g k).bind (f k)) o:=by
 cases o with
 | some r => exact Ev.bind hg hf
 | none =>
   obtain ⟨a,b,c,hf⟩:=hf
   exact ⟨a,b,c,Ev.bind hg hf⟩
theorem pre_len {p s:B8} (h:p.isPrefixOf s = true):p.length ≤ s.length:=List.IsPrefix.length_le (List.isPrefixOf_iff_prefix.1 h)
def labO (o:Option Rw):List Lb:=match o with | none => [] | some r => r.f0
def timO (o:Option Rw):Int:=match o with | none => 0 | some r => r.f1
def valO (o:Option Rw):Int:=match o with | none => 0 | some r => r.f2
end Go.Proofs.YtmcpeifhapekoaaDoor.Tx
namespace Go.Proofs.YtmcpeifhapekoaaDoor.PAll
open Go.RowKit Go.Proofs.YtmcpeifhapekoaaDoorW.PrintWords Go.Proofs.YtmcpeifhapekoaaDoorW.PrintLast Go.Proofs.YtmcpeifhapekoaaDoorW.PrintMore
attribute [local go_sem] max2_int min2_int max_two min_two max_three min_three max_four min_four
set_option linter.unusedVariables false
set_option linter.unusedSimpArgs false
def uk.f:Option Int:=none
theorem uk.ta_nil (w:World):(Instr.typeAssert Value.nilIface 20 71 true).run Tryd.prog w = .ok (.tuple #[.agg #[.int .i64 0],.bool false]) w:=by kernel_rfl
theorem uk.ta_hit (c:Int) (w:World):(Instr.typeAssert (Value.iface 71 (.agg #[.int .i64 c])) 20 71 true).run Tryd.prog w = .ok (.tuple #[.agg #[.int .i64 c],.bool true]) w:=by kernel_rfl
set_option maxRecDepth 100000 in
theorem uk.catch_idle (p q:Addr) (w:World) :
 CallsD Tryd.prog 28 #[.pointer (some p),.pointer (some q)] .returning w fun e u' w' => e = .returned (.tuple #[]) ∧ u' = .returning ∧ w' = w.alloc (.cells #[.int .i64 0] 71):=by
 have h1:=uk.ta_nil
 refine callsD_of_wpS Tryd.func28 rfl fun c₀ cs hu => ?_
 apply wpS_seq
 apply wpS_region
 simp [wpOpsS,go_sem,recoverD,hu,Tryd.ntmps28,Exit.thenS,h1,Array.replicate]
 refine wpS_of_wp ?_
 go_wp2
 cases c₀
 simp_all [bodyPostS,results,Tryd.results28]
structure uk.Cleared (w w':World) (b q:Nat) (c:Int):Prop where
 said:w'.heap[b]? = some (.cells #[.slice none 0 0,.int .i64 0,.int .u64 0,.bool false,.string ⟨#[]⟩,.string ⟨#[]⟩,.string ⟨#[]⟩] 53 (0,0))
 code:w'.heap[q]? = some (.cells #[.int .i64 c] 26 (0,0))
 rest:∀ B,B ≤ w.heap.size → B ≤ b → B ≤ q → Below B w w'
theorem uk.look7 {W:World} {b t:Nat} {v0 v1 v2 v3 v4 v5 v6:Value} (h:W.heap[b]? = some (.cells #[v0,v1,v2,v3,v4,v5,v6] t (0,0))):(W.cell? ⟨b,0,none⟩ = some v0 ∧ W.cell? ⟨b,1,none⟩ = some v1 ∧ W.cell? ⟨b,2,none⟩ = some v2 ∧ W.cell? ⟨b,3,none⟩ = some v3 ∧ W.cell? ⟨b,4,none⟩ = some v4 ∧ W.cell? ⟨b,5,none⟩ = some v5 ∧ W.cell? ⟨b,6,none⟩ = some v6) ∧ (∀ i,W.frozen? ⟨b,i,none⟩ = false):=by
 have h0:=un h 0
 have h1:=un h 1
 have h2:=un h 2
 have h3:=un h 3
 have h4:=un h 4
 have h5:=un h 5
 have h6:=un h 6
 simp only [List.size_toArray,List.length_cons,List.length_nil,List.getElem?_toArray,List.getElem?_cons_zero,List.getElem?_cons_succ] at h0 h1 h2 h3 h4 h5 h6
 exact ⟨⟨h0,h1,h2,h3,h4,h5,h6⟩,fun i => um h i⟩
theorem uk.look1 {W:World} {b t:Nat} {v:Value} (h:W.heap[b]? = some (.cells #[v] t (0,0))):W.cell? ⟨b,0,none⟩ = some v ∧ W.frozen? ⟨b,0,none⟩ = false:=by
 have h0:=un h 0
 simp only [List.size_toArray,List.length_cons,List.length_nil,List.getElem?_toArray,List.getElem?_cons_zero,List.getElem?_cons_succ] at h0
 exact ⟨h0,um h 0⟩
theorem uk.set7 {W:World} {b t:Nat} {v0 v1 v2 v3 v4 v5 v6:Value} (h:W.heap[b]? = some (.cells #[v0,v1,v2,v3,v4,v5,v6] t (0,0))) (u0 u1 u2 u3 u4 u5 u6:Value):(((((((W.setCell ⟨b,0,none⟩ u0).setCell ⟨b,1,none⟩ u1).setCell ⟨b,2,none⟩ u2).setCell ⟨b,3,none⟩ u3).setCell ⟨b,4,none⟩ u4).setCell ⟨b,5,none⟩ u5).setCell ⟨b,6,none⟩ u6).heap[b]? = some (.cells #[u0,u1,u2,u3,u4,u5,u6] t (0,0)):=by
 have h0:=blk_set h 0 u0
 have h1:=blk_set h0 1 u1
 have h2:=blk_set h1 2 u2
 have h3:=blk_set h2 3 u3
 have h4:=blk_set h3 4 u4
 have h5:=blk_set h4 5 u5
 have h6:=blk_set h5 6 u6
 simp only [List.setIfInBounds_toArray,List.set_cons_zero,List.set_cons_succ] at h6
 exact h6
theorem uk.below7 {w W:World} {B b:Nat} (h:Below B w W) (hb:B ≤ b) (u0 u1 u2 u3 u4 u5 u6:Value):Below B w (((((((W.setCell ⟨b,0,none⟩ u0).setCell ⟨b,1,none⟩ u1).setCell ⟨b,2,none⟩ u2).setCell ⟨b,3,none⟩ u3).setCell ⟨b,4,none⟩ u4).setCell ⟨b,5,none⟩ u5).setCell ⟨b,6,none⟩ u6):=by
 have h0:=h.setCell (p:=⟨b,0,none⟩) hb u0
 have h1:=h0.setCell (p:=⟨b,1,none⟩) hb u1
 have h2:=h1.setCell (p:=⟨b,2,none⟩) hb u2
 have h3:=h2.setCell (p:=⟨b,3,none⟩) hb u3
 have h4:=h3.setCell (p:=⟨b,4,none⟩) hb u4
 have h5:=h4.setCell (p:=⟨b,5,none⟩) hb u5
 exact h5.setCell (p:=⟨b,6,none⟩) hb u6
theorem uk.far7 {W:World} {b k:Nat} {o:Obj} (h:W.heap[k]? = some o) (hk:k ≠ b) (u0 u1 u2 u3 u4 u5 u6:Value):(((((((W.setCell ⟨b,0,none⟩ u0).setCell ⟨b,1,none⟩ u1).setCell ⟨b,2,none⟩ u2).setCell ⟨b,3,none⟩ u3).setCell ⟨b,4,none⟩ u4).setCell ⟨b,5,none⟩ u5).setCell ⟨b,6,none⟩ u6).heap[k]? = some o:=by
 rw [Below.heap_setCell _ ⟨b,6,none⟩ _ k hk,Below.heap_setCell _ ⟨b,5,none⟩ _ k hk,Below.heap_setCell _ ⟨b,4,none⟩ _ k hk,Below.heap_setCell _ ⟨b,3,none⟩ _ k hk,Below.heap_setCell _ ⟨b,2,none⟩ _ k hk,Below.heap_setCell _ ⟨b,1,none⟩ _ k hk,Below.heap_setCell _ ⟨b,0,none⟩ _ k hk,h]
theorem uk.same7 (W:World) {b k:Nat} (hk:k ≠ b) (u0 u1 u2 u3 u4 u5 u6:Value):(((((((W.setCell ⟨b,0,none⟩ u0).setCell ⟨b,1,none⟩ u1).setCell ⟨b,2,none⟩ u2).setCell ⟨b,3,none⟩ u3).setCell ⟨b,4,none⟩ u4).setCell ⟨b,5,none⟩ u5).setCell ⟨b,6,none⟩ u6).heap[k]? = W.heap[k]? := by
 rw [Below.heap_setCell _ ⟨b,6,none⟩ _ k hk,Below.heap_setCell _ ⟨b,5,none⟩ _ k hk,Below.heap_setCell _ ⟨b,4,none⟩ _ k hk,Below.heap_setCell _ ⟨b,3,none⟩ _ k hk,Below.heap_setCell _ ⟨b,2,none⟩ _ k hk,Below.heap_setCell _ ⟨b,1,none⟩ _ k hk,Below.heap_setCell _ ⟨b,0,none⟩ _ k hk]
theorem uk.cleared {w Wx:World} {b q:Nat} {v0 v1 v2 v3 v4 v5 v6 v7:Value} (hW:Below w.heap.size w Wx) (hbq:¬ b = q) (hb:Wx.heap[b]? = some (.cells #[v0,v1,v2,v3,v4,v5,v6] 53 (0,0))) (hq:Wx.heap[q]? = some (.cells #[v7] 26 (0,0))) (h1:b < w.heap.size) (h2:q < w.heap.size) (c:Int) :
 uk.Cleared w (((((((((Wx.setCell ⟨b,0,none⟩ (.slice none 0 0)).setCell ⟨b,1,none⟩ (.int .i64 0)).setCell ⟨b,2,none⟩ (.int .u64 0)).setCell ⟨b,3,none⟩ (.bool false)).setCell ⟨b,4,none⟩ (.string ⟨#[]⟩)).setCell ⟨b,5,none⟩ (.string ⟨#[]⟩)).setCell ⟨b,6,none⟩ (.string ⟨#[]⟩)).setCell ⟨q,0,none⟩ (.int .i64 c)).drew) b q c:=by
 have s7:=uk.set7 hb (.slice none 0 0) (.int .i64 0) (.int .u64 0) (.bool false) (.string ⟨#[]⟩) (.string ⟨#[]⟩) (.string ⟨#[]⟩)
 have f7:=uk.far7 hq (fun e => hbq e.symm) (.slice none 0 0) (.int .i64 0) (.int .u64 0) (.bool false) (.string ⟨#[]⟩) (.string ⟨#[]⟩) (.string ⟨#[]⟩)
 have b7:=fun B (hB:B ≤ w.heap.size) (hb2:B ≤ b) => uk.below7 (hW.mono hB) hb2 (.slice none 0 0) (.int .i64 0) (.int .u64 0) (.bool false) (.string ⟨#[]⟩) (.string ⟨#[]⟩) (.string ⟨#[]⟩)
 generalize ((((((Wx.setCell ⟨b,0,none⟩ (.slice none 0 0)).setCell ⟨b,1,none⟩ (.int .i64 0)).setCell ⟨b,2,none⟩ (.int .u64 0)).setCell ⟨b,3,none⟩ (.bool false)).setCell ⟨b,4,none⟩ (.string ⟨#[]⟩)).setCell ⟨b,5,none⟩ (.string ⟨#[]⟩)).setCell ⟨b,6,none⟩ (.string ⟨#[]⟩) = W7 at s7 f7 b7 ⊢
 have q1:=blk_set f7 0 (.int .i64 c)
 simp only [List.setIfInBounds_toArray,List.set_cons_zero] at q1
 exact ⟨(Below.heap_setCell W7 ⟨q,0,none⟩ (.int .i64 c) b hbq).trans s7,q1,fun B hB hb2 hq2 => ud ((b7 B hB hb2).setCell (p:=⟨q,0,none⟩) hq2 _)⟩
set_option maxRecDepth 100000 in
set_option maxHeartbeats 2000000 in
theorem uk.catch_fault (b q:Nat) (hbq:¬ b = q) (v0 v1 v2 v3 v4 v5 v6 v7:Value) (c:Int) (older:List PanicEntry) (w:World) (hb:w.heap[b]? = some (.cells #[v0,v1,v2,v3,v4,v5,v6] 53 (0,0))) (hq:w.heap[q]? = some (.cells #[v7] 26 (0,0))) :
 CallsD Tryd.prog 28 #[.pointer (some ⟨b,0,none⟩),.pointer (some ⟨q,0,none⟩)] (.panicking ({ v:=.iface 71 (.agg #[.int .i64 c]),recovered:=false } :: older)) w fun e u' w' => e = .returned (.tuple #[]) ∧ u' = .panicking ({ v:=.iface 71 (.agg #[.int .i64 c]),recovered:=true } :: older) ∧ uk.Cleared w w' b q c:=by
 have h1:=uk.ta_hit
 have hb2:=ua.new_old hb (.cells #[.int .i64 c] 71)
 have hq2:=ua.new_old hq (.cells #[.int .i64 c] 71)
 have HB:=Aside0.mk hb2
 have HQ:=Aside0.mk hq2
 have L1:=Aside0.mk (u1n hb)
 have L2:=Aside0.mk (u1n hq)
 obtain ⟨⟨a0,a1,a2,a3,a4,a5,a6⟩,fa⟩:=uk.look7 hb2
 obtain ⟨d0,fd⟩:=uk.look1 hq2
 have n1:¬ q = b:=fun e => hbq e.symm
 clear hb hq hb2 hq2
 refine callsD_of_wpS Tryd.func28 rfl fun c₀ cs hu => ?_
 apply wpS_seq
 apply wpS_region
 simp [wpOpsS,go_sem,recoverD,hu,Tryd.ntmps28,Exit.thenS,h1,Array.replicate]
 refine wpS_of_wp ?_
 go_wp2_with fail
 have x0:=(uk.look1 (ua.new_at w (.cells #[.int .i64 c] 71))).1
 have hW:Aside0 (Below w.heap.size w (w.alloc (.cells #[.int .i64 c] 71))):=⟨uc (Below.refl _ _) _⟩
 have m1:¬ w.heap.size = b:=by have:=L1.out;omega
 have m2:¬ w.heap.size = q:=by have:=L2.out;omega
 have m3:¬ b = w.heap.size:=fun e => m1 e.symm
 have m4:¬ q = w.heap.size:=fun e => m2 e.symm
 generalize w.alloc (.cells #[.int .i64 c] 71) = Wx at *
 generalize w.heap.size = zz at x0 m1 m2 m3 m4 ⊢
 have mixed:Tryd.prog.follows .mixedOrders = true:=by kernel_rfl
 go_big_region_o
 have HC:=Aside0.mk (uk.cleared hW.out hbq HB.out HQ.out L1.out L2.out c)
 clear HB HQ hW fa fd a0 a1 a2 a3 a4 a5 a6 d0 L1 L2
 change bodyPostS _ _ _ _ _ _ _ _ _
 cases c₀
 simp_all [bodyPostS,results,Tryd.results28]
 exact HC.out
def uk.Out (W:World) (o:Option Tx.Rw × Tx.Me × Int) (e:Ending) (W':World):Prop:=∃ v:Value,e = .returned (.tuple #[.agg #[v,.int .i64 (match o.1 with | none => 0 | some r => r.f1),.int .u64 (match o.1 with | none => 0 | some r => r.f2),.bool o.1.isSome,.string o.2.1.1,.string o.2.1.2.1,.string o.2.1.2.2],.int .i64 o.2.2]) ∧ Kd.R k37 37 W' W.heap.size (fun _ => True) v (match o.1 with | none => [] | some r => r.f0) ∧ Below W.heap.size W W'
theorem uk.out_fault {W W':World} {c:Int} {o:Option Tx.Rw × Tx.Me × Int} (ho:o = (none,Tx.me0,c)) (hb:Below W.heap.size W W'):uk.Out W o (.returned (.tuple #[.agg #[.slice none 0 0,.int .i64 0,.int .u64 0,.bool false,.string ⟨#[]⟩,.string ⟨#[]⟩,.string ⟨#[]⟩],.int .i64 c])) W':=by
 subst ho
 exact ⟨_,rfl,Kd.R_nil _ _ _ _ _,hb⟩
structure uk.Pre (W w:World):Prop where
 said:w.heap[W.heap.size]? = some (.cells #[.slice none 0 0,.int .i64 0,.int .u64 0,.bool false,.string ⟨#[]⟩,.string ⟨#[]⟩,.string ⟨#[]⟩] 53 (0,0))
 code:w.heap[W.heap.size + 1]? = some (.cells #[.int .i64 0] 26 (0,0))
 below:Below W.heap.size W w
theorem uk.pre_start (W:World) (o:Obj):uk.Pre W (((W.alloc (.cells #[.slice none 0 0,.int .i64 0,.int .u64 0,.bool false,.string ⟨#[]⟩,.string ⟨#[]⟩,.string ⟨#[]⟩] 53)).alloc (.cells #[.int .i64 0] 26)).alloc o):=by
 have h1:=ua.new_at W (.cells #[.slice none 0 0,.int .i64 0,.int .u64 0,.bool false,.string ⟨#[]⟩,.string ⟨#[]⟩,.string ⟨#[]⟩] 53)
 have h2:=ua.new_at (W.alloc (.cells #[.slice none 0 0,.int .i64 0,.int .u64 0,.bool false,.string ⟨#[]⟩,.string ⟨#[]⟩,.string ⟨#[]⟩] 53)) (.cells #[.int .i64 0] 26)
 rw [World.size_alloc] at h2
 exact ⟨ua.new_old (ua.new_old h1 _) _,ua.new_old h2 _,uc (uc (uc (Below.refl _ _) _) _) _⟩
def uk.mk2 (W:World):World:=(W.alloc (.cells #[.slice none 0 0,.int .i64 0,.int .u64 0,.bool false,.string ⟨#[]⟩,.string ⟨#[]⟩,.string ⟨#[]⟩] 53)).alloc (.cells #[.int .i64 0] 26)
theorem uk.mk2_size (W:World):(uk.mk2 W).heap.size = W.heap.size + 1 + 1:=by
 unfold uk.mk2
 rw [World.size_alloc,World.size_alloc]
theorem uk.st_start (W:World) (s:List UInt8):ua.St (uk.mk2 W) (((W.alloc (.cells #[.slice none 0 0,.int .i64 0,.int .u64 0,.bool false,.string ⟨#[]⟩,.string ⟨#[]⟩,.string ⟨#[]⟩] 53)).alloc (.cells #[.int .i64 0] 26)).alloc (.cells #[.string (Base.ofL s)] 75)) (W.heap.size + 1 + 1) s:=by
 have h2:=ua.new_at (uk.mk2 W) (.cells #[.string (Base.ofL s)] 75)
 rw [uk.mk2_size] at h2
 exact ⟨uc (Below.refl _ _) _,by rw [uk.mk2_size];exact Nat.le_refl _,h2⟩
theorem uk.pre_of {W w:World} (h:Below (uk.mk2 W).heap.size (uk.mk2 W) w):uk.Pre W w:=by
 have h1:=ua.new_at W (.cells #[.slice none 0 0,.int .i64 0,.int .u64 0,.bool false,.string ⟨#[]⟩,.string ⟨#[]⟩,.string ⟨#[]⟩] 53)
 have h2:=ua.new_at (W.alloc (.cells #[.slice none 0 0,.int .i64 0,.int .u64 0,.bool false,.string ⟨#[]⟩,.string ⟨#[]⟩,.string ⟨#[]⟩] 53)) (.cells #[.int .i64 0] 26)
 rw [World.size_alloc] at h2
 exact ⟨ua.below_at h (ua.new_old h1 _),ua.below_at h h2,uw (uc (uc (Below.refl _ _) _) _) (h.mono (by rw [uk.mk2_size,World.size_alloc,World.size_alloc];exact Nat.le_refl _))⟩
theorem uk.Pre.keep {W w w':World} (h:uk.Pre W w) (hb:Below W.heap.size W w') (hk:u1l w w' (W.heap.size + 1 + 1) none):uk.Pre W w' :=
 ⟨ua.kept_at hk (by omega) h.said,ua.kept_at hk (by omega) h.code,hb⟩
theorem uk.Pre.drew {W w:World} (h:uk.Pre W w) (n:Nat):uk.Pre W (w.drewN n):=⟨h.said,h.code,ub h.below n⟩
structure uk.Fin (W V w:World) (u0 u1 u2 u3 u4 u5 u6:Value):Prop where
 said:w.heap[W.heap.size]? = some (.cells #[u0,u1,u2,u3,u4,u5,u6] 53 (0,0))
 code:w.heap[W.heap.size + 1]? = some (.cells #[.int .i64 0] 26 (0,0))
 below:Below W.heap.size W w
 far:∀ k,k ≠ W.heap.size → k ≠ W.heap.size + 1 → w.heap[k]? = V.heap[k]?
theorem uk.fin7 {W V:World} {v0 v1 v2 v3 v4 v5 v6 v7:Value} (hs:V.heap[W.heap.size]? = some (.cells #[v0,v1,v2,v3,v4,v5,v6] 53 (0,0))) (hc:V.heap[W.heap.size + 1]? = some (.cells #[v7] 26 (0,0))) (hb:Below W.heap.size W V) (u0 u1 u2 u3 u4 u5 u6:Value) :
 uk.Fin W V ((((((((V.setCell ⟨W.heap.size,0,none⟩ u0).setCell ⟨W.heap.size,1,none⟩ u1).setCell ⟨W.heap.size,2,none⟩ u2).setCell ⟨W.heap.size,3,none⟩ u3).setCell ⟨W.heap.size,4,none⟩ u4).setCell ⟨W.heap.size,5,none⟩ u5).setCell ⟨W.heap.size,6,none⟩ u6).setCell ⟨W.heap.size + 1,0,none⟩ (.int .i64 0)) u0 u1 u2 u3 u4 u5 u6:=by
 have s7:=uk.set7 hs u0 u1 u2 u3 u4 u5 u6
 have f7:=uk.far7 hc (show W.heap.size + 1 ≠ W.heap.size by omega) u0 u1 u2 u3 u4 u5 u6
 have b7:=uk.below7 hb (Nat.le_refl _) u0 u1 u2 u3 u4 u5 u6
 have k7:=fun k (hk:k ≠ W.heap.size) => uk.same7 V hk u0 u1 u2 u3 u4 u5 u6
 generalize ((((((V.setCell ⟨W.heap.size,0,none⟩ u0).setCell ⟨W.heap.size,1,none⟩ u1).setCell ⟨W.heap.size,2,none⟩ u2).setCell ⟨W.heap.size,3,none⟩ u3).setCell ⟨W.heap.size,4,none⟩ u4).setCell ⟨W.heap.size,5,none⟩ u5).setCell ⟨W.heap.size,6,none⟩ u6 = W7 at s7 f7 b7 k7 ⊢
 have q1:=blk_set f7 0 (.int .i64 0)
 simp only [List.setIfInBounds_toArray,List.set_cons_zero] at q1
 exact ⟨(Below.heap_setCell W7 ⟨W.heap.size + 1,0,none⟩ (.int .i64 0) W.heap.size (by show W.heap.size ≠ W.heap.size + 1;omega)).trans s7,q1,b7.setCell (p:=⟨W.heap.size + 1,0,none⟩) (by show W.heap.size ≤ W.heap.size + 1;omega) _,fun k h1 h2 => (Below.heap_setCell W7 ⟨W.heap.size + 1,0,none⟩ (.int .i64 0) k h2).trans (k7 k h1)⟩
theorem uk.out_meta {W W':World} {m:Tx.Me} {o:Option Tx.Rw × Tx.Me × Int} (ho:o = (none,m,0)) (hb:Below W.heap.size W W'):uk.Out W o (.returned (.tuple #[.agg #[.slice none 0 0,.int .i64 0,.int .u64 0,.bool false,.string m.1,.string m.2.1,.string m.2.2],.int .i64 0])) W':=by
 subst ho
 exact ⟨_,rfl,Kd.R_nil _ _ _ _ _,hb⟩
theorem uk.out_row {W W':World} {r:Tx.Rw} {o:Option Tx.Rw × Tx.Me × Int} (ho:o = (some r,Tx.me0,0)) {v:Value} (hr:Kd.R k37 37 W' W.heap.size (fun _ => True) v r.f0) (hb:Below W.heap.size W W'):uk.Out W o (.returned (.tuple #[.agg #[v,.int .i64 r.f1,.int .u64 r.f2,.bool true,.string ⟨#[]⟩,.string ⟨#[]⟩,.string ⟨#[]⟩],.int .i64 0])) W':=by
 subst ho
 exact ⟨v,rfl,hr,hb⟩
theorem uk.rm_no (w0 W:World) (g:Nat) (s:List UInt8) (hl:s.length ≤ 1000) (hr:Tx.remarkP s = none) (h:ua.St w0 W g s):Calls Tryd.prog 32 #[.pointer (some ⟨g,0,none⟩)] W fun e W' => e = .panicked (u2d.chain 280) ∧ Below w0.heap.size w0 W' :=
 (ur.calls w0 W g s hl h).mono fun e W' ho => by rw [hr] at ho;exact ho
theorem uk.rm_ok (w0 W:World) (g:Nat) (s:List UInt8) (hl:s.length ≤ 1000) (m:Tx.Me) (hr:Tx.remarkP s = some m) (h:ua.St w0 W g s):Calls Tryd.prog 32 #[.pointer (some ⟨g,0,none⟩)] W fun e W' => e = .returned (.agg #[.string m.1,.string m.2.1,.string m.2.2]) ∧ Below w0.heap.size w0 W' :=
 (ur.calls w0 W g s hl h).mono fun e W' ho => by rw [hr] at ho;exact ⟨ho.1,ho.2.1⟩
theorem uk.ib_at (s:List UInt8):∃ z:Int,decide (0 ≤ z) = s.contains 10 ∧ ∀ w:World,Calls Tryd.prog 30 #[.string (Base.ofL s),.int .u8 10] w fun e w' => e = .returned (.int .i64 z) ∧ w' = w:=by
 refine ⟨Lib.indexByte s 10,(Lib.contains_iff_indexByte s 10).symm,fun w => ?_⟩
 have h:=strings_IndexByte.calls (Base.ofL s) 10 w
 rw [Base.ofL_data] at h
 exact h
theorem uk.dw_nil (p:UInt8 → Bool):∀ l:List UInt8,l.dropWhile p = [] ↔ ∀ x ∈ l,p x = true
 | [] => by simp
 | c :: l => by
   rw [List.dropWhile_cons]
   by_cases h:p c = true
   · rw [if_pos h,uk.dw_nil p l]
     simp [h]
   · rw [if_neg h]
     simp [h]
theorem uk.dw_head (p:UInt8 → Bool):∀ (l:List UInt8) (y:UInt8) (r:List UInt8),l.dropWhile p = y :: r → p y = false
 | [],y,r,h => by cases h
 | c :: l,y,r,h => by
   rw [List.dropWhile_cons] at h
   by_cases hc:p c = true
   · rw [if_pos hc] at h
     exact uk.dw_head p l y r h
   · rw [if_neg hc] at h
     obtain ⟨rfl,_⟩:=List.cons.inj h
     simpa using hc
theorem uk.trim_nil (s:List UInt8):(Lib.trimS s [32,9] = []) = (s.all Tx.blankC = true):=by
 have hp:∀ c:UInt8,([32,9]:List UInt8).contains c = Tx.blankC c:=fun c => by
  unfold Tx.blankC
  rw [Bool.eq_iff_iff]
  simp
 have hf:(fun c => ([32,9]:List UInt8).contains c) = Tx.blankC:=funext hp
 unfold Lib.trimS Lib.trimLeftS Lib.trimRightS
 rw [hf]
 apply propext
 rw [uk.dw_nil,List.all_eq_true]
 constructor
 · intro h x hx
   cases he:s.reverse.dropWhile Tx.blankC with
   | nil => exact (uk.dw_nil _ _).1 he x (List.mem_reverse.2 hx)
   | cons y r =>
     have h1:Tx.blankC y = true:=h y (by rw [he];simp)
     have h2:=uk.dw_head Tx.blankC s.reverse y r he
     rw [h1] at h2
     cases h2
 · intro h x hx
   have h1:x ∈ s.reverse:=(List.dropWhile_sublist _).subset (List.mem_reverse.1 hx)
   exact h x (List.mem_reverse.1 h1)
theorem uk.after_fault {W w w':World} {c:Int} (h:uk.Pre W w) (hC:uk.Cleared w w' W.heap.size (W.heap.size + 1) c):Below W.heap.size W w' :=
 below_weaken h.below (Nat.le_refl _) (hC.rest W.heap.size h.below.size (Nat.le_refl _) (by omega))
set_option maxRecDepth 100000 in
set_option maxHeartbeats 2000000 in
theorem uk.too_long (can:List Tx.Lb → Bool) (W:World) (s:List UInt8) (now:Int) (hm:s.length ≤ 4611686018427387904) (hl:s.length > 1000) :
 Calls Tryd.prog 16 #[.string (Base.ofL s),.int .i64 now] W fun e W' => uk.Out W (Tx.readP can s now) e W':=by
 have hmf:∀ (fn:Fn) (first cap:Array Value) (w:World),(Instr.makeFunc fn first cap).run Tryd.prog w = .ok (.func fn first cap) w:=fun _ _ _ _ => rfl
 have hsz:(Base.ofL s).size = s.length:=(Tx.cut_ofL s 0 (by omega)).2.2
 have HE:Aside0 (Tx.readP can s now = (none,Tx.me0,4)):=⟨by unfold Tx.readP;rw [if_pos hl]⟩
 have hd2:(1000:Int) < (s.length:Int):=by omega
 go_enter_defers Tryd.func16,Tryd.ntmps16
 go_wp2_with (go_at_call 29;(with_reducible refine (u2d.calls 4 _).mono ?_);rintro e W1 ⟨rfl,rfl⟩)
 refine leaves_cons (f:=28) (args:=#[.pointer (some ⟨W.heap.size,0,none⟩),.pointer (some ⟨W.heap.size + 1,0,none⟩)]) (by simp) (by simp [go_sem]) ?_
 refine (uk.catch_fault W.heap.size (W.heap.size + 1) (by omega) _ _ _ _ _ _ _ _ 4 [] _ (uk.pre_start W _).said (uk.pre_start W _).code).mono ?_
 rintro e u' w'' ⟨rfl,rfl,hC⟩
 have HBF:=Aside0.mk (uk.after_fault (uk.pre_start W _) hC)
 obtain ⟨⟨a0,a1,a2,a3,a4,a5,a6⟩,fa⟩:=uk.look7 hC.said
 obtain ⟨d0,fd⟩:=uk.look1 hC.code
 clear hC
 simp [Leaves,settle,results,Tryd.results16,go_sem,a0,a1,a2,a3,a4,a5,a6,d0]
 exact uk.out_fault HE.out HBF.out
set_option maxRecDepth 100000 in
set_option maxHeartbeats 2000000 in
theorem uk.lines (can:List Tx.Lb → Bool) (W:World) (s:List UInt8) (now:Int) (hl:s.length ≤ 1000) (hn:s.contains 10 = true) :
 Calls Tryd.prog 16 #[.string (Base.ofL s),.int .i64 now] W fun e W' => uk.Out W (Tx.readP can s now) e W':=by
 have hmf:∀ (fn:Fn) (first cap:Array Value) (w:World),(Instr.makeFunc fn first cap).run Tryd.prog w = .ok (.func fn first cap) w:=fun _ _ _ _ => rfl
 have hsz:(Base.ofL s).size = s.length:=(Tx.cut_ofL s 0 (by omega)).2.2
 have HE:Aside0 (Tx.readP can s now = (none,Tx.me0,280)):=⟨by unfold Tx.readP;rw [if_neg (by omega),if_pos hn]⟩
 obtain ⟨z,hz,hzc⟩:=uk.ib_at s
 have HZ:=Aside0.mk hzc
 rw [hn] at hz
 have hd2:¬ (1000:Int) < (s.length:Int):=by omega
 have hz0:0 ≤ z:=of_decide_eq_true hz
 clear hn hzc
 go_enter_defers Tryd.func16,Tryd.ntmps16
 go_wp2_with (first
  | (go_at_call 30;(with_reducible refine (HZ.out _).mono ?_);rintro e W1 ⟨rfl,rfl⟩)
  | (go_at_call 29;(with_reducible refine (u2d.calls 280 _).mono ?_);rintro e W1 ⟨rfl,rfl⟩))
 refine leaves_cons (f:=28) (args:=#[.pointer (some ⟨W.heap.size,0,none⟩),.pointer (some ⟨W.heap.size + 1,0,none⟩)]) (by simp) (by simp [go_sem]) ?_
 refine (uk.catch_fault W.heap.size (W.heap.size + 1) (by omega) _ _ _ _ _ _ _ _ 280 [] _ (uk.pre_start W _).said (uk.pre_start W _).code).mono ?_
 rintro e u' w'' ⟨rfl,rfl,hC⟩
 have HBF:=Aside0.mk (uk.after_fault (uk.pre_start W _) hC)
 obtain ⟨⟨a0,a1,a2,a3,a4,a5,a6⟩,fa⟩:=uk.look7 hC.said
 obtain ⟨d0,fd⟩:=uk.look1 hC.code
 clear hC
 simp [Leaves,settle,results,Tryd.results16,go_sem,a0,a1,a2,a3,a4,a5,a6,d0]
 exact uk.out_fault HE.out HBF.out
set_option maxRecDepth 100000 in
set_option maxHeartbeats 4000000 in
theorem uk.remark (can:List Tx.Lb → Bool) (W:World) (s:List UInt8) (now:Int) (hl:s.length ≤ 1000) (hn:s.contains 10 = false) (r:List UInt8) (hs:s = 35 :: r) :
 Calls Tryd.prog 16 #[.string (Base.ofL s),.int .i64 now] W fun e W' => uk.Out W (Tx.readP can s now) e W':=by
 have hmf:∀ (fn:Fn) (first cap:Array Value) (w:World),(Instr.makeFunc fn first cap).run Tryd.prog w = .ok (.func fn first cap) w:=fun _ _ _ _ => rfl
 have hsz:(Base.ofL s).size = s.length:=(Tx.cut_ofL s 0 (by omega)).2.2
 have HV:Aside0 (Tx.readP can s now = match Tx.remarkP s with | none => (none,Tx.me0,280) | some m => (none,m,0)):=⟨by unfold Tx.readP;rw [if_neg (by omega),hn,if_neg (by decide)];subst hs;rfl⟩
 obtain ⟨z,hz,hzc⟩:=uk.ib_at s
 have HZ:=Aside0.mk hzc
 rw [hn] at hz
 have hd2:¬ (1000:Int) < (s.length:Int):=by omega
 have hz0:¬ 0 ≤ z:=of_decide_eq_false hz
 have HPK:Aside0 (ua.pk s = 35):=⟨by rw [hs];rfl⟩
 generalize hoo:Tx.readP can s now = o at HV ⊢
 clear hn hzc hoo hs
 cases hr:Tx.remarkP s with
 | none =>
   have HR:=Aside0.mk hr
   have HE:Aside0 (o = (none,Tx.me0,280)):=⟨by rw [HV.out,hr]⟩
   clear hr HV
   go_enter_defers Tryd.func16,Tryd.ntmps16
   go_wp2_with (first
    | (go_at_call 30;(with_reducible refine (HZ.out _).mono ?_);rintro e W1 ⟨rfl,rfl⟩)
    | (go_at_call 31;(with_reducible refine (uv.peek_at (uk.mk2 W) _ (W.heap.size + 1 + 1) s 35 HPK.out (by exact uk.st_start W s)).mono ?_);rintro e W2 ⟨rfl,⟨nd,rfl⟩⟩)
    | (go_at_call 32;(with_reducible refine (uk.rm_no (uk.mk2 W) _ (W.heap.size + 1 + 1) s hl HR.out (by exact (uk.st_start W s).drew nd)).mono ?_);rintro e W3 ⟨rfl,hb3⟩;have HPF:=Aside0.mk (uk.pre_of hb3);clear hb3))
   refine leaves_cons (f:=28) (args:=#[.pointer (some ⟨W.heap.size,0,none⟩),.pointer (some ⟨W.heap.size + 1,0,none⟩)]) (by simp) (by simp [go_sem]) ?_
   refine (uk.catch_fault W.heap.size (W.heap.size + 1) (by omega) _ _ _ _ _ _ _ _ 280 [] _ HPF.out.said HPF.out.code).mono ?_
   rintro e u' w'' ⟨rfl,rfl,hC⟩
   have HBF:=Aside0.mk (uk.after_fault HPF.out hC)
   obtain ⟨⟨a0,a1,a2,a3,a4,a5,a6⟩,fa⟩:=uk.look7 hC.said
   obtain ⟨d0,fd⟩:=uk.look1 hC.code
   clear hC
   simp [Leaves,settle,results,Tryd.results16,go_sem,a0,a1,a2,a3,a4,a5,a6,d0]
   exact uk.out_fault HE.out HBF.out
 | some m =>
   have HR:=Aside0.mk hr
   have HE:Aside0 (o = (none,m,0)):=⟨by rw [HV.out,hr]⟩
   clear hr HV
   go_enter_defers Tryd.func16,Tryd.ntmps16
   go_wp2_with (first
    | (go_at_call 30;(with_reducible refine (HZ.out _).mono ?_);rintro e W1 ⟨rfl,rfl⟩)
    | (go_at_call 31;(with_reducible refine (uv.peek_at (uk.mk2 W) _ (W.heap.size + 1 + 1) s 35 HPK.out (by exact uk.st_start W s)).mono ?_);rintro e W2 ⟨rfl,⟨nd,rfl⟩⟩)
    | (go_at_call 32;(with_reducible refine (uk.rm_ok (uk.mk2 W) _ (W.heap.size + 1 + 1) s hl m HR.out (by exact (uk.st_start W s).drew nd)).mono ?_);rintro e W3 ⟨rfl,hb3⟩;have HPF:=Aside0.mk (uk.pre_of hb3);obtain ⟨⟨a0,a1,a2,a3,a4,a5,a6⟩,fa⟩:=uk.look7 HPF.out.said;obtain ⟨d0,fd⟩:=uk.look1 HPF.out.code;clear hb3))
   have hV1:=blk_set (blk_set (blk_set HPF.out.said 4 (.string m.1)) 5 (.string m.2.1)) 6 (.string m.2.2)
   simp only [List.setIfInBounds_toArray,List.set_cons_zero,List.set_cons_succ] at hV1
   have hV2:(((W3.setCell ⟨W.heap.size,4,none⟩ (.string m.1)).setCell ⟨W.heap.size,5,none⟩ (.string m.2.1)).setCell ⟨W.heap.size,6,none⟩ (.string m.2.2)).heap[W.heap.size + 1]? = some (.cells #[.int .i64 0] 26 (0,0)):=by
    rw [Below.heap_setCell _ ⟨W.heap.size,6,none⟩ _ _ (show W.heap.size + 1 ≠ W.heap.size by omega),Below.heap_setCell _ ⟨W.heap.size,5,none⟩ _ _ (show W.heap.size + 1 ≠ W.heap.size by omega),Below.heap_setCell _ ⟨W.heap.size,4,none⟩ _ _ (show W.heap.size + 1 ≠ W.heap.size by omega),HPF.out.code]
   have hV3:=((HPF.out.below.setCell (p:=⟨W.heap.size,4,none⟩) (Nat.le_refl _) (.string m.1)).setCell (p:=⟨W.heap.size,5,none⟩) (Nat.le_refl _) (.string m.2.1)).setCell (p:=⟨W.heap.size,6,none⟩) (Nat.le_refl _) (.string m.2.2)
   clear a0 a1 a2 a3 a4 a5 a6 fa d0 fd
   have HF:=uk.fin7 (V:=(((W3.setCell ⟨W.heap.size,4,none⟩ (.string m.1)).setCell ⟨W.heap.size,5,none⟩ (.string m.2.1)).setCell ⟨W.heap.size,6,none⟩ (.string m.2.2))) hV1 hV2 hV3 (.slice none 0 0) (.int .i64 0) (.int .u64 0) (.bool false) (.string m.1) (.string m.2.1) (.string m.2.2)
   generalize (((((((((((W3.setCell ⟨W.heap.size,4,none⟩ (.string m.1)).setCell ⟨W.heap.size,5,none⟩ (.string m.2.1)).setCell ⟨W.heap.size,6,none⟩ (.string m.2.2)).setCell ⟨W.heap.size,0,none⟩ (.slice none 0 0)).setCell ⟨W.heap.size,1,none⟩ (.int .i64 0)).setCell ⟨W.heap.size,2,none⟩ (.int .u64 0)).setCell ⟨W.heap.size,3,none⟩ (.bool false)).setCell ⟨W.heap.size,4,none⟩ (.string m.1)).setCell ⟨W.heap.size,5,none⟩ (.string m.2.1)).setCell ⟨W.heap.size,6,none⟩ (.string m.2.2)).setCell ⟨W.heap.size + 1,0,none⟩ (.int .i64 0)) = Wz at HF ⊢
   have hs9:=ua.new_old HF.said (.cells #[.int .i64 0] 71)
   have hc9:=ua.new_old HF.code (.cells #[.int .i64 0] 71)
   have HBF:=Aside0.mk (uw HF.below (uc (Below.refl Wz.heap.size Wz) (.cells #[.int .i64 0] 71)))
   clear HF
   obtain ⟨⟨p0,p1,p2,p3,p4,p5,p6⟩,fp⟩:=uk.look7 hs9
   obtain ⟨q0,fq⟩:=uk.look1 hc9
   clear hs9 hc9
   refine leaves_cons (f:=28) (args:=#[.pointer (some ⟨W.heap.size,0,none⟩),.pointer (some ⟨W.heap.size + 1,0,none⟩)]) (by simp) (by simp [go_sem]) ?_
   refine (uk.catch_idle _ _ _).mono ?_
   rintro e u' w'' ⟨rfl,rfl,rfl⟩
   simp [Leaves,settle,results,Tryd.results16,go_sem,p0,p1,p2,p3,p4,p5,p6,q0]
   exact uk.out_meta HE.out HBF.out
theorem uk.trim_at (s:List UInt8) (hl:s.length ≤ 1000) (W:World):Calls Tryd.prog 33 #[.string (Base.ofL s),.string (⟨#[32,9]⟩:ByteArray)] W fun e W' => e = .returned (.string (Base.ofL (Lib.trimS s [32,9]))) ∧ Below W.heap.size W W':=by
 have h:=Go.Proofs.Tryd.strings_Trim (Base.ofL s) ⟨#[32,9]⟩ W (by rw [(Tx.cut_ofL s 0 (by omega)).2.2];omega) (by decide) (Go.Proofs.ascii_of_all (by decide))
 rw [Base.ofL_data] at h
 exact h
theorem uk.read_blank (can:List Tx.Lb → Bool) (s:List UInt8) (now:Int) (hl:s.length ≤ 1000) (hn:s.contains 10 = false) (hs:∀ r,s ≠ 35 :: r):Tx.readP can s now = if s.all Tx.blankC = true then ((none,Tx.me0,0):Option Tx.Rw × Tx.Me × Int) else match Tx.sampleP can s now with | none => (none,Tx.me0,280) | some r => (some r,Tx.me0,0):=by
 unfold Tx.readP
 rw [if_neg (by omega),hn,if_neg (by decide)]
 split
 · exact absurd rfl (hs _)
 · rfl
set_option maxRecDepth 100000 in
set_option maxHeartbeats 4000000 in
theorem uk.blank (can:List Tx.Lb → Bool) (W:World) (s:List UInt8) (now:Int) (hl:s.length ≤ 1000) (hn:s.contains 10 = false) (hs:∀ r,s ≠ 35 :: r) (ha:s.all Tx.blankC = true) :
 Calls Tryd.prog 16 #[.string (Base.ofL s),.int .i64 now] W fun e W' => uk.Out W (Tx.readP can s now) e W':=by
 have HE:Aside0 (Tx.readP can s now = (none,Tx.me0,0)):=⟨by rw [uk.read_blank can s now hl hn hs,if_pos ha]⟩
 generalize hoo:Tx.readP can s now = o at HE ⊢
 have hmf:∀ (fn:Fn) (first cap:Array Value) (w:World),(Instr.makeFunc fn first cap).run Tryd.prog w = .ok (.func fn first cap) w:=fun _ _ _ _ => rfl
 have hsz:(Base.ofL s).size = s.length:=(Tx.cut_ofL s 0 (by omega)).2.2
 obtain ⟨z,hz,hzc⟩:=uk.ib_at s
 have HZ:=Aside0.mk hzc
 rw [hn] at hz
 have hd2:¬ (1000:Int) < (s.length:Int):=by omega
 have hz0:¬ 0 ≤ z:=of_decide_eq_false hz
 obtain ⟨y,hy⟩:∃ y,ua.pk s = y:=⟨_,rfl⟩
 have HPK:=Aside0.mk hy
 have hyb:(y == 35) = false:=beq_eq_false_iff_ne.2 (by rw [← hy];exact uo.pk_ne s 35 (by decide) hs)
 obtain ⟨_,tw,twn⟩:=u1f.txt (Lib.trimS s [32,9])
 obtain ⟨e1,e2⟩:=twn ((uk.trim_nil s).mpr ha)
 clear hn hzc hoo hs ha tw twn hy
 go_enter_defers Tryd.func16,Tryd.ntmps16
 go_wp2_with (first
  | (go_at_call 30;(with_reducible refine (HZ.out _).mono ?_);rintro e W1 ⟨rfl,rfl⟩)
  | (go_at_call 31;(with_reducible refine (uv.peek_at (uk.mk2 W) _ (W.heap.size + 1 + 1) s y HPK.out (by exact uk.st_start W s)).mono ?_);rintro e W2 ⟨rfl,⟨nd,rfl⟩⟩)
  | (go_at_call 33;(with_reducible refine (uk.trim_at s (by omega) _).mono ?_);rintro e W3 ⟨rfl,hb3⟩;have HS3:=Aside0.mk (((uk.st_start W s).drew nd).more hb3);clear hb3;have HPF:=Aside0.mk (uk.pre_of HS3.out.below);obtain ⟨⟨a0,a1,a2,a3,a4,a5,a6⟩,fa⟩:=uk.look7 HPF.out.said;obtain ⟨d0,fd⟩:=uk.look1 HPF.out.code))
 clear a0 a1 a2 a3 a4 a5 a6 fa d0 fd
 have hV1:=HPF.out.said
 have hV2:=HPF.out.code
 have hV3:=HPF.out.below
 have HF:=uk.fin7 (V:=W3) hV1 hV2 hV3 (.slice none 0 0) (.int .i64 0) (.int .u64 0) (.bool false) (.string ⟨#[]⟩) (.string ⟨#[]⟩) (.string ⟨#[]⟩)
 generalize ((((((((W3.setCell ⟨W.heap.size,0,none⟩ (.slice none 0 0)).setCell ⟨W.heap.size,1,none⟩ (.int .i64 0)).setCell ⟨W.heap.size,2,none⟩ (.int .u64 0)).setCell ⟨W.heap.size,3,none⟩ (.bool false)).setCell ⟨W.heap.size,4,none⟩ (.string ⟨#[]⟩)).setCell ⟨W.heap.size,5,none⟩ (.string ⟨#[]⟩)).setCell ⟨W.heap.size,6,none⟩ (.string ⟨#[]⟩)).setCell ⟨W.heap.size + 1,0,none⟩ (.int .i64 0)) = Wz at HF ⊢
 have hs9:=ua.new_old HF.said (.cells #[.int .i64 0] 71)
 have hc9:=ua.new_old HF.code (.cells #[.int .i64 0] 71)
 have HBF:=Aside0.mk (uw HF.below (uc (Below.refl Wz.heap.size Wz) (.cells #[.int .i64 0] 71)))
 clear HF
 obtain ⟨⟨p0,p1,p2,p3,p4,p5,p6⟩,fp⟩:=uk.look7 hs9
 obtain ⟨q0,fq⟩:=uk.look1 hc9
 clear hs9 hc9
 refine leaves_cons (f:=28) (args:=#[.pointer (some ⟨W.heap.size,0,none⟩),.pointer (some ⟨W.heap.size + 1,0,none⟩)]) (by simp) (by simp [go_sem]) ?_
 refine (uk.catch_idle _ _ _).mono ?_
 rintro e u' w'' ⟨rfl,rfl,rfl⟩
 simp [Leaves,settle,results,Tryd.results16,go_sem,p0,p1,p2,p3,p4,p5,p6,q0]
 exact uk.out_fault HE.out HBF.out
theorem uk.sa_no (can:List Tx.Lb → Bool) (hcan:∀ l:List Tx.Lb,l.length ≤ 10 → ∃ k,u1o.f k l = some (can l)) (w0 W:World) (g:Nat) (s:List UInt8) (now:Int) (hl:s.length ≤ 1000) (hr:Tx.sampleP can s now = none) (h:ua.St w0 W g s):Calls Tryd.prog 34 #[.pointer (some ⟨g,0,none⟩),.int .i64 now] W fun e W' => e = .panicked (u2d.chain 280) ∧ Below w0.heap.size w0 W' :=
 (ui.calls can hcan w0 W g s now hl h).mono fun e W' ho => by rw [hr] at ho;exact ho
theorem uk.sa_ok (can:List Tx.Lb → Bool) (hcan:∀ l:List Tx.Lb,l.length ≤ 10 → ∃ k,u1o.f k l = some (can l)) (w0 W:World) (g:Nat) (s:List UInt8) (now:Int) (hl:s.length ≤ 1000) (r:Tx.Rw) (hr:Tx.sampleP can s now = some r) (h:ua.St w0 W g s):Calls Tryd.prog 34 #[.pointer (some ⟨g,0,none⟩),.int .i64 now] W fun e W' => ∃ v:Value,e = .returned (.agg #[v,.int .i64 r.f1,.int .u64 r.f2]) ∧ Kd.R k37 37 W' w0.heap.size (fun _ => True) v r.f0 ∧ Below w0.heap.size w0 W' :=
 (ui.calls can hcan w0 W g s now hl h).mono fun e W' ho => by
   rw [hr] at ho
   obtain ⟨v,he,h1,h2,_⟩:=ho
   exact ⟨v,he,Kd.R_lower (Kd.R_mono h1 (fun _ _ => trivial)) h.below.size,h2⟩
set_option maxRecDepth 100000 in
set_option maxHeartbeats 4000000 in
theorem uk.row (can:List Tx.Lb → Bool) (hcan:∀ l:List Tx.Lb,l.length ≤ 10 → ∃ k,u1o.f k l = some (can l)) (W:World) (s:List UInt8) (now:Int) (hl:s.length ≤ 1000) (hn:s.contains 10 = false) (hs:∀ r,s ≠ 35 :: r) (ha:¬ s.all Tx.blankC = true) :
 Calls Tryd.prog 16 #[.string (Base.ofL s),.int .i64 now] W fun e W' => uk.Out W (Tx.readP can s now) e W':=by
 have HV:Aside0 (Tx.readP can s now = match Tx.sampleP can s now with | none => (none,Tx.me0,280) | some r => (some r,Tx.me0,0)):=⟨by rw [uk.read_blank can s now hl hn hs,if_neg ha]⟩
 generalize hoo:Tx.readP can s now = o at HV ⊢
 have HCN:=Aside0.mk hcan
 have hmf:∀ (fn:Fn) (first cap:Array Value) (w:World),(Instr.makeFunc fn first cap).run Tryd.prog w = .ok (.func fn first cap) w:=fun _ _ _ _ => rfl
 have hsz:(Base.ofL s).size = s.length:=(Tx.cut_ofL s 0 (by omega)).2.2
 obtain ⟨z,hz,hzc⟩:=uk.ib_at s
 have HZ:=Aside0.mk hzc
 rw [hn] at hz
 have hd2:¬ (1000:Int) < (s.length:Int):=by omega
 have hz0:¬ 0 ≤ z:=of_decide_eq_false hz
 obtain ⟨y,hy⟩:∃ y,ua.pk s = y:=⟨_,rfl⟩
 have HPK:=Aside0.mk hy
 have hyb:(y == 35) = false:=beq_eq_false_iff_ne.2 (by rw [← hy];exact uo.pk_ne s 35 (by decide) hs)
 obtain ⟨_,tw,twn⟩:=u1f.txt (Lib.trimS s [32,9])
 obtain ⟨e1,e2⟩:=tw (fun e => ha ((uk.trim_nil s).mp e))
 clear hn hzc hoo hs ha tw twn hy hcan
 cases hr:Tx.sampleP can s now with
 | none =>
   have HR:=Aside0.mk hr
   have HE:Aside0 (o = (none,Tx.me0,280)):=⟨by rw [HV.out,hr]⟩
   clear hr HV
   go_enter_defers Tryd.func16,Tryd.ntmps16
   go_wp2_with (first
    | (go_at_call 30;(with_reducible refine (HZ.out _).mono ?_);rintro e W1 ⟨rfl,rfl⟩)
    | (go_at_call 31;(with_reducible refine (uv.peek_at (uk.mk2 W) _ (W.heap.size + 1 + 1) s y HPK.out (by exact uk.st_start W s)).mono ?_);rintro e W2 ⟨rfl,⟨nd,rfl⟩⟩)
    | (go_at_call 33;(with_reducible refine (uk.trim_at s (by omega) _).mono ?_);rintro e W3 ⟨rfl,hb3⟩;have HS3:=Aside0.mk (((uk.st_start W s).drew nd).more hb3);clear hb3)
    | (go_at_call 34;(with_reducible refine (uk.sa_no can HCN.out (uk.mk2 W) _ (W.heap.size + 1 + 1) s now hl HR.out (by exact HS3.out)).mono ?_);rintro e W4 ⟨rfl,hb4⟩;have HPF:=Aside0.mk (uk.pre_of hb4);clear hb4))
   refine leaves_cons (f:=28) (args:=#[.pointer (some ⟨W.heap.size,0,none⟩),.pointer (some ⟨W.heap.size + 1,0,none⟩)]) (by simp) (by simp [go_sem]) ?_
   refine (uk.catch_fault W.heap.size (W.heap.size + 1) (by omega) _ _ _ _ _ _ _ _ 280 [] _ HPF.out.said HPF.out.code).mono ?_
   rintro e u' w'' ⟨rfl,rfl,hC⟩
   have HBF:=Aside0.mk (uk.after_fault HPF.out hC)
   obtain ⟨⟨a0,a1,a2,a3,a4,a5,a6⟩,fa⟩:=uk.look7 hC.said
   obtain ⟨d0,fd⟩:=uk.look1 hC.code
   clear hC
   simp [Leaves,settle,results,Tryd.results16,go_sem,a0,a1,a2,a3,a4,a5,a6,d0]
   exact uk.out_fault HE.out HBF.out
 | some r =>
   have HR:=Aside0.mk hr
   have HE:Aside0 (o = (some r,Tx.me0,0)):=⟨by rw [HV.out,hr]⟩
   clear hr HV
   go_enter_defers Tryd.func16,Tryd.ntmps16
   go_wp2_with (first
    | (go_at_call 30;(with_reducible refine (HZ.out _).mono ?_);rintro e W1 ⟨rfl,rfl⟩)
    | (go_at_call 31;(with_reducible refine (uv.peek_at (uk.mk2 W) _ (W.heap.size + 1 + 1) s y HPK.out (by exact uk.st_start W s)).mono ?_);rintro e W2 ⟨rfl,⟨nd,rfl⟩⟩)
    | (go_at_call 33;(with_reducible refine (uk.trim_at s (by omega) _).mono ?_);rintro e W3 ⟨rfl,hb3⟩;have HS3:=Aside0.mk (((uk.st_start W s).drew nd).more hb3);clear hb3)
    | (go_at_call 34;(with_reducible refine (uk.sa_ok can HCN.out (uk.mk2 W) _ (W.heap.size + 1 + 1) s now hl r HR.out (by exact HS3.out)).mono ?_);rintro e W4 ⟨v,rfl,hr4,hb4⟩;have HR4:=Aside0.mk hr4;have HPF:=Aside0.mk (uk.pre_of hb4);obtain ⟨A,c,ev⟩:=Kd.R_slice hr4;subst ev;obtain ⟨⟨a0,a1,a2,a3,a4,a5,a6⟩,fa⟩:=uk.look7 HPF.out.said;obtain ⟨d0,fd⟩:=uk.look1 HPF.out.code;clear hb4 hr4))
   have hV1:=blk_set (blk_set (blk_set (blk_set HPF.out.said 0 (.slice A r.f0.length c)) 1 (.int .i64 r.f1)) 2 (.int .u64 r.f2)) 3 (.bool true)
   simp only [List.setIfInBounds_toArray,List.set_cons_zero,List.set_cons_succ] at hV1
   have hVF:∀ k,k ≠ W.heap.size → ((((W4.setCell ⟨W.heap.size,0,none⟩ (.slice A r.f0.length c)).setCell ⟨W.heap.size,1,none⟩ (.int .i64 r.f1)).setCell ⟨W.heap.size,2,none⟩ (.int .u64 r.f2)).setCell ⟨W.heap.size,3,none⟩ (.bool true)).heap[k]? = W4.heap[k]? := fun k hk => by
    rw [Below.heap_setCell _ ⟨W.heap.size,3,none⟩ _ k hk,Below.heap_setCell _ ⟨W.heap.size,2,none⟩ _ k hk,Below.heap_setCell _ ⟨W.heap.size,1,none⟩ _ k hk,Below.heap_setCell _ ⟨W.heap.size,0,none⟩ _ k hk]
   have hV2:=(hVF (W.heap.size + 1) (by omega)).trans HPF.out.code
   have hV3:=(((HPF.out.below.setCell (p:=⟨W.heap.size,0,none⟩) (Nat.le_refl _) (.slice A r.f0.length c)).setCell (p:=⟨W.heap.size,1,none⟩) (Nat.le_refl _) (.int .i64 r.f1)).setCell (p:=⟨W.heap.size,2,none⟩) (Nat.le_refl _) (.int .u64 r.f2)).setCell (p:=⟨W.heap.size,3,none⟩) (Nat.le_refl _) (.bool true)
   clear a0 a1 a2 a3 a4 a5 a6 fa d0 fd
   have HF:=uk.fin7 (V:=((((W4.setCell ⟨W.heap.size,0,none⟩ (.slice A r.f0.length c)).setCell ⟨W.heap.size,1,none⟩ (.int .i64 r.f1)).setCell ⟨W.heap.size,2,none⟩ (.int .u64 r.f2)).setCell ⟨W.heap.size,3,none⟩ (.bool true))) hV1 hV2 hV3 (.slice A r.f0.length c) (.int .i64 r.f1) (.int .u64 r.f2) (.bool true) (.string ⟨#[]⟩) (.string ⟨#[]⟩) (.string ⟨#[]⟩)
   generalize ((((((((((((W4.setCell ⟨W.heap.size,0,none⟩ (.slice A r.f0.length c)).setCell ⟨W.heap.size,1,none⟩ (.int .i64 r.f1)).setCell ⟨W.heap.size,2,none⟩ (.int .u64 r.f2)).setCell ⟨W.heap.size,3,none⟩ (.bool true)).setCell ⟨W.heap.size,0,none⟩ (.slice A r.f0.length c)).setCell ⟨W.heap.size,1,none⟩ (.int .i64 r.f1)).setCell ⟨W.heap.size,2,none⟩ (.int .u64 r.f2)).setCell ⟨W.heap.size,3,none⟩ (.bool true)).setCell ⟨W.heap.size,4,none⟩ (.string ⟨#[]⟩)).setCell ⟨W.heap.size,5,none⟩ (.string ⟨#[]⟩)).setCell ⟨W.heap.size,6,none⟩ (.string ⟨#[]⟩)).setCell ⟨W.heap.size + 1,0,none⟩ (.int .i64 0)) = Wz at HF ⊢
   have hs9:=ua.new_old HF.said (.cells #[.int .i64 0] 71)
   have hc9:=ua.new_old HF.code (.cells #[.int .i64 0] 71)
   have HBF:=Aside0.mk (uw HF.below (uc (Below.refl Wz.heap.size Wz) (.cells #[.int .i64 0] 71)))
   have HRF:=Aside0.mk (Kd.R_alloc (Kd.R_lower (Kd.R_mono (Kd.R_step (Kd.R_bound HR4.out) (fun k hk _ => (HF.far k (by have h8:=hk.2.1;rw [uk.mk2_size] at h8;omega) (by have h8:=hk.2.1;rw [uk.mk2_size] at h8;omega)).trans (hVF k (by have h8:=hk.2.1;rw [uk.mk2_size] at h8;omega)))) (fun _ _ => trivial)) (show W.heap.size ≤ (uk.mk2 W).heap.size by rw [uk.mk2_size];omega)) (.cells #[.int .i64 0] 71))
   clear HF
   obtain ⟨⟨p0,p1,p2,p3,p4,p5,p6⟩,fp⟩:=uk.look7 hs9
   obtain ⟨q0,fq⟩:=uk.look1 hc9
   clear hs9 hc9
   refine leaves_cons (f:=28) (args:=#[.pointer (some ⟨W.heap.size,0,none⟩),.pointer (some ⟨W.heap.size + 1,0,none⟩)]) (by simp) (by simp [go_sem]) ?_
   refine (uk.catch_idle _ _ _).mono ?_
   rintro e u' w'' ⟨rfl,rfl,rfl⟩
   simp [Leaves,settle,results,Tryd.results16,go_sem,p0,p1,p2,p3,p4,p5,p6,q0]
   exact uk.out_row HE.out HRF.out HBF.out
theorem uk.calls (can:List Tx.Lb → Bool) (hcan:∀ l:List Tx.Lb,l.length ≤ 10 → ∃ k,u1o.f k l = some (can l)) (W:World) (s:List UInt8) (now:Int) (hm:s.length ≤ 4611686018427387904) :
 Calls Tryd.prog 16 #[.string (Base.ofL s),.int .i64 now] W fun e W' => uk.Out W (Tx.readP can s now) e W':=by
 by_cases hl:s.length > 1000
 · exact uk.too_long can W s now hm hl
 · have hl2:s.length ≤ 1000:=by omega
   cases hn:s.contains 10 with
   | true => exact uk.lines can W s now hl2 hn
   | false =>
     by_cases hs:∃ r,s = 35 :: r
     · obtain ⟨r,hr⟩:=hs
       exact uk.remark can W s now hl2 hn r hr
     · have hs2:∀ r,s ≠ 35 :: r:=fun r e => hs ⟨r,e⟩
       by_cases ha:s.all Tx.blankC = true
       · exact uk.blank can W s now hl2 hn hs2 ha
       · exact uk.row can hcan W s now hl2 hn hs2 ha
def u1q.lab (o:Option Tx.Rw × Tx.Me × Int):List Tx.Lb:=match o.1 with | none => [] | some r => r.f0
def u1q.tim (o:Option Tx.Rw × Tx.Me × Int):Int:=match o.1 with | none => 0 | some r => r.f1
def u1q.val (o:Option Tx.Rw × Tx.Me × Int):Int:=match o.1 with | none => 0 | some r => r.f2
def u1q.Out (W:World) (o:Option Tx.Rw × Tx.Me × Int) (e:Ending) (W':World):Prop:=∃ v:Value,e = .returned (.tuple #[.agg #[v,.int .i64 (u1q.tim o),.int .u64 (u1q.val o)],.bool o.1.isSome,.agg #[.int .i64 o.2.2,.int .i64 0]]) ∧ Kd.R k37 37 W' W.heap.size (fun _ => True) v (u1q.lab o) ∧ Below W.heap.size W W'
def u1q.f (a0:ByteArray) (a1:Int):Option (List Tx.Lb × Int × Int × Bool × Int × Int):=if a0.size ≤ 4611686018427387904 then some (u1q.lab (Tx.readP Laws.canB a0.data.toList a1),u1q.tim (Tx.readP Laws.canB a0.data.toList a1),u1q.val (Tx.readP Laws.canB a0.data.toList a1),(Tx.readP Laws.canB a0.data.toList a1).1.isSome,(Tx.readP Laws.canB a0.data.toList a1).2.2,0) else none
theorem u1q.read_at (can:List Tx.Lb → Bool) (hcan:∀ l:List Tx.Lb,l.length ≤ 10 → ∃ k,u1o.f k l = some (can l)) (W:World) (s:List UInt8) (now:Int) (hm:s.length ≤ 4611686018427387904) (L:List Tx.Lb) (T N C:Int) (B:Bool) (a b c:ByteArray) (hL:u1q.lab (Tx.readP can s now) = L) (hT:u1q.tim (Tx.readP can s now) = T) (hN:u1q.val (Tx.readP can s now) = N) (hB:(Tx.readP can s now).1.isSome = B) (hM:(Tx.readP can s now).2.1 = (a,b,c)) (hC:(Tx.readP can s now).2.2 = C) :
 Calls Tryd.prog 16 #[.string (Base.ofL s),.int .i64 now] W fun e W' => ∃ v:Value,e = .returned (.tuple #[.agg #[v,.int .i64 T,.int .u64 N,.bool B,.string a,.string b,.string c],.int .i64 C]) ∧ Kd.R k37 37 W' W.heap.size (fun _ => True) v L ∧ Below W.heap.size W W':=by
 refine (uk.calls can hcan W s now hm).mono fun e W' h => ?_
 obtain ⟨v,he,h1,h2⟩:=h
 subst hL hT hN hB hC
 have ha:(Tx.readP can s now).2.1.1 = a:=by rw [hM]
 have hb:(Tx.readP can s now).2.1.2.1 = b:=by rw [hM]
 have hc:(Tx.readP can s now).2.1.2.2 = c:=by rw [hM]
 rw [ha,hb,hc] at he
 exact ⟨v,he,h1,h2⟩
set_option maxRecDepth 100000 in
set_option maxHeartbeats 4000000 in
theorem u1q.walk (can:List Tx.Lb → Bool) (hcan:∀ l:List Tx.Lb,l.length ≤ 10 → ∃ k,u1o.f k l = some (can l)) (W:World) (s:List UInt8) (now:Int) (hm:s.length ≤ 4611686018427387904) :
 Calls Tryd.prog 6 #[.string (Base.ofL s),.int .i64 now] W fun e W' => u1q.Out W (Tx.readP can s now) e W':=by
 unfold u1q.Out
 obtain ⟨L,hL⟩:∃ L,u1q.lab (Tx.readP can s now) = L:=⟨_,rfl⟩
 obtain ⟨T,hT⟩:∃ T,u1q.tim (Tx.readP can s now) = T:=⟨_,rfl⟩
 obtain ⟨N,hN⟩:∃ N,u1q.val (Tx.readP can s now) = N:=⟨_,rfl⟩
 obtain ⟨B,hB⟩:∃ B,(Tx.readP can s now).1.isSome = B:=⟨_,rfl⟩
 obtain ⟨C,hC⟩:∃ C,(Tx.readP can s now).2.2 = C:=⟨_,rfl⟩
 obtain ⟨a,b,c,hM⟩:∃ a b c,(Tx.readP can s now).2.1 = (a,b,c):=⟨_,_,_,rfl⟩
 rw [hL,hT,hN,hB,hC]
 have HRD:=Aside0.mk (fun W => u1q.read_at can hcan W s now hm L T N C B a b c hL hT hN hB hM hC)
 clear hL hT hN hB hC hM hcan
 have hx1:=ua.new_old (ua.new_at W (.cells #[.slice none 0 0,.int .i64 0,.int .u64 0] 25)) (.cells #[.int .i64 0,.int .i64 0] 28)
 have hx2:=ua.new_at (W.alloc (.cells #[.slice none 0 0,.int .i64 0,.int .u64 0] 25)) (.cells #[.int .i64 0,.int .i64 0] 28)
 rw [World.size_alloc] at hx2
 have HX1:=Aside0.mk hx1
 have HX2:=Aside0.mk hx2
 clear hx1 hx2
 go_enter Tryd.func6,Tryd.ntmps6
 go_wp2_with (go_at_call 16;(with_reducible refine (HRD.out _).mono ?_);rintro e W3 ⟨v,rfl,hr3,hb3⟩;have HR3:=Aside0.mk hr3;have HB3:=Aside0.mk (uw (uc (uc (Below.refl W.heap.size W) _) _) hb3);have X1:=Aside0.mk (ua.below_at hb3 HX1.out);have X2:=Aside0.mk (ua.below_at hb3 HX2.out);obtain ⟨A,cc,ev⟩:=Kd.R_slice hr3;subst ev;clear hr3 hb3)
 have y7:=ua.new_at W3 (.cells #[.slice A L.length cc,.int .i64 T,.int .u64 N,.bool B,.string a,.string b,.string c] 53)
 have y1:=ua.new_old X1.out (.cells #[.slice A L.length cc,.int .i64 T,.int .u64 N,.bool B,.string a,.string b,.string c] 53)
 have y2:=ua.new_old X2.out (.cells #[.slice A L.length cc,.int .i64 T,.int .u64 N,.bool B,.string a,.string b,.string c] 53)
 have HRA:=Aside0.mk (Kd.R_alloc HR3.out (.cells #[.slice A L.length cc,.int .i64 T,.int .u64 N,.bool B,.string a,.string b,.string c] 53))
 have HBA:=Aside0.mk (uc HB3.out (.cells #[.slice A L.length cc,.int .i64 T,.int .u64 N,.bool B,.string a,.string b,.string c] 53))
 have l1:=u1n X1.out
 have l2:=u1n X2.out
 have m1:¬ W3.heap.size = W.heap.size:=by omega
 have m2:¬ W3.heap.size = W.heap.size + 1:=by omega
 have m3:¬ W.heap.size = W3.heap.size:=by omega
 have m4:¬ W.heap.size + 1 = W3.heap.size:=by omega
 have m5:¬ W.heap.size + 1 = W.heap.size:=by omega
 have m6:¬ W.heap.size = W.heap.size + 1:=by omega
 have Y1:=Aside0.mk y1
 have Y2:=Aside0.mk y2
 obtain ⟨⟨a0,a1,a2,a3,a4,a5,a6⟩,fa⟩:=uk.look7 y7
 obtain ⟨⟨b0,b1,b2⟩,b3,b4,b5⟩:=ui.look3 y1
 obtain ⟨c0,c1,c2,c3⟩:=ua.look2 y2
 clear y7 y1 y2 l1 l2 HR3 HB3 X1 X2 HX1 HX2
 generalize W3.alloc (.cells #[.slice A L.length cc,.int .i64 T,.int .u64 N,.bool B,.string a,.string b,.string c] 53) = W4 at *
 generalize W3.heap.size = zz at *
 have mixed:Tryd.prog.follows .mixedOrders = true:=by kernel_rfl
 go_big_region_o
 all_goals go_wp2
 refine bodyPost_ret (v:=.tuple #[.agg #[.slice A L.length cc,.int .i64 T,.int .u64 N],.bool B,.agg #[.int .i64 C,.int .i64 0]]) (by simp [results,Tryd.results6,go_sem,b0,b1,b2,c0,c1,m5,m6]) rfl ⟨.slice A L.length cc,rfl,?_,?_⟩
 · refine Kd.R_drew (Kd.R_lower (Kd.R_mono (Kd.R_step (Kd.R_bound HRA.out) (fun k hk _ => ?_)) (fun _ _ => trivial)) (by rw [World.size_alloc,World.size_alloc];omega))
   have h8:=hk.2.1
   rw [World.size_alloc,World.size_alloc] at h8
   rw [Below.heap_setCell _ ⟨W.heap.size + 1,1,none⟩ _ k (show k ≠ W.heap.size + 1 by omega),Below.heap_setCell _ ⟨W.heap.size + 1,0,none⟩ _ k (show k ≠ W.heap.size + 1 by omega),Below.heap_setCell _ ⟨W.heap.size,2,none⟩ _ k (show k ≠ W.heap.size by omega),Below.heap_setCell _ ⟨W.heap.size,1,none⟩ _ k (show k ≠ W.heap.size by omega),Below.heap_setCell _ ⟨W.heap.size,0,none⟩ _ k (show k ≠ W.heap.size by omega)]
 · have h1:=HBA.out.setCell (p:=⟨W.heap.size,0,none⟩) (Nat.le_refl _) (.slice A L.length cc)
   have h2:=h1.setCell (p:=⟨W.heap.size,1,none⟩) (Nat.le_refl _) (.int .i64 T)
   have h3:=h2.setCell (p:=⟨W.heap.size,2,none⟩) (Nat.le_refl _) (.int .u64 N)
   have h4:=h3.setCell (p:=⟨W.heap.size + 1,0,none⟩) (by show W.heap.size ≤ W.heap.size + 1;omega) (.int .i64 C)
   exact ud (h4.setCell (p:=⟨W.heap.size + 1,1,none⟩) (by show W.heap.size ≤ W.heap.size + 1;omega) (.int .i64 0))
theorem u1q.calls (a0:ByteArray) (a1:Int) (r1:List Tx.Lb) (r2 r3:Int) (r4:Bool) (r5 r6:Int) (w:World) (h:u1q.f a0 a1 = some (r1,r2,r3,r4,r5,r6)) :
 Calls Tryd.prog 6 #[.string a0,.int .i64 a1] w fun e w' => ∃ v:Value,e = .returned (.tuple #[.agg #[v,.int .i64 r2,.int .u64 r3],.bool r4,.agg #[.int .i64 r5,.int .i64 r6]]) ∧ Kd.R k37 37 w' w.heap.size (fun _ => True) v r1 ∧ Below w.heap.size w w':=by
 unfold u1q.f at h
 split at h
 · rename_i hm
   cases Option.some.inj h
   have e:a0 = Base.ofL a0.data.toList:=Base.ext_data (Base.ofL_data _).symm
   have hl:a0.data.toList.length ≤ 4611686018427387904:=by rw [← Base.size_list];exact hm
   have h1:=u1q.walk Laws.canB (fun l _ => (Laws.can_ev l).rounds) w a0.data.toList a1 hl
   rw [← e] at h1
   exact h1
 · cases h
end Go.Proofs.YtmcpeifhapekoaaDoor.PAll
