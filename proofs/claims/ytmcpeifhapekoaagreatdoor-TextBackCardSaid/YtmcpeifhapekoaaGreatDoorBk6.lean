/- Texts of this seat, joined in the order in which they build. -/
import Derived.Test.YtmcpeifhapekoaaGreatDoorBk1
import Derived.Test.YtmcpeifhapekoaaGreatDoorBk3
import Derived.Test.YtmcpeifhapekoaaGreatDoorBk2
import Derived.Test.YtmcpeifhapekoaaGreatDoorBk5
import Derived.Test.YtmcpeifhapekoaaGreatDoorBk4
namespace Go.Proofs.YtmcpeifhapekoaaGreatDoor.PAll
open Go.RowKit Go.Proofs.YtmcpeifhapekoaaGreatDoorW.PrintWords Go.Proofs.YtmcpeifhapekoaaGreatDoorW.PrintLast Go.Proofs.YtmcpeifhapekoaaGreatDoorW.PrintMore
attribute [local go_sem] max2_int min2_int max_two min_two max_three min_three max_four min_four
set_option linter.unusedVariables false
set_option linter.unusedSimpArgs false
mutual
def u1l.l0:Nat → ByteArray → List (S66) → List (S66) → Int → Int → List (S66) → Int → Int → Option (ByteArray)
 | 0,_,_,_,_,_,_,_,_ => none
 | k + 1,x3,x4,x14,x15,x16,x309000,x309001,x309002 => if x16 < x15 then (if 0 ≤ x16 then (if x16 < (x14.length:Int) then (if ((uq x14 x16).f0).toList = ([95,95,110,97,109,101,95,95]:List UInt8) then ((uv.f k x3).bind fun t312 => (if t312 = true then (u1l.l0 k x3 x4 x14 x15 (wrap64 (x16 + 1)) x309000 x309001 x309002) else (if x4.length < 4398046511104 then (u1l.l0 k x3 (x4 ++ [(⟨(uq x14 x16).f0,(uq x14 x16).f1⟩:S66)]) x14 x15 (wrap64 (x16 + 1)) x309000 x309001 x309002) else (none)))) else (if x4.length < 4398046511104 then (u1l.l0 k x3 (x4 ++ [(⟨(uq x14 x16).f0,(uq x14 x16).f1⟩:S66)]) x14 x15 (wrap64 (x16 + 1)) x309000 x309001 x309002) else (none))) else (none)) else (none)) else ((uv.f k x3).bind fun t319 => (if t319 = true then (u1l.j1 k x4 x3 x309000 x309001 x309002) else (u1l.j1 k x4 (⟨#[]⟩:ByteArray) x309000 x309001 x309002)))
def u1l.j1:Nat → List (S66) → ByteArray → List (S66) → Int → Int → Option (ByteArray)
 | 0,_,_,_,_,_ => none
 | k + 1,x4,x7,x309000,x309001,x309002 => if (x4.length:Int) > 0 then ((u1z.f k x4).bind fun bt320 => (if x7.size + bt320.1.size ≤ 9223372036854775807 then (if (x7 ++ bt320.1).size + 1 ≤ 9223372036854775807 then ((u1i.f k x309002).bind fun t322 => (if ((x7 ++ bt320.1) ++ (⟨#[32]⟩:ByteArray)).size + t322.size ≤ 9223372036854775807 then (if (((x7 ++ bt320.1) ++ (⟨#[32]⟩:ByteArray)) ++ t322).size + 1 ≤ 9223372036854775807 then ((u2g.f k x309001).bind fun t323 => (if ((((x7 ++ bt320.1) ++ (⟨#[32]⟩:ByteArray)) ++ t322) ++ (⟨#[32]⟩:ByteArray)).size + t323.size ≤ 9223372036854775807 then (if (((((x7 ++ bt320.1) ++ (⟨#[32]⟩:ByteArray)) ++ t322) ++ (⟨#[32]⟩:ByteArray)) ++ t323).size + 1 ≤ 9223372036854775807 then (some ((((((x7 ++ bt320.1) ++ (⟨#[32]⟩:ByteArray)) ++ t322) ++ (⟨#[32]⟩:ByteArray)) ++ t323) ++ (⟨#[10]⟩:ByteArray))) else (none)) else (none))) else (none)) else (none))) else (none)) else (none))) else (if x7.size + 1 ≤ 9223372036854775807 then ((u1i.f k x309002).bind fun t324 => (if (x7 ++ (⟨#[32]⟩:ByteArray)).size + t324.size ≤ 9223372036854775807 then (if ((x7 ++ (⟨#[32]⟩:ByteArray)) ++ t324).size + 1 ≤ 9223372036854775807 then ((u2g.f k x309001).bind fun t325 => (if (((x7 ++ (⟨#[32]⟩:ByteArray)) ++ t324) ++ (⟨#[32]⟩:ByteArray)).size + t325.size ≤ 9223372036854775807 then (if ((((x7 ++ (⟨#[32]⟩:ByteArray)) ++ t324) ++ (⟨#[32]⟩:ByteArray)) ++ t325).size + 1 ≤ 9223372036854775807 then (some (((((x7 ++ (⟨#[32]⟩:ByteArray)) ++ t324) ++ (⟨#[32]⟩:ByteArray)) ++ t325) ++ (⟨#[10]⟩:ByteArray))) else (none)) else (none))) else (none)) else (none))) else (none))
end
def u1l.f (k:Nat) (l0_0:List (S66)) (a0_1:Int) (a0_2:Int):Option (ByteArray):=(u2o.f k l0_0 (⟨#[95,95,110,97,109,101,95,95]⟩:ByteArray)).bind fun t309 => (u1l.l0 k t309 ([]:List (S66)) l0_0 (l0_0.length:Int) 0 l0_0 a0_1 a0_2)
set_option maxHeartbeats 8000000 in
set_option maxRecDepth 100000 in
theorem u1l.calls (k:Nat) (A0_0:Option Addr) (c0_0:Nat) (l0_0:List (S66)) (a0_1:Int) (a0_2:Int) (r:ByteArray) (w:World) (hr0_0:Kd.C k66 w A0_0 l0_0.length l0_0) (hc0_0:l0_0.length ≤ c0_0) (h:u1l.f k l0_0 a0_1 a0_2 = some r) :
 Calls Tryz.prog 41 #[.agg #[.slice A0_0 l0_0.length c0_0,.int .i64 a0_1,.int .u64 a0_2]] w fun e w' => e = .returned (.string r) ∧ Below w.heap.size w w':=by
 have hu53:=Tryz.underlying53
 have hu66:=Tryz.underlying66
 have HR0_0:=Aside0.mk hr0_0
 have HC0_0:=Aside0.mk hc0_0
 clear hr0_0 hc0_0
 have HB:=Aside0.mk (Below.refl w.heap.size w)
 have H:((u2o.f k l0_0 (⟨#[95,95,110,97,109,101,95,95]⟩:ByteArray)).bind fun t309 => (u1l.l0 k t309 ([]:List (S66)) l0_0 (l0_0.length:Int) 0 l0_0 a0_1 a0_2)) = some r:=h
 clear h
 replace H:=Option.bind_eq_some_iff.mp H
 obtain ⟨t309,A20,H⟩:=H
 replace H:(u1l.l0 k t309 ([]:List (S66)) l0_0 (l0_0.length:Int) 0 l0_0 a0_1 a0_2) = some r:=H
 have A2:=Aside0.mk A20
 clear A20
 have H':=Aside0.mk H
 clear H
 go_enter Tryz.func41,Tryz.ntmps41
 go_wp2_with (first | ((with_reducible refine u2u (N:=1) rfl ?_);refine u2r ?hg (N:=1) ?hd (cs:=#[.slice A0_0 l0_0.length c0_0,.int .i64 a0_1,.int .u64 a0_2]) (t:=53) ?hr ?_;(case hd => rfl);(case hg => rfl);(case hr => first | (go_simp;done) | (go_simp;rfl));intro gb308 hg w3 hbox hb;have n0_:=Aside0.mk (u1d (by repeat (first | (with_reducible first | exact HB.out | apply ud | apply ub | apply uf) | exact HB.out)) hb);have n1_:=Aside0.mk (hbox);have n2_:=Aside0.mk ((by rw [hg];exact (u1c (by repeat (first | (with_reducible first | exact HB.out | apply ud | apply ub | apply uf) | exact HB.out))):w.heap.size ≤ gb308));have n3_:=Aside0.mk ((by rw [hg];exact (u1c (by repeat (first | (with_reducible first | exact HB.out | apply ud | apply ub | apply uf) | exact HB.out))):w.heap.size ≤ gb308));clear HB;have HB:=n0_;have BK308:=n1_;have GW308:=n2_;have GE308:=n3_;clear n0_ n1_ n2_ n3_;clear hb hbox hg;have hcz4_0:w3.cell? ⟨gb308,0,none⟩ = some (.slice A0_0 l0_0.length c0_0):=(uj BK308.out 0).trans rfl;have hcz4_1:w3.cell? ⟨gb308,1,none⟩ = some (.int .i64 a0_1):=(uj BK308.out 1).trans rfl;have hcz4_2:w3.cell? ⟨gb308,2,none⟩ = some (.int .u64 a0_2):=(uj BK308.out 2).trans rfl;have hfz4_0:=uo BK308.out 0;have hfz4_1:=uo BK308.out 1;have hfz4_2:=uo BK308.out 2) | (go_at_call 71;(with_reducible refine (u2o.calls k _ _ l0_0 (⟨#[95,95,110,97,109,101,95,95]⟩:ByteArray) t309 _ ?side1 ?side2 A2.out).mono ?_);(case side1 => repeat (first | exact (Kd.C_below HR0_0.out HB.out) | (with_reducible refine Kd.C_alloc ?_ _) | (with_reducible refine Kd.C_drewN ?_ _) | (with_reducible refine Kd.C_drew ?_)));(case side2 => exact HC0_0.out);rintro e w5 ⟨rfl,hb⟩;have n0_:=Aside0.mk (u2d (g:=gb308) (o:=.cells #[.slice A0_0 l0_0.length c0_0,.int .i64 a0_1,.int .u64 a0_2] 53 (0,0)) (by (with_reducible repeat (first | refine uu ?_ _ | refine uy ?_ | refine us ?_ _));exact BK308.out) hb);have n1_:=Aside0.mk (u1d (by repeat (first | (with_reducible first | exact HB.out | apply ud | apply ub | apply uf | refine uz ?_ GE308.out) | exact HB.out)) hb);clear BK308;clear HB;have BK308:=n0_;have HB:=n1_;clear n0_ n1_;(try clear hb);(try clear hb2);(try clear hk);(try clear hi);have hcz6_0:w5.cell? ⟨gb308,0,none⟩ = some (.slice A0_0 l0_0.length c0_0):=(uj BK308.out 0).trans rfl;have hcz6_1:w5.cell? ⟨gb308,1,none⟩ = some (.int .i64 a0_1):=(uj BK308.out 1).trans rfl;have hcz6_2:w5.cell? ⟨gb308,2,none⟩ = some (.int .u64 a0_2):=(uj BK308.out 2).trans rfl;have hfz6_0:=uo BK308.out 0;have hfz6_1:=uo BK308.out 1;have hfz6_2:=uo BK308.out 2))
 repeat (go_quiet (first | ((with_reducible refine u2u (N:=1) rfl ?_);refine u2r ?hg (N:=1) ?hd (cs:=#[.slice A0_0 l0_0.length c0_0,.int .i64 a0_1,.int .u64 a0_2]) (t:=53) ?hr ?_;(case hd => rfl);(case hg => rfl);(case hr => first | (go_simp;done) | (go_simp;rfl));intro gb308 hg w3 hbox hb;have n0_:=Aside0.mk (u1d (by repeat (first | (with_reducible first | exact HB.out | apply ud | apply ub | apply uf) | exact HB.out)) hb);have n1_:=Aside0.mk (hbox);have n2_:=Aside0.mk ((by rw [hg];exact (u1c (by repeat (first | (with_reducible first | exact HB.out | apply ud | apply ub | apply uf) | exact HB.out))):w.heap.size ≤ gb308));have n3_:=Aside0.mk ((by rw [hg];exact (u1c (by repeat (first | (with_reducible first | exact HB.out | apply ud | apply ub | apply uf) | exact HB.out))):w.heap.size ≤ gb308));clear HB;have HB:=n0_;have BK308:=n1_;have GW308:=n2_;have GE308:=n3_;clear n0_ n1_ n2_ n3_;clear hb hbox hg;have hcz4_0:w3.cell? ⟨gb308,0,none⟩ = some (.slice A0_0 l0_0.length c0_0):=(uj BK308.out 0).trans rfl;have hcz4_1:w3.cell? ⟨gb308,1,none⟩ = some (.int .i64 a0_1):=(uj BK308.out 1).trans rfl;have hcz4_2:w3.cell? ⟨gb308,2,none⟩ = some (.int .u64 a0_2):=(uj BK308.out 2).trans rfl;have hfz4_0:=uo BK308.out 0;have hfz4_1:=uo BK308.out 1;have hfz4_2:=uo BK308.out 2) | (go_at_call 71;(with_reducible refine (u2o.calls k _ _ l0_0 (⟨#[95,95,110,97,109,101,95,95]⟩:ByteArray) t309 _ ?side1 ?side2 A2.out).mono ?_);(case side1 => repeat (first | exact (Kd.C_below HR0_0.out HB.out) | (with_reducible refine Kd.C_alloc ?_ _) | (with_reducible refine Kd.C_drewN ?_ _) | (with_reducible refine Kd.C_drew ?_)));(case side2 => exact HC0_0.out);rintro e w5 ⟨rfl,hb⟩;have n0_:=Aside0.mk (u2d (g:=gb308) (o:=.cells #[.slice A0_0 l0_0.length c0_0,.int .i64 a0_1,.int .u64 a0_2] 53 (0,0)) (by (with_reducible repeat (first | refine uu ?_ _ | refine uy ?_ | refine us ?_ _));exact BK308.out) hb);have n1_:=Aside0.mk (u1d (by repeat (first | (with_reducible first | exact HB.out | apply ud | apply ub | apply uf | refine uz ?_ GE308.out) | exact HB.out)) hb);clear BK308;clear HB;have BK308:=n0_;have HB:=n1_;clear n0_ n1_;(try clear hb);(try clear hb2);(try clear hk);(try clear hi);have hcz6_0:w5.cell? ⟨gb308,0,none⟩ = some (.slice A0_0 l0_0.length c0_0):=(uj BK308.out 0).trans rfl;have hcz6_1:w5.cell? ⟨gb308,1,none⟩ = some (.int .i64 a0_1):=(uj BK308.out 1).trans rfl;have hcz6_2:w5.cell? ⟨gb308,2,none⟩ = some (.int .u64 a0_2):=(uj BK308.out 2).trans rfl;have hfz6_0:=uo BK308.out 0;have hfz6_1:=uo BK308.out 1;have hfz6_2:=uo BK308.out 2));try go_wp2_with (first | ((with_reducible refine u2u (N:=1) rfl ?_);refine u2r ?hg (N:=1) ?hd (cs:=#[.slice A0_0 l0_0.length c0_0,.int .i64 a0_1,.int .u64 a0_2]) (t:=53) ?hr ?_;(case hd => rfl);(case hg => rfl);(case hr => first | (go_simp;done) | (go_simp;rfl));intro gb308 hg w3 hbox hb;have n0_:=Aside0.mk (u1d (by repeat (first | (with_reducible first | exact HB.out | apply ud | apply ub | apply uf) | exact HB.out)) hb);have n1_:=Aside0.mk (hbox);have n2_:=Aside0.mk ((by rw [hg];exact (u1c (by repeat (first | (with_reducible first | exact HB.out | apply ud | apply ub | apply uf) | exact HB.out))):w.heap.size ≤ gb308));have n3_:=Aside0.mk ((by rw [hg];exact (u1c (by repeat (first | (with_reducible first | exact HB.out | apply ud | apply ub | apply uf) | exact HB.out))):w.heap.size ≤ gb308));clear HB;have HB:=n0_;have BK308:=n1_;have GW308:=n2_;have GE308:=n3_;clear n0_ n1_ n2_ n3_;clear hb hbox hg;have hcz4_0:w3.cell? ⟨gb308,0,none⟩ = some (.slice A0_0 l0_0.length c0_0):=(uj BK308.out 0).trans rfl;have hcz4_1:w3.cell? ⟨gb308,1,none⟩ = some (.int .i64 a0_1):=(uj BK308.out 1).trans rfl;have hcz4_2:w3.cell? ⟨gb308,2,none⟩ = some (.int .u64 a0_2):=(uj BK308.out 2).trans rfl;have hfz4_0:=uo BK308.out 0;have hfz4_1:=uo BK308.out 1;have hfz4_2:=uo BK308.out 2) | (go_at_call 71;(with_reducible refine (u2o.calls k _ _ l0_0 (⟨#[95,95,110,97,109,101,95,95]⟩:ByteArray) t309 _ ?side1 ?side2 A2.out).mono ?_);(case side1 => repeat (first | exact (Kd.C_below HR0_0.out HB.out) | (with_reducible refine Kd.C_alloc ?_ _) | (with_reducible refine Kd.C_drewN ?_ _) | (with_reducible refine Kd.C_drew ?_)));(case side2 => exact HC0_0.out);rintro e w5 ⟨rfl,hb⟩;have n0_:=Aside0.mk (u2d (g:=gb308) (o:=.cells #[.slice A0_0 l0_0.length c0_0,.int .i64 a0_1,.int .u64 a0_2] 53 (0,0)) (by (with_reducible repeat (first | refine uu ?_ _ | refine uy ?_ | refine us ?_ _));exact BK308.out) hb);have n1_:=Aside0.mk (u1d (by repeat (first | (with_reducible first | exact HB.out | apply ud | apply ub | apply uf | refine uz ?_ GE308.out) | exact HB.out)) hb);clear BK308;clear HB;have BK308:=n0_;have HB:=n1_;clear n0_ n1_;(try clear hb);(try clear hb2);(try clear hk);(try clear hi);have hcz6_0:w5.cell? ⟨gb308,0,none⟩ = some (.slice A0_0 l0_0.length c0_0):=(uj BK308.out 0).trans rfl;have hcz6_1:w5.cell? ⟨gb308,1,none⟩ = some (.int .i64 a0_1):=(uj BK308.out 1).trans rfl;have hcz6_2:w5.cell? ⟨gb308,2,none⟩ = some (.int .u64 a0_2):=(uj BK308.out 2).trans rfl;have hfz6_0:=uo BK308.out 0;have hfz6_1:=uo BK308.out 1;have hfz6_2:=uo BK308.out 2)))
 go_loopg [4,16] k (fun kq v4 v16 w' => ∃ (x4_1:List (S66)) (x16_1:Int),v16 = .int .i64 x16_1 ∧ Aside0 (u1l.l0 kq t309 x4_1 l0_0 (l0_0.length:Int) x16_1 l0_0 a0_1 a0_2 = some r) ∧ Aside0 (kq ≤ k) ∧ Aside0 (Kd.R k66 66 w' w.heap.size (fun _ => True) v4 x4_1) ∧ Aside0 (w'.heap[gb308]? = some (.cells #[(.slice A0_0 l0_0.length c0_0),.int .i64 a0_1,.int .u64 a0_2] 53 (0,0))) ∧ Aside0 (Below w.heap.size w w'))
 case atStart => exact ⟨(([]:List (S66))),(0),(by first | rfl | (simp;done) | (simp [*];done)),H',⟨Nat.le_refl _⟩,⟨by first | exact Kd.R_nil _ _ _ _ _ | exact Kd.N_nil _ _ _ _ _ | exact Kd.V_nil _ _ _ _ _ | exact Kd.Q_nil _ _ _ _ _ | exact Kd.S_nil _ _ _ _ _⟩,⟨by (with_reducible repeat (first | refine uu ?_ _ | refine uy ?_ | refine us ?_ _));exact BK308.out⟩,⟨by repeat (first | (with_reducible first | exact HB.out | apply ud | apply ub | apply uf | refine uz ?_ GE308.out) | exact HB.out)⟩⟩
 case round =>
  clear H'
  try clear p2
  try clear c4
  try clear hcz4_0
  try clear hcz4_1
  try clear hcz4_2
  try clear hcz6_0
  try clear hcz6_1
  try clear hcz6_2
  try clear hfz4_0
  try clear hfz4_1
  try clear hfz4_2
  try clear hfz6_0
  try clear hfz6_1
  try clear hfz6_2
  obtain ⟨x4_1,x16_1,rfl,HA,HK1,HO_4,BK308,HB⟩:=hrel
  cases gk with
  | zero => exact absurd HA.out (by simp [u1l.l0])
  | succ k1 =>
    have H:=HA.out
    clear HA
    simp only [u1l.l0] at H
    by_cases c7:x16_1 < (l0_0.length:Int)
    · rw [if_pos c7] at H
      have c7b0:decide (x16_1 < (l0_0.length:Int)) = true:=decide_eq_true c7
      clear c7
      by_cases c8:0 ≤ x16_1
      · rw [if_pos c8] at H
        have c8b0:decide (0 ≤ x16_1) = true:=decide_eq_true c8
        clear c8
        by_cases c9:x16_1 < (l0_0.length:Int)
        · rw [if_pos c9] at H
          have c9b0:decide (x16_1 < (l0_0.length:Int)) = true:=decide_eq_true c9
          clear c9
          by_cases c10:((uq l0_0 x16_1).f0).toList = ([95,95,110,97,109,101,95,95]:List UInt8)
          · rw [if_pos c10] at H
            have c10b0:(((uq l0_0 x16_1).f0).toList == ([95,95,110,97,109,101,95,95]:List UInt8)) = true:=beq_iff_eq.mpr c10
            have c10b1:(((uq l0_0 x16_1).f0).toList != ([95,95,110,97,109,101,95,95]:List UInt8)) = false:=bne_eq_false_iff_eq.mpr c10
            clear c10
            replace H:=Option.bind_eq_some_iff.mp H
            obtain ⟨t312,A110,H⟩:=H
            replace H:(if t312 = true then (u1l.l0 k1 t309 x4_1 l0_0 (l0_0.length:Int) (wrap64 (x16_1 + 1)) l0_0 a0_1 a0_2) else (if x4_1.length < 4398046511104 then (u1l.l0 k1 t309 (x4_1 ++ [(⟨(uq l0_0 x16_1).f0,(uq l0_0 x16_1).f1⟩:S66)]) l0_0 (l0_0.length:Int) (wrap64 (x16_1 + 1)) l0_0 a0_1 a0_2) else (none))) = some r:=H
            have A11:=Aside0.mk A110
            clear A110
            by_cases c12:t312 = true
            · subst c12
              have H1:(u1l.l0 k1 t309 x4_1 l0_0 (l0_0.length:Int) (wrap64 (x16_1 + 1)) l0_0 a0_1 a0_2) = some r:=by rw [if_pos rfl] at H;exact H
              clear H
              have H:=H1
              clear H1
              have H':=Aside0.mk H
              clear H
              have p310:0 ≤ (x16_1:Int):=of_decide_eq_true (by first | (with_reducible assumption) | assumption)
              have q310:x16_1 < (l0_0.length:Int):=of_decide_eq_true (by first | (with_reducible assumption) | assumption)
              obtain ⟨ad310,e310,hx310_0,hx310_1⟩:=at_T66 HR0_0.out x16_1 p310 q310
              cases e310
              replace hx310_0:=(HB.out.cell (World.block_lt_of_cell? w _ hx310_0)).trans hx310_0
              replace hx310_1:=(HB.out.cell (World.block_lt_of_cell? w _ hx310_1)).trans hx310_1
              replace p310:=eq_true p310
              replace q310:=eq_true q310
              go_wp2_with (first | ((with_reducible refine u2u (N:=6) rfl ?_);refine u2r ?hg (N:=6) ?hd (cs:=#[.string (⟨#[]⟩:ByteArray),.string (⟨#[]⟩:ByteArray)]) (t:=66) ?hr ?_;(case hd => rfl);(case hg => rfl);(case hr => first | (go_simp;done) | (go_simp;rfl));intro gb311 hg w13 hbox hb;have n0_:=Aside0.mk (Kd.R_below (Kd.R_elderB (by (with_reducible repeat (first | apply Kd.R_alloc | apply Kd.R_drewN | apply Kd.R_drew));exact HO_4.out) gb311 (Nat.le_of_eq hg.symm)) hb);have n1_:=Aside0.mk (u2d (g:=gb308) (o:=.cells #[.slice (some ad310) l0_0.length c0_0,.int .i64 a0_1,.int .u64 a0_2] 53 (0,0)) (by (with_reducible repeat (first | refine uu ?_ _ | refine uy ?_ | refine us ?_ _));exact BK308.out) hb);have n2_:=Aside0.mk (u1d (by repeat (first | (with_reducible first | exact HB.out | apply ud | apply ub | apply uf | refine uz ?_ GE308.out) | exact HB.out)) hb);have n3_:=Aside0.mk (hbox);have n4_:=Aside0.mk ((by rw [hg];exact (u1c (by repeat (first | (with_reducible first | exact HB.out | apply ud | apply ub | apply uf | refine uz ?_ GE308.out) | exact HB.out))):w.heap.size ≤ gb311));have n5_:=Aside0.mk ((by rw [hg];exact (u1c (by repeat (first | (with_reducible first | exact HB.out | apply ud | apply ub | apply uf | refine uz ?_ GE308.out) | exact HB.out))):w.heap.size ≤ gb311));have n6_:=Aside0.mk ((by rw [hg];exact Nat.ne_of_lt (u3a (g:=gb308) (o:=.cells #[.slice (some ad310) l0_0.length c0_0,.int .i64 a0_1,.int .u64 a0_2] 53 (0,0)) (by (with_reducible repeat (first | refine uu ?_ _ | refine uy ?_ | refine us ?_ _));exact BK308.out)):gb308 ≠ gb311));have n7_:=Aside0.mk ((by rw [hg];exact Nat.ne_of_gt (u3a (g:=gb308) (o:=.cells #[.slice (some ad310) l0_0.length c0_0,.int .i64 a0_1,.int .u64 a0_2] 53 (0,0)) (by (with_reducible repeat (first | refine uu ?_ _ | refine uy ?_ | refine us ?_ _));exact BK308.out)):gb311 ≠ gb308));clear HO_4;clear BK308;clear HB;have HO_4:=n0_;have BK308:=n1_;have HB:=n2_;have BK311:=n3_;have GW311:=n4_;have GE311:=n5_;have NB308_311:=n6_;have NB311_308:=n7_;clear n0_ n1_ n2_ n3_ n4_ n5_ n6_ n7_;clear hb hbox hg;have hnb14:=NB311_308.out;have hnc14:=NB308_311.out;have hcz15_0:w13.cell? ⟨gb311,0,none⟩ = some (.string (⟨#[]⟩:ByteArray)):=(uj BK311.out 0).trans rfl;have hcz15_1:w13.cell? ⟨gb311,1,none⟩ = some (.string (⟨#[]⟩:ByteArray)):=(uj BK311.out 1).trans rfl;have hfz15_0:=uo BK311.out 0;have hfz15_1:=uo BK311.out 1) | (go_at_call 37;(with_reducible refine (uv.calls k1 t309 true _ A11.out).mono ?_);rintro e w' ⟨rfl,⟨nd,rfl⟩⟩;(try first | exact ⟨rfl,_,World.drewN_drewN _ _ _⟩ | exact ⟨rfl,_,Eq.trans (World.drewN_drewN _ _ _) (congrArg (World.drewN _) (Nat.add_assoc _ _ _))⟩)))
              repeat (go_quiet (first | ((with_reducible refine u2u (N:=6) rfl ?_);refine u2r ?hg (N:=6) ?hd (cs:=#[.string (⟨#[]⟩:ByteArray),.string (⟨#[]⟩:ByteArray)]) (t:=66) ?hr ?_;(case hd => rfl);(case hg => rfl);(case hr => first | (go_simp;done) | (go_simp;rfl));intro gb311 hg w13 hbox hb;have n0_:=Aside0.mk (Kd.R_below (Kd.R_elderB (by (with_reducible repeat (first | apply Kd.R_alloc | apply Kd.R_drewN | apply Kd.R_drew));exact HO_4.out) gb311 (Nat.le_of_eq hg.symm)) hb);have n1_:=Aside0.mk (u2d (g:=gb308) (o:=.cells #[.slice (some ad310) l0_0.length c0_0,.int .i64 a0_1,.int .u64 a0_2] 53 (0,0)) (by (with_reducible repeat (first | refine uu ?_ _ | refine uy ?_ | refine us ?_ _));exact BK308.out) hb);have n2_:=Aside0.mk (u1d (by repeat (first | (with_reducible first | exact HB.out | apply ud | apply ub | apply uf | refine uz ?_ GE308.out) | exact HB.out)) hb);have n3_:=Aside0.mk (hbox);have n4_:=Aside0.mk ((by rw [hg];exact (u1c (by repeat (first | (with_reducible first | exact HB.out | apply ud | apply ub | apply uf | refine uz ?_ GE308.out) | exact HB.out))):w.heap.size ≤ gb311));have n5_:=Aside0.mk ((by rw [hg];exact (u1c (by repeat (first | (with_reducible first | exact HB.out | apply ud | apply ub | apply uf | refine uz ?_ GE308.out) | exact HB.out))):w.heap.size ≤ gb311));have n6_:=Aside0.mk ((by rw [hg];exact Nat.ne_of_lt (u3a (g:=gb308) (o:=.cells #[.slice (some ad310) l0_0.length c0_0,.int .i64 a0_1,.int .u64 a0_2] 53 (0,0)) (by (with_reducible repeat (first | refine uu ?_ _ | refine uy ?_ | refine us ?_ _));exact BK308.out)):gb308 ≠ gb311));have n7_:=Aside0.mk ((by rw [hg];exact Nat.ne_of_gt (u3a (g:=gb308) (o:=.cells #[.slice (some ad310) l0_0.length c0_0,.int .i64 a0_1,.int .u64 a0_2] 53 (0,0)) (by (with_reducible repeat (first | refine uu ?_ _ | refine uy ?_ | refine us ?_ _));exact BK308.out)):gb311 ≠ gb308));clear HO_4;clear BK308;clear HB;have HO_4:=n0_;have BK308:=n1_;have HB:=n2_;have BK311:=n3_;have GW311:=n4_;have GE311:=n5_;have NB308_311:=n6_;have NB311_308:=n7_;clear n0_ n1_ n2_ n3_ n4_ n5_ n6_ n7_;clear hb hbox hg;have hnb14:=NB311_308.out;have hnc14:=NB308_311.out;have hcz15_0:w13.cell? ⟨gb311,0,none⟩ = some (.string (⟨#[]⟩:ByteArray)):=(uj BK311.out 0).trans rfl;have hcz15_1:w13.cell? ⟨gb311,1,none⟩ = some (.string (⟨#[]⟩:ByteArray)):=(uj BK311.out 1).trans rfl;have hfz15_0:=uo BK311.out 0;have hfz15_1:=uo BK311.out 1) | (go_at_call 37;(with_reducible refine (uv.calls k1 t309 true _ A11.out).mono ?_);rintro e w' ⟨rfl,⟨nd,rfl⟩⟩;(try first | exact ⟨rfl,_,World.drewN_drewN _ _ _⟩ | exact ⟨rfl,_,Eq.trans (World.drewN_drewN _ _ _) (congrArg (World.drewN _) (Nat.add_assoc _ _ _))⟩)));try go_wp2_with (first | ((with_reducible refine u2u (N:=6) rfl ?_);refine u2r ?hg (N:=6) ?hd (cs:=#[.string (⟨#[]⟩:ByteArray),.string (⟨#[]⟩:ByteArray)]) (t:=66) ?hr ?_;(case hd => rfl);(case hg => rfl);(case hr => first | (go_simp;done) | (go_simp;rfl));intro gb311 hg w13 hbox hb;have n0_:=Aside0.mk (Kd.R_below (Kd.R_elderB (by (with_reducible repeat (first | apply Kd.R_alloc | apply Kd.R_drewN | apply Kd.R_drew));exact HO_4.out) gb311 (Nat.le_of_eq hg.symm)) hb);have n1_:=Aside0.mk (u2d (g:=gb308) (o:=.cells #[.slice (some ad310) l0_0.length c0_0,.int .i64 a0_1,.int .u64 a0_2] 53 (0,0)) (by (with_reducible repeat (first | refine uu ?_ _ | refine uy ?_ | refine us ?_ _));exact BK308.out) hb);have n2_:=Aside0.mk (u1d (by repeat (first | (with_reducible first | exact HB.out | apply ud | apply ub | apply uf | refine uz ?_ GE308.out) | exact HB.out)) hb);have n3_:=Aside0.mk (hbox);have n4_:=Aside0.mk ((by rw [hg];exact (u1c (by repeat (first | (with_reducible first | exact HB.out | apply ud | apply ub | apply uf | refine uz ?_ GE308.out) | exact HB.out))):w.heap.size ≤ gb311));have n5_:=Aside0.mk ((by rw [hg];exact (u1c (by repeat (first | (with_reducible first | exact HB.out | apply ud | apply ub | apply uf | refine uz ?_ GE308.out) | exact HB.out))):w.heap.size ≤ gb311));have n6_:=Aside0.mk ((by rw [hg];exact Nat.ne_of_lt (u3a (g:=gb308) (o:=.cells #[.slice (some ad310) l0_0.length c0_0,.int .i64 a0_1,.int .u64 a0_2] 53 (0,0)) (by (with_reducible repeat (first | refine uu ?_ _ | refine uy ?_ | refine us ?_ _));exact BK308.out)):gb308 ≠ gb311));have n7_:=Aside0.mk ((by rw [hg];exact Nat.ne_of_gt (u3a (g:=gb308) (o:=.cells #[.slice (some ad310) l0_0.length c0_0,.int .i64 a0_1,.int .u64 a0_2] 53 (0,0)) (by (with_reducible repeat (first | refine uu ?_ _ | refine uy ?_ | refine us ?_ _));exact BK308.out)):gb311 ≠ gb308));clear HO_4;clear BK308;clear HB;have HO_4:=n0_;have BK308:=n1_;have HB:=n2_;have BK311:=n3_;have GW311:=n4_;have GE311:=n5_;have NB308_311:=n6_;have NB311_308:=n7_;clear n0_ n1_ n2_ n3_ n4_ n5_ n6_ n7_;clear hb hbox hg;have hnb14:=NB311_308.out;have hnc14:=NB308_311.out;have hcz15_0:w13.cell? ⟨gb311,0,none⟩ = some (.string (⟨#[]⟩:ByteArray)):=(uj BK311.out 0).trans rfl;have hcz15_1:w13.cell? ⟨gb311,1,none⟩ = some (.string (⟨#[]⟩:ByteArray)):=(uj BK311.out 1).trans rfl;have hfz15_0:=uo BK311.out 0;have hfz15_1:=uo BK311.out 1) | (go_at_call 37;(with_reducible refine (uv.calls k1 t309 true _ A11.out).mono ?_);rintro e w' ⟨rfl,⟨nd,rfl⟩⟩;(try first | exact ⟨rfl,_,World.drewN_drewN _ _ _⟩ | exact ⟨rfl,_,Eq.trans (World.drewN_drewN _ _ _) (congrArg (World.drewN _) (Nat.add_assoc _ _ _))⟩))))
              go_roundg k1
              case measure => have:=HK1.out;omega
              case rel => exact ⟨(x4_1),(wrap64 (x16_1 + 1)),(by first | rfl | (simp;done) | (simp [*];done)),H',⟨by have:=HK1.out;omega⟩,⟨by (with_reducible repeat (first | apply Kd.R_alloc | apply Kd.R_drewN | apply Kd.R_drew));exact Kd.R_mono (Kd.R_far (p:=⟨gb311,1,none⟩) (Kd.R_far (p:=⟨gb311,0,none⟩) (Kd.R_mono HO_4.out (fun k_ hk => (⟨hk,hk.2⟩:_ ∧ k_ ≠ gb311))) (fun _ hk => hk.2) (.string ((uq l0_0 x16_1).f0))) (fun _ hk => hk.2) (.string ((uq l0_0 x16_1).f1))) (fun _ hk => trivial)⟩,⟨by (with_reducible repeat (first | refine uu ?_ _ | refine uy ?_ | refine us ?_ _));refine blk_far ?_ NB308_311.out _;(with_reducible repeat (first | refine uu ?_ _ | refine uy ?_ | refine us ?_ _));refine blk_far ?_ NB308_311.out _;(with_reducible repeat (first | refine uu ?_ _ | refine uy ?_ | refine us ?_ _));exact BK308.out⟩,⟨by repeat (first | (with_reducible first | exact HB.out | apply ud | apply ub | apply uf | refine uz ?_ GE308.out | refine uz ?_ GE311.out) | exact HB.out)⟩⟩
            · replace c12:=Bool.eq_false_iff.mpr c12
              subst c12
              have H1:(if x4_1.length < 4398046511104 then (u1l.l0 k1 t309 (x4_1 ++ [(⟨(uq l0_0 x16_1).f0,(uq l0_0 x16_1).f1⟩:S66)]) l0_0 (l0_0.length:Int) (wrap64 (x16_1 + 1)) l0_0 a0_1 a0_2) else (none)) = some r:=by rw [if_neg (show ¬ (false = true) by decide)] at H;exact H
              clear H
              have H:=H1
              clear H1
              by_cases c16:x4_1.length < 4398046511104
              · rw [if_pos c16] at H
                have LMc16:=Aside0.mk c16
                clear c16
                obtain ⟨y313,hy313⟩:∃ y_:List (S66),y_ = (x4_1 ++ [(⟨(uq l0_0 x16_1).f0,(uq l0_0 x16_1).f1⟩:S66)]):=⟨_,rfl⟩
                replace H:(u1l.l0 k1 t309 y313 l0_0 (l0_0.length:Int) (wrap64 (x16_1 + 1)) l0_0 a0_1 a0_2) = some r:=by first | (rw [hy313];with_reducible exact H) | (have H2_:=(Option.bind_some _ _).symm.trans H;rw [hy313];with_reducible exact H2_) | (have H2_:=(Option.bind_some _ _).symm.trans H;with_reducible exact H2_) | with_reducible exact H | (rw [hy313];exact H) | exact H
                have Ny313:=Aside0.mk hy313
                clear hy313
                have H':=Aside0.mk H
                clear H
                have p310:0 ≤ (x16_1:Int):=of_decide_eq_true (by first | (with_reducible assumption) | assumption)
                have q310:x16_1 < (l0_0.length:Int):=of_decide_eq_true (by first | (with_reducible assumption) | assumption)
                obtain ⟨ad310,e310,hx310_0,hx310_1⟩:=at_T66 HR0_0.out x16_1 p310 q310
                cases e310
                replace hx310_0:=(HB.out.cell (World.block_lt_of_cell? w _ hx310_0)).trans hx310_0
                replace hx310_1:=(HB.out.cell (World.block_lt_of_cell? w _ hx310_1)).trans hx310_1
                replace p310:=eq_true p310
                replace q310:=eq_true q310
                go_wp2_with (first | ((with_reducible refine u2u (N:=6) rfl ?_);refine u2r ?hg (N:=6) ?hd (cs:=#[.string (⟨#[]⟩:ByteArray),.string (⟨#[]⟩:ByteArray)]) (t:=66) ?hr ?_;(case hd => rfl);(case hg => rfl);(case hr => first | (go_simp;done) | (go_simp;rfl));intro gb311 hg w17 hbox hb;have n0_:=Aside0.mk (Kd.R_below (Kd.R_elderB (by (with_reducible repeat (first | apply Kd.R_alloc | apply Kd.R_drewN | apply Kd.R_drew));exact HO_4.out) gb311 (Nat.le_of_eq hg.symm)) hb);have n1_:=Aside0.mk (u2d (g:=gb308) (o:=.cells #[.slice (some ad310) l0_0.length c0_0,.int .i64 a0_1,.int .u64 a0_2] 53 (0,0)) (by (with_reducible repeat (first | refine uu ?_ _ | refine uy ?_ | refine us ?_ _));exact BK308.out) hb);have n2_:=Aside0.mk (u1d (by repeat (first | (with_reducible first | exact HB.out | apply ud | apply ub | apply uf | refine uz ?_ GE308.out) | exact HB.out)) hb);have n3_:=Aside0.mk (hbox);have n4_:=Aside0.mk ((by rw [hg];exact (u1c (by repeat (first | (with_reducible first | exact HB.out | apply ud | apply ub | apply uf | refine uz ?_ GE308.out) | exact HB.out))):w.heap.size ≤ gb311));have n5_:=Aside0.mk ((by rw [hg];exact (u1c (by repeat (first | (with_reducible first | exact HB.out | apply ud | apply ub | apply uf | refine uz ?_ GE308.out) | exact HB.out))):w.heap.size ≤ gb311));have n6_:=Aside0.mk ((by rw [hg];exact Nat.ne_of_lt (u3a (g:=gb308) (o:=.cells #[.slice (some ad310) l0_0.length c0_0,.int .i64 a0_1,.int .u64 a0_2] 53 (0,0)) (by (with_reducible repeat (first | refine uu ?_ _ | refine uy ?_ | refine us ?_ _));exact BK308.out)):gb308 ≠ gb311));have n7_:=Aside0.mk ((by rw [hg];exact Nat.ne_of_gt (u3a (g:=gb308) (o:=.cells #[.slice (some ad310) l0_0.length c0_0,.int .i64 a0_1,.int .u64 a0_2] 53 (0,0)) (by (with_reducible repeat (first | refine uu ?_ _ | refine uy ?_ | refine us ?_ _));exact BK308.out)):gb311 ≠ gb308));clear HO_4;clear BK308;clear HB;have HO_4:=n0_;have BK308:=n1_;have HB:=n2_;have BK311:=n3_;have GW311:=n4_;have GE311:=n5_;have NB308_311:=n6_;have NB311_308:=n7_;clear n0_ n1_ n2_ n3_ n4_ n5_ n6_ n7_;clear hb hbox hg;have hnb18:=NB311_308.out;have hnc18:=NB308_311.out;have hcz19_0:w17.cell? ⟨gb311,0,none⟩ = some (.string (⟨#[]⟩:ByteArray)):=(uj BK311.out 0).trans rfl;have hcz19_1:w17.cell? ⟨gb311,1,none⟩ = some (.string (⟨#[]⟩:ByteArray)):=(uj BK311.out 1).trans rfl;have hfz19_0:=uo BK311.out 0;have hfz19_1:=uo BK311.out 1) | (go_at_call 37;(with_reducible refine (uv.calls k1 t309 false _ A11.out).mono ?_);rintro e w' ⟨rfl,⟨nd,rfl⟩⟩;(try first | exact ⟨rfl,_,World.drewN_drewN _ _ _⟩ | exact ⟨rfl,_,Eq.trans (World.drewN_drewN _ _ _) (congrArg (World.drewN _) (Nat.add_assoc _ _ _))⟩)) | ((with_reducible refine u3n (b:=.append) (xs:=#[.tmp 28,.tmp 30]) rfl ?_);at_builtin;refine Kd.R_append k66 (w0:=w) w.heap.size rfl (.tmp 28) (.tmp 30) 50 66 (.agg #[(.string ⟨#[]⟩),(.string ⟨#[]⟩)]) 32 rfl Tryz.underlying50 info66 rfl (by decide) (by omega) u4 x4_1 (⟨(uq l0_0 x16_1).f0,(uq l0_0 x16_1).f1⟩:S66) [.string ((uq l0_0 x16_1).f0),.string ((uq l0_0 x16_1).f1)] (fun k_ => k_ ≠ gb311) (fun _ => False) rfl (by first | (go_simp;done) | (go_simp;rfl)) ?aP (fun _ hk => hk.elim) ?aF ?aO ?aB ?aS ?aL ?_;(case aP => exact k66_mkM _ _ _ (⟨(uq l0_0 x16_1).f0,(uq l0_0 x16_1).f1⟩:S66));(case aB => exact (by repeat (first | (with_reducible first | exact HB.out | apply ud | apply ub | apply uf | refine uz ?_ GE308.out | refine uz ?_ GE311.out) | exact HB.out)));(case aF => exact (fun k_ hk => Kd.freshB (g:=gb311) (o:=.cells #[.string ((uq l0_0 x16_1).f0),.string ((uq l0_0 x16_1).f1)] 66 (0,0)) (by (with_reducible repeat (first | refine uu ?_ _ | refine uy ?_ | refine us ?_ _));refine u3f (cs:=#[.string ((uq l0_0 x16_1).f0),.string (⟨#[]⟩:ByteArray)]) ?_ 1 _ rfl;(with_reducible repeat (first | refine uu ?_ _ | refine uy ?_ | refine us ?_ _));refine u3f (cs:=#[.string (⟨#[]⟩:ByteArray),.string (⟨#[]⟩:ByteArray)]) ?_ 0 _ rfl;(with_reducible repeat (first | refine uu ?_ _ | refine uy ?_ | refine us ?_ _));exact BK311.out) k_ hk));(case aO => exact (by (with_reducible repeat (first | apply Kd.R_alloc | apply Kd.R_drewN | apply Kd.R_drew));exact Kd.R_mono (Kd.R_far (p:=⟨gb311,1,none⟩) (Kd.R_far (p:=⟨gb311,0,none⟩) (Kd.R_mono HO_4.out (fun k_ hk => (⟨hk,hk.2⟩:_ ∧ k_ ≠ gb311))) (fun _ hk => hk.2) (.string ((uq l0_0 x16_1).f0))) (fun _ hk => hk.2) (.string ((uq l0_0 x16_1).f1))) (fun _ hk => hk.1.2)));(case aS => exact (u1c (by repeat (first | (with_reducible first | exact HB.out | apply ud | apply ub | apply uf | refine uz ?_ GE308.out | refine uz ?_ GE311.out) | exact HB.out))));(case aL => have:=LMc16.out;omega);intro v314 w20 ho hb hg hat;rw [← Ny313.out] at ho;have n0_:=Aside0.mk (u3g (g:=gb308) (o:=.cells #[.slice (some ad310) l0_0.length c0_0,.int .i64 a0_1,.int .u64 a0_2] 53 (0,0)) (by (with_reducible repeat (first | refine uu ?_ _ | refine uy ?_ | refine us ?_ _));refine blk_far ?_ NB308_311.out _;(with_reducible repeat (first | refine uu ?_ _ | refine uy ?_ | refine us ?_ _));refine blk_far ?_ NB308_311.out _;(with_reducible repeat (first | refine uu ?_ _ | refine uy ?_ | refine us ?_ _));exact BK308.out) hg (Kd.R_ne HO_4.out BK308.out (by decide)));have n1_:=Aside0.mk (u3g (g:=gb311) (o:=.cells #[.string ((uq l0_0 x16_1).f0),.string ((uq l0_0 x16_1).f1)] 66 (0,0)) (by (with_reducible repeat (first | refine uu ?_ _ | refine uy ?_ | refine us ?_ _));refine u3f (cs:=#[.string ((uq l0_0 x16_1).f0),.string (⟨#[]⟩:ByteArray)]) ?_ 1 _ rfl;(with_reducible repeat (first | refine uu ?_ _ | refine uy ?_ | refine us ?_ _));refine u3f (cs:=#[.string (⟨#[]⟩:ByteArray),.string (⟨#[]⟩:ByteArray)]) ?_ 0 _ rfl;(with_reducible repeat (first | refine uu ?_ _ | refine uy ?_ | refine us ?_ _));exact BK311.out) hg (Kd.R_away HO_4.out (fun _ hk => hk.2)));have n2_:=Aside0.mk (hb);have n3_:=Aside0.mk (ho);clear BK308;clear BK311;clear HB;clear HO_4;have BK308:=n0_;have BK311:=n1_;have HB:=n2_;have HO315:=n3_;clear n0_ n1_ n2_ n3_;clear ho hb hg hat))
                repeat (go_quiet (first | ((with_reducible refine u2u (N:=6) rfl ?_);refine u2r ?hg (N:=6) ?hd (cs:=#[.string (⟨#[]⟩:ByteArray),.string (⟨#[]⟩:ByteArray)]) (t:=66) ?hr ?_;(case hd => rfl);(case hg => rfl);(case hr => first | (go_simp;done) | (go_simp;rfl));intro gb311 hg w17 hbox hb;have n0_:=Aside0.mk (Kd.R_below (Kd.R_elderB (by (with_reducible repeat (first | apply Kd.R_alloc | apply Kd.R_drewN | apply Kd.R_drew));exact HO_4.out) gb311 (Nat.le_of_eq hg.symm)) hb);have n1_:=Aside0.mk (u2d (g:=gb308) (o:=.cells #[.slice (some ad310) l0_0.length c0_0,.int .i64 a0_1,.int .u64 a0_2] 53 (0,0)) (by (with_reducible repeat (first | refine uu ?_ _ | refine uy ?_ | refine us ?_ _));exact BK308.out) hb);have n2_:=Aside0.mk (u1d (by repeat (first | (with_reducible first | exact HB.out | apply ud | apply ub | apply uf | refine uz ?_ GE308.out) | exact HB.out)) hb);have n3_:=Aside0.mk (hbox);have n4_:=Aside0.mk ((by rw [hg];exact (u1c (by repeat (first | (with_reducible first | exact HB.out | apply ud | apply ub | apply uf | refine uz ?_ GE308.out) | exact HB.out))):w.heap.size ≤ gb311));have n5_:=Aside0.mk ((by rw [hg];exact (u1c (by repeat (first | (with_reducible first | exact HB.out | apply ud | apply ub | apply uf | refine uz ?_ GE308.out) | exact HB.out))):w.heap.size ≤ gb311));have n6_:=Aside0.mk ((by rw [hg];exact Nat.ne_of_lt (u3a (g:=gb308) (o:=.cells #[.slice (some ad310) l0_0.length c0_0,.int .i64 a0_1,.int .u64 a0_2] 53 (0,0)) (by (with_reducible repeat (first | refine uu ?_ _ | refine uy ?_ | refine us ?_ _));exact BK308.out)):gb308 ≠ gb311));have n7_:=Aside0.mk ((by rw [hg];exact Nat.ne_of_gt (u3a (g:=gb308) (o:=.cells #[.slice (some ad310) l0_0.length c0_0,.int .i64 a0_1,.int .u64 a0_2] 53 (0,0)) (by (with_reducible repeat (first | refine uu ?_ _ | refine uy ?_ | refine us ?_ _));exact BK308.out)):gb311 ≠ gb308));clear HO_4;clear BK308;clear HB;have HO_4:=n0_;have BK308:=n1_;have HB:=n2_;have BK311:=n3_;have GW311:=n4_;have GE311:=n5_;have NB308_311:=n6_;have NB311_308:=n7_;clear n0_ n1_ n2_ n3_ n4_ n5_ n6_ n7_;clear hb hbox hg;have hnb18:=NB311_308.out;have hnc18:=NB308_311.out;have hcz19_0:w17.cell? ⟨gb311,0,none⟩ = some (.string (⟨#[]⟩:ByteArray)):=(uj BK311.out 0).trans rfl;have hcz19_1:w17.cell? ⟨gb311,1,none⟩ = some (.string (⟨#[]⟩:ByteArray)):=(uj BK311.out 1).trans rfl;have hfz19_0:=uo BK311.out 0;have hfz19_1:=uo BK311.out 1) | (go_at_call 37;(with_reducible refine (uv.calls k1 t309 false _ A11.out).mono ?_);rintro e w' ⟨rfl,⟨nd,rfl⟩⟩;(try first | exact ⟨rfl,_,World.drewN_drewN _ _ _⟩ | exact ⟨rfl,_,Eq.trans (World.drewN_drewN _ _ _) (congrArg (World.drewN _) (Nat.add_assoc _ _ _))⟩)) | ((with_reducible refine u3n (b:=.append) (xs:=#[.tmp 28,.tmp 30]) rfl ?_);at_builtin;refine Kd.R_append k66 (w0:=w) w.heap.size rfl (.tmp 28) (.tmp 30) 50 66 (.agg #[(.string ⟨#[]⟩),(.string ⟨#[]⟩)]) 32 rfl Tryz.underlying50 info66 rfl (by decide) (by omega) u4 x4_1 (⟨(uq l0_0 x16_1).f0,(uq l0_0 x16_1).f1⟩:S66) [.string ((uq l0_0 x16_1).f0),.string ((uq l0_0 x16_1).f1)] (fun k_ => k_ ≠ gb311) (fun _ => False) rfl (by first | (go_simp;done) | (go_simp;rfl)) ?aP (fun _ hk => hk.elim) ?aF ?aO ?aB ?aS ?aL ?_;(case aP => exact k66_mkM _ _ _ (⟨(uq l0_0 x16_1).f0,(uq l0_0 x16_1).f1⟩:S66));(case aB => exact (by repeat (first | (with_reducible first | exact HB.out | apply ud | apply ub | apply uf | refine uz ?_ GE308.out | refine uz ?_ GE311.out) | exact HB.out)));(case aF => exact (fun k_ hk => Kd.freshB (g:=gb311) (o:=.cells #[.string ((uq l0_0 x16_1).f0),.string ((uq l0_0 x16_1).f1)] 66 (0,0)) (by (with_reducible repeat (first | refine uu ?_ _ | refine uy ?_ | refine us ?_ _));refine u3f (cs:=#[.string ((uq l0_0 x16_1).f0),.string (⟨#[]⟩:ByteArray)]) ?_ 1 _ rfl;(with_reducible repeat (first | refine uu ?_ _ | refine uy ?_ | refine us ?_ _));refine u3f (cs:=#[.string (⟨#[]⟩:ByteArray),.string (⟨#[]⟩:ByteArray)]) ?_ 0 _ rfl;(with_reducible repeat (first | refine uu ?_ _ | refine uy ?_ | refine us ?_ _));exact BK311.out) k_ hk));(case aO => exact (by (with_reducible repeat (first | apply Kd.R_alloc | apply Kd.R_drewN | apply Kd.R_drew));exact Kd.R_mono (Kd.R_far (p:=⟨gb311,1,none⟩) (Kd.R_far (p:=⟨gb311,0,none⟩) (Kd.R_mono HO_4.out (fun k_ hk => (⟨hk,hk.2⟩:_ ∧ k_ ≠ gb311))) (fun _ hk => hk.2) (.string ((uq l0_0 x16_1).f0))) (fun _ hk => hk.2) (.string ((uq l0_0 x16_1).f1))) (fun _ hk => hk.1.2)));(case aS => exact (u1c (by repeat (first | (with_reducible first | exact HB.out | apply ud | apply ub | apply uf | refine uz ?_ GE308.out | refine uz ?_ GE311.out) | exact HB.out))));(case aL => have:=LMc16.out;omega);intro v314 w20 ho hb hg hat;rw [← Ny313.out] at ho;have n0_:=Aside0.mk (u3g (g:=gb308) (o:=.cells #[.slice (some ad310) l0_0.length c0_0,.int .i64 a0_1,.int .u64 a0_2] 53 (0,0)) (by (with_reducible repeat (first | refine uu ?_ _ | refine uy ?_ | refine us ?_ _));refine blk_far ?_ NB308_311.out _;(with_reducible repeat (first | refine uu ?_ _ | refine uy ?_ | refine us ?_ _));refine blk_far ?_ NB308_311.out _;(with_reducible repeat (first | refine uu ?_ _ | refine uy ?_ | refine us ?_ _));exact BK308.out) hg (Kd.R_ne HO_4.out BK308.out (by decide)));have n1_:=Aside0.mk (u3g (g:=gb311) (o:=.cells #[.string ((uq l0_0 x16_1).f0),.string ((uq l0_0 x16_1).f1)] 66 (0,0)) (by (with_reducible repeat (first | refine uu ?_ _ | refine uy ?_ | refine us ?_ _));refine u3f (cs:=#[.string ((uq l0_0 x16_1).f0),.string (⟨#[]⟩:ByteArray)]) ?_ 1 _ rfl;(with_reducible repeat (first | refine uu ?_ _ | refine uy ?_ | refine us ?_ _));refine u3f (cs:=#[.string (⟨#[]⟩:ByteArray),.string (⟨#[]⟩:ByteArray)]) ?_ 0 _ rfl;(with_reducible repeat (first | refine uu ?_ _ | refine uy ?_ | refine us ?_ _));exact BK311.out) hg (Kd.R_away HO_4.out (fun _ hk => hk.2)));have n2_:=Aside0.mk (hb);have n3_:=Aside0.mk (ho);clear BK308;clear BK311;clear HB;clear HO_4;have BK308:=n0_;have BK311:=n1_;have HB:=n2_;have HO315:=n3_;clear n0_ n1_ n2_ n3_;clear ho hb hg hat));try go_wp2_with (first | ((with_reducible refine u2u (N:=6) rfl ?_);refine u2r ?hg (N:=6) ?hd (cs:=#[.string (⟨#[]⟩:ByteArray),.string (⟨#[]⟩:ByteArray)]) (t:=66) ?hr ?_;(case hd => rfl);(case hg => rfl);(case hr => first | (go_simp;done) | (go_simp;rfl));intro gb311 hg w17 hbox hb;have n0_:=Aside0.mk (Kd.R_below (Kd.R_elderB (by (with_reducible repeat (first | apply Kd.R_alloc | apply Kd.R_drewN | apply Kd.R_drew));exact HO_4.out) gb311 (Nat.le_of_eq hg.symm)) hb);have n1_:=Aside0.mk (u2d (g:=gb308) (o:=.cells #[.slice (some ad310) l0_0.length c0_0,.int .i64 a0_1,.int .u64 a0_2] 53 (0,0)) (by (with_reducible repeat (first | refine uu ?_ _ | refine uy ?_ | refine us ?_ _));exact BK308.out) hb);have n2_:=Aside0.mk (u1d (by repeat (first | (with_reducible first | exact HB.out | apply ud | apply ub | apply uf | refine uz ?_ GE308.out) | exact HB.out)) hb);have n3_:=Aside0.mk (hbox);have n4_:=Aside0.mk ((by rw [hg];exact (u1c (by repeat (first | (with_reducible first | exact HB.out | apply ud | apply ub | apply uf | refine uz ?_ GE308.out) | exact HB.out))):w.heap.size ≤ gb311));have n5_:=Aside0.mk ((by rw [hg];exact (u1c (by repeat (first | (with_reducible first | exact HB.out | apply ud | apply ub | apply uf | refine uz ?_ GE308.out) | exact HB.out))):w.heap.size ≤ gb311));have n6_:=Aside0.mk ((by rw [hg];exact Nat.ne_of_lt (u3a (g:=gb308) (o:=.cells #[.slice (some ad310) l0_0.length c0_0,.int .i64 a0_1,.int .u64 a0_2] 53 (0,0)) (by (with_reducible repeat (first | refine uu ?_ _ | refine uy ?_ | refine us ?_ _));exact BK308.out)):gb308 ≠ gb311));have n7_:=Aside0.mk ((by rw [hg];exact Nat.ne_of_gt (u3a (g:=gb308) (o:=.cells #[.slice (some ad310) l0_0.length c0_0,.int .i64 a0_1,.int .u64 a0_2] 53 (0,0)) (by (with_reducible repeat (first | refine uu ?_ _ | refine uy ?_ | refine us ?_ _));exact BK308.out)):gb311 ≠ gb308));clear HO_4;clear BK308;clear HB;have HO_4:=n0_;have BK308:=n1_;have HB:=n2_;have BK311:=n3_;have GW311:=n4_;have GE311:=n5_;have NB308_311:=n6_;have NB311_308:=n7_;clear n0_ n1_ n2_ n3_ n4_ n5_ n6_ n7_;clear hb hbox hg;have hnb18:=NB311_308.out;have hnc18:=NB308_311.out;have hcz19_0:w17.cell? ⟨gb311,0,none⟩ = some (.string (⟨#[]⟩:ByteArray)):=(uj BK311.out 0).trans rfl;have hcz19_1:w17.cell? ⟨gb311,1,none⟩ = some (.string (⟨#[]⟩:ByteArray)):=(uj BK311.out 1).trans rfl;have hfz19_0:=uo BK311.out 0;have hfz19_1:=uo BK311.out 1) | (go_at_call 37;(with_reducible refine (uv.calls k1 t309 false _ A11.out).mono ?_);rintro e w' ⟨rfl,⟨nd,rfl⟩⟩;(try first | exact ⟨rfl,_,World.drewN_drewN _ _ _⟩ | exact ⟨rfl,_,Eq.trans (World.drewN_drewN _ _ _) (congrArg (World.drewN _) (Nat.add_assoc _ _ _))⟩)) | ((with_reducible refine u3n (b:=.append) (xs:=#[.tmp 28,.tmp 30]) rfl ?_);at_builtin;refine Kd.R_append k66 (w0:=w) w.heap.size rfl (.tmp 28) (.tmp 30) 50 66 (.agg #[(.string ⟨#[]⟩),(.string ⟨#[]⟩)]) 32 rfl Tryz.underlying50 info66 rfl (by decide) (by omega) u4 x4_1 (⟨(uq l0_0 x16_1).f0,(uq l0_0 x16_1).f1⟩:S66) [.string ((uq l0_0 x16_1).f0),.string ((uq l0_0 x16_1).f1)] (fun k_ => k_ ≠ gb311) (fun _ => False) rfl (by first | (go_simp;done) | (go_simp;rfl)) ?aP (fun _ hk => hk.elim) ?aF ?aO ?aB ?aS ?aL ?_;(case aP => exact k66_mkM _ _ _ (⟨(uq l0_0 x16_1).f0,(uq l0_0 x16_1).f1⟩:S66));(case aB => exact (by repeat (first | (with_reducible first | exact HB.out | apply ud | apply ub | apply uf | refine uz ?_ GE308.out | refine uz ?_ GE311.out) | exact HB.out)));(case aF => exact (fun k_ hk => Kd.freshB (g:=gb311) (o:=.cells #[.string ((uq l0_0 x16_1).f0),.string ((uq l0_0 x16_1).f1)] 66 (0,0)) (by (with_reducible repeat (first | refine uu ?_ _ | refine uy ?_ | refine us ?_ _));refine u3f (cs:=#[.string ((uq l0_0 x16_1).f0),.string (⟨#[]⟩:ByteArray)]) ?_ 1 _ rfl;(with_reducible repeat (first | refine uu ?_ _ | refine uy ?_ | refine us ?_ _));refine u3f (cs:=#[.string (⟨#[]⟩:ByteArray),.string (⟨#[]⟩:ByteArray)]) ?_ 0 _ rfl;(with_reducible repeat (first | refine uu ?_ _ | refine uy ?_ | refine us ?_ _));exact BK311.out) k_ hk));(case aO => exact (by (with_reducible repeat (first | apply Kd.R_alloc | apply Kd.R_drewN | apply Kd.R_drew));exact Kd.R_mono (Kd.R_far (p:=⟨gb311,1,none⟩) (Kd.R_far (p:=⟨gb311,0,none⟩) (Kd.R_mono HO_4.out (fun k_ hk => (⟨hk,hk.2⟩:_ ∧ k_ ≠ gb311))) (fun _ hk => hk.2) (.string ((uq l0_0 x16_1).f0))) (fun _ hk => hk.2) (.string ((uq l0_0 x16_1).f1))) (fun _ hk => hk.1.2)));(case aS => exact (u1c (by repeat (first | (with_reducible first | exact HB.out | apply ud | apply ub | apply uf | refine uz ?_ GE308.out | refine uz ?_ GE311.out) | exact HB.out))));(case aL => have:=LMc16.out;omega);intro v314 w20 ho hb hg hat;rw [← Ny313.out] at ho;have n0_:=Aside0.mk (u3g (g:=gb308) (o:=.cells #[.slice (some ad310) l0_0.length c0_0,.int .i64 a0_1,.int .u64 a0_2] 53 (0,0)) (by (with_reducible repeat (first | refine uu ?_ _ | refine uy ?_ | refine us ?_ _));refine blk_far ?_ NB308_311.out _;(with_reducible repeat (first | refine uu ?_ _ | refine uy ?_ | refine us ?_ _));refine blk_far ?_ NB308_311.out _;(with_reducible repeat (first | refine uu ?_ _ | refine uy ?_ | refine us ?_ _));exact BK308.out) hg (Kd.R_ne HO_4.out BK308.out (by decide)));have n1_:=Aside0.mk (u3g (g:=gb311) (o:=.cells #[.string ((uq l0_0 x16_1).f0),.string ((uq l0_0 x16_1).f1)] 66 (0,0)) (by (with_reducible repeat (first | refine uu ?_ _ | refine uy ?_ | refine us ?_ _));refine u3f (cs:=#[.string ((uq l0_0 x16_1).f0),.string (⟨#[]⟩:ByteArray)]) ?_ 1 _ rfl;(with_reducible repeat (first | refine uu ?_ _ | refine uy ?_ | refine us ?_ _));refine u3f (cs:=#[.string (⟨#[]⟩:ByteArray),.string (⟨#[]⟩:ByteArray)]) ?_ 0 _ rfl;(with_reducible repeat (first | refine uu ?_ _ | refine uy ?_ | refine us ?_ _));exact BK311.out) hg (Kd.R_away HO_4.out (fun _ hk => hk.2)));have n2_:=Aside0.mk (hb);have n3_:=Aside0.mk (ho);clear BK308;clear BK311;clear HB;clear HO_4;have BK308:=n0_;have BK311:=n1_;have HB:=n2_;have HO315:=n3_;clear n0_ n1_ n2_ n3_;clear ho hb hg hat)))
                go_roundg k1
                case measure => have:=HK1.out;omega
                case rel => exact ⟨(y313),(wrap64 (x16_1 + 1)),(by first | rfl | (simp;done) | (simp [*];done)),H',⟨by have:=HK1.out;omega⟩,⟨by (with_reducible repeat (first | apply Kd.R_alloc | apply Kd.R_drewN | apply Kd.R_drew));exact Kd.R_mono HO315.out (fun _ hk => trivial)⟩,⟨by (with_reducible repeat (first | refine uu ?_ _ | refine uy ?_ | refine us ?_ _));exact BK308.out⟩,⟨by repeat (first | (with_reducible first | exact HB.out | apply ud | apply ub | apply uf | refine uz ?_ GE308.out | refine uz ?_ GE311.out) | exact HB.out)⟩⟩
              · rw [if_neg c16] at H
                exact absurd H (by simp)
          · rw [if_neg c10] at H
            have c10b0:(((uq l0_0 x16_1).f0).toList == ([95,95,110,97,109,101,95,95]:List UInt8)) = false:=beq_eq_false_iff_ne.mpr c10
            have c10b1:(((uq l0_0 x16_1).f0).toList != ([95,95,110,97,109,101,95,95]:List UInt8)) = true:=bne_iff_ne.mpr c10
            by_cases c21:x4_1.length < 4398046511104
            · rw [if_pos c21] at H
              have LMc21:=Aside0.mk c21
              clear c21
              obtain ⟨y316,hy316⟩:∃ y_:List (S66),y_ = (x4_1 ++ [(⟨(uq l0_0 x16_1).f0,(uq l0_0 x16_1).f1⟩:S66)]):=⟨_,rfl⟩
              replace H:(u1l.l0 k1 t309 y316 l0_0 (l0_0.length:Int) (wrap64 (x16_1 + 1)) l0_0 a0_1 a0_2) = some r:=by first | (rw [hy316];with_reducible exact H) | (have H2_:=(Option.bind_some _ _).symm.trans H;rw [hy316];with_reducible exact H2_) | (have H2_:=(Option.bind_some _ _).symm.trans H;with_reducible exact H2_) | with_reducible exact H | (rw [hy316];exact H) | exact H
              have Ny316:=Aside0.mk hy316
              clear hy316
              have H':=Aside0.mk H
              clear H
              have p310:0 ≤ (x16_1:Int):=of_decide_eq_true (by first | (with_reducible assumption) | assumption)
              have q310:x16_1 < (l0_0.length:Int):=of_decide_eq_true (by first | (with_reducible assumption) | assumption)
              obtain ⟨ad310,e310,hx310_0,hx310_1⟩:=at_T66 HR0_0.out x16_1 p310 q310
              cases e310
              replace hx310_0:=(HB.out.cell (World.block_lt_of_cell? w _ hx310_0)).trans hx310_0
              replace hx310_1:=(HB.out.cell (World.block_lt_of_cell? w _ hx310_1)).trans hx310_1
              replace p310:=eq_true p310
              replace q310:=eq_true q310
              go_wp2_with (first | ((with_reducible refine u2u (N:=6) rfl ?_);refine u2r ?hg (N:=6) ?hd (cs:=#[.string (⟨#[]⟩:ByteArray),.string (⟨#[]⟩:ByteArray)]) (t:=66) ?hr ?_;(case hd => rfl);(case hg => rfl);(case hr => first | (go_simp;done) | (go_simp;rfl));intro gb311 hg w22 hbox hb;have n0_:=Aside0.mk (Kd.R_below (Kd.R_elderB (by (with_reducible repeat (first | apply Kd.R_alloc | apply Kd.R_drewN | apply Kd.R_drew));exact HO_4.out) gb311 (Nat.le_of_eq hg.symm)) hb);have n1_:=Aside0.mk (u2d (g:=gb308) (o:=.cells #[.slice (some ad310) l0_0.length c0_0,.int .i64 a0_1,.int .u64 a0_2] 53 (0,0)) (by (with_reducible repeat (first | refine uu ?_ _ | refine uy ?_ | refine us ?_ _));exact BK308.out) hb);have n2_:=Aside0.mk (u1d (by repeat (first | (with_reducible first | exact HB.out | apply ud | apply ub | apply uf | refine uz ?_ GE308.out) | exact HB.out)) hb);have n3_:=Aside0.mk (hbox);have n4_:=Aside0.mk ((by rw [hg];exact (u1c (by repeat (first | (with_reducible first | exact HB.out | apply ud | apply ub | apply uf | refine uz ?_ GE308.out) | exact HB.out))):w.heap.size ≤ gb311));have n5_:=Aside0.mk ((by rw [hg];exact (u1c (by repeat (first | (with_reducible first | exact HB.out | apply ud | apply ub | apply uf | refine uz ?_ GE308.out) | exact HB.out))):w.heap.size ≤ gb311));have n6_:=Aside0.mk ((by rw [hg];exact Nat.ne_of_lt (u3a (g:=gb308) (o:=.cells #[.slice (some ad310) l0_0.length c0_0,.int .i64 a0_1,.int .u64 a0_2] 53 (0,0)) (by (with_reducible repeat (first | refine uu ?_ _ | refine uy ?_ | refine us ?_ _));exact BK308.out)):gb308 ≠ gb311));have n7_:=Aside0.mk ((by rw [hg];exact Nat.ne_of_gt (u3a (g:=gb308) (o:=.cells #[.slice (some ad310) l0_0.length c0_0,.int .i64 a0_1,.int .u64 a0_2] 53 (0,0)) (by (with_reducible repeat (first | refine uu ?_ _ | refine uy ?_ | refine us ?_ _));exact BK308.out)):gb311 ≠ gb308));clear HO_4;clear BK308;clear HB;have HO_4:=n0_;have BK308:=n1_;have HB:=n2_;have BK311:=n3_;have GW311:=n4_;have GE311:=n5_;have NB308_311:=n6_;have NB311_308:=n7_;clear n0_ n1_ n2_ n3_ n4_ n5_ n6_ n7_;clear hb hbox hg;have hnb23:=NB311_308.out;have hnc23:=NB308_311.out;have hcz24_0:w22.cell? ⟨gb311,0,none⟩ = some (.string (⟨#[]⟩:ByteArray)):=(uj BK311.out 0).trans rfl;have hcz24_1:w22.cell? ⟨gb311,1,none⟩ = some (.string (⟨#[]⟩:ByteArray)):=(uj BK311.out 1).trans rfl;have hfz24_0:=uo BK311.out 0;have hfz24_1:=uo BK311.out 1) | ((with_reducible refine u3n (b:=.append) (xs:=#[.tmp 28,.tmp 30]) rfl ?_);at_builtin;refine Kd.R_append k66 (w0:=w) w.heap.size rfl (.tmp 28) (.tmp 30) 50 66 (.agg #[(.string ⟨#[]⟩),(.string ⟨#[]⟩)]) 32 rfl Tryz.underlying50 info66 rfl (by decide) (by omega) u4 x4_1 (⟨(uq l0_0 x16_1).f0,(uq l0_0 x16_1).f1⟩:S66) [.string ((uq l0_0 x16_1).f0),.string ((uq l0_0 x16_1).f1)] (fun k_ => k_ ≠ gb311) (fun _ => False) rfl (by first | (go_simp;done) | (go_simp;rfl)) ?aP (fun _ hk => hk.elim) ?aF ?aO ?aB ?aS ?aL ?_;(case aP => exact k66_mkM _ _ _ (⟨(uq l0_0 x16_1).f0,(uq l0_0 x16_1).f1⟩:S66));(case aB => exact (by repeat (first | (with_reducible first | exact HB.out | apply ud | apply ub | apply uf | refine uz ?_ GE308.out | refine uz ?_ GE311.out) | exact HB.out)));(case aF => exact (fun k_ hk => Kd.freshB (g:=gb311) (o:=.cells #[.string ((uq l0_0 x16_1).f0),.string ((uq l0_0 x16_1).f1)] 66 (0,0)) (by (with_reducible repeat (first | refine uu ?_ _ | refine uy ?_ | refine us ?_ _));refine u3f (cs:=#[.string ((uq l0_0 x16_1).f0),.string (⟨#[]⟩:ByteArray)]) ?_ 1 _ rfl;(with_reducible repeat (first | refine uu ?_ _ | refine uy ?_ | refine us ?_ _));refine u3f (cs:=#[.string (⟨#[]⟩:ByteArray),.string (⟨#[]⟩:ByteArray)]) ?_ 0 _ rfl;(with_reducible repeat (first | refine uu ?_ _ | refine uy ?_ | refine us ?_ _));exact BK311.out) k_ hk));(case aO => exact (by (with_reducible repeat (first | apply Kd.R_alloc | apply Kd.R_drewN | apply Kd.R_drew));exact Kd.R_mono (Kd.R_far (p:=⟨gb311,1,none⟩) (Kd.R_far (p:=⟨gb311,0,none⟩) (Kd.R_mono HO_4.out (fun k_ hk => (⟨hk,hk.2⟩:_ ∧ k_ ≠ gb311))) (fun _ hk => hk.2) (.string ((uq l0_0 x16_1).f0))) (fun _ hk => hk.2) (.string ((uq l0_0 x16_1).f1))) (fun _ hk => hk.1.2)));(case aS => exact (u1c (by repeat (first | (with_reducible first | exact HB.out | apply ud | apply ub | apply uf | refine uz ?_ GE308.out | refine uz ?_ GE311.out) | exact HB.out))));(case aL => have:=LMc21.out;omega);intro v317 w25 ho hb hg hat;rw [← Ny316.out] at ho;have n0_:=Aside0.mk (u3g (g:=gb308) (o:=.cells #[.slice (some ad310) l0_0.length c0_0,.int .i64 a0_1,.int .u64 a0_2] 53 (0,0)) (by (with_reducible repeat (first | refine uu ?_ _ | refine uy ?_ | refine us ?_ _));refine blk_far ?_ NB308_311.out _;(with_reducible repeat (first | refine uu ?_ _ | refine uy ?_ | refine us ?_ _));refine blk_far ?_ NB308_311.out _;(with_reducible repeat (first | refine uu ?_ _ | refine uy ?_ | refine us ?_ _));exact BK308.out) hg (Kd.R_ne HO_4.out BK308.out (by decide)));have n1_:=Aside0.mk (u3g (g:=gb311) (o:=.cells #[.string ((uq l0_0 x16_1).f0),.string ((uq l0_0 x16_1).f1)] 66 (0,0)) (by (with_reducible repeat (first | refine uu ?_ _ | refine uy ?_ | refine us ?_ _));refine u3f (cs:=#[.string ((uq l0_0 x16_1).f0),.string (⟨#[]⟩:ByteArray)]) ?_ 1 _ rfl;(with_reducible repeat (first | refine uu ?_ _ | refine uy ?_ | refine us ?_ _));refine u3f (cs:=#[.string (⟨#[]⟩:ByteArray),.string (⟨#[]⟩:ByteArray)]) ?_ 0 _ rfl;(with_reducible repeat (first | refine uu ?_ _ | refine uy ?_ | refine us ?_ _));exact BK311.out) hg (Kd.R_away HO_4.out (fun _ hk => hk.2)));have n2_:=Aside0.mk (hb);have n3_:=Aside0.mk (ho);clear BK308;clear BK311;clear HB;clear HO_4;have BK308:=n0_;have BK311:=n1_;have HB:=n2_;have HO318:=n3_;clear n0_ n1_ n2_ n3_;clear ho hb hg hat))
              repeat (go_quiet (first | ((with_reducible refine u2u (N:=6) rfl ?_);refine u2r ?hg (N:=6) ?hd (cs:=#[.string (⟨#[]⟩:ByteArray),.string (⟨#[]⟩:ByteArray)]) (t:=66) ?hr ?_;(case hd => rfl);(case hg => rfl);(case hr => first | (go_simp;done) | (go_simp;rfl));intro gb311 hg w22 hbox hb;have n0_:=Aside0.mk (Kd.R_below (Kd.R_elderB (by (with_reducible repeat (first | apply Kd.R_alloc | apply Kd.R_drewN | apply Kd.R_drew));exact HO_4.out) gb311 (Nat.le_of_eq hg.symm)) hb);have n1_:=Aside0.mk (u2d (g:=gb308) (o:=.cells #[.slice (some ad310) l0_0.length c0_0,.int .i64 a0_1,.int .u64 a0_2] 53 (0,0)) (by (with_reducible repeat (first | refine uu ?_ _ | refine uy ?_ | refine us ?_ _));exact BK308.out) hb);have n2_:=Aside0.mk (u1d (by repeat (first | (with_reducible first | exact HB.out | apply ud | apply ub | apply uf | refine uz ?_ GE308.out) | exact HB.out)) hb);have n3_:=Aside0.mk (hbox);have n4_:=Aside0.mk ((by rw [hg];exact (u1c (by repeat (first | (with_reducible first | exact HB.out | apply ud | apply ub | apply uf | refine uz ?_ GE308.out) | exact HB.out))):w.heap.size ≤ gb311));have n5_:=Aside0.mk ((by rw [hg];exact (u1c (by repeat (first | (with_reducible first | exact HB.out | apply ud | apply ub | apply uf | refine uz ?_ GE308.out) | exact HB.out))):w.heap.size ≤ gb311));have n6_:=Aside0.mk ((by rw [hg];exact Nat.ne_of_lt (u3a (g:=gb308) (o:=.cells #[.slice (some ad310) l0_0.length c0_0,.int .i64 a0_1,.int .u64 a0_2] 53 (0,0)) (by (with_reducible repeat (first | refine uu ?_ _ | refine uy ?_ | refine us ?_ _));exact BK308.out)):gb308 ≠ gb311));have n7_:=Aside0.mk ((by rw [hg];exact Nat.ne_of_gt (u3a (g:=gb308) (o:=.cells #[.slice (some ad310) l0_0.length c0_0,.int .i64 a0_1,.int .u64 a0_2] 53 (0,0)) (by (with_reducible repeat (first | refine uu ?_ _ | refine uy ?_ | refine us ?_ _));exact BK308.out)):gb311 ≠ gb308));clear HO_4;clear BK308;clear HB;have HO_4:=n0_;have BK308:=n1_;have HB:=n2_;have BK311:=n3_;have GW311:=n4_;have GE311:=n5_;have NB308_311:=n6_;have NB311_308:=n7_;clear n0_ n1_ n2_ n3_ n4_ n5_ n6_ n7_;clear hb hbox hg;have hnb23:=NB311_308.out;have hnc23:=NB308_311.out;have hcz24_0:w22.cell? ⟨gb311,0,none⟩ = some (.string (⟨#[]⟩:ByteArray)):=(uj BK311.out 0).trans rfl;have hcz24_1:w22.cell? ⟨gb311,1,none⟩ = some (.string (⟨#[]⟩:ByteArray)):=(uj BK311.out 1).trans rfl;have hfz24_0:=uo BK311.out 0;have hfz24_1:=uo BK311.out 1) | ((with_reducible refine u3n (b:=.append) (xs:=#[.tmp 28,.tmp 30]) rfl ?_);at_builtin;refine Kd.R_append k66 (w0:=w) w.heap.size rfl (.tmp 28) (.tmp 30) 50 66 (.agg #[(.string ⟨#[]⟩),(.string ⟨#[]⟩)]) 32 rfl Tryz.underlying50 info66 rfl (by decide) (by omega) u4 x4_1 (⟨(uq l0_0 x16_1).f0,(uq l0_0 x16_1).f1⟩:S66) [.string ((uq l0_0 x16_1).f0),.string ((uq l0_0 x16_1).f1)] (fun k_ => k_ ≠ gb311) (fun _ => False) rfl (by first | (go_simp;done) | (go_simp;rfl)) ?aP (fun _ hk => hk.elim) ?aF ?aO ?aB ?aS ?aL ?_;(case aP => exact k66_mkM _ _ _ (⟨(uq l0_0 x16_1).f0,(uq l0_0 x16_1).f1⟩:S66));(case aB => exact (by repeat (first | (with_reducible first | exact HB.out | apply ud | apply ub | apply uf | refine uz ?_ GE308.out | refine uz ?_ GE311.out) | exact HB.out)));(case aF => exact (fun k_ hk => Kd.freshB (g:=gb311) (o:=.cells #[.string ((uq l0_0 x16_1).f0),.string ((uq l0_0 x16_1).f1)] 66 (0,0)) (by (with_reducible repeat (first | refine uu ?_ _ | refine uy ?_ | refine us ?_ _));refine u3f (cs:=#[.string ((uq l0_0 x16_1).f0),.string (⟨#[]⟩:ByteArray)]) ?_ 1 _ rfl;(with_reducible repeat (first | refine uu ?_ _ | refine uy ?_ | refine us ?_ _));refine u3f (cs:=#[.string (⟨#[]⟩:ByteArray),.string (⟨#[]⟩:ByteArray)]) ?_ 0 _ rfl;(with_reducible repeat (first | refine uu ?_ _ | refine uy ?_ | refine us ?_ _));exact BK311.out) k_ hk));(case aO => exact (by (with_reducible repeat (first | apply Kd.R_alloc | apply Kd.R_drewN | apply Kd.R_drew));exact Kd.R_mono (Kd.R_far (p:=⟨gb311,1,none⟩) (Kd.R_far (p:=⟨gb311,0,none⟩) (Kd.R_mono HO_4.out (fun k_ hk => (⟨hk,hk.2⟩:_ ∧ k_ ≠ gb311))) (fun _ hk => hk.2) (.string ((uq l0_0 x16_1).f0))) (fun _ hk => hk.2) (.string ((uq l0_0 x16_1).f1))) (fun _ hk => hk.1.2)));(case aS => exact (u1c (by repeat (first | (with_reducible first | exact HB.out | apply ud | apply ub | apply uf | refine uz ?_ GE308.out | refine uz ?_ GE311.out) | exact HB.out))));(case aL => have:=LMc21.out;omega);intro v317 w25 ho hb hg hat;rw [← Ny316.out] at ho;have n0_:=Aside0.mk (u3g (g:=gb308) (o:=.cells #[.slice (some ad310) l0_0.length c0_0,.int .i64 a0_1,.int .u64 a0_2] 53 (0,0)) (by (with_reducible repeat (first | refine uu ?_ _ | refine uy ?_ | refine us ?_ _));refine blk_far ?_ NB308_311.out _;(with_reducible repeat (first | refine uu ?_ _ | refine uy ?_ | refine us ?_ _));refine blk_far ?_ NB308_311.out _;(with_reducible repeat (first | refine uu ?_ _ | refine uy ?_ | refine us ?_ _));exact BK308.out) hg (Kd.R_ne HO_4.out BK308.out (by decide)));have n1_:=Aside0.mk (u3g (g:=gb311) (o:=.cells #[.string ((uq l0_0 x16_1).f0),.string ((uq l0_0 x16_1).f1)] 66 (0,0)) (by (with_reducible repeat (first | refine uu ?_ _ | refine uy ?_ | refine us ?_ _));refine u3f (cs:=#[.string ((uq l0_0 x16_1).f0),.string (⟨#[]⟩:ByteArray)]) ?_ 1 _ rfl;(with_reducible repeat (first | refine uu ?_ _ | refine uy ?_ | refine us ?_ _));refine u3f (cs:=#[.string (⟨#[]⟩:ByteArray),.string (⟨#[]⟩:ByteArray)]) ?_ 0 _ rfl;(with_reducible repeat (first | refine uu ?_ _ | refine uy ?_ | refine us ?_ _));exact BK311.out) hg (Kd.R_away HO_4.out (fun _ hk => hk.2)));have n2_:=Aside0.mk (hb);have n3_:=Aside0.mk (ho);clear BK308;clear BK311;clear HB;clear HO_4;have BK308:=n0_;have BK311:=n1_;have HB:=n2_;have HO318:=n3_;clear n0_ n1_ n2_ n3_;clear ho hb hg hat));try go_wp2_with (first | ((with_reducible refine u2u (N:=6) rfl ?_);refine u2r ?hg (N:=6) ?hd (cs:=#[.string (⟨#[]⟩:ByteArray),.string (⟨#[]⟩:ByteArray)]) (t:=66) ?hr ?_;(case hd => rfl);(case hg => rfl);(case hr => first | (go_simp;done) | (go_simp;rfl));intro gb311 hg w22 hbox hb;have n0_:=Aside0.mk (Kd.R_below (Kd.R_elderB (by (with_reducible repeat (first | apply Kd.R_alloc | apply Kd.R_drewN | apply Kd.R_drew));exact HO_4.out) gb311 (Nat.le_of_eq hg.symm)) hb);have n1_:=Aside0.mk (u2d (g:=gb308) (o:=.cells #[.slice (some ad310) l0_0.length c0_0,.int .i64 a0_1,.int .u64 a0_2] 53 (0,0)) (by (with_reducible repeat (first | refine uu ?_ _ | refine uy ?_ | refine us ?_ _));exact BK308.out) hb);have n2_:=Aside0.mk (u1d (by repeat (first | (with_reducible first | exact HB.out | apply ud | apply ub | apply uf | refine uz ?_ GE308.out) | exact HB.out)) hb);have n3_:=Aside0.mk (hbox);have n4_:=Aside0.mk ((by rw [hg];exact (u1c (by repeat (first | (with_reducible first | exact HB.out | apply ud | apply ub | apply uf | refine uz ?_ GE308.out) | exact HB.out))):w.heap.size ≤ gb311));have n5_:=Aside0.mk ((by rw [hg];exact (u1c (by repeat (first | (with_reducible first | exact HB.out | apply ud | apply ub | apply uf | refine uz ?_ GE308.out) | exact HB.out))):w.heap.size ≤ gb311));have n6_:=Aside0.mk ((by rw [hg];exact Nat.ne_of_lt (u3a (g:=gb308) (o:=.cells #[.slice (some ad310) l0_0.length c0_0,.int .i64 a0_1,.int .u64 a0_2] 53 (0,0)) (by (with_reducible repeat (first | refine uu ?_ _ | refine uy ?_ | refine us ?_ _));exact BK308.out)):gb308 ≠ gb311));have n7_:=Aside0.mk ((by rw [hg];exact Nat.ne_of_gt (u3a (g:=gb308) (o:=.cells #[.slice (some ad310) l0_0.length c0_0,.int .i64 a0_1,.int .u64 a0_2] 53 (0,0)) (by (with_reducible repeat (first | refine uu ?_ _ | refine uy ?_ | refine us ?_ _));exact BK308.out)):gb311 ≠ gb308));clear HO_4;clear BK308;clear HB;have HO_4:=n0_;have BK308:=n1_;have HB:=n2_;have BK311:=n3_;have GW311:=n4_;have GE311:=n5_;have NB308_311:=n6_;have NB311_308:=n7_;clear n0_ n1_ n2_ n3_ n4_ n5_ n6_ n7_;clear hb hbox hg;have hnb23:=NB311_308.out;have hnc23:=NB308_311.out;have hcz24_0:w22.cell? ⟨gb311,0,none⟩ = some (.string (⟨#[]⟩:ByteArray)):=(uj BK311.out 0).trans rfl;have hcz24_1:w22.cell? ⟨gb311,1,none⟩ = some (.string (⟨#[]⟩:ByteArray)):=(uj BK311.out 1).trans rfl;have hfz24_0:=uo BK311.out 0;have hfz24_1:=uo BK311.out 1) | ((with_reducible refine u3n (b:=.append) (xs:=#[.tmp 28,.tmp 30]) rfl ?_);at_builtin;refine Kd.R_append k66 (w0:=w) w.heap.size rfl (.tmp 28) (.tmp 30) 50 66 (.agg #[(.string ⟨#[]⟩),(.string ⟨#[]⟩)]) 32 rfl Tryz.underlying50 info66 rfl (by decide) (by omega) u4 x4_1 (⟨(uq l0_0 x16_1).f0,(uq l0_0 x16_1).f1⟩:S66) [.string ((uq l0_0 x16_1).f0),.string ((uq l0_0 x16_1).f1)] (fun k_ => k_ ≠ gb311) (fun _ => False) rfl (by first | (go_simp;done) | (go_simp;rfl)) ?aP (fun _ hk => hk.elim) ?aF ?aO ?aB ?aS ?aL ?_;(case aP => exact k66_mkM _ _ _ (⟨(uq l0_0 x16_1).f0,(uq l0_0 x16_1).f1⟩:S66));(case aB => exact (by repeat (first | (with_reducible first | exact HB.out | apply ud | apply ub | apply uf | refine uz ?_ GE308.out | refine uz ?_ GE311.out) | exact HB.out)));(case aF => exact (fun k_ hk => Kd.freshB (g:=gb311) (o:=.cells #[.string ((uq l0_0 x16_1).f0),.string ((uq l0_0 x16_1).f1)] 66 (0,0)) (by (with_reducible repeat (first | refine uu ?_ _ | refine uy ?_ | refine us ?_ _));refine u3f (cs:=#[.string ((uq l0_0 x16_1).f0),.string (⟨#[]⟩:ByteArray)]) ?_ 1 _ rfl;(with_reducible repeat (first | refine uu ?_ _ | refine uy ?_ | refine us ?_ _));refine u3f (cs:=#[.string (⟨#[]⟩:ByteArray),.string (⟨#[]⟩:ByteArray)]) ?_ 0 _ rfl;(with_reducible repeat (first | refine uu ?_ _ | refine uy ?_ | refine us ?_ _));exact BK311.out) k_ hk));(case aO => exact (by (with_reducible repeat (first | apply Kd.R_alloc | apply Kd.R_drewN | apply Kd.R_drew));exact Kd.R_mono (Kd.R_far (p:=⟨gb311,1,none⟩) (Kd.R_far (p:=⟨gb311,0,none⟩) (Kd.R_mono HO_4.out (fun k_ hk => (⟨hk,hk.2⟩:_ ∧ k_ ≠ gb311))) (fun _ hk => hk.2) (.string ((uq l0_0 x16_1).f0))) (fun _ hk => hk.2) (.string ((uq l0_0 x16_1).f1))) (fun _ hk => hk.1.2)));(case aS => exact (u1c (by repeat (first | (with_reducible first | exact HB.out | apply ud | apply ub | apply uf | refine uz ?_ GE308.out | refine uz ?_ GE311.out) | exact HB.out))));(case aL => have:=LMc21.out;omega);intro v317 w25 ho hb hg hat;rw [← Ny316.out] at ho;have n0_:=Aside0.mk (u3g (g:=gb308) (o:=.cells #[.slice (some ad310) l0_0.length c0_0,.int .i64 a0_1,.int .u64 a0_2] 53 (0,0)) (by (with_reducible repeat (first | refine uu ?_ _ | refine uy ?_ | refine us ?_ _));refine blk_far ?_ NB308_311.out _;(with_reducible repeat (first | refine uu ?_ _ | refine uy ?_ | refine us ?_ _));refine blk_far ?_ NB308_311.out _;(with_reducible repeat (first | refine uu ?_ _ | refine uy ?_ | refine us ?_ _));exact BK308.out) hg (Kd.R_ne HO_4.out BK308.out (by decide)));have n1_:=Aside0.mk (u3g (g:=gb311) (o:=.cells #[.string ((uq l0_0 x16_1).f0),.string ((uq l0_0 x16_1).f1)] 66 (0,0)) (by (with_reducible repeat (first | refine uu ?_ _ | refine uy ?_ | refine us ?_ _));refine u3f (cs:=#[.string ((uq l0_0 x16_1).f0),.string (⟨#[]⟩:ByteArray)]) ?_ 1 _ rfl;(with_reducible repeat (first | refine uu ?_ _ | refine uy ?_ | refine us ?_ _));refine u3f (cs:=#[.string (⟨#[]⟩:ByteArray),.string (⟨#[]⟩:ByteArray)]) ?_ 0 _ rfl;(with_reducible repeat (first | refine uu ?_ _ | refine uy ?_ | refine us ?_ _));exact BK311.out) hg (Kd.R_away HO_4.out (fun _ hk => hk.2)));have n2_:=Aside0.mk (hb);have n3_:=Aside0.mk (ho);clear BK308;clear BK311;clear HB;clear HO_4;have BK308:=n0_;have BK311:=n1_;have HB:=n2_;have HO318:=n3_;clear n0_ n1_ n2_ n3_;clear ho hb hg hat)))
              go_roundg k1
              case measure => have:=HK1.out;omega
              case rel => exact ⟨(y316),(wrap64 (x16_1 + 1)),(by first | rfl | (simp;done) | (simp [*];done)),H',⟨by have:=HK1.out;omega⟩,⟨by (with_reducible repeat (first | apply Kd.R_alloc | apply Kd.R_drewN | apply Kd.R_drew));exact Kd.R_mono HO318.out (fun _ hk => trivial)⟩,⟨by (with_reducible repeat (first | refine uu ?_ _ | refine uy ?_ | refine us ?_ _));exact BK308.out⟩,⟨by repeat (first | (with_reducible first | exact HB.out | apply ud | apply ub | apply uf | refine uz ?_ GE308.out | refine uz ?_ GE311.out) | exact HB.out)⟩⟩
            · rw [if_neg c21] at H
              exact absurd H (by simp)
        · rw [if_neg c9] at H
          exact absurd H (by simp)
      · rw [if_neg c8] at H
        exact absurd H (by simp)
    · rw [if_neg c7] at H
      have c7b0:decide (x16_1 < (l0_0.length:Int)) = false:=decide_eq_false c7
      clear c7
      replace H:=Option.bind_eq_some_iff.mp H
      obtain ⟨t319,A260,H⟩:=H
      replace H:(if t319 = true then (u1l.j1 k1 x4_1 t309 l0_0 a0_1 a0_2) else (u1l.j1 k1 x4_1 (⟨#[]⟩:ByteArray) l0_0 a0_1 a0_2)) = some r:=H
      have A26:=Aside0.mk A260
      clear A260
      have HC27:=Aside0.mk H
      clear H
      go_upto_if 34 with (first | (go_at_call 37;(with_reducible refine (uv.calls k1 t309 t319 _ A26.out).mono ?_);rintro e w' ⟨rfl,⟨nd,rfl⟩⟩;(try first | exact ⟨rfl,_,World.drewN_drewN _ _ _⟩ | exact ⟨rfl,_,Eq.trans (World.drewN_drewN _ _ _) (congrArg (World.drewN _) (Nat.add_assoc _ _ _))⟩)))
      repeat (go_quiet (first | (go_at_call 37;(with_reducible refine (uv.calls k1 t309 t319 _ A26.out).mono ?_);rintro e w' ⟨rfl,⟨nd,rfl⟩⟩;(try first | exact ⟨rfl,_,World.drewN_drewN _ _ _⟩ | exact ⟨rfl,_,Eq.trans (World.drewN_drewN _ _ _) (congrArg (World.drewN _) (Nat.add_assoc _ _ _))⟩)));go_upto_if 34 with (first | (go_at_call 37;(with_reducible refine (uv.calls k1 t309 t319 _ A26.out).mono ?_);rintro e w' ⟨rfl,⟨nd,rfl⟩⟩;(try first | exact ⟨rfl,_,World.drewN_drewN _ _ _⟩ | exact ⟨rfl,_,Eq.trans (World.drewN_drewN _ _ _) (congrArg (World.drewN _) (Nat.add_assoc _ _ _))⟩))))
      (try simp only [Act.put,List.setIfInBounds_toArray,List.set_cons_zero,List.set_cons_succ])
      go_cut [7] (fun v7 wc => ∃ (kq:Nat) (x7_26:ByteArray),v7 = .string x7_26 ∧ Aside0 (u1l.j1 kq x4_1 x7_26 l0_0 a0_1 a0_2 = some r) ∧ Aside0 (kq ≤ k1) ∧ Aside0 (Kd.R k66 66 wc w.heap.size (fun _ => True) u4 x4_1) ∧ Aside0 (wc.heap[gb308]? = some (.cells #[(.slice A0_0 l0_0.length c0_0),.int .i64 a0_1,.int .u64 a0_2] 53 (0,0))) ∧ Aside0 (Below w.heap.size w wc))
      case first =>
       have H:=HC27.out
       clear HC27
       by_cases c28:t319 = true
       · subst c28
         have H1:(u1l.j1 k1 x4_1 t309 l0_0 a0_1 a0_2) = some r:=by rw [if_pos rfl] at H;exact H
         clear H
         have H:=H1
         clear H1
         have H':=Aside0.mk H
         clear H
         go_wp2
         repeat (go_quiet (fail);try go_wp2)
         go_meet
         case rel => exact ⟨_,(t309),(by first | rfl | (simp;done) | (simp [*];done)),H',⟨by have:=HK1.out;first | omega | exact Nat.le_refl _⟩,⟨by (with_reducible repeat (first | apply Kd.R_alloc | apply Kd.R_drewN | apply Kd.R_drew));exact HO_4.out⟩,⟨by (with_reducible repeat (first | refine uu ?_ _ | refine uy ?_ | refine us ?_ _));exact BK308.out⟩,⟨by repeat (first | (with_reducible first | exact HB.out | apply ud | apply ub | apply uf | refine uz ?_ GE308.out) | exact HB.out)⟩⟩
       · replace c28:=Bool.eq_false_iff.mpr c28
         subst c28
         have H1:(u1l.j1 k1 x4_1 (⟨#[]⟩:ByteArray) l0_0 a0_1 a0_2) = some r:=by rw [if_neg (show ¬ (false = true) by decide)] at H;exact H
         clear H
         have H:=H1
         clear H1
         have H':=Aside0.mk H
         clear H
         go_wp2
         repeat (go_quiet (fail);try go_wp2)
         go_meet
         case rel => exact ⟨_,((⟨#[]⟩:ByteArray)),(by first | rfl | (simp;done) | (simp [*];done)),H',⟨by have:=HK1.out;first | omega | exact Nat.le_refl _⟩,⟨by (with_reducible repeat (first | apply Kd.R_alloc | apply Kd.R_drewN | apply Kd.R_drew));exact HO_4.out⟩,⟨by (with_reducible repeat (first | refine uu ?_ _ | refine uy ?_ | refine us ?_ _));exact BK308.out⟩,⟨by repeat (first | (with_reducible first | exact HB.out | apply ud | apply ub | apply uf | refine uz ?_ GE308.out) | exact HB.out)⟩⟩
      case rest =>
       clear HC27
       try clear c1
       try clear c2
       try clear p2
       try clear p3
       try clear q3
       try clear hx3
       try clear c4
       try clear p6
       try clear c7
       try clear c7b0
       try clear c8
       try clear c8b0
       try clear c9
       try clear c9b0
       try clear c10
       try clear c10b0
       try clear c10b1
       try clear c12
       try clear c14
       try clear c16
       try clear c18
       try clear c21
       try clear c23
       try clear c28
       try clear hcz15_0
       try clear hcz15_1
       try clear hcz19_0
       try clear hcz19_1
       try clear hcz24_0
       try clear hcz24_1
       try clear hcz4_0
       try clear hcz4_1
       try clear hcz4_2
       try clear hcz6_0
       try clear hcz6_1
       try clear hcz6_2
       try clear hfz15_0
       try clear hfz15_1
       try clear hfz19_0
       try clear hfz19_1
       try clear hfz24_0
       try clear hfz24_1
       try clear hfz4_0
       try clear hfz4_1
       try clear hfz4_2
       try clear hfz6_0
       try clear hfz6_1
       try clear hfz6_2
       try clear hx310_0
       try clear hx310_1
       try clear p2
       try clear p310
       try clear q310
       obtain ⟨kq,x7_26,rfl,HA,HJ26,HO_4,BK308,HB⟩:=hcut
       cases kq with
       | zero => exact absurd HA.out (by simp [u1l.j1])
       | succ kj26 =>
         have H:=HA.out
         clear HA
         simp only [u1l.j1] at H
         by_cases c29:(x4_1.length:Int) > 0
         · rw [if_pos c29] at H
           have c29b0:decide (0 < (x4_1.length:Int)) = true:=decide_eq_true c29
           have c29b1:decide (0 < x4_1.length) = true:=decide_eq_true (by omega)
           clear c29
           replace H:=Option.bind_eq_some_iff.mp H
           obtain ⟨⟨t320,t321⟩,A300,H⟩:=H
           replace H:(if x7_26.size + t320.size ≤ 9223372036854775807 then (if (x7_26 ++ t320).size + 1 ≤ 9223372036854775807 then ((u1i.f kj26 a0_2).bind fun t322 => (if ((x7_26 ++ t320) ++ (⟨#[32]⟩:ByteArray)).size + t322.size ≤ 9223372036854775807 then (if (((x7_26 ++ t320) ++ (⟨#[32]⟩:ByteArray)) ++ t322).size + 1 ≤ 9223372036854775807 then ((u2g.f kj26 a0_1).bind fun t323 => (if ((((x7_26 ++ t320) ++ (⟨#[32]⟩:ByteArray)) ++ t322) ++ (⟨#[32]⟩:ByteArray)).size + t323.size ≤ 9223372036854775807 then (if (((((x7_26 ++ t320) ++ (⟨#[32]⟩:ByteArray)) ++ t322) ++ (⟨#[32]⟩:ByteArray)) ++ t323).size + 1 ≤ 9223372036854775807 then (some ((((((x7_26 ++ t320) ++ (⟨#[32]⟩:ByteArray)) ++ t322) ++ (⟨#[32]⟩:ByteArray)) ++ t323) ++ (⟨#[10]⟩:ByteArray))) else (none)) else (none))) else (none)) else (none))) else (none)) else (none)) = some r:=H
           have A30:=Aside0.mk A300
           clear A300
           by_cases c31:x7_26.size + t320.size ≤ 9223372036854775807
           · rw [if_pos c31] at H
             have c31b0:=eq_true c31
             have c31b1:decide (x7_26.size + t320.size ≤ 9223372036854775807) = true:=decide_eq_true c31
             try have c31b2:(9223372036854775807 < x7_26.size + t320.size) = False:=eq_false (Nat.not_lt.2 c31)
             try (have c31b3:=c31b2;simp only [ByteArray.size_append,Base.size1,(show ∀ a_ b_:UInt8,(⟨#[a_,b_]⟩:ByteArray).size = 2 from fun _ _ => rfl)] at c31b3)
             by_cases c32:(x7_26 ++ t320).size + 1 ≤ 9223372036854775807
             · rw [if_pos c32] at H
               have c32b0:=eq_true c32
               have c32b1:decide ((x7_26 ++ t320).size + 1 ≤ 9223372036854775807) = true:=decide_eq_true c32
               try have c32b2:(9223372036854775807 < (x7_26 ++ t320).size + 1) = False:=eq_false (Nat.not_lt.2 c32)
               try (have c32b3:=c32b2;simp only [ByteArray.size_append,Base.size1,(show ∀ a_ b_:UInt8,(⟨#[a_,b_]⟩:ByteArray).size = 2 from fun _ _ => rfl)] at c32b3)
               replace H:=Option.bind_eq_some_iff.mp H
               obtain ⟨t322,A330,H⟩:=H
               replace H:(if ((x7_26 ++ t320) ++ (⟨#[32]⟩:ByteArray)).size + t322.size ≤ 9223372036854775807 then (if (((x7_26 ++ t320) ++ (⟨#[32]⟩:ByteArray)) ++ t322).size + 1 ≤ 9223372036854775807 then ((u2g.f kj26 a0_1).bind fun t323 => (if ((((x7_26 ++ t320) ++ (⟨#[32]⟩:ByteArray)) ++ t322) ++ (⟨#[32]⟩:ByteArray)).size + t323.size ≤ 9223372036854775807 then (if (((((x7_26 ++ t320) ++ (⟨#[32]⟩:ByteArray)) ++ t322) ++ (⟨#[32]⟩:ByteArray)) ++ t323).size + 1 ≤ 9223372036854775807 then (some ((((((x7_26 ++ t320) ++ (⟨#[32]⟩:ByteArray)) ++ t322) ++ (⟨#[32]⟩:ByteArray)) ++ t323) ++ (⟨#[10]⟩:ByteArray))) else (none)) else (none))) else (none)) else (none)) = some r:=H
               have A33:=Aside0.mk A330
               clear A330
               by_cases c34:((x7_26 ++ t320) ++ (⟨#[32]⟩:ByteArray)).size + t322.size ≤ 9223372036854775807
               · rw [if_pos c34] at H
                 have c34b0:=eq_true c34
                 have c34b1:decide (((x7_26 ++ t320) ++ (⟨#[32]⟩:ByteArray)).size + t322.size ≤ 9223372036854775807) = true:=decide_eq_true c34
                 try have c34b2:(9223372036854775807 < ((x7_26 ++ t320) ++ (⟨#[32]⟩:ByteArray)).size + t322.size) = False:=eq_false (Nat.not_lt.2 c34)
                 try (have c34b3:=c34b2;simp only [ByteArray.size_append,Base.size1,(show ∀ a_ b_:UInt8,(⟨#[a_,b_]⟩:ByteArray).size = 2 from fun _ _ => rfl)] at c34b3)
                 by_cases c35:(((x7_26 ++ t320) ++ (⟨#[32]⟩:ByteArray)) ++ t322).size + 1 ≤ 9223372036854775807
                 · rw [if_pos c35] at H
                   have c35b0:=eq_true c35
                   have c35b1:decide ((((x7_26 ++ t320) ++ (⟨#[32]⟩:ByteArray)) ++ t322).size + 1 ≤ 9223372036854775807) = true:=decide_eq_true c35
                   try have c35b2:(9223372036854775807 < (((x7_26 ++ t320) ++ (⟨#[32]⟩:ByteArray)) ++ t322).size + 1) = False:=eq_false (Nat.not_lt.2 c35)
                   try (have c35b3:=c35b2;simp only [ByteArray.size_append,Base.size1,(show ∀ a_ b_:UInt8,(⟨#[a_,b_]⟩:ByteArray).size = 2 from fun _ _ => rfl)] at c35b3)
                   replace H:=Option.bind_eq_some_iff.mp H
                   obtain ⟨t323,A360,H⟩:=H
                   replace H:(if ((((x7_26 ++ t320) ++ (⟨#[32]⟩:ByteArray)) ++ t322) ++ (⟨#[32]⟩:ByteArray)).size + t323.size ≤ 9223372036854775807 then (if (((((x7_26 ++ t320) ++ (⟨#[32]⟩:ByteArray)) ++ t322) ++ (⟨#[32]⟩:ByteArray)) ++ t323).size + 1 ≤ 9223372036854775807 then (some ((((((x7_26 ++ t320) ++ (⟨#[32]⟩:ByteArray)) ++ t322) ++ (⟨#[32]⟩:ByteArray)) ++ t323) ++ (⟨#[10]⟩:ByteArray))) else (none)) else (none)) = some r:=H
                   have A36:=Aside0.mk A360
                   clear A360
                   by_cases c37:((((x7_26 ++ t320) ++ (⟨#[32]⟩:ByteArray)) ++ t322) ++ (⟨#[32]⟩:ByteArray)).size + t323.size ≤ 9223372036854775807
                   · rw [if_pos c37] at H
                     have c37b0:=eq_true c37
                     have c37b1:decide (((((x7_26 ++ t320) ++ (⟨#[32]⟩:ByteArray)) ++ t322) ++ (⟨#[32]⟩:ByteArray)).size + t323.size ≤ 9223372036854775807) = true:=decide_eq_true c37
                     try have c37b2:(9223372036854775807 < ((((x7_26 ++ t320) ++ (⟨#[32]⟩:ByteArray)) ++ t322) ++ (⟨#[32]⟩:ByteArray)).size + t323.size) = False:=eq_false (Nat.not_lt.2 c37)
                     try (have c37b3:=c37b2;simp only [ByteArray.size_append,Base.size1,(show ∀ a_ b_:UInt8,(⟨#[a_,b_]⟩:ByteArray).size = 2 from fun _ _ => rfl)] at c37b3)
                     by_cases c38:(((((x7_26 ++ t320) ++ (⟨#[32]⟩:ByteArray)) ++ t322) ++ (⟨#[32]⟩:ByteArray)) ++ t323).size + 1 ≤ 9223372036854775807
                     · rw [if_pos c38] at H
                       have c38b0:=eq_true c38
                       have c38b1:decide ((((((x7_26 ++ t320) ++ (⟨#[32]⟩:ByteArray)) ++ t322) ++ (⟨#[32]⟩:ByteArray)) ++ t323).size + 1 ≤ 9223372036854775807) = true:=decide_eq_true c38
                       try have c38b2:(9223372036854775807 < (((((x7_26 ++ t320) ++ (⟨#[32]⟩:ByteArray)) ++ t322) ++ (⟨#[32]⟩:ByteArray)) ++ t323).size + 1) = False:=eq_false (Nat.not_lt.2 c38)
                       try (have c38b3:=c38b2;simp only [ByteArray.size_append,Base.size1,(show ∀ a_ b_:UInt8,(⟨#[a_,b_]⟩:ByteArray).size = 2 from fun _ _ => rfl)] at c38b3)
                       obtain rfl:=Option.some.inj H
                       obtain ⟨Ao39,co39,eo39⟩:=Kd.R_slice HO_4.out
                       subst eo39
                       go_wp2_with (first | (go_at_call 72;(with_reducible refine (u1z.calls kj26 _ _ x4_1 t320 t321 _ ?side1 ?side2 A30.out).mono ?_);(case side1 => repeat (first | exact (Kd.R_reads' HO_4.out).2.2 | (with_reducible refine Kd.C_alloc ?_ _) | (with_reducible refine Kd.C_drewN ?_ _) | (with_reducible refine Kd.C_drew ?_)));(case side2 => exact (Kd.R_reads' HO_4.out).2.1);rintro e w40 ⟨rfl,hb⟩;have n0_:=Aside0.mk (Kd.R_below (by (with_reducible repeat (first | apply Kd.R_alloc | apply Kd.R_drewN | apply Kd.R_drew));exact HO_4.out) hb);have n1_:=Aside0.mk (u2d (g:=gb308) (o:=.cells #[.slice A0_0 l0_0.length c0_0,.int .i64 a0_1,.int .u64 a0_2] 53 (0,0)) (by (with_reducible repeat (first | refine uu ?_ _ | refine uy ?_ | refine us ?_ _));exact BK308.out) hb);have n2_:=Aside0.mk (u1d (by repeat (first | (with_reducible first | exact HB.out | apply ud | apply ub | apply uf | refine uz ?_ GE308.out) | exact HB.out)) hb);clear HO_4;clear BK308;clear HB;have HO_4:=n0_;have BK308:=n1_;have HB:=n2_;clear n0_ n1_ n2_;(try clear hb);(try clear hb2);(try clear hk);(try clear hi);have hcz41_0:w40.cell? ⟨gb308,0,none⟩ = some (.slice A0_0 l0_0.length c0_0):=(uj BK308.out 0).trans rfl;have hcz41_1:w40.cell? ⟨gb308,1,none⟩ = some (.int .i64 a0_1):=(uj BK308.out 1).trans rfl;have hcz41_2:w40.cell? ⟨gb308,2,none⟩ = some (.int .u64 a0_2):=(uj BK308.out 2).trans rfl;have hfz41_0:=uo BK308.out 0;have hfz41_1:=uo BK308.out 1;have hfz41_2:=uo BK308.out 2) | (go_at_call 73;(with_reducible refine (u1i.calls kj26 a0_2 t322 _ A33.out).mono ?_);rintro e w' ⟨rfl,⟨nd,rfl⟩⟩;(try first | exact ⟨rfl,_,World.drewN_drewN _ _ _⟩ | exact ⟨rfl,_,Eq.trans (World.drewN_drewN _ _ _) (congrArg (World.drewN _) (Nat.add_assoc _ _ _))⟩)) | (go_at_call 74;(with_reducible refine (u2g.calls kj26 a0_1 t323 _ A36.out).mono ?_);rintro e w' ⟨rfl,⟨nd,rfl⟩⟩;(try first | exact ⟨rfl,_,World.drewN_drewN _ _ _⟩ | exact ⟨rfl,_,Eq.trans (World.drewN_drewN _ _ _) (congrArg (World.drewN _) (Nat.add_assoc _ _ _))⟩)))
                       repeat (go_quiet (first | (go_at_call 72;(with_reducible refine (u1z.calls kj26 _ _ x4_1 t320 t321 _ ?side1 ?side2 A30.out).mono ?_);(case side1 => repeat (first | exact (Kd.R_reads' HO_4.out).2.2 | (with_reducible refine Kd.C_alloc ?_ _) | (with_reducible refine Kd.C_drewN ?_ _) | (with_reducible refine Kd.C_drew ?_)));(case side2 => exact (Kd.R_reads' HO_4.out).2.1);rintro e w40 ⟨rfl,hb⟩;have n0_:=Aside0.mk (Kd.R_below (by (with_reducible repeat (first | apply Kd.R_alloc | apply Kd.R_drewN | apply Kd.R_drew));exact HO_4.out) hb);have n1_:=Aside0.mk (u2d (g:=gb308) (o:=.cells #[.slice A0_0 l0_0.length c0_0,.int .i64 a0_1,.int .u64 a0_2] 53 (0,0)) (by (with_reducible repeat (first | refine uu ?_ _ | refine uy ?_ | refine us ?_ _));exact BK308.out) hb);have n2_:=Aside0.mk (u1d (by repeat (first | (with_reducible first | exact HB.out | apply ud | apply ub | apply uf | refine uz ?_ GE308.out) | exact HB.out)) hb);clear HO_4;clear BK308;clear HB;have HO_4:=n0_;have BK308:=n1_;have HB:=n2_;clear n0_ n1_ n2_;(try clear hb);(try clear hb2);(try clear hk);(try clear hi);have hcz41_0:w40.cell? ⟨gb308,0,none⟩ = some (.slice A0_0 l0_0.length c0_0):=(uj BK308.out 0).trans rfl;have hcz41_1:w40.cell? ⟨gb308,1,none⟩ = some (.int .i64 a0_1):=(uj BK308.out 1).trans rfl;have hcz41_2:w40.cell? ⟨gb308,2,none⟩ = some (.int .u64 a0_2):=(uj BK308.out 2).trans rfl;have hfz41_0:=uo BK308.out 0;have hfz41_1:=uo BK308.out 1;have hfz41_2:=uo BK308.out 2) | (go_at_call 73;(with_reducible refine (u1i.calls kj26 a0_2 t322 _ A33.out).mono ?_);rintro e w' ⟨rfl,⟨nd,rfl⟩⟩;(try first | exact ⟨rfl,_,World.drewN_drewN _ _ _⟩ | exact ⟨rfl,_,Eq.trans (World.drewN_drewN _ _ _) (congrArg (World.drewN _) (Nat.add_assoc _ _ _))⟩)) | (go_at_call 74;(with_reducible refine (u2g.calls kj26 a0_1 t323 _ A36.out).mono ?_);rintro e w' ⟨rfl,⟨nd,rfl⟩⟩;(try first | exact ⟨rfl,_,World.drewN_drewN _ _ _⟩ | exact ⟨rfl,_,Eq.trans (World.drewN_drewN _ _ _) (congrArg (World.drewN _) (Nat.add_assoc _ _ _))⟩)));try go_wp2_with (first | (go_at_call 72;(with_reducible refine (u1z.calls kj26 _ _ x4_1 t320 t321 _ ?side1 ?side2 A30.out).mono ?_);(case side1 => repeat (first | exact (Kd.R_reads' HO_4.out).2.2 | (with_reducible refine Kd.C_alloc ?_ _) | (with_reducible refine Kd.C_drewN ?_ _) | (with_reducible refine Kd.C_drew ?_)));(case side2 => exact (Kd.R_reads' HO_4.out).2.1);rintro e w40 ⟨rfl,hb⟩;have n0_:=Aside0.mk (Kd.R_below (by (with_reducible repeat (first | apply Kd.R_alloc | apply Kd.R_drewN | apply Kd.R_drew));exact HO_4.out) hb);have n1_:=Aside0.mk (u2d (g:=gb308) (o:=.cells #[.slice A0_0 l0_0.length c0_0,.int .i64 a0_1,.int .u64 a0_2] 53 (0,0)) (by (with_reducible repeat (first | refine uu ?_ _ | refine uy ?_ | refine us ?_ _));exact BK308.out) hb);have n2_:=Aside0.mk (u1d (by repeat (first | (with_reducible first | exact HB.out | apply ud | apply ub | apply uf | refine uz ?_ GE308.out) | exact HB.out)) hb);clear HO_4;clear BK308;clear HB;have HO_4:=n0_;have BK308:=n1_;have HB:=n2_;clear n0_ n1_ n2_;(try clear hb);(try clear hb2);(try clear hk);(try clear hi);have hcz41_0:w40.cell? ⟨gb308,0,none⟩ = some (.slice A0_0 l0_0.length c0_0):=(uj BK308.out 0).trans rfl;have hcz41_1:w40.cell? ⟨gb308,1,none⟩ = some (.int .i64 a0_1):=(uj BK308.out 1).trans rfl;have hcz41_2:w40.cell? ⟨gb308,2,none⟩ = some (.int .u64 a0_2):=(uj BK308.out 2).trans rfl;have hfz41_0:=uo BK308.out 0;have hfz41_1:=uo BK308.out 1;have hfz41_2:=uo BK308.out 2) | (go_at_call 73;(with_reducible refine (u1i.calls kj26 a0_2 t322 _ A33.out).mono ?_);rintro e w' ⟨rfl,⟨nd,rfl⟩⟩;(try first | exact ⟨rfl,_,World.drewN_drewN _ _ _⟩ | exact ⟨rfl,_,Eq.trans (World.drewN_drewN _ _ _) (congrArg (World.drewN _) (Nat.add_assoc _ _ _))⟩)) | (go_at_call 74;(with_reducible refine (u2g.calls kj26 a0_1 t323 _ A36.out).mono ?_);rintro e w' ⟨rfl,⟨nd,rfl⟩⟩;(try first | exact ⟨rfl,_,World.drewN_drewN _ _ _⟩ | exact ⟨rfl,_,Eq.trans (World.drewN_drewN _ _ _) (congrArg (World.drewN _) (Nat.add_assoc _ _ _))⟩))))
                       go_ret
                       exact ⟨by first | rfl | (simp [u2c,u2b] <;> rfl) | (simp [*,u2c,u2b] <;> rfl),by repeat (first | (with_reducible first | exact HB.out | apply ud | apply ub | apply uf | refine uz ?_ GE308.out) | exact HB.out)⟩
                     · rw [if_neg c38] at H
                       exact absurd H (by simp)
                   · rw [if_neg c37] at H
                     exact absurd H (by simp)
                 · rw [if_neg c35] at H
                   exact absurd H (by simp)
               · rw [if_neg c34] at H
                 exact absurd H (by simp)
             · rw [if_neg c32] at H
               exact absurd H (by simp)
           · rw [if_neg c31] at H
             exact absurd H (by simp)
         · rw [if_neg c29] at H
           have c29b0:decide (0 < (x4_1.length:Int)) = false:=decide_eq_false c29
           have c29b1:decide (0 < x4_1.length) = false:=decide_eq_false (by omega)
           clear c29
           by_cases c42:x7_26.size + 1 ≤ 9223372036854775807
           · rw [if_pos c42] at H
             have c42b0:=eq_true c42
             have c42b1:decide (x7_26.size + 1 ≤ 9223372036854775807) = true:=decide_eq_true c42
             try have c42b2:(9223372036854775807 < x7_26.size + 1) = False:=eq_false (Nat.not_lt.2 c42)
             try (have c42b3:=c42b2;simp only [ByteArray.size_append,Base.size1,(show ∀ a_ b_:UInt8,(⟨#[a_,b_]⟩:ByteArray).size = 2 from fun _ _ => rfl)] at c42b3)
             replace H:=Option.bind_eq_some_iff.mp H
             obtain ⟨t324,A430,H⟩:=H
             replace H:(if (x7_26 ++ (⟨#[32]⟩:ByteArray)).size + t324.size ≤ 9223372036854775807 then (if ((x7_26 ++ (⟨#[32]⟩:ByteArray)) ++ t324).size + 1 ≤ 9223372036854775807 then ((u2g.f kj26 a0_1).bind fun t325 => (if (((x7_26 ++ (⟨#[32]⟩:ByteArray)) ++ t324) ++ (⟨#[32]⟩:ByteArray)).size + t325.size ≤ 9223372036854775807 then (if ((((x7_26 ++ (⟨#[32]⟩:ByteArray)) ++ t324) ++ (⟨#[32]⟩:ByteArray)) ++ t325).size + 1 ≤ 9223372036854775807 then (some (((((x7_26 ++ (⟨#[32]⟩:ByteArray)) ++ t324) ++ (⟨#[32]⟩:ByteArray)) ++ t325) ++ (⟨#[10]⟩:ByteArray))) else (none)) else (none))) else (none)) else (none)) = some r:=H
             have A43:=Aside0.mk A430
             clear A430
             by_cases c44:(x7_26 ++ (⟨#[32]⟩:ByteArray)).size + t324.size ≤ 9223372036854775807
             · rw [if_pos c44] at H
               have c44b0:=eq_true c44
               have c44b1:decide ((x7_26 ++ (⟨#[32]⟩:ByteArray)).size + t324.size ≤ 9223372036854775807) = true:=decide_eq_true c44
               try have c44b2:(9223372036854775807 < (x7_26 ++ (⟨#[32]⟩:ByteArray)).size + t324.size) = False:=eq_false (Nat.not_lt.2 c44)
               try (have c44b3:=c44b2;simp only [ByteArray.size_append,Base.size1,(show ∀ a_ b_:UInt8,(⟨#[a_,b_]⟩:ByteArray).size = 2 from fun _ _ => rfl)] at c44b3)
               by_cases c45:((x7_26 ++ (⟨#[32]⟩:ByteArray)) ++ t324).size + 1 ≤ 9223372036854775807
               · rw [if_pos c45] at H
                 have c45b0:=eq_true c45
                 have c45b1:decide (((x7_26 ++ (⟨#[32]⟩:ByteArray)) ++ t324).size + 1 ≤ 9223372036854775807) = true:=decide_eq_true c45
                 try have c45b2:(9223372036854775807 < ((x7_26 ++ (⟨#[32]⟩:ByteArray)) ++ t324).size + 1) = False:=eq_false (Nat.not_lt.2 c45)
                 try (have c45b3:=c45b2;simp only [ByteArray.size_append,Base.size1,(show ∀ a_ b_:UInt8,(⟨#[a_,b_]⟩:ByteArray).size = 2 from fun _ _ => rfl)] at c45b3)
                 replace H:=Option.bind_eq_some_iff.mp H
                 obtain ⟨t325,A460,H⟩:=H
                 replace H:(if (((x7_26 ++ (⟨#[32]⟩:ByteArray)) ++ t324) ++ (⟨#[32]⟩:ByteArray)).size + t325.size ≤ 9223372036854775807 then (if ((((x7_26 ++ (⟨#[32]⟩:ByteArray)) ++ t324) ++ (⟨#[32]⟩:ByteArray)) ++ t325).size + 1 ≤ 9223372036854775807 then (some (((((x7_26 ++ (⟨#[32]⟩:ByteArray)) ++ t324) ++ (⟨#[32]⟩:ByteArray)) ++ t325) ++ (⟨#[10]⟩:ByteArray))) else (none)) else (none)) = some r:=H
                 have A46:=Aside0.mk A460
                 clear A460
                 by_cases c47:(((x7_26 ++ (⟨#[32]⟩:ByteArray)) ++ t324) ++ (⟨#[32]⟩:ByteArray)).size + t325.size ≤ 9223372036854775807
                 · rw [if_pos c47] at H
                   have c47b0:=eq_true c47
                   have c47b1:decide ((((x7_26 ++ (⟨#[32]⟩:ByteArray)) ++ t324) ++ (⟨#[32]⟩:ByteArray)).size + t325.size ≤ 9223372036854775807) = true:=decide_eq_true c47
                   try have c47b2:(9223372036854775807 < (((x7_26 ++ (⟨#[32]⟩:ByteArray)) ++ t324) ++ (⟨#[32]⟩:ByteArray)).size + t325.size) = False:=eq_false (Nat.not_lt.2 c47)
                   try (have c47b3:=c47b2;simp only [ByteArray.size_append,Base.size1,(show ∀ a_ b_:UInt8,(⟨#[a_,b_]⟩:ByteArray).size = 2 from fun _ _ => rfl)] at c47b3)
                   by_cases c48:((((x7_26 ++ (⟨#[32]⟩:ByteArray)) ++ t324) ++ (⟨#[32]⟩:ByteArray)) ++ t325).size + 1 ≤ 9223372036854775807
                   · rw [if_pos c48] at H
                     have c48b0:=eq_true c48
                     have c48b1:decide (((((x7_26 ++ (⟨#[32]⟩:ByteArray)) ++ t324) ++ (⟨#[32]⟩:ByteArray)) ++ t325).size + 1 ≤ 9223372036854775807) = true:=decide_eq_true c48
                     try have c48b2:(9223372036854775807 < ((((x7_26 ++ (⟨#[32]⟩:ByteArray)) ++ t324) ++ (⟨#[32]⟩:ByteArray)) ++ t325).size + 1) = False:=eq_false (Nat.not_lt.2 c48)
                     try (have c48b3:=c48b2;simp only [ByteArray.size_append,Base.size1,(show ∀ a_ b_:UInt8,(⟨#[a_,b_]⟩:ByteArray).size = 2 from fun _ _ => rfl)] at c48b3)
                     obtain rfl:=Option.some.inj H
                     obtain ⟨Ao49,co49,eo49⟩:=Kd.R_slice HO_4.out
                     subst eo49
                     have hcz50_0:wc.cell? ⟨gb308,0,none⟩ = some (.slice A0_0 l0_0.length c0_0):=(uj BK308.out 0).trans rfl
                     have hcz50_1:wc.cell? ⟨gb308,1,none⟩ = some (.int .i64 a0_1):=(uj BK308.out 1).trans rfl
                     have hcz50_2:wc.cell? ⟨gb308,2,none⟩ = some (.int .u64 a0_2):=(uj BK308.out 2).trans rfl
                     have hfz50_0:=uo BK308.out 0
                     have hfz50_1:=uo BK308.out 1
                     have hfz50_2:=uo BK308.out 2
                     go_wp2_with (first | (go_at_call 73;(with_reducible refine (u1i.calls kj26 a0_2 t324 _ A43.out).mono ?_);rintro e w' ⟨rfl,⟨nd,rfl⟩⟩;(try first | exact ⟨rfl,_,World.drewN_drewN _ _ _⟩ | exact ⟨rfl,_,Eq.trans (World.drewN_drewN _ _ _) (congrArg (World.drewN _) (Nat.add_assoc _ _ _))⟩)) | (go_at_call 74;(with_reducible refine (u2g.calls kj26 a0_1 t325 _ A46.out).mono ?_);rintro e w' ⟨rfl,⟨nd,rfl⟩⟩;(try first | exact ⟨rfl,_,World.drewN_drewN _ _ _⟩ | exact ⟨rfl,_,Eq.trans (World.drewN_drewN _ _ _) (congrArg (World.drewN _) (Nat.add_assoc _ _ _))⟩)))
                     repeat (go_quiet (first | (go_at_call 73;(with_reducible refine (u1i.calls kj26 a0_2 t324 _ A43.out).mono ?_);rintro e w' ⟨rfl,⟨nd,rfl⟩⟩;(try first | exact ⟨rfl,_,World.drewN_drewN _ _ _⟩ | exact ⟨rfl,_,Eq.trans (World.drewN_drewN _ _ _) (congrArg (World.drewN _) (Nat.add_assoc _ _ _))⟩)) | (go_at_call 74;(with_reducible refine (u2g.calls kj26 a0_1 t325 _ A46.out).mono ?_);rintro e w' ⟨rfl,⟨nd,rfl⟩⟩;(try first | exact ⟨rfl,_,World.drewN_drewN _ _ _⟩ | exact ⟨rfl,_,Eq.trans (World.drewN_drewN _ _ _) (congrArg (World.drewN _) (Nat.add_assoc _ _ _))⟩)));try go_wp2_with (first | (go_at_call 73;(with_reducible refine (u1i.calls kj26 a0_2 t324 _ A43.out).mono ?_);rintro e w' ⟨rfl,⟨nd,rfl⟩⟩;(try first | exact ⟨rfl,_,World.drewN_drewN _ _ _⟩ | exact ⟨rfl,_,Eq.trans (World.drewN_drewN _ _ _) (congrArg (World.drewN _) (Nat.add_assoc _ _ _))⟩)) | (go_at_call 74;(with_reducible refine (u2g.calls kj26 a0_1 t325 _ A46.out).mono ?_);rintro e w' ⟨rfl,⟨nd,rfl⟩⟩;(try first | exact ⟨rfl,_,World.drewN_drewN _ _ _⟩ | exact ⟨rfl,_,Eq.trans (World.drewN_drewN _ _ _) (congrArg (World.drewN _) (Nat.add_assoc _ _ _))⟩))))
                     go_ret
                     exact ⟨by first | rfl | (simp [u2c,u2b] <;> rfl) | (simp [*,u2c,u2b] <;> rfl),by repeat (first | (with_reducible first | exact HB.out | apply ud | apply ub | apply uf | refine uz ?_ GE308.out) | exact HB.out)⟩
                   · rw [if_neg c48] at H
                     exact absurd H (by simp)
                 · rw [if_neg c47] at H
                   exact absurd H (by simp)
               · rw [if_neg c45] at H
                 exact absurd H (by simp)
             · rw [if_neg c44] at H
               exact absurd H (by simp)
           · rw [if_neg c42] at H
             exact absurd H (by simp)
end Go.Proofs.YtmcpeifhapekoaaGreatDoor.PAll
namespace Go.Proofs.YtmcpeifhapekoaaGreatDoor.Tx
open Go.RowKit Go.Proofs.YtmcpeifhapekoaaGreatDoor.PAll Go.Proofs.YtmcpeifhapekoaaGreatDoorW.PrintWords Go.Proofs.YtmcpeifhapekoaaGreatDoorW.PrintLast
open Go.Proofs.YtmcpeifhapekoaaGreatDoor.Laws (okFrom canB wrap_up at_byte no_byte rd_drop rtext_ev textL pieceL rname_ev)
set_option linter.unusedVariables false
set_option linter.unusedSimpArgs false
theorem app_of2 (a b:B8):Base.ofL a ++ Base.ofL b = Base.ofL (a ++ b):=Base.ext_data (by rw [Base.ofL_data,ByteArray.data_append,Array.toList_append,Base.ofL_data,Base.ofL_data])
theorem text_is {a b:ByteArray}:a.toList = b.toList ↔ a = b:=by
 rw [ByteArray.toList_eq,ByteArray.toList_eq]
 exact ⟨fun h => Base.ext_data h,fun h => by rw [h]⟩
theorem digit_fin3:∀ n:Fin 10,(⟨#[48,49,50,51,52,53,54,55,56,57]⟩:ByteArray).extract n.val (n.val + 1) = Base.ofL [UInt8.ofNat (48 + n.val)]:=by decide +kernel
theorem digit_at3 (n:Nat) (h:n < 10):(⟨#[48,49,50,51,52,53,54,55,56,57]⟩:ByteArray).extract n (n + 1) = Base.ofL [UInt8.ofNat (48 + n)]:=digit_fin3 ⟨n,h⟩
theorem dec3_l0:∀ (j n:Nat) (acc:B8),n < 10 ^ (j + 1) → n ≤ 18446744073709551615 → acc.length + j ≤ 1000 → Ev (fun k => u1i.l0 k (n:Int) (Base.ofL acc)) (Base.ofL (decN n ++ acc)):=by
 intro j
 induction j with
 | zero =>
   intro n acc hn h9 ha
   have hn':n < 10:=by simpa using hn
   have hu:IntKind.u64.wrap ((n:Int) + 1) = ((n + 1:Nat):Int):=by rw [u64_id _ (by omega) (by omega)];omega
   have hd:decN n = [UInt8.ofNat (48 + n)]:=by unfold decN;rw [if_pos hn']
   refine Ev.step (f:=fun _ => some (Base.ofL (decN n ++ acc))) (fun k => ?_) (Ev.now _)
   simp only [u1i.l0]
   rw [if_neg (by omega),if_pos (by omega),hu,if_pos (by omega),if_pos (by omega),Int.toNat_natCast,Int.toNat_natCast,digit_at3 n hn',if_pos (by rw [sz,sz,List.length_singleton];omega),app_of2,hd]
 | succ j ih =>
   intro n acc hn h9 ha
   by_cases hn':n < 10
   · have hu:IntKind.u64.wrap ((n:Int) + 1) = ((n + 1:Nat):Int):=by rw [u64_id _ (by omega) (by omega)];omega
     have hd:decN n = [UInt8.ofNat (48 + n)]:=by unfold decN;rw [if_pos hn']
     refine Ev.step (f:=fun _ => some (Base.ofL (decN n ++ acc))) (fun k => ?_) (Ev.now _)
     simp only [u1i.l0]
     rw [if_neg (by omega),if_pos (by omega),hu,if_pos (by omega),if_pos (by omega),Int.toNat_natCast,Int.toNat_natCast,digit_at3 n hn',if_pos (by rw [sz,sz,List.length_singleton];omega),app_of2,hd]
   · have hm:Int.tmod (n:Int) 10 = ((n % 10:Nat):Int):=rfl
     have hq:IntKind.u64.wrap (Int.tdiv (n:Int) 10) = ((n / 10:Nat):Int):=by
      rw [show Int.tdiv (n:Int) 10 = ((n / 10:Nat):Int) from rfl]
      exact u64_id _ (by omega) (by omega)
     have hlt:n % 10 < 10:=Nat.mod_lt _ (by decide)
     have hu:IntKind.u64.wrap (((n % 10:Nat):Int) + 1) = ((n % 10 + 1:Nat):Int):=by rw [u64_id _ (by omega) (by omega)];omega
     have hd:decN n = decN (n / 10) ++ [UInt8.ofNat (48 + n % 10)]:=by conv => lhs;unfold decN;rw [if_neg hn']
     have h10:n / 10 < 10 ^ (j + 1):=by
      rw [Nat.pow_succ] at hn
      omega
     have h:=ih (n / 10) ([UInt8.ofNat (48 + n % 10)] ++ acc) h10 (by omega) (by simp;omega)
     rw [← List.append_assoc,← hd] at h
     refine Ev.step (fun k => ?_) h
     simp only [u1i.l0]
     rw [if_pos (by omega),hm,hu,hq,if_pos (by omega),if_pos (by omega),if_pos (by omega),Int.toNat_natCast,Int.toNat_natCast,digit_at3 _ hlt,if_pos (by rw [sz,sz,List.length_singleton];omega),app_of2]
theorem rdec_ev (n:Nat) (h:n ≤ 18446744073709551615):Ev (fun k => u1i.f k (n:Int)) (Base.ofL (decN n)):=by
 have h1:=dec3_l0 20 n [] (by omega) h (by simp)
 rw [List.append_nil] at h1
 exact h1
theorem u64_neg (x:Int) (h0 : -9223372036854775808 ≤ x) (h1:x < 0):IntKind.u64.wrap (-(IntKind.u64.wrap x)) = (((-x).toNat:Nat):Int):=by
 have e1:IntKind.u64.wrap x = x + 18446744073709551616:=by
  simp [IntKind.wrap,IntKind.bits,IntKind.signed]
  omega
 rw [e1]
 simp [IntKind.wrap,IntKind.bits,IntKind.signed]
 omega
theorem rsigned_ev (x:Int) (h0 : -9223372036854775808 ≤ x) (h1:x ≤ 9223372036854775807):Ev (fun k => u2g.f k x) (Base.ofL (signL x)):=by
 unfold signL
 by_cases hx:x < 0
 · rw [if_pos hx]
   have hl:=decN_len 19 (-x).toNat (by omega)
   refine Ev.congr (f:=fun k => (u1i.f k (((-x).toNat:Nat):Int)).bind fun t306 => (if 1 + t306.size ≤ 9223372036854775807 then (some ((⟨#[45]⟩:ByteArray) ++ t306)) else (none))) (fun k => ?_) (Ev.bind (rdec_ev _ (by omega)) ?_)
   · simp only [u2g.f]
     rw [if_pos hx,u64_neg x h0 hx]
   · refine Ev.congr (f:=fun _ => some (Base.ofL (45 :: decN (-x).toNat))) (fun k => ?_) (Ev.now _)
     rw [if_pos (by rw [sz];omega)]
     exact congrArg some (app_of2 [45] (decN (-x).toNat))
 · rw [if_neg hx]
   refine Ev.congr (f:=fun k => (u1i.f k ((x.toNat:Nat):Int)).bind fun t307 => some t307) (fun k => ?_) (Ev.bind (rdec_ev _ (by omega)) (Ev.now _))
   simp only [u2g.f]
   rw [if_neg hx,u64_id x (by omega) (by omega),show ((x.toNat:Nat):Int) = x by omega]
theorem met_lit:(⟨#[95,95,110,97,109,101,95,95]⟩:ByteArray) = metric:=rfl
theorem met_list:metric.toList = [95,95,110,97,109,101,95,95]:=by rw [ByteArray.toList_eq];rfl
theorem rget_ev (l:List Lb) (hl:l.length ≤ 1000):∀ (r:List Lb) (i:Nat),l.drop i = r → i ≤ l.length → Ev (fun k => u2o.l0 k (⟨#[95,95,110,97,109,101,95,95]⟩:ByteArray) l (l.length:Int) (i:Int)) (u3p r):=by
 intro r
 induction r with
 | nil =>
   intro i h hi
   have h2:=List.drop_eq_nil_iff.1 h
   refine Ev.step (f:=fun _ => some (⟨#[]⟩:ByteArray)) (fun k => ?_) (Ev.now _)
   simp only [u2o.l0]
   rw [if_neg (by omega)]
 | cons x r ih =>
   intro i h hi
   obtain ⟨hx,hlt,hr⟩:=rd_drop l i x r h
   have hw:=wrap_up i (by omega)
   by_cases hm:x.f0 = metric
   · have e:u3p (x :: r) = x.f1:=by
      unfold u3p
      rw [List.find?_cons_of_pos (by simpa using hm)]
     rw [e]
     refine Ev.step (f:=fun _ => some x.f1) (fun k => ?_) (Ev.now _)
     simp only [u2o.l0]
     rw [if_pos (by omega),if_pos (by omega),if_pos (by omega),hx,met_lit,if_pos (text_is.2 hm)]
   · have e:u3p (x :: r) = u3p r:=by
      unfold u3p
      rw [List.find?_cons_of_neg (by simpa using hm)]
     rw [e]
     refine Ev.step (fun k => ?_) (ih (i + 1) hr (by omega))
     simp only [u2o.l0]
     rw [if_pos (by omega),if_pos (by omega),if_pos (by omega),hx,met_lit,if_neg (fun h => hm (text_is.1 h)),hw]
theorem text_braces (l:List Lb) (h:l ≠ []):textL l = u3l l:=by
 cases l with
 | nil => exact absurd rfl h
 | cons x r => exact braces_text x r
theorem ok_from {p q:List UInt8} (hp:q = [] ∨ Op.bytesLess q p = true):∀ (l:List Lb),okFrom p l = true → okFrom q l = true
 | [],_ => rfl
 | x :: l,h => by
   unfold okFrom at h ⊢
   rw [Bool.and_eq_true,Bool.and_eq_true] at h ⊢
   refine ⟨⟨h.1.1,?_⟩,h.2⟩
   rcases hp with rfl | hp
   · rw [less_iff]
     cases hd:x.f0.data.toList with
     | nil =>
       have:=h.1.2
       rw [hd,less_iff] at this
       exact absurd this (List.not_lt_nil _)
     | cons c t => exact List.nil_lt_cons _ _
   · exact less_tr hp h.1.2
theorem ok_filter (g:Lb → Bool):∀ (l:List Lb) (p:List UInt8),okFrom p l = true → okFrom p (l.filter g) = true
 | [],_,_ => rfl
 | x :: l,p,h => by
   have h':=h
   unfold okFrom at h
   rw [Bool.and_eq_true,Bool.and_eq_true] at h
   by_cases hg:g x = true
   · rw [List.filter_cons_of_pos hg]
     unfold okFrom
     rw [Bool.and_eq_true,Bool.and_eq_true]
     exact ⟨h.1,ok_filter g l _ h.2⟩
   · rw [List.filter_cons_of_neg hg]
     exact ok_from (Or.inr h.1.2) _ (ok_filter g l _ h.2)
theorem can_filter (g:Lb → Bool) (l:List Lb) (h:canB l = true) (hne:l.filter g ≠ []):canB (l.filter g) = true:=by
 unfold canB at h ⊢
 rw [Bool.and_eq_true,Bool.and_eq_true] at h ⊢
 have h8:=of_decide_eq_true h.1.2
 have hl:=List.length_filter_le g l
 refine ⟨⟨decide_eq_true ?_,decide_eq_true (by omega)⟩,ok_filter g l _ h.2⟩
 exact Nat.one_le_iff_ne_zero.2 (fun e => hne (List.length_eq_zero_iff.1 e))
def othL (l:List Lb):List Lb:=if Base.nameB (u3p l) = true then l.filter (fun x => x.f0 ≠ metric) else l
def ownL (l:List Lb):B8:=if Base.nameB (u3p l) = true then (u3p l).data.toList else []
theorem row_is (r:Rw):rowL r = ownL r.f0 ++ (u3l (othL r.f0) ++ endL r):=by
 unfold rowL ownL othL
 split
 · rfl
 · rfl
theorem can_oth {l:List Lb} (h:canB l = true) (hne:othL l ≠ []):canB (othL l) = true:=by
 unfold othL at hne ⊢
 split
 · rename_i hn
   rw [if_pos hn] at hne
   exact can_filter _ l h hne
 · exact h
theorem b32:(⟨#[32]⟩:ByteArray) = Base.ofL [32]:=rfl
theorem b10:(⟨#[10]⟩:ByteArray) = Base.ofL [10]:=rfl
theorem b0:(⟨#[]⟩:ByteArray) = Base.ofL []:=rfl
theorem braces_le {l:List Lb} (h:l ≠ [] → canB l = true):(u3l l).length ≤ 1000:=by
 cases l with
 | nil => exact Nat.zero_le _
 | cons x r =>
   obtain ⟨g1,g2,g3⟩:=can_each (h (by simp))
   rw [← text_braces _ (by simp)]
   have hj:=Laws.join_le 107 ((x :: r).map pieceL) (by
    intro y hy
    obtain ⟨z,hz,rfl⟩:=List.mem_map.1 hy
    exact Laws.piece_le (g3 z hz).1 (g3 z hz).2)
   rw [List.length_map] at hj
   unfold textL
   simp only [List.length_cons,List.length_append,List.length_nil] at hj g2 ⊢
   omega
theorem rrow_j1 (acc:List Lb) (own:B8) (l:List Lb) (T:Int) (n:Nat) (hacc:acc ≠ [] → canB acc = true) (ho:own.length ≤ 100) (h0 : -9223372036854775808 ≤ T) (h1:T ≤ 9223372036854775807) (hn:n ≤ 18446744073709551615) :
 Ev (fun k => u1l.j1 k acc (Base.ofL own) l T (n:Int)) (Base.ofL (own ++ (u3l acc ++ (32 :: (decN n ++ 32 :: signL T))) ++ [10])):=by
 have hb:=braces_le hacc
 have hd:=(decN_len 19 n (by omega)).2
 have hs:=sign_len T h0 (by omega)
 by_cases hne:acc = []
 · subst hne
   refine Ev.step (f:=fun k => u1l.j1 (k + 1) [] (Base.ofL own) l T (n:Int)) (fun k => rfl) ?_
   simp only [u1l.j1,List.length_nil]
   simp only [b32,b10,app_of2,sz,if_neg (show ¬ (((0:Nat):Int) > 0) by omega)]
   simp (disch:=omega) only [if_pos]
   refine Ev.bind (rdec_ev n hn) ?_
   simp only [app_of2,sz,List.length_append,List.length_cons,List.length_nil]
   simp (disch:=omega) only [if_pos]
   refine Ev.bind (rsigned_ev T h0 h1) ?_
   simp only [app_of2,sz,List.length_append,List.length_cons,List.length_nil]
   simp (disch:=omega) only [if_pos]
   rw [show own ++ (u3l [] ++ (32 :: (decN n ++ 32 :: signL T))) ++ [10] = own ++ [32] ++ decN n ++ [32] ++ signL T ++ [10] by simp [u3l]]
   exact Ev.now _
 · have hlen:((acc.length:Nat):Int) > 0:=by
    have:=List.length_pos_iff.2 hne
    omega
   have hc:=hacc hne
   obtain ⟨g1,g2,g3⟩:=can_each hc
   have hT:=rtext_ev acc (fun y hy => by
    have a:=Laws.nameB_size (g3 y hy).1
    have b:=Laws.valueB_size (g3 y hy).2
    unfold maxLen
    omega)
   rw [if_pos hc,text_braces acc hne] at hT
   refine Ev.step (f:=fun k => u1l.j1 (k + 1) acc (Base.ofL own) l T (n:Int)) (fun k => rfl) ?_
   simp only [u1l.j1,if_pos hlen]
   refine Ev.bind hT ?_
   simp only [b32,b10,app_of2,sz,List.length_append,List.length_cons,List.length_nil]
   simp (disch:=omega) only [if_pos]
   refine Ev.bind (rdec_ev n hn) ?_
   simp only [app_of2,sz,List.length_append,List.length_cons,List.length_nil]
   simp (disch:=omega) only [if_pos]
   refine Ev.bind (rsigned_ev T h0 h1) ?_
   simp only [app_of2,sz,List.length_append,List.length_cons,List.length_nil]
   simp (disch:=omega) only [if_pos]
   rw [show own ++ (u3l acc ++ (32 :: (decN n ++ 32 :: signL T))) ++ [10] = own ++ u3l acc ++ [32] ++ decN n ++ [32] ++ signL T ++ [10] by simp]
   exact Ev.now _
theorem rrow_l0 (l:List Lb) (l9:List Lb) (T:Int) (n:Nat) (nm:ByteArray) (hnm:nm.size ≤ 9223372036854775807) (hl:l.length ≤ 1000) (out:ByteArray)
 (hend:Ev (fun k => u1l.j1 k (if Base.nameB nm = true then l.filter (fun x => x.f0 ≠ metric) else l) (if Base.nameB nm = true then nm else Base.ofL []) l9 T (n:Int)) out):∀ (r:List Lb) (i:Nat) (acc:List Lb),l.drop i = r → i ≤ l.length → acc = (if Base.nameB nm = true then (l.take i).filter (fun x => x.f0 ≠ metric) else l.take i) →
 Ev (fun k => u1l.l0 k nm acc l (l.length:Int) (i:Int) l9 T (n:Int)) out:=by
 intro r
 induction r with
 | nil =>
   intro i acc h hi ha
   have h2:=List.drop_eq_nil_iff.1 h
   rw [List.take_of_length_le h2] at ha
   rw [← ha] at hend
   refine Ev.step (f:=fun k => u1l.l0 (k + 1) nm acc l (l.length:Int) (i:Int) l9 T (n:Int)) (fun k => rfl) ?_
   simp only [u1l.l0]
   simp only [if_neg (show ¬ ((i:Int) < (l.length:Int)) by omega)]
   refine Ev.bind (rname_ev nm hnm) ?_
   cases hb:Base.nameB nm with
   | true =>
     rw [hb] at hend
     exact Ev.congr (fun k => if_pos rfl) hend
   | false =>
     rw [hb] at hend
     exact Ev.congr (fun k => if_neg Bool.false_ne_true) hend
 | cons x r ih =>
   intro i acc h hi ha
   obtain ⟨hx,hlt,hr⟩:=rd_drop l i x r h
   have hw:=wrap_up i (by omega)
   have hal:acc.length ≤ i:=by
    rw [ha]
    split
    · exact Nat.le_trans (List.length_filter_le _ _) (List.length_take_le _ _)
    · exact List.length_take_le _ _
   have ht:l.take (i + 1) = l.take i ++ [x]:=by
    rw [List.take_succ_eq_append_getElem hlt]
    rw [List.drop_eq_getElem_cons hlt] at h
    rw [(List.cons.inj h).1]
   refine Ev.step (f:=fun k => u1l.l0 (k + 1) nm acc l (l.length:Int) (i:Int) l9 T (n:Int)) (fun k => rfl) ?_
   simp only [u1l.l0]
   simp only [if_pos (show ((i:Int) < (l.length:Int)) by omega),if_pos (show ((0:Int) ≤ (i:Int)) by omega),hx,hw,if_pos (show acc.length < 4398046511104 by omega)]
   by_cases hm:x.f0 = metric
   · simp only [if_pos (show x.f0.toList = ([95,95,110,97,109,101,95,95]:List UInt8) from met_list ▸ text_is.2 hm)]
     refine Ev.bind (rname_ev nm hnm) ?_
     cases hb:Base.nameB nm with
     | true =>
       refine Ev.congr (fun k => if_pos rfl) (ih (i + 1) acc hr (by omega) ?_)
       rw [hb] at ha ⊢
       rw [ht,List.filter_append,List.filter_cons_of_neg (by simpa using hm),List.filter_nil,List.append_nil]
       exact ha
     | false =>
       refine Ev.congr (fun k => if_neg Bool.false_ne_true) (ih (i + 1) (acc ++ [x]) hr (by omega) ?_)
       rw [hb] at ha ⊢
       rw [ht,ha]
       rfl
   · simp only [if_neg (show ¬ x.f0.toList = ([95,95,110,97,109,101,95,95]:List UInt8) from fun h => hm (text_is.1 (met_list ▸ h)))]
     refine ih (i + 1) (acc ++ [x]) hr (by omega) ?_
     rw [ht]
     cases hb:Base.nameB nm with
     | true =>
       rw [hb] at ha
       rw [if_pos rfl,List.filter_append,List.filter_cons_of_pos (by simpa using hm),List.filter_nil,ha,if_pos rfl]
     | false =>
       rw [hb] at ha
       rw [if_neg Bool.false_ne_true,ha,if_neg Bool.false_ne_true]
theorem rrow_ev (r:Rw) (hc:canB r.f0 = true) (h0 : -9223372036854775808 ≤ r.f1) (h1:r.f1 ≤ 9223372036854775807) (h2:0 ≤ r.f2) (h3:r.f2 ≤ 18446744073709551615) :
 Ev (fun k => u1l.f k r.f0 r.f1 r.f2) (Base.ofL (rowL r ++ [10])):=by
 obtain ⟨g1,g2,g3⟩:=can_each hc
 have hv:(u3p r.f0).size ≤ 40:=by
  unfold u3p
  split
  · exact Nat.zero_le _
  · rename_i x hx
    exact (Laws.valueB_size (g3 x (List.mem_of_find?_eq_some hx)).2).2
 refine Ev.bind (rget_ev r.f0 (by omega) r.f0 0 rfl (by omega)) ?_
 obtain ⟨n,hn⟩:∃ n:Nat,r.f2 = (n:Int):=⟨r.f2.toNat,by omega⟩
 have hnn:r.f2.toNat = n:=by omega
 have hj:=rrow_j1 (othL r.f0) (ownL r.f0) r.f0 r.f1 n (fun h => can_oth hc h) (by
  unfold ownL
  split
  · rw [← Base.size_list]
    omega
  · exact Nat.zero_le _) h0 h1 (by omega)
 have e:ownL r.f0 ++ (u3l (othL r.f0) ++ (32 :: (decN n ++ 32 :: signL r.f1))) ++ [10] = rowL r ++ [10]:=by
  rw [row_is]
  unfold endL
  rw [hnn]
 rw [e] at hj
 rw [hn]
 refine rrow_l0 r.f0 r.f0 r.f1 n (u3p r.f0) (by omega) (by omega) _ ?_ r.f0 0 [] rfl (by omega) (by simp)
 have e2:(if Base.nameB (u3p r.f0) = true then u3p r.f0 else Base.ofL []) = Base.ofL (ownL r.f0):=by
  unfold ownL
  split
  · exact (Base.ofL_of _).symm
  · rfl
 rw [e2]
 exact hj
end Go.Proofs.YtmcpeifhapekoaaGreatDoor.Tx
namespace Go.Proofs.YtmcpeifhapekoaaGreatDoor.Tx
open Go.RowKit Go.Proofs.YtmcpeifhapekoaaGreatDoor.PAll Go.Proofs.YtmcpeifhapekoaaGreatDoorW.PrintWords Go.Proofs.YtmcpeifhapekoaaGreatDoorW.PrintLast
open Go.Proofs.YtmcpeifhapekoaaGreatDoor.Laws (okFrom canB wrap_up at_byte no_byte word_ev rcan_ev rname_ev)
set_option linter.unusedVariables false
set_option linter.unusedSimpArgs false
theorem plain9_l0 (s:B8) (hs:s.length ≤ 4611686018427387904):∀ (r:B8) (i:Nat),s.drop i = r → i ≤ s.length → Ev (fun k => u2i.l0 k (Base.ofL s) (i:Int)) (plainL r)
 | [],i,h,hi => by
   have h2:s.length ≤ i:=by
    have:=List.drop_eq_nil_iff.1 h
    omega
   refine Ev.step (f:=fun _ => some true) (fun k => ?_) (Ev.now _)
   simp only [u2i.l0]
   rw [if_neg (by rw [sz];omega)]
 | c :: r,i,h,hi => by
   obtain ⟨hlt,hbt,hr⟩:=at_byte (Base.ofL s) i c r (by rw [Base.ofL_data];exact h)
   rw [Base.ofL_data] at hr
   rw [sz] at hlt
   have hw:=wrap_up i (by omega)
   have ih:=plain9_l0 s hs r (i + 1) hr (by omega)
   have hstep:∀ k,u2i.l0 (k + 1) (Base.ofL s) (i:Int) = if (c.toNat:Int) < 32 then some false else u2i.l0 k (Base.ofL s) ((i + 1:Nat):Int):=fun k => by
    simp only [u2i.l0]
    rw [if_pos (by rw [sz];omega),if_pos (by omega),hbt,hw]
   refine Ev.step hstep ?_
   unfold plainL at ih ⊢
   rw [List.all_cons]
   by_cases hb:32 ≤ c.toNat
   · rw [decide_eq_true hb,Bool.true_and]
     exact Ev.congr (fun k => if_neg (by omega)) ih
   · rw [decide_eq_false hb,Bool.false_and]
     exact Ev.congr (f:=fun _ => some false) (fun k => if_pos (by omega)) (Ev.now _)
theorem plain9_ev (s:B8) (hs:s.length ≤ 4611686018427387904):Ev (fun k => u2i.f k (Base.ofL s)) (plainL s):=plain9_l0 s hs s 0 rfl (by omega)
theorem kind9_l0 (s:B8) (L:List B8) (hL:L.length ≤ 1000):∀ (r:List B8) (i:Nat),L.drop i = r → i ≤ L.length → Ev (fun k => u2l.l0 k (Base.ofL s) (L.map Base.ofL) (L.length:Int) (i:Int)) (r.contains s)
 | [],i,h,hi => by
   have h2:L.length ≤ i:=by
    have:=List.drop_eq_nil_iff.1 h
    omega
   refine Ev.step (f:=fun _ => some false) (fun k => ?_) (Ev.now _)
   simp only [u2l.l0]
   rw [if_neg (by omega)]
 | c :: r,i,h,hi => by
   have hlt:i < L.length:=by
    rcases Nat.lt_or_ge i L.length with h1 | h1
    · exact h1
    · rw [List.drop_eq_nil_of_le h1] at h
      cases h
   rw [List.drop_eq_getElem_cons hlt] at h
   obtain ⟨h1,h2⟩:=List.cons.inj h
   have hrd:(rdOf ByteArray.empty (L.map Base.ofL) (i:Int)).toList = c:=by
    unfold rdOf
    rw [Int.toNat_natCast,List.getD_eq_getElem?_getD,List.getElem?_map,List.getElem?_eq_getElem hlt,h1]
    exact tl_ofL c
   have hw:=wrap_up i (by omega)
   have ih:=kind9_l0 s L hL r (i + 1) h2 (by omega)
   have hstep:∀ k,u2l.l0 (k + 1) (Base.ofL s) (L.map Base.ofL) (L.length:Int) (i:Int) = if s = c then some true else u2l.l0 k (Base.ofL s) (L.map Base.ofL) (L.length:Int) ((i + 1:Nat):Int):=fun k => by
    simp only [u2l.l0]
    rw [if_pos (by omega),if_pos (by omega),if_pos (by rw [List.length_map];omega),hrd,tl_ofL,hw]
   refine Ev.step hstep ?_
   rw [List.contains_cons]
   by_cases hb:s = c
   · rw [beq_iff_eq.2 hb,Bool.true_or]
     exact Ev.congr (f:=fun _ => some true) (fun k => if_pos hb) (Ev.now _)
   · rw [beq_eq_false_iff_ne.2 hb,Bool.false_or]
     exact Ev.congr (fun k => if_neg hb) ih
theorem kind9_ev (s:B8):Ev (fun k => u2l.f k (Base.ofL s)) (knownL s):=kind9_l0 s kinds (by decide) kinds 0 rfl (by decide)
def metaS (m:Me):B8:=(metaLines m).flatMap fun s => s ++ [10]
theorem metaS_is (m:Me):metaS m = (if m.2.2 ≠ Base.ofL [] then helpW ++ (m.1.data.toList ++ 32 :: m.2.2.data.toList) ++ [10] else []) ++ (if m.2.1 ≠ Base.ofL [] then typeW ++ (m.1.data.toList ++ 32 :: m.2.1.data.toList) ++ [10] else []):=by
 unfold metaS metaLines helpLine typeLine
 split <;> split <;> simp
theorem printP_is (l:List Rw) (m:List Me):printP l m = m.flatMap metaS ++ l.flatMap (fun r => rowL r ++ [10]):=by
 unfold printP
 rw [List.flatMap_append,List.flatMap_assoc,List.flatMap_map]
 rfl
theorem metaS_len (m:Me) (h1:m.1.size ≤ 24) (h2:m.2.1.size ≤ 9) (h3:m.2.2.size ≤ 900):(metaS m).length ≤ 2000:=by
 rw [metaS_is]
 rw [Base.size_list] at h1 h2 h3
 have a:helpW.length = 7:=rfl
 have b:typeW.length = 7:=rfl
 split <;> split <;> simp only [List.length_append,List.length_cons,List.length_nil,a,b] <;> omega
theorem known_size {b:ByteArray} (h:knownL b.data.toList = true):b.size ≤ 9:=by
 have:=(known_fine h).2
 rw [Base.size_list]
 exact this
theorem flat_len {α:Type} (g:α → B8) (n:Nat):∀ (l:List α),(∀ x ∈ l,(g x).length ≤ n) → (l.flatMap g).length ≤ n * l.length
 | [],_ => by simp
 | x :: l,h => by
   have h1:=h x (by simp)
   have h2:=flat_len g n l (fun y hy => h y (by simp [hy]))
   rw [List.flatMap_cons,List.length_append,List.length_cons,Nat.mul_add]
   omega
end Go.Proofs.YtmcpeifhapekoaaGreatDoor.Tx
