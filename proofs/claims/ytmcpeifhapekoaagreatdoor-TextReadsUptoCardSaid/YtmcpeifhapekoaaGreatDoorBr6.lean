/- Texts of this seat, joined in the order in which they build. -/
import Derived.Test.YtmcpeifhapekoaaGreatDoorBr1
import Derived.Test.YtmcpeifhapekoaaGreatDoorBr4
import Derived.Test.YtmcpeifhapekoaaGreatDoorBr2
import Derived.Test.YtmcpeifhapekoaaGreatDoorBr5
import Derived.Test.YtmcpeifhapekoaaGreatDoorBr3
namespace Go.Proofs.YtmcpeifhapekoaaGreatDoor.PAll
open Go.RowKit Go.Proofs.YtmcpeifhapekoaaGreatDoorW.PrintWords Go.Proofs.YtmcpeifhapekoaaGreatDoorW.PrintLast Go.Proofs.YtmcpeifhapekoaaGreatDoorW.PrintMore
attribute [local go_sem] u3q u3r max_two min_two u3l u3k u3s u3p
set_option linter.unusedVariables false
set_option linter.unusedSimpArgs false
def u2k.l0:Nat → ByteArray → Int → Int → Option ((List (S66)) × Int × Int × Bool × ByteArray × ByteArray × ByteArray × Int)
 | 0,_,_,_ => none
 | k + 1,x0,x1,x8 => if x8 < (x0.size:Int) then (if 0 ≤ x8 then (if (bt x0 x8) = 10 then (some (([]:List (S66)),0,0,false,(⟨#[]⟩:ByteArray),(⟨#[]⟩:ByteArray),(⟨#[]⟩:ByteArray),280)) else (u2k.l0 k x0 x1 (wrap64 (x8 + 1)))) else (none)) else ((uv.f x0 (⟨#[35]⟩:ByteArray)).bind fun t221 => (if t221 = true then ((ur.f k x0).bind fun bt222 => (if bt222.2.2.2 = true then (some (([]:List (S66)),0,0,false,bt222.1,bt222.2.1,bt222.2.2.1,0)) else (some (([]:List (S66)),0,0,false,(⟨#[]⟩:ByteArray),(⟨#[]⟩:ByteArray),(⟨#[]⟩:ByteArray),280)))) else ((u1f.f k x0).bind fun bt227 => (if bt227.1.toList = ([]:List UInt8) then (some (([]:List (S66)),0,0,false,(⟨#[]⟩:ByteArray),(⟨#[]⟩:ByteArray),(⟨#[]⟩:ByteArray),0)) else ((uo.f k x0 x1).bind fun bt229 => (if bt229.2.2.2 = true then (some (bt229.1,bt229.2.1,bt229.2.2.1,true,(⟨#[]⟩:ByteArray),(⟨#[]⟩:ByteArray),(⟨#[]⟩:ByteArray),0)) else (some (([]:List (S66)),0,0,false,(⟨#[]⟩:ByteArray),(⟨#[]⟩:ByteArray),(⟨#[]⟩:ByteArray),280))))))))
def u2k.f (k:Nat) (a0:ByteArray) (a1:Int):Option ((List (S66)) × Int × Int × Bool × ByteArray × ByteArray × ByteArray × Int):=if (a0.size:Int) > 1000 then (some (([]:List (S66)),0,0,false,(⟨#[]⟩:ByteArray),(⟨#[]⟩:ByteArray),(⟨#[]⟩:ByteArray),4)) else (u2k.l0 k a0 a1 0)
set_option maxHeartbeats 8000000 in
set_option maxRecDepth 100000 in
theorem u2k.calls (k:Nat) (a0:ByteArray) (a1:Int) (r1:List (S66)) (r2:Int) (r3:Int) (r4:Bool) (r5:ByteArray) (r6:ByteArray) (r7:ByteArray) (r8:Int) (w:World) (h:u2k.f k a0 a1 = some (r1,r2,r3,r4,r5,r6,r7,r8)) :
 Calls Tryz.prog 21 #[.string a0,.int .i64 a1] w fun e w' => ∃ v0_:Value,e = .returned (.tuple #[.agg #[v0_,.int .i64 r2,.int .u64 r3],.bool r4,.agg #[.string r5,.string r6,.string r7],.int .i64 r8]) ∧ Kd.R k66 66 w' w.heap.size (fun _ => True) v0_ r1 ∧ Below w.heap.size w w':=by
 have hu53:=Tryz.underlying53
 have hu34:=Tryz.underlying34
 have HB:=Aside0.mk (Below.refl w.heap.size w)
 have H:(if (a0.size:Int) > 1000 then (some (([]:List (S66)),0,0,false,(⟨#[]⟩:ByteArray),(⟨#[]⟩:ByteArray),(⟨#[]⟩:ByteArray),4)) else (u2k.l0 k a0 a1 0)) = some (r1,r2,r3,r4,r5,r6,r7,r8):=h
 clear h
 by_cases c3:(a0.size:Int) > 1000
 ·rw [if_pos c3] at H
  have c3b0:decide (1000 < (a0.size:Int)) = true:=decide_eq_true c3
  have c3b1:decide (1000 < a0.size) = true:=decide_eq_true (by omega)
  clear c3
  simp only [Option.some.injEq,Prod.mk.injEq] at H
  obtain ⟨rfl,rfl,rfl,rfl,rfl,rfl,rfl,rfl⟩:=H
  go_enter Tryz.func21,Tryz.ntmps21
  go_wp2_with (first | ((with_reducible refine u3f (N:=4) rfl ?_);refine u3c ?hg (N:=4) ?hd (cs:=#[.slice none 0 0,.int .i64 0,.int .u64 0]) (t:=53) ?hr ?_;(case hd => rfl);(case hg => rfl);(case hr => first | (go_simp;done) | (go_simp;rfl));intro gb219 hg w4 hbox hb;have n0_:=Aside0.mk (u1h (by repeat (first | (with_reducible first | exact HB.out | apply uc | apply ub | apply ud) | exact HB.out)) hb);have n1_:=Aside0.mk (hbox);have n2_:=Aside0.mk ((by rw [hg];exact (u1c (by repeat (first | (with_reducible first | exact HB.out | apply uc | apply ub | apply ud) | exact HB.out))):w.heap.size ≤ gb219));have n3_:=Aside0.mk ((by rw [hg];exact (u1c (by repeat (first | (with_reducible first | exact HB.out | apply uc | apply ub | apply ud) | exact HB.out))):w.heap.size ≤ gb219));clear HB;have HB:=n0_;have BK219:=n1_;have GW219:=n2_;have GE219:=n3_;clear n0_ n1_ n2_ n3_;clear hb hbox hg) | ((with_reducible refine u3f (N:=6) rfl ?_);refine u3c ?hg (N:=6) ?hd (cs:=#[.string (⟨#[]⟩:ByteArray),.string (⟨#[]⟩:ByteArray),.string (⟨#[]⟩:ByteArray)]) (t:=34) ?hr ?_;(case hd => rfl);(case hg => rfl);(case hr => first | (go_simp;done) | (go_simp;rfl));intro gb220 hg w5 hbox hb;have n0_:=Aside0.mk (u2c (g:=gb219) (o:=.cells #[.slice none 0 0,.int .i64 0,.int .u64 0] 53 (0,0)) (by (with_reducible repeat (first | refine ue ?_ _ | refine ug ?_ | refine uf ?_ _));exact BK219.out) hb);have n1_:=Aside0.mk (u1h (by repeat (first | (with_reducible first | exact HB.out | apply uc | apply ub | apply ud | refine ui ?_ GE219.out) | exact HB.out)) hb);have n2_:=Aside0.mk (hbox);have n3_:=Aside0.mk ((by rw [hg];exact (u1c (by repeat (first | (with_reducible first | exact HB.out | apply uc | apply ub | apply ud | refine ui ?_ GE219.out) | exact HB.out))):w.heap.size ≤ gb220));have n4_:=Aside0.mk ((by rw [hg];exact (u1c (by repeat (first | (with_reducible first | exact HB.out | apply uc | apply ub | apply ud | refine ui ?_ GE219.out) | exact HB.out))):w.heap.size ≤ gb220));have n5_:=Aside0.mk ((by rw [hg];exact Nat.ne_of_lt (u3g (g:=gb219) (o:=.cells #[.slice none 0 0,.int .i64 0,.int .u64 0] 53 (0,0)) (by (with_reducible repeat (first | refine ue ?_ _ | refine ug ?_ | refine uf ?_ _));exact BK219.out)):gb219 ≠ gb220));have n6_:=Aside0.mk ((by rw [hg];exact Nat.ne_of_gt (u3g (g:=gb219) (o:=.cells #[.slice none 0 0,.int .i64 0,.int .u64 0] 53 (0,0)) (by (with_reducible repeat (first | refine ue ?_ _ | refine ug ?_ | refine uf ?_ _));exact BK219.out)):gb220 ≠ gb219));clear BK219;clear HB;have BK219:=n0_;have HB:=n1_;have BK220:=n2_;have GW220:=n3_;have GE220:=n4_;have NB219_220:=n5_;have NB220_219:=n6_;clear n0_ n1_ n2_ n3_ n4_ n5_ n6_;clear hb hbox hg;have hnb6:=NB219_220.out;have hnc6:=NB220_219.out;have hcz7_0:w5.cell? ⟨gb219,0,none⟩ = some (.slice none 0 0):=(uj BK219.out 0).trans rfl;have hcz7_1:w5.cell? ⟨gb219,1,none⟩ = some (.int .i64 0):=(uj BK219.out 1).trans rfl;have hcz7_2:w5.cell? ⟨gb219,2,none⟩ = some (.int .u64 0):=(uj BK219.out 2).trans rfl;have hfz7_0:=uk BK219.out 0;have hfz7_1:=uk BK219.out 1;have hfz7_2:=uk BK219.out 2;have hcz8_0:w5.cell? ⟨gb220,0,none⟩ = some (.string (⟨#[]⟩:ByteArray)):=(uj BK220.out 0).trans rfl;have hcz8_1:w5.cell? ⟨gb220,1,none⟩ = some (.string (⟨#[]⟩:ByteArray)):=(uj BK220.out 1).trans rfl;have hcz8_2:w5.cell? ⟨gb220,2,none⟩ = some (.string (⟨#[]⟩:ByteArray)):=(uj BK220.out 2).trans rfl;have hfz8_0:=uk BK220.out 0;have hfz8_1:=uk BK220.out 1;have hfz8_2:=uk BK220.out 2))
  refine bodyPost_ret (results_list (rs:=[.cell 4 53,.tmp 5,.cell 6 34,.tmp 7]) rfl (by simp) (.cell gb219 53 #[.slice none 0 0,.int .i64 0,.int .u64 0] (0,0) _ rfl (by (with_reducible repeat (first | refine ue ?_ _ | refine ug ?_ | refine uf ?_ _));refine u2m ?_ NB219_220.out _;(with_reducible repeat (first | refine ue ?_ _ | refine ug ?_ | refine uf ?_ _));refine u2m ?_ NB219_220.out _;(with_reducible repeat (first | refine ue ?_ _ | refine ug ?_ | refine uf ?_ _));refine u2m ?_ NB219_220.out _;(with_reducible repeat (first | refine ue ?_ _ | refine ug ?_ | refine uf ?_ _));refine u2d (cs:=#[.slice none 0 0,.int .i64 0,.int .u64 0]) ?_ 2 _ rfl;(with_reducible repeat (first | refine ue ?_ _ | refine ug ?_ | refine uf ?_ _));refine u2d (cs:=#[.slice none 0 0,.int .i64 0,.int .u64 0]) ?_ 1 _ rfl;(with_reducible repeat (first | refine ue ?_ _ | refine ug ?_ | refine uf ?_ _));refine u2d (cs:=#[.slice none 0 0,.int .i64 0,.int .u64 0]) ?_ 0 _ rfl;(with_reducible repeat (first | refine ue ?_ _ | refine ug ?_ | refine uf ?_ _));exact BK219.out) Tryz.underlying53 rfl (by kernel_rfl) (.tmp (.cell gb220 34 #[.string (⟨#[]⟩:ByteArray),.string (⟨#[]⟩:ByteArray),.string (⟨#[]⟩:ByteArray)] (0,0) _ rfl (by (with_reducible repeat (first | refine ue ?_ _ | refine ug ?_ | refine uf ?_ _));refine u2d (cs:=#[.string (⟨#[]⟩:ByteArray),.string (⟨#[]⟩:ByteArray),.string (⟨#[]⟩:ByteArray)]) ?_ 2 _ rfl;(with_reducible repeat (first | refine ue ?_ _ | refine ug ?_ | refine uf ?_ _));refine u2d (cs:=#[.string (⟨#[]⟩:ByteArray),.string (⟨#[]⟩:ByteArray),.string (⟨#[]⟩:ByteArray)]) ?_ 1 _ rfl;(with_reducible repeat (first | refine ue ?_ _ | refine ug ?_ | refine uf ?_ _));refine u2d (cs:=#[.string (⟨#[]⟩:ByteArray),.string (⟨#[]⟩:ByteArray),.string (⟨#[]⟩:ByteArray)]) ?_ 0 _ rfl;(with_reducible repeat (first | refine ue ?_ _ | refine ug ?_ | refine uf ?_ _));refine u2m ?_ NB220_219.out _;(with_reducible repeat (first | refine ue ?_ _ | refine ug ?_ | refine uf ?_ _));refine u2m ?_ NB220_219.out _;(with_reducible repeat (first | refine ue ?_ _ | refine ug ?_ | refine uf ?_ _));refine u2m ?_ NB220_219.out _;(with_reducible repeat (first | refine ue ?_ _ | refine ug ?_ | refine uf ?_ _));exact BK220.out) Tryz.underlying34 rfl (by kernel_rfl) (.tmp .nil))))) rfl ?_
  exact ⟨_,by first | rfl | (simp [u1k,u1l] <;> rfl) | (simp [*,u1k,u1l] <;> rfl),by first | exact Kd.R_nil _ _ _ _ _ | exact Kd.N_nil _ _ _ _ _ | exact Kd.V_nil _ _ _ _ _ | exact Kd.Q_nil _ _ _ _ _ | exact Kd.S_nil _ _ _ _ _,by repeat (first | (with_reducible first | exact HB.out | apply uc | apply ub | apply ud | refine ui ?_ GE219.out | refine ui ?_ GE220.out) | exact HB.out)⟩
 ·rw [if_neg c3] at H
  have c3b0:decide (1000 < (a0.size:Int)) = false:=decide_eq_false c3
  have c3b1:decide (1000 < a0.size) = false:=decide_eq_false (by omega)
  clear c3
  have H':=Aside0.mk H
  clear H
  go_enter Tryz.func21,Tryz.ntmps21
  go_wp2_with (first | ((with_reducible refine u3f (N:=4) rfl ?_);refine u3c ?hg (N:=4) ?hd (cs:=#[.slice none 0 0,.int .i64 0,.int .u64 0]) (t:=53) ?hr ?_;(case hd => rfl);(case hg => rfl);(case hr => first | (go_simp;done) | (go_simp;rfl));intro gb219 hg w9 hbox hb;have n0_:=Aside0.mk (u1h (by repeat (first | (with_reducible first | exact HB.out | apply uc | apply ub | apply ud) | exact HB.out)) hb);have n1_:=Aside0.mk (hbox);have n2_:=Aside0.mk ((by rw [hg];exact (u1c (by repeat (first | (with_reducible first | exact HB.out | apply uc | apply ub | apply ud) | exact HB.out))):w.heap.size ≤ gb219));have n3_:=Aside0.mk ((by rw [hg];exact (u1c (by repeat (first | (with_reducible first | exact HB.out | apply uc | apply ub | apply ud) | exact HB.out))):w.heap.size ≤ gb219));clear HB;have HB:=n0_;have BK219:=n1_;have GW219:=n2_;have GE219:=n3_;clear n0_ n1_ n2_ n3_;clear hb hbox hg) | ((with_reducible refine u3f (N:=6) rfl ?_);refine u3c ?hg (N:=6) ?hd (cs:=#[.string (⟨#[]⟩:ByteArray),.string (⟨#[]⟩:ByteArray),.string (⟨#[]⟩:ByteArray)]) (t:=34) ?hr ?_;(case hd => rfl);(case hg => rfl);(case hr => first | (go_simp;done) | (go_simp;rfl));intro gb220 hg w10 hbox hb;have n0_:=Aside0.mk (u2c (g:=gb219) (o:=.cells #[.slice none 0 0,.int .i64 0,.int .u64 0] 53 (0,0)) (by (with_reducible repeat (first | refine ue ?_ _ | refine ug ?_ | refine uf ?_ _));exact BK219.out) hb);have n1_:=Aside0.mk (u1h (by repeat (first | (with_reducible first | exact HB.out | apply uc | apply ub | apply ud | refine ui ?_ GE219.out) | exact HB.out)) hb);have n2_:=Aside0.mk (hbox);have n3_:=Aside0.mk ((by rw [hg];exact (u1c (by repeat (first | (with_reducible first | exact HB.out | apply uc | apply ub | apply ud | refine ui ?_ GE219.out) | exact HB.out))):w.heap.size ≤ gb220));have n4_:=Aside0.mk ((by rw [hg];exact (u1c (by repeat (first | (with_reducible first | exact HB.out | apply uc | apply ub | apply ud | refine ui ?_ GE219.out) | exact HB.out))):w.heap.size ≤ gb220));have n5_:=Aside0.mk ((by rw [hg];exact Nat.ne_of_lt (u3g (g:=gb219) (o:=.cells #[.slice none 0 0,.int .i64 0,.int .u64 0] 53 (0,0)) (by (with_reducible repeat (first | refine ue ?_ _ | refine ug ?_ | refine uf ?_ _));exact BK219.out)):gb219 ≠ gb220));have n6_:=Aside0.mk ((by rw [hg];exact Nat.ne_of_gt (u3g (g:=gb219) (o:=.cells #[.slice none 0 0,.int .i64 0,.int .u64 0] 53 (0,0)) (by (with_reducible repeat (first | refine ue ?_ _ | refine ug ?_ | refine uf ?_ _));exact BK219.out)):gb220 ≠ gb219));clear BK219;clear HB;have BK219:=n0_;have HB:=n1_;have BK220:=n2_;have GW220:=n3_;have GE220:=n4_;have NB219_220:=n5_;have NB220_219:=n6_;clear n0_ n1_ n2_ n3_ n4_ n5_ n6_;clear hb hbox hg))
  go_loopg [8] k (fun kq v8 w' => ∃ (x8_1:Int) (x220001_1:Int) (x220002_1:Int) (x221000_1:ByteArray) (x221001_1:ByteArray) (x221002_1:ByteArray),v8 = .int .i64 x8_1 ∧ Aside0 (u2k.l0 kq a0 a1 x8_1 = some (r1,r2,r3,r4,r5,r6,r7,r8)) ∧ Aside0 (kq ≤ k) ∧ Aside0 (w'.heap[gb219]? = some (.cells #[(.slice none 0 0),.int .i64 x220001_1,.int .u64 x220002_1] 53 (0,0))) ∧ Aside0 (w'.heap[gb220]? = some (.cells #[.string x221000_1,.string x221001_1,.string x221002_1] 34 (0,0))) ∧ Aside0 (Below w.heap.size w w'))
  case atStart => exact ⟨(0),(0),(0),((⟨#[]⟩:ByteArray)),((⟨#[]⟩:ByteArray)),((⟨#[]⟩:ByteArray)),(by first | rfl | (simp;done) | (simp [*];done)),H',⟨Nat.le_refl _⟩,⟨by (with_reducible repeat (first | refine ue ?_ _ | refine ug ?_ | refine uf ?_ _));exact BK219.out⟩,⟨by (with_reducible repeat (first | refine ue ?_ _ | refine ug ?_ | refine uf ?_ _));exact BK220.out⟩,⟨by repeat (first | (with_reducible first | exact HB.out | apply uc | apply ub | apply ud | refine ui ?_ GE219.out | refine ui ?_ GE220.out) | exact HB.out)⟩⟩
  case round =>
   clear H'
   try clear c2
   try clear p2
   try clear c3
   try clear c3b0
   try clear c3b1
   try clear c6
   try clear hcz7_0
   try clear hcz7_1
   try clear hcz7_2
   try clear hcz8_0
   try clear hcz8_1
   try clear hcz8_2
   try clear hfz7_0
   try clear hfz7_1
   try clear hfz7_2
   try clear hfz8_0
   try clear hfz8_1
   try clear hfz8_2
   obtain ⟨x8_1,x220001_1,x220002_1,x221000_1,x221001_1,x221002_1,rfl,HA,HK1,BK219,BK220,HB⟩:=hrel
   cases gk with
   | zero => exact absurd HA.out (by simp [u2k.l0])
   | succ k1 =>
    have H:=HA.out
    clear HA
    simp only [u2k.l0] at H
    by_cases c11:x8_1 < (a0.size:Int)
    ·rw [if_pos c11] at H
     have c11b0:decide (x8_1 < (a0.size:Int)) = true:=decide_eq_true c11
     clear c11
     by_cases c12:0 ≤ x8_1
     ·rw [if_pos c12] at H
      have c12b0:decide (0 ≤ x8_1) = true:=decide_eq_true c12
      clear c12
      by_cases c14:(bt a0 x8_1) = 10
      ·rw [if_pos c14] at H
       have c14b0:((bt a0 x8_1) == 10) = true:=beq_iff_eq.mpr c14
       have c14b1:((bt a0 x8_1) != 10) = false:=bne_eq_false_iff_eq.mpr c14
       clear c14
       simp only [Option.some.injEq,Prod.mk.injEq] at H
       obtain ⟨rfl,rfl,rfl,rfl,rfl,rfl,rfl,rfl⟩:=H
       have p13:0 ≤ (x8_1:Int):=of_decide_eq_true (by first | (with_reducible assumption) | assumption)
       have q13:x8_1 < (a0.size:Int):=of_decide_eq_true (by first | (with_reducible assumption) | assumption)
       have hx13:=bt_at a0 x8_1
       replace p13:=eq_true p13
       replace q13:=eq_true q13
       have hnb15:=NB219_220.out
       have hnc15:=NB220_219.out
       have hcz16_0:wr.cell? ⟨gb219,0,none⟩ = some (.slice none 0 0):=(uj BK219.out 0).trans rfl
       have hcz16_1:wr.cell? ⟨gb219,1,none⟩ = some (.int .i64 x220001_1):=(uj BK219.out 1).trans rfl
       have hcz16_2:wr.cell? ⟨gb219,2,none⟩ = some (.int .u64 x220002_1):=(uj BK219.out 2).trans rfl
       have hfz16_0:=uk BK219.out 0
       have hfz16_1:=uk BK219.out 1
       have hfz16_2:=uk BK219.out 2
       have hcz17_0:wr.cell? ⟨gb220,0,none⟩ = some (.string x221000_1):=(uj BK220.out 0).trans rfl
       have hcz17_1:wr.cell? ⟨gb220,1,none⟩ = some (.string x221001_1):=(uj BK220.out 1).trans rfl
       have hcz17_2:wr.cell? ⟨gb220,2,none⟩ = some (.string x221002_1):=(uj BK220.out 2).trans rfl
       have hfz17_0:=uk BK220.out 0
       have hfz17_1:=uk BK220.out 1
       have hfz17_2:=uk BK220.out 2
       go_wp2
       refine bodyPost_ret (results_list (rs:=[.cell 4 53,.tmp 5,.cell 6 34,.tmp 7]) rfl (by simp) (.cell gb219 53 #[.slice none 0 0,.int .i64 0,.int .u64 0] (0,0) _ rfl (by (with_reducible repeat (first | refine ue ?_ _ | refine ug ?_ | refine uf ?_ _));refine u2m ?_ NB219_220.out _;(with_reducible repeat (first | refine ue ?_ _ | refine ug ?_ | refine uf ?_ _));refine u2m ?_ NB219_220.out _;(with_reducible repeat (first | refine ue ?_ _ | refine ug ?_ | refine uf ?_ _));refine u2m ?_ NB219_220.out _;(with_reducible repeat (first | refine ue ?_ _ | refine ug ?_ | refine uf ?_ _));refine u2d (cs:=#[.slice none 0 0,.int .i64 0,.int .u64 x220002_1]) ?_ 2 _ rfl;(with_reducible repeat (first | refine ue ?_ _ | refine ug ?_ | refine uf ?_ _));refine u2d (cs:=#[.slice none 0 0,.int .i64 x220001_1,.int .u64 x220002_1]) ?_ 1 _ rfl;(with_reducible repeat (first | refine ue ?_ _ | refine ug ?_ | refine uf ?_ _));refine u2d (cs:=#[.slice none 0 0,.int .i64 x220001_1,.int .u64 x220002_1]) ?_ 0 _ rfl;(with_reducible repeat (first | refine ue ?_ _ | refine ug ?_ | refine uf ?_ _));exact BK219.out) Tryz.underlying53 rfl (by kernel_rfl) (.tmp (.cell gb220 34 #[.string (⟨#[]⟩:ByteArray),.string (⟨#[]⟩:ByteArray),.string (⟨#[]⟩:ByteArray)] (0,0) _ rfl (by (with_reducible repeat (first | refine ue ?_ _ | refine ug ?_ | refine uf ?_ _));refine u2d (cs:=#[.string (⟨#[]⟩:ByteArray),.string (⟨#[]⟩:ByteArray),.string x221002_1]) ?_ 2 _ rfl;(with_reducible repeat (first | refine ue ?_ _ | refine ug ?_ | refine uf ?_ _));refine u2d (cs:=#[.string (⟨#[]⟩:ByteArray),.string x221001_1,.string x221002_1]) ?_ 1 _ rfl;(with_reducible repeat (first | refine ue ?_ _ | refine ug ?_ | refine uf ?_ _));refine u2d (cs:=#[.string x221000_1,.string x221001_1,.string x221002_1]) ?_ 0 _ rfl;(with_reducible repeat (first | refine ue ?_ _ | refine ug ?_ | refine uf ?_ _));refine u2m ?_ NB220_219.out _;(with_reducible repeat (first | refine ue ?_ _ | refine ug ?_ | refine uf ?_ _));refine u2m ?_ NB220_219.out _;(with_reducible repeat (first | refine ue ?_ _ | refine ug ?_ | refine uf ?_ _));refine u2m ?_ NB220_219.out _;(with_reducible repeat (first | refine ue ?_ _ | refine ug ?_ | refine uf ?_ _));exact BK220.out) Tryz.underlying34 rfl (by kernel_rfl) (.tmp .nil))))) rfl ?_
       exact ⟨_,by first | rfl | (simp [u1k,u1l] <;> rfl) | (simp [*,u1k,u1l] <;> rfl),by first | exact Kd.R_nil _ _ _ _ _ | exact Kd.N_nil _ _ _ _ _ | exact Kd.V_nil _ _ _ _ _ | exact Kd.Q_nil _ _ _ _ _ | exact Kd.S_nil _ _ _ _ _,by repeat (first | (with_reducible first | exact HB.out | apply uc | apply ub | apply ud | refine ui ?_ GE219.out | refine ui ?_ GE220.out) | exact HB.out)⟩
      ·rw [if_neg c14] at H
       have c14b0:((bt a0 x8_1) == 10) = false:=beq_eq_false_iff_ne.mpr c14
       have c14b1:((bt a0 x8_1) != 10) = true:=bne_iff_ne.mpr c14
       have H':=Aside0.mk H
       clear H
       have p13:0 ≤ (x8_1:Int):=of_decide_eq_true (by first | (with_reducible assumption) | assumption)
       have q13:x8_1 < (a0.size:Int):=of_decide_eq_true (by first | (with_reducible assumption) | assumption)
       have hx13:=bt_at a0 x8_1
       replace p13:=eq_true p13
       replace q13:=eq_true q13
       go_wp2
       go_roundg k1
       case measure => have:=HK1.out;omega
       case rel => exact ⟨(wrap64 (x8_1 + 1)),(x220001_1),(x220002_1),(x221000_1),(x221001_1),(x221002_1),(by first | rfl | (simp;done) | (simp [*];done)),H',⟨by have:=HK1.out;omega⟩,⟨by (with_reducible repeat (first | refine ue ?_ _ | refine ug ?_ | refine uf ?_ _));exact BK219.out⟩,⟨by (with_reducible repeat (first | refine ue ?_ _ | refine ug ?_ | refine uf ?_ _));exact BK220.out⟩,⟨by repeat (first | (with_reducible first | exact HB.out | apply uc | apply ub | apply ud | refine ui ?_ GE219.out | refine ui ?_ GE220.out) | exact HB.out)⟩⟩
     ·rw [if_neg c12] at H
      exact absurd H (by simp)
    ·rw [if_neg c11] at H
     have c11b0:decide (x8_1 < (a0.size:Int)) = false:=decide_eq_false c11
     clear c11
     replace H:=Option.bind_eq_some_iff.mp H
     obtain ⟨t221,A180,H⟩:=H
     replace H:(if t221 = true then ((ur.f k1 a0).bind fun bt222 => (if bt222.2.2.2 = true then (some (([]:List (S66)),0,0,false,bt222.1,bt222.2.1,bt222.2.2.1,0)) else (some (([]:List (S66)),0,0,false,(⟨#[]⟩:ByteArray),(⟨#[]⟩:ByteArray),(⟨#[]⟩:ByteArray),280)))) else ((u1f.f k1 a0).bind fun bt227 => (if bt227.1.toList = ([]:List UInt8) then (some (([]:List (S66)),0,0,false,(⟨#[]⟩:ByteArray),(⟨#[]⟩:ByteArray),(⟨#[]⟩:ByteArray),0)) else ((uo.f k1 a0 a1).bind fun bt229 => (if bt229.2.2.2 = true then (some (bt229.1,bt229.2.1,bt229.2.2.1,true,(⟨#[]⟩:ByteArray),(⟨#[]⟩:ByteArray),(⟨#[]⟩:ByteArray),0)) else (some (([]:List (S66)),0,0,false,(⟨#[]⟩:ByteArray),(⟨#[]⟩:ByteArray),(⟨#[]⟩:ByteArray),280))))))) = some (r1,r2,r3,r4,r5,r6,r7,r8):=H
     have A18:=Aside0.mk A180
     clear A180
     by_cases c19:t221 = true
     ·subst c19
      have H1:((ur.f k1 a0).bind fun bt222 => (if bt222.2.2.2 = true then (some (([]:List (S66)),0,0,false,bt222.1,bt222.2.1,bt222.2.2.1,0)) else (some (([]:List (S66)),0,0,false,(⟨#[]⟩:ByteArray),(⟨#[]⟩:ByteArray),(⟨#[]⟩:ByteArray),280)))) = some (r1,r2,r3,r4,r5,r6,r7,r8):=by rw [if_pos rfl] at H;exact H
      clear H
      have H:=H1
      clear H1
      replace H:=Option.bind_eq_some_iff.mp H
      obtain ⟨⟨t222,t223,t224,t225⟩,A200,H⟩:=H
      replace H:(if t225 = true then (some (([]:List (S66)),0,0,false,t222,t223,t224,0)) else (some (([]:List (S66)),0,0,false,(⟨#[]⟩:ByteArray),(⟨#[]⟩:ByteArray),(⟨#[]⟩:ByteArray),280))) = some (r1,r2,r3,r4,r5,r6,r7,r8):=H
      have A20:=Aside0.mk A200
      clear A200
      by_cases c21:t225 = true
      ·subst c21
       have H1:(some (([]:List (S66)),0,0,false,t222,t223,t224,0)) = some (r1,r2,r3,r4,r5,r6,r7,r8):=by rw [if_pos rfl] at H;exact H
       clear H
       have H:=H1
       clear H1
       simp only [Option.some.injEq,Prod.mk.injEq] at H
       obtain ⟨rfl,rfl,rfl,rfl,rfl,rfl,rfl,rfl⟩:=H
       try go_wp2_with (first | ((with_reducible refine u1u (f:=23) rfl ?_);refine u3e (some 33) rfl rfl Tryz.func23 (by kernel_rfl) rfl #[.string a0,.string (⟨#[35]⟩:ByteArray)] rfl (by (try simp only [List.map_toArray,List.map_cons,List.map_nil]);first | done | rfl | (simp only [List.length_drop,List.length_take];rfl)) ?_;(with_reducible refine (uv.calls a0 (⟨#[35]⟩:ByteArray) true _ A18.out).mono ?_);rintro e w' ⟨rfl,⟨nd,rfl⟩⟩;refine ⟨_,rfl,?_⟩;(try (rw [u2z wr];generalize hq_:World.drewN wr _ = wr;have n0_:Aside0 (wr.heap[gb219]? = some (.cells #[.slice none 0 0,.int .i64 x220001_1,.int .u64 x220002_1] 53 (0,0))):=⟨by rw [← hq_];exact (by (with_reducible repeat (first | refine ue ?_ _ | refine ug ?_ | refine uf ?_ _));exact BK219.out)⟩;have n1_:Aside0 (wr.heap[gb220]? = some (.cells #[.string x221000_1,.string x221001_1,.string x221002_1] 34 (0,0))):=⟨by rw [← hq_];exact (by (with_reducible repeat (first | refine ue ?_ _ | refine ug ?_ | refine uf ?_ _));exact BK220.out)⟩;have n2_:Aside0 (Below w.heap.size w wr):=⟨by rw [← hq_];exact (by repeat (first | (with_reducible first | exact HB.out | apply uc | apply ub | apply ud | refine ui ?_ GE219.out | refine ui ?_ GE220.out) | exact HB.out))⟩;clear BK219 BK220 HB hq_;have BK219:=n0_;have BK220:=n1_;have HB:=n2_;clear n0_ n1_ n2_))) | ((with_reducible refine u1u (f:=52) rfl ?_);refine u3e (some 36) rfl rfl Tryz.func52 (by kernel_rfl) rfl #[.string a0] rfl (by (try simp only [List.map_toArray,List.map_cons,List.map_nil]);first | done | rfl | (simp only [List.length_drop,List.length_take];rfl)) ?_;(with_reducible refine (ur.calls k1 a0 t222 t223 t224 true _ A20.out).mono ?_);rintro e w22 ⟨rfl,hb⟩;refine ⟨_,rfl,?_⟩;have n0_:=Aside0.mk (u2c (g:=gb219) (o:=.cells #[.slice none 0 0,.int .i64 x220001_1,.int .u64 x220002_1] 53 (0,0)) (by (with_reducible repeat (first | refine ue ?_ _ | refine ug ?_ | refine uf ?_ _));exact BK219.out) hb);have n1_:=Aside0.mk (u2c (g:=gb220) (o:=.cells #[.string x221000_1,.string x221001_1,.string x221002_1] 34 (0,0)) (by (with_reducible repeat (first | refine ue ?_ _ | refine ug ?_ | refine uf ?_ _));exact BK220.out) hb);have n2_:=Aside0.mk (u1h (by repeat (first | (with_reducible first | exact HB.out | apply uc | apply ub | apply ud | refine ui ?_ GE219.out | refine ui ?_ GE220.out) | exact HB.out)) hb);clear BK219;clear BK220;clear HB;have BK219:=n0_;have BK220:=n1_;have HB:=n2_;clear n0_ n1_ n2_;(try clear hb);(try clear hb2);(try clear hk);(try clear hi)) | ((with_reducible refine u3f (N:=9) rfl ?_);refine u3c ?hg (N:=9) ?hd (cs:=#[.string (⟨#[]⟩:ByteArray),.string (⟨#[]⟩:ByteArray),.string (⟨#[]⟩:ByteArray)]) (t:=34) ?hr ?_;(case hd => rfl);(case hg => rfl);(case hr => first | (go_simp;done) | (go_simp;rfl));intro gb226 hg w23 hbox hb;have n0_:=Aside0.mk (u2c (g:=gb219) (o:=.cells #[.slice none 0 0,.int .i64 x220001_1,.int .u64 x220002_1] 53 (0,0)) (by (with_reducible repeat (first | refine ue ?_ _ | refine ug ?_ | refine uf ?_ _));exact BK219.out) hb);have n1_:=Aside0.mk (u2c (g:=gb220) (o:=.cells #[.string x221000_1,.string x221001_1,.string x221002_1] 34 (0,0)) (by (with_reducible repeat (first | refine ue ?_ _ | refine ug ?_ | refine uf ?_ _));exact BK220.out) hb);have n2_:=Aside0.mk (u1h (by repeat (first | (with_reducible first | exact HB.out | apply uc | apply ub | apply ud | refine ui ?_ GE219.out | refine ui ?_ GE220.out) | exact HB.out)) hb);have n3_:=Aside0.mk (hbox);have n4_:=Aside0.mk ((by rw [hg];exact (u1c (by repeat (first | (with_reducible first | exact HB.out | apply uc | apply ub | apply ud | refine ui ?_ GE219.out | refine ui ?_ GE220.out) | exact HB.out))):w.heap.size ≤ gb226));have n5_:=Aside0.mk ((by rw [hg];exact (u1c (by repeat (first | (with_reducible first | exact HB.out | apply uc | apply ub | apply ud | refine ui ?_ GE219.out | refine ui ?_ GE220.out) | exact HB.out))):w.heap.size ≤ gb226));have n6_:=Aside0.mk ((by rw [hg];exact Nat.ne_of_lt (u3g (g:=gb219) (o:=.cells #[.slice none 0 0,.int .i64 x220001_1,.int .u64 x220002_1] 53 (0,0)) (by (with_reducible repeat (first | refine ue ?_ _ | refine ug ?_ | refine uf ?_ _));exact BK219.out)):gb219 ≠ gb226));have n7_:=Aside0.mk ((by rw [hg];exact Nat.ne_of_gt (u3g (g:=gb219) (o:=.cells #[.slice none 0 0,.int .i64 x220001_1,.int .u64 x220002_1] 53 (0,0)) (by (with_reducible repeat (first | refine ue ?_ _ | refine ug ?_ | refine uf ?_ _));exact BK219.out)):gb226 ≠ gb219));have n8_:=Aside0.mk ((by rw [hg];exact Nat.ne_of_lt (u3g (g:=gb220) (o:=.cells #[.string x221000_1,.string x221001_1,.string x221002_1] 34 (0,0)) (by (with_reducible repeat (first | refine ue ?_ _ | refine ug ?_ | refine uf ?_ _));exact BK220.out)):gb220 ≠ gb226));have n9_:=Aside0.mk ((by rw [hg];exact Nat.ne_of_gt (u3g (g:=gb220) (o:=.cells #[.string x221000_1,.string x221001_1,.string x221002_1] 34 (0,0)) (by (with_reducible repeat (first | refine ue ?_ _ | refine ug ?_ | refine uf ?_ _));exact BK220.out)):gb226 ≠ gb220));clear BK219;clear BK220;clear HB;have BK219:=n0_;have BK220:=n1_;have HB:=n2_;have BK226:=n3_;have GW226:=n4_;have GE226:=n5_;have NB219_226:=n6_;have NB226_219:=n7_;have NB220_226:=n8_;have NB226_220:=n9_;clear n0_ n1_ n2_ n3_ n4_ n5_ n6_ n7_ n8_ n9_;clear hb hbox hg;have hnb24:=NB226_219.out;have hnc24:=NB219_226.out;have hnb25:=NB226_220.out;have hnc25:=NB220_226.out;have hcz26_0:w23.cell? ⟨gb226,0,none⟩ = some (.string (⟨#[]⟩:ByteArray)):=(uj BK226.out 0).trans rfl;have hcz26_1:w23.cell? ⟨gb226,1,none⟩ = some (.string (⟨#[]⟩:ByteArray)):=(uj BK226.out 1).trans rfl;have hcz26_2:w23.cell? ⟨gb226,2,none⟩ = some (.string (⟨#[]⟩:ByteArray)):=(uj BK226.out 2).trans rfl;have hfz26_0:=uk BK226.out 0;have hfz26_1:=uk BK226.out 1;have hfz26_2:=uk BK226.out 2))
       have n0_:Aside0 ((((w23.setCell ⟨gb226,0,none⟩ (.string t222)).setCell ⟨gb226,1,none⟩ (.string t223)).setCell ⟨gb226,2,none⟩ (.string t224)).heap[gb219]? = some (.cells #[.slice none 0 0,.int .i64 x220001_1,.int .u64 x220002_1] 53 (0,0))):=⟨by (with_reducible repeat (first | refine ue ?_ _ | refine ug ?_ | refine uf ?_ _));refine u2m ?_ NB219_226.out _;(with_reducible repeat (first | refine ue ?_ _ | refine ug ?_ | refine uf ?_ _));refine u2m ?_ NB219_226.out _;(with_reducible repeat (first | refine ue ?_ _ | refine ug ?_ | refine uf ?_ _));refine u2m ?_ NB219_226.out _;(with_reducible repeat (first | refine ue ?_ _ | refine ug ?_ | refine uf ?_ _));exact BK219.out⟩
       have n1_:Aside0 ((((w23.setCell ⟨gb226,0,none⟩ (.string t222)).setCell ⟨gb226,1,none⟩ (.string t223)).setCell ⟨gb226,2,none⟩ (.string t224)).heap[gb220]? = some (.cells #[.string x221000_1,.string x221001_1,.string x221002_1] 34 (0,0))):=⟨by (with_reducible repeat (first | refine ue ?_ _ | refine ug ?_ | refine uf ?_ _));refine u2m ?_ NB220_226.out _;(with_reducible repeat (first | refine ue ?_ _ | refine ug ?_ | refine uf ?_ _));refine u2m ?_ NB220_226.out _;(with_reducible repeat (first | refine ue ?_ _ | refine ug ?_ | refine uf ?_ _));refine u2m ?_ NB220_226.out _;(with_reducible repeat (first | refine ue ?_ _ | refine ug ?_ | refine uf ?_ _));exact BK220.out⟩
       have n2_:Aside0 ((((w23.setCell ⟨gb226,0,none⟩ (.string t222)).setCell ⟨gb226,1,none⟩ (.string t223)).setCell ⟨gb226,2,none⟩ (.string t224)).heap[gb226]? = some (.cells #[.string t222,.string t223,.string t224] 34 (0,0))):=⟨by (with_reducible repeat (first | refine ue ?_ _ | refine ug ?_ | refine uf ?_ _));refine u2d (cs:=#[.string t222,.string t223,.string (⟨#[]⟩:ByteArray)]) ?_ 2 _ rfl;(with_reducible repeat (first | refine ue ?_ _ | refine ug ?_ | refine uf ?_ _));refine u2d (cs:=#[.string t222,.string (⟨#[]⟩:ByteArray),.string (⟨#[]⟩:ByteArray)]) ?_ 1 _ rfl;(with_reducible repeat (first | refine ue ?_ _ | refine ug ?_ | refine uf ?_ _));refine u2d (cs:=#[.string (⟨#[]⟩:ByteArray),.string (⟨#[]⟩:ByteArray),.string (⟨#[]⟩:ByteArray)]) ?_ 0 _ rfl;(with_reducible repeat (first | refine ue ?_ _ | refine ug ?_ | refine uf ?_ _));exact BK226.out⟩
       have n3_:Aside0 (Below w.heap.size w (((w23.setCell ⟨gb226,0,none⟩ (.string t222)).setCell ⟨gb226,1,none⟩ (.string t223)).setCell ⟨gb226,2,none⟩ (.string t224))):=⟨by repeat (first | (with_reducible first | exact HB.out | apply uc | apply ub | apply ud | refine ui ?_ GE219.out | refine ui ?_ GE220.out | refine ui ?_ GE226.out) | exact HB.out)⟩
       (try clear BK219)
       (try clear BK220)
       (try clear BK226)
       (try clear HB)
       generalize (((w23.setCell ⟨gb226,0,none⟩ (.string t222)).setCell ⟨gb226,1,none⟩ (.string t223)).setCell ⟨gb226,2,none⟩ (.string t224)) = w27 at n0_ n1_ n2_ n3_ ⊢
       have BK219:=n0_
       have BK220:=n1_
       have BK226:=n2_
       have HB:=n3_
       clear n0_ n1_ n2_ n3_
       have n0_:=Aside0.mk (ug BK219.out)
       have n1_:=Aside0.mk (ug BK220.out)
       have n2_:=Aside0.mk (ug BK226.out)
       have n3_:=Aside0.mk (ud HB.out)
       clear BK219
       clear BK220
       clear BK226
       clear HB
       have BK219:=n0_
       have BK220:=n1_
       have BK226:=n2_
       have HB:=n3_
       clear n0_ n1_ n2_ n3_
       refine start_ (n:=6) (S:=fun w' => w'.cell? ⟨gb226,0,none⟩ = some (.string t222) ∧ w'.cell? ⟨gb226,1,none⟩ = some (.string t223) ∧ w'.cell? ⟨gb226,2,none⟩ = some (.string t224)) (ds:=[]) #[false,false,false,false,false,false] (by kernel_rfl) rfl rfl ⟨(uj BK226.out 0).trans rfl,(uj BK226.out 1).trans rfl,(uj BK226.out 2).trans rfl⟩ (fun hHeld => ?_)
       generalize w27.drew = w28 at BK219 BK220 BK226 HB hHeld ⊢
       refine pure_ (i:=0) (N:=some 43) (v:=?_) (a':=?_) #[true,false,false,false,false,false] rfl rfl (by kernel_rfl) (fun _ _ _ h => h) (Or.inl ⟨by rfl,?_⟩) ?_ ?_
       rotate_left
       ·intro w'
        go_simp
        with_reducible rfl
       rotate_left
       ·simp only [Act.put,List.setIfInBounds_toArray,List.set_cons_zero,List.set_cons_succ,i64_w,i32_w]
        rfl
       refine take_ (i:=1) (N:=some 44) (v:=?_) (a':=?_) #[true,true,false,false,false,false] rfl rfl (by kernel_rfl) (fun _ _ _ h => h) (Or.inl ⟨by rfl,?_⟩) hHeld ?_ ?_
       rotate_left
       ·rintro w' ⟨s0,s1,s2⟩
        go_simp
        with_reducible rfl
       rotate_left
       ·simp only [Act.put,List.setIfInBounds_toArray,List.set_cons_zero,List.set_cons_succ,i64_w,i32_w]
        rfl
       refine one_ (i:=2) (N:=none) #[true,true,true,false,false,false] rfl rfl (by kernel_rfl) (by decide) (fun K hK => ?_)
       have hs29:w28.cell? ⟨gb219,0,none⟩ = some (.slice none 0 0):=(uj BK219.out 0).trans rfl
       have hfs29:=uk BK219.out 0
       have hns29_1:=NB220_219.out
       have hns29_2:=NB226_219.out
       have hms29_1:=NB219_220.out
       have hms29_2:=NB219_226.out
       have hs30:w28.cell? ⟨gb219,1,none⟩ = some (.int .i64 x220001_1):=(uj BK219.out 1).trans rfl
       have hfs30:=uk BK219.out 1
       have hns30_1:=NB220_219.out
       have hns30_2:=NB226_219.out
       have hms30_1:=NB219_220.out
       have hms30_2:=NB219_226.out
       have hs31:w28.cell? ⟨gb219,2,none⟩ = some (.int .u64 x220002_1):=(uj BK219.out 2).trans rfl
       have hfs31:=uk BK219.out 2
       have hns31_1:=NB220_219.out
       have hns31_2:=NB226_219.out
       have hms31_1:=NB219_220.out
       have hms31_2:=NB219_226.out
       refine skip_ (w1:=?_) (by rfl) rfl ?_ ?_
       rotate_left
       ·go_simp
        rfl
       refine hK.out _ _ ⟨((cell_far (p:=⟨gb219,_,none⟩) NB226_219.out _).trans (((cell_far (p:=⟨gb219,_,none⟩) NB226_219.out _).trans (((cell_far (p:=⟨gb219,_,none⟩) NB226_219.out _).trans (hHeld.1)))))),((cell_far (p:=⟨gb219,_,none⟩) NB226_219.out _).trans (((cell_far (p:=⟨gb219,_,none⟩) NB226_219.out _).trans (((cell_far (p:=⟨gb219,_,none⟩) NB226_219.out _).trans (hHeld.2.1)))))),((cell_far (p:=⟨gb219,_,none⟩) NB226_219.out _).trans (((cell_far (p:=⟨gb219,_,none⟩) NB226_219.out _).trans (((cell_far (p:=⟨gb219,_,none⟩) NB226_219.out _).trans (hHeld.2.2))))))⟩ (fun hHeld => ?_)
       clear hK K
       refine pure_ (i:=3) (N:=some 5) (v:=?_) (a':=?_) #[true,true,true,true,false,false] rfl rfl (by kernel_rfl) (fun _ _ _ h => h) (Or.inl ⟨by rfl,?_⟩) ?_ ?_
       rotate_left
       ·intro w'
        go_simp
        with_reducible rfl
       rotate_left
       ·simp only [Act.put,List.setIfInBounds_toArray,List.set_cons_zero,List.set_cons_succ,i64_w,i32_w]
        rfl
       refine one_ (i:=4) (N:=none) #[true,true,true,true,true,false] rfl rfl (by kernel_rfl) (by decide) (fun K hK => ?_)
       have hs32:w28.cell? ⟨gb220,0,none⟩ = some (.string x221000_1):=(uj BK220.out 0).trans rfl
       have hfs32:=uk BK220.out 0
       have hns32_0:=NB219_220.out
       have hns32_2:=NB226_220.out
       have hms32_0:=NB220_219.out
       have hms32_2:=NB220_226.out
       have hs33:w28.cell? ⟨gb220,1,none⟩ = some (.string x221001_1):=(uj BK220.out 1).trans rfl
       have hfs33:=uk BK220.out 1
       have hns33_0:=NB219_220.out
       have hns33_2:=NB226_220.out
       have hms33_0:=NB220_219.out
       have hms33_2:=NB220_226.out
       have hs34:w28.cell? ⟨gb220,2,none⟩ = some (.string x221002_1):=(uj BK220.out 2).trans rfl
       have hfs34:=uk BK220.out 2
       have hns34_0:=NB219_220.out
       have hns34_2:=NB226_220.out
       have hms34_0:=NB220_219.out
       have hms34_2:=NB220_226.out
       refine skip_ (w1:=?_) (by rfl) rfl ?_ ?_
       rotate_left
       ·go_simp
        rfl
       refine hK.out _ _ ⟨((cell_far (p:=⟨gb220,_,none⟩) NB226_220.out _).trans (((cell_far (p:=⟨gb220,_,none⟩) NB226_220.out _).trans (((cell_far (p:=⟨gb220,_,none⟩) NB226_220.out _).trans (hHeld.1)))))),((cell_far (p:=⟨gb220,_,none⟩) NB226_220.out _).trans (((cell_far (p:=⟨gb220,_,none⟩) NB226_220.out _).trans (((cell_far (p:=⟨gb220,_,none⟩) NB226_220.out _).trans (hHeld.2.1)))))),((cell_far (p:=⟨gb220,_,none⟩) NB226_220.out _).trans (((cell_far (p:=⟨gb220,_,none⟩) NB226_220.out _).trans (((cell_far (p:=⟨gb220,_,none⟩) NB226_220.out _).trans (hHeld.2.2))))))⟩ (fun hHeld => ?_)
       clear hK K
       refine pure_ (i:=5) (N:=some 7) (v:=?_) (a':=?_) #[true,true,true,true,true,true] rfl rfl (by kernel_rfl) (fun _ _ _ h => h) (Or.inl ⟨by rfl,?_⟩) ?_ ?_
       rotate_left
       ·intro w'
        go_simp
        with_reducible rfl
       rotate_left
       ·simp only [Act.put,List.setIfInBounds_toArray,List.set_cons_zero,List.set_cons_succ,i64_w,i32_w]
        rfl
       refine done_ (by kernel_rfl) ?_
       try go_wp2
       refine bodyPost_ret (results_list (rs:=[.cell 4 53,.tmp 5,.cell 6 34,.tmp 7]) rfl (by simp) (.cell gb219 53 #[.slice none 0 0,.int .i64 0,.int .u64 0] (0,0) _ rfl (by (with_reducible repeat (first | refine ue ?_ _ | refine ug ?_ | refine uf ?_ _));refine u2m ?_ NB219_220.out _;(with_reducible repeat (first | refine ue ?_ _ | refine ug ?_ | refine uf ?_ _));refine u2m ?_ NB219_220.out _;(with_reducible repeat (first | refine ue ?_ _ | refine ug ?_ | refine uf ?_ _));refine u2m ?_ NB219_220.out _;(with_reducible repeat (first | refine ue ?_ _ | refine ug ?_ | refine uf ?_ _));refine u2d (cs:=#[.slice none 0 0,.int .i64 0,.int .u64 x220002_1]) ?_ 2 _ rfl;(with_reducible repeat (first | refine ue ?_ _ | refine ug ?_ | refine uf ?_ _));refine u2d (cs:=#[.slice none 0 0,.int .i64 x220001_1,.int .u64 x220002_1]) ?_ 1 _ rfl;(with_reducible repeat (first | refine ue ?_ _ | refine ug ?_ | refine uf ?_ _));refine u2d (cs:=#[.slice none 0 0,.int .i64 x220001_1,.int .u64 x220002_1]) ?_ 0 _ rfl;(with_reducible repeat (first | refine ue ?_ _ | refine ug ?_ | refine uf ?_ _));exact BK219.out) Tryz.underlying53 rfl (by kernel_rfl) (.tmp (.cell gb220 34 #[.string t222,.string t223,.string t224] (0,0) _ rfl (by (with_reducible repeat (first | refine ue ?_ _ | refine ug ?_ | refine uf ?_ _));refine u2d (cs:=#[.string t222,.string t223,.string x221002_1]) ?_ 2 _ rfl;(with_reducible repeat (first | refine ue ?_ _ | refine ug ?_ | refine uf ?_ _));refine u2d (cs:=#[.string t222,.string x221001_1,.string x221002_1]) ?_ 1 _ rfl;(with_reducible repeat (first | refine ue ?_ _ | refine ug ?_ | refine uf ?_ _));refine u2d (cs:=#[.string x221000_1,.string x221001_1,.string x221002_1]) ?_ 0 _ rfl;(with_reducible repeat (first | refine ue ?_ _ | refine ug ?_ | refine uf ?_ _));refine u2m ?_ NB220_219.out _;(with_reducible repeat (first | refine ue ?_ _ | refine ug ?_ | refine uf ?_ _));refine u2m ?_ NB220_219.out _;(with_reducible repeat (first | refine ue ?_ _ | refine ug ?_ | refine uf ?_ _));refine u2m ?_ NB220_219.out _;(with_reducible repeat (first | refine ue ?_ _ | refine ug ?_ | refine uf ?_ _));exact BK220.out) Tryz.underlying34 rfl (by kernel_rfl) (.tmp .nil))))) rfl ?_
       exact ⟨_,by first | rfl | (simp [u1k,u1l] <;> rfl) | (simp [*,u1k,u1l] <;> rfl),by first | exact Kd.R_nil _ _ _ _ _ | exact Kd.N_nil _ _ _ _ _ | exact Kd.V_nil _ _ _ _ _ | exact Kd.Q_nil _ _ _ _ _ | exact Kd.S_nil _ _ _ _ _,by repeat (first | (with_reducible first | exact HB.out | apply uc | apply ub | apply ud | refine ui ?_ GE219.out | refine ui ?_ GE220.out | refine ui ?_ GE226.out) | exact HB.out)⟩
      ·replace c21:=Bool.eq_false_iff.mpr c21
       subst c21
       have H1:(some (([]:List (S66)),0,0,false,(⟨#[]⟩:ByteArray),(⟨#[]⟩:ByteArray),(⟨#[]⟩:ByteArray),280)) = some (r1,r2,r3,r4,r5,r6,r7,r8):=by rw [if_neg (show ¬ (false = true) by decide)] at H;exact H
       clear H
       have H:=H1
       clear H1
       simp only [Option.some.injEq,Prod.mk.injEq] at H
       obtain ⟨rfl,rfl,rfl,rfl,rfl,rfl,rfl,rfl⟩:=H
       go_wp2_with (first | ((with_reducible refine u1u (f:=23) rfl ?_);refine u3e (some 33) rfl rfl Tryz.func23 (by kernel_rfl) rfl #[.string a0,.string (⟨#[35]⟩:ByteArray)] rfl (by (try simp only [List.map_toArray,List.map_cons,List.map_nil]);first | done | rfl | (simp only [List.length_drop,List.length_take];rfl)) ?_;(with_reducible refine (uv.calls a0 (⟨#[35]⟩:ByteArray) true _ A18.out).mono ?_);rintro e w' ⟨rfl,⟨nd,rfl⟩⟩;refine ⟨_,rfl,?_⟩;(try (rw [u2z wr];generalize hq_:World.drewN wr _ = wr;have n0_:Aside0 (wr.heap[gb219]? = some (.cells #[.slice none 0 0,.int .i64 x220001_1,.int .u64 x220002_1] 53 (0,0))):=⟨by rw [← hq_];exact (by (with_reducible repeat (first | refine ue ?_ _ | refine ug ?_ | refine uf ?_ _));exact BK219.out)⟩;have n1_:Aside0 (wr.heap[gb220]? = some (.cells #[.string x221000_1,.string x221001_1,.string x221002_1] 34 (0,0))):=⟨by rw [← hq_];exact (by (with_reducible repeat (first | refine ue ?_ _ | refine ug ?_ | refine uf ?_ _));exact BK220.out)⟩;have n2_:Aside0 (Below w.heap.size w wr):=⟨by rw [← hq_];exact (by repeat (first | (with_reducible first | exact HB.out | apply uc | apply ub | apply ud | refine ui ?_ GE219.out | refine ui ?_ GE220.out) | exact HB.out))⟩;clear BK219 BK220 HB hq_;have BK219:=n0_;have BK220:=n1_;have HB:=n2_;clear n0_ n1_ n2_))) | ((with_reducible refine u1u (f:=52) rfl ?_);refine u3e (some 36) rfl rfl Tryz.func52 (by kernel_rfl) rfl #[.string a0] rfl (by (try simp only [List.map_toArray,List.map_cons,List.map_nil]);first | done | rfl | (simp only [List.length_drop,List.length_take];rfl)) ?_;(with_reducible refine (ur.calls k1 a0 t222 t223 t224 false _ A20.out).mono ?_);rintro e w35 ⟨rfl,hb⟩;refine ⟨_,rfl,?_⟩;have n0_:=Aside0.mk (u2c (g:=gb219) (o:=.cells #[.slice none 0 0,.int .i64 x220001_1,.int .u64 x220002_1] 53 (0,0)) (by (with_reducible repeat (first | refine ue ?_ _ | refine ug ?_ | refine uf ?_ _));exact BK219.out) hb);have n1_:=Aside0.mk (u2c (g:=gb220) (o:=.cells #[.string x221000_1,.string x221001_1,.string x221002_1] 34 (0,0)) (by (with_reducible repeat (first | refine ue ?_ _ | refine ug ?_ | refine uf ?_ _));exact BK220.out) hb);have n2_:=Aside0.mk (u1h (by repeat (first | (with_reducible first | exact HB.out | apply uc | apply ub | apply ud | refine ui ?_ GE219.out | refine ui ?_ GE220.out) | exact HB.out)) hb);clear BK219;clear BK220;clear HB;have BK219:=n0_;have BK220:=n1_;have HB:=n2_;clear n0_ n1_ n2_;(try clear hb);(try clear hb2);(try clear hk);(try clear hi)) | ((with_reducible refine u3f (N:=9) rfl ?_);refine u3c ?hg (N:=9) ?hd (cs:=#[.string (⟨#[]⟩:ByteArray),.string (⟨#[]⟩:ByteArray),.string (⟨#[]⟩:ByteArray)]) (t:=34) ?hr ?_;(case hd => rfl);(case hg => rfl);(case hr => first | (go_simp;done) | (go_simp;rfl));intro gb226 hg w36 hbox hb;have n0_:=Aside0.mk (u2c (g:=gb219) (o:=.cells #[.slice none 0 0,.int .i64 x220001_1,.int .u64 x220002_1] 53 (0,0)) (by (with_reducible repeat (first | refine ue ?_ _ | refine ug ?_ | refine uf ?_ _));exact BK219.out) hb);have n1_:=Aside0.mk (u2c (g:=gb220) (o:=.cells #[.string x221000_1,.string x221001_1,.string x221002_1] 34 (0,0)) (by (with_reducible repeat (first | refine ue ?_ _ | refine ug ?_ | refine uf ?_ _));exact BK220.out) hb);have n2_:=Aside0.mk (u1h (by repeat (first | (with_reducible first | exact HB.out | apply uc | apply ub | apply ud | refine ui ?_ GE219.out | refine ui ?_ GE220.out) | exact HB.out)) hb);have n3_:=Aside0.mk (hbox);have n4_:=Aside0.mk ((by rw [hg];exact (u1c (by repeat (first | (with_reducible first | exact HB.out | apply uc | apply ub | apply ud | refine ui ?_ GE219.out | refine ui ?_ GE220.out) | exact HB.out))):w.heap.size ≤ gb226));have n5_:=Aside0.mk ((by rw [hg];exact (u1c (by repeat (first | (with_reducible first | exact HB.out | apply uc | apply ub | apply ud | refine ui ?_ GE219.out | refine ui ?_ GE220.out) | exact HB.out))):w.heap.size ≤ gb226));have n6_:=Aside0.mk ((by rw [hg];exact Nat.ne_of_lt (u3g (g:=gb219) (o:=.cells #[.slice none 0 0,.int .i64 x220001_1,.int .u64 x220002_1] 53 (0,0)) (by (with_reducible repeat (first | refine ue ?_ _ | refine ug ?_ | refine uf ?_ _));exact BK219.out)):gb219 ≠ gb226));have n7_:=Aside0.mk ((by rw [hg];exact Nat.ne_of_gt (u3g (g:=gb219) (o:=.cells #[.slice none 0 0,.int .i64 x220001_1,.int .u64 x220002_1] 53 (0,0)) (by (with_reducible repeat (first | refine ue ?_ _ | refine ug ?_ | refine uf ?_ _));exact BK219.out)):gb226 ≠ gb219));have n8_:=Aside0.mk ((by rw [hg];exact Nat.ne_of_lt (u3g (g:=gb220) (o:=.cells #[.string x221000_1,.string x221001_1,.string x221002_1] 34 (0,0)) (by (with_reducible repeat (first | refine ue ?_ _ | refine ug ?_ | refine uf ?_ _));exact BK220.out)):gb220 ≠ gb226));have n9_:=Aside0.mk ((by rw [hg];exact Nat.ne_of_gt (u3g (g:=gb220) (o:=.cells #[.string x221000_1,.string x221001_1,.string x221002_1] 34 (0,0)) (by (with_reducible repeat (first | refine ue ?_ _ | refine ug ?_ | refine uf ?_ _));exact BK220.out)):gb226 ≠ gb220));clear BK219;clear BK220;clear HB;have BK219:=n0_;have BK220:=n1_;have HB:=n2_;have BK226:=n3_;have GW226:=n4_;have GE226:=n5_;have NB219_226:=n6_;have NB226_219:=n7_;have NB220_226:=n8_;have NB226_220:=n9_;clear n0_ n1_ n2_ n3_ n4_ n5_ n6_ n7_ n8_ n9_;clear hb hbox hg;have hnb37:=NB226_219.out;have hnc37:=NB219_226.out;have hnb38:=NB226_220.out;have hnc38:=NB220_226.out;have hcz39_0:w36.cell? ⟨gb226,0,none⟩ = some (.string (⟨#[]⟩:ByteArray)):=(uj BK226.out 0).trans rfl;have hcz39_1:w36.cell? ⟨gb226,1,none⟩ = some (.string (⟨#[]⟩:ByteArray)):=(uj BK226.out 1).trans rfl;have hcz39_2:w36.cell? ⟨gb226,2,none⟩ = some (.string (⟨#[]⟩:ByteArray)):=(uj BK226.out 2).trans rfl;have hfz39_0:=uk BK226.out 0;have hfz39_1:=uk BK226.out 1;have hfz39_2:=uk BK226.out 2;have hnb40:=NB219_220.out;have hnc40:=NB220_219.out;have hcz41_0:w36.cell? ⟨gb219,0,none⟩ = some (.slice none 0 0):=(uj BK219.out 0).trans rfl;have hcz41_1:w36.cell? ⟨gb219,1,none⟩ = some (.int .i64 x220001_1):=(uj BK219.out 1).trans rfl;have hcz41_2:w36.cell? ⟨gb219,2,none⟩ = some (.int .u64 x220002_1):=(uj BK219.out 2).trans rfl;have hfz41_0:=uk BK219.out 0;have hfz41_1:=uk BK219.out 1;have hfz41_2:=uk BK219.out 2;have hcz42_0:w36.cell? ⟨gb220,0,none⟩ = some (.string x221000_1):=(uj BK220.out 0).trans rfl;have hcz42_1:w36.cell? ⟨gb220,1,none⟩ = some (.string x221001_1):=(uj BK220.out 1).trans rfl;have hcz42_2:w36.cell? ⟨gb220,2,none⟩ = some (.string x221002_1):=(uj BK220.out 2).trans rfl;have hfz42_0:=uk BK220.out 0;have hfz42_1:=uk BK220.out 1;have hfz42_2:=uk BK220.out 2))
       refine bodyPost_ret (results_list (rs:=[.cell 4 53,.tmp 5,.cell 6 34,.tmp 7]) rfl (by simp) (.cell gb219 53 #[.slice none 0 0,.int .i64 0,.int .u64 0] (0,0) _ rfl (by (with_reducible repeat (first | refine ue ?_ _ | refine ug ?_ | refine uf ?_ _));refine u2m ?_ NB219_220.out _;(with_reducible repeat (first | refine ue ?_ _ | refine ug ?_ | refine uf ?_ _));refine u2m ?_ NB219_220.out _;(with_reducible repeat (first | refine ue ?_ _ | refine ug ?_ | refine uf ?_ _));refine u2m ?_ NB219_220.out _;(with_reducible repeat (first | refine ue ?_ _ | refine ug ?_ | refine uf ?_ _));refine u2d (cs:=#[.slice none 0 0,.int .i64 0,.int .u64 x220002_1]) ?_ 2 _ rfl;(with_reducible repeat (first | refine ue ?_ _ | refine ug ?_ | refine uf ?_ _));refine u2d (cs:=#[.slice none 0 0,.int .i64 x220001_1,.int .u64 x220002_1]) ?_ 1 _ rfl;(with_reducible repeat (first | refine ue ?_ _ | refine ug ?_ | refine uf ?_ _));refine u2d (cs:=#[.slice none 0 0,.int .i64 x220001_1,.int .u64 x220002_1]) ?_ 0 _ rfl;(with_reducible repeat (first | refine ue ?_ _ | refine ug ?_ | refine uf ?_ _));refine u2m ?_ NB219_226.out _;(with_reducible repeat (first | refine ue ?_ _ | refine ug ?_ | refine uf ?_ _));refine u2m ?_ NB219_226.out _;(with_reducible repeat (first | refine ue ?_ _ | refine ug ?_ | refine uf ?_ _));refine u2m ?_ NB219_226.out _;(with_reducible repeat (first | refine ue ?_ _ | refine ug ?_ | refine uf ?_ _));exact BK219.out) Tryz.underlying53 rfl (by kernel_rfl) (.tmp (.cell gb220 34 #[.string (⟨#[]⟩:ByteArray),.string (⟨#[]⟩:ByteArray),.string (⟨#[]⟩:ByteArray)] (0,0) _ rfl (by (with_reducible repeat (first | refine ue ?_ _ | refine ug ?_ | refine uf ?_ _));refine u2d (cs:=#[.string (⟨#[]⟩:ByteArray),.string (⟨#[]⟩:ByteArray),.string x221002_1]) ?_ 2 _ rfl;(with_reducible repeat (first | refine ue ?_ _ | refine ug ?_ | refine uf ?_ _));refine u2d (cs:=#[.string (⟨#[]⟩:ByteArray),.string x221001_1,.string x221002_1]) ?_ 1 _ rfl;(with_reducible repeat (first | refine ue ?_ _ | refine ug ?_ | refine uf ?_ _));refine u2d (cs:=#[.string x221000_1,.string x221001_1,.string x221002_1]) ?_ 0 _ rfl;(with_reducible repeat (first | refine ue ?_ _ | refine ug ?_ | refine uf ?_ _));refine u2m ?_ NB220_219.out _;(with_reducible repeat (first | refine ue ?_ _ | refine ug ?_ | refine uf ?_ _));refine u2m ?_ NB220_219.out _;(with_reducible repeat (first | refine ue ?_ _ | refine ug ?_ | refine uf ?_ _));refine u2m ?_ NB220_219.out _;(with_reducible repeat (first | refine ue ?_ _ | refine ug ?_ | refine uf ?_ _));refine u2m ?_ NB220_226.out _;(with_reducible repeat (first | refine ue ?_ _ | refine ug ?_ | refine uf ?_ _));refine u2m ?_ NB220_226.out _;(with_reducible repeat (first | refine ue ?_ _ | refine ug ?_ | refine uf ?_ _));refine u2m ?_ NB220_226.out _;(with_reducible repeat (first | refine ue ?_ _ | refine ug ?_ | refine uf ?_ _));exact BK220.out) Tryz.underlying34 rfl (by kernel_rfl) (.tmp .nil))))) rfl ?_
       exact ⟨_,by first | rfl | (simp [u1k,u1l] <;> rfl) | (simp [*,u1k,u1l] <;> rfl),by first | exact Kd.R_nil _ _ _ _ _ | exact Kd.N_nil _ _ _ _ _ | exact Kd.V_nil _ _ _ _ _ | exact Kd.Q_nil _ _ _ _ _ | exact Kd.S_nil _ _ _ _ _,by repeat (first | (with_reducible first | exact HB.out | apply uc | apply ub | apply ud | refine ui ?_ GE219.out | refine ui ?_ GE220.out | refine ui ?_ GE226.out) | exact HB.out)⟩
     ·replace c19:=Bool.eq_false_iff.mpr c19
      subst c19
      have H1:((u1f.f k1 a0).bind fun bt227 => (if bt227.1.toList = ([]:List UInt8) then (some (([]:List (S66)),0,0,false,(⟨#[]⟩:ByteArray),(⟨#[]⟩:ByteArray),(⟨#[]⟩:ByteArray),0)) else ((uo.f k1 a0 a1).bind fun bt229 => (if bt229.2.2.2 = true then (some (bt229.1,bt229.2.1,bt229.2.2.1,true,(⟨#[]⟩:ByteArray),(⟨#[]⟩:ByteArray),(⟨#[]⟩:ByteArray),0)) else (some (([]:List (S66)),0,0,false,(⟨#[]⟩:ByteArray),(⟨#[]⟩:ByteArray),(⟨#[]⟩:ByteArray),280)))))) = some (r1,r2,r3,r4,r5,r6,r7,r8):=by rw [if_neg (show ¬ (false = true) by decide)] at H;exact H
      clear H
      have H:=H1
      clear H1
      replace H:=Option.bind_eq_some_iff.mp H
      obtain ⟨⟨t227,t228⟩,A430,H⟩:=H
      replace H:(if t227.toList = ([]:List UInt8) then (some (([]:List (S66)),0,0,false,(⟨#[]⟩:ByteArray),(⟨#[]⟩:ByteArray),(⟨#[]⟩:ByteArray),0)) else ((uo.f k1 a0 a1).bind fun bt229 => (if bt229.2.2.2 = true then (some (bt229.1,bt229.2.1,bt229.2.2.1,true,(⟨#[]⟩:ByteArray),(⟨#[]⟩:ByteArray),(⟨#[]⟩:ByteArray),0)) else (some (([]:List (S66)),0,0,false,(⟨#[]⟩:ByteArray),(⟨#[]⟩:ByteArray),(⟨#[]⟩:ByteArray),280))))) = some (r1,r2,r3,r4,r5,r6,r7,r8):=H
      have A43:=Aside0.mk A430
      clear A430
      by_cases c44:t227.toList = ([]:List UInt8)
      ·rw [if_pos c44] at H
       have c44b0:(t227.toList == ([]:List UInt8)) = true:=beq_iff_eq.mpr c44
       have c44b1:(t227.toList != ([]:List UInt8)) = false:=bne_eq_false_iff_eq.mpr c44
       have c44b2:t227.toList.isEmpty = true:=by rw [c44];rfl
       clear c44
       simp only [Option.some.injEq,Prod.mk.injEq] at H
       obtain ⟨rfl,rfl,rfl,rfl,rfl,rfl,rfl,rfl⟩:=H
       go_wp2_with (first | ((with_reducible refine u1u (f:=23) rfl ?_);refine u3e (some 33) rfl rfl Tryz.func23 (by kernel_rfl) rfl #[.string a0,.string (⟨#[35]⟩:ByteArray)] rfl (by (try simp only [List.map_toArray,List.map_cons,List.map_nil]);first | done | rfl | (simp only [List.length_drop,List.length_take];rfl)) ?_;(with_reducible refine (uv.calls a0 (⟨#[35]⟩:ByteArray) false _ A18.out).mono ?_);rintro e w' ⟨rfl,⟨nd,rfl⟩⟩;refine ⟨_,rfl,?_⟩;(try (rw [u2z wr];generalize hq_:World.drewN wr _ = wr;have n0_:Aside0 (wr.heap[gb219]? = some (.cells #[.slice none 0 0,.int .i64 x220001_1,.int .u64 x220002_1] 53 (0,0))):=⟨by rw [← hq_];exact (by (with_reducible repeat (first | refine ue ?_ _ | refine ug ?_ | refine uf ?_ _));exact BK219.out)⟩;have n1_:Aside0 (wr.heap[gb220]? = some (.cells #[.string x221000_1,.string x221001_1,.string x221002_1] 34 (0,0))):=⟨by rw [← hq_];exact (by (with_reducible repeat (first | refine ue ?_ _ | refine ug ?_ | refine uf ?_ _));exact BK220.out)⟩;have n2_:Aside0 (Below w.heap.size w wr):=⟨by rw [← hq_];exact (by repeat (first | (with_reducible first | exact HB.out | apply uc | apply ub | apply ud | refine ui ?_ GE219.out | refine ui ?_ GE220.out) | exact HB.out))⟩;clear BK219 BK220 HB hq_;have BK219:=n0_;have BK220:=n1_;have HB:=n2_;clear n0_ n1_ n2_))) | ((with_reducible refine u1u (f:=53) rfl ?_);refine u3e (some 47) rfl rfl Tryz.func53 (by kernel_rfl) rfl #[.string a0] rfl (by (try simp only [List.map_toArray,List.map_cons,List.map_nil]);first | done | rfl | (simp only [List.length_drop,List.length_take];rfl)) ?_;(with_reducible refine (u1f.calls k1 a0 t227 t228 _ A43.out).mono ?_);rintro e w' ⟨rfl,⟨nd,rfl⟩⟩;refine ⟨_,rfl,?_⟩;(try (rw [u2z wr];generalize hq_:World.drewN wr _ = wr;have n0_:Aside0 (wr.heap[gb219]? = some (.cells #[.slice none 0 0,.int .i64 x220001_1,.int .u64 x220002_1] 53 (0,0))):=⟨by rw [← hq_];exact (by (with_reducible repeat (first | refine ue ?_ _ | refine ug ?_ | refine uf ?_ _));exact BK219.out)⟩;have n1_:Aside0 (wr.heap[gb220]? = some (.cells #[.string x221000_1,.string x221001_1,.string x221002_1] 34 (0,0))):=⟨by rw [← hq_];exact (by (with_reducible repeat (first | refine ue ?_ _ | refine ug ?_ | refine uf ?_ _));exact BK220.out)⟩;have n2_:Aside0 (Below w.heap.size w wr):=⟨by rw [← hq_];exact (by repeat (first | (with_reducible first | exact HB.out | apply uc | apply ub | apply ud | refine ui ?_ GE219.out | refine ui ?_ GE220.out) | exact HB.out))⟩;clear BK219 BK220 HB hq_;have BK219:=n0_;have BK220:=n1_;have HB:=n2_;clear n0_ n1_ n2_));have hnb45:=NB219_220.out;have hnc45:=NB220_219.out;have hcz46_0:wr.cell? ⟨gb219,0,none⟩ = some (.slice none 0 0):=(uj BK219.out 0).trans rfl;have hcz46_1:wr.cell? ⟨gb219,1,none⟩ = some (.int .i64 x220001_1):=(uj BK219.out 1).trans rfl;have hcz46_2:wr.cell? ⟨gb219,2,none⟩ = some (.int .u64 x220002_1):=(uj BK219.out 2).trans rfl;have hfz46_0:=uk BK219.out 0;have hfz46_1:=uk BK219.out 1;have hfz46_2:=uk BK219.out 2;have hcz47_0:wr.cell? ⟨gb220,0,none⟩ = some (.string x221000_1):=(uj BK220.out 0).trans rfl;have hcz47_1:wr.cell? ⟨gb220,1,none⟩ = some (.string x221001_1):=(uj BK220.out 1).trans rfl;have hcz47_2:wr.cell? ⟨gb220,2,none⟩ = some (.string x221002_1):=(uj BK220.out 2).trans rfl;have hfz47_0:=uk BK220.out 0;have hfz47_1:=uk BK220.out 1;have hfz47_2:=uk BK220.out 2))
       refine bodyPost_ret (results_list (rs:=[.cell 4 53,.tmp 5,.cell 6 34,.tmp 7]) rfl (by simp) (.cell gb219 53 #[.slice none 0 0,.int .i64 0,.int .u64 0] (0,0) _ rfl (by (with_reducible repeat (first | refine ue ?_ _ | refine ug ?_ | refine uf ?_ _));refine u2m ?_ NB219_220.out _;(with_reducible repeat (first | refine ue ?_ _ | refine ug ?_ | refine uf ?_ _));refine u2m ?_ NB219_220.out _;(with_reducible repeat (first | refine ue ?_ _ | refine ug ?_ | refine uf ?_ _));refine u2m ?_ NB219_220.out _;(with_reducible repeat (first | refine ue ?_ _ | refine ug ?_ | refine uf ?_ _));refine u2d (cs:=#[.slice none 0 0,.int .i64 0,.int .u64 x220002_1]) ?_ 2 _ rfl;(with_reducible repeat (first | refine ue ?_ _ | refine ug ?_ | refine uf ?_ _));refine u2d (cs:=#[.slice none 0 0,.int .i64 x220001_1,.int .u64 x220002_1]) ?_ 1 _ rfl;(with_reducible repeat (first | refine ue ?_ _ | refine ug ?_ | refine uf ?_ _));refine u2d (cs:=#[.slice none 0 0,.int .i64 x220001_1,.int .u64 x220002_1]) ?_ 0 _ rfl;(with_reducible repeat (first | refine ue ?_ _ | refine ug ?_ | refine uf ?_ _));exact BK219.out) Tryz.underlying53 rfl (by kernel_rfl) (.tmp (.cell gb220 34 #[.string (⟨#[]⟩:ByteArray),.string (⟨#[]⟩:ByteArray),.string (⟨#[]⟩:ByteArray)] (0,0) _ rfl (by (with_reducible repeat (first | refine ue ?_ _ | refine ug ?_ | refine uf ?_ _));refine u2d (cs:=#[.string (⟨#[]⟩:ByteArray),.string (⟨#[]⟩:ByteArray),.string x221002_1]) ?_ 2 _ rfl;(with_reducible repeat (first | refine ue ?_ _ | refine ug ?_ | refine uf ?_ _));refine u2d (cs:=#[.string (⟨#[]⟩:ByteArray),.string x221001_1,.string x221002_1]) ?_ 1 _ rfl;(with_reducible repeat (first | refine ue ?_ _ | refine ug ?_ | refine uf ?_ _));refine u2d (cs:=#[.string x221000_1,.string x221001_1,.string x221002_1]) ?_ 0 _ rfl;(with_reducible repeat (first | refine ue ?_ _ | refine ug ?_ | refine uf ?_ _));refine u2m ?_ NB220_219.out _;(with_reducible repeat (first | refine ue ?_ _ | refine ug ?_ | refine uf ?_ _));refine u2m ?_ NB220_219.out _;(with_reducible repeat (first | refine ue ?_ _ | refine ug ?_ | refine uf ?_ _));refine u2m ?_ NB220_219.out _;(with_reducible repeat (first | refine ue ?_ _ | refine ug ?_ | refine uf ?_ _));exact BK220.out) Tryz.underlying34 rfl (by kernel_rfl) (.tmp .nil))))) rfl ?_
       exact ⟨_,by first | rfl | (simp [u1k,u1l] <;> rfl) | (simp [*,u1k,u1l] <;> rfl),by first | exact Kd.R_nil _ _ _ _ _ | exact Kd.N_nil _ _ _ _ _ | exact Kd.V_nil _ _ _ _ _ | exact Kd.Q_nil _ _ _ _ _ | exact Kd.S_nil _ _ _ _ _,by repeat (first | (with_reducible first | exact HB.out | apply uc | apply ub | apply ud | refine ui ?_ GE219.out | refine ui ?_ GE220.out) | exact HB.out)⟩
      ·rw [if_neg c44] at H
       have c44b0:(t227.toList == ([]:List UInt8)) = false:=beq_eq_false_iff_ne.mpr c44
       have c44b1:(t227.toList != ([]:List UInt8)) = true:=bne_iff_ne.mpr c44
       have c44b2:t227.toList.isEmpty = false:=by cases e_:t227.toList with | nil => exact absurd e_ c44 | cons _ _ => rfl
       replace H:=Option.bind_eq_some_iff.mp H
       obtain ⟨⟨t229,t232,t233,t234⟩,A480,H⟩:=H
       replace H:(if t234 = true then (some (t229,t232,t233,true,(⟨#[]⟩:ByteArray),(⟨#[]⟩:ByteArray),(⟨#[]⟩:ByteArray),0)) else (some (([]:List (S66)),0,0,false,(⟨#[]⟩:ByteArray),(⟨#[]⟩:ByteArray),(⟨#[]⟩:ByteArray),280))) = some (r1,r2,r3,r4,r5,r6,r7,r8):=H
       have A48:=Aside0.mk A480
       clear A480
       by_cases c49:t234 = true
       ·subst c49
        have H1:(some (t229,t232,t233,true,(⟨#[]⟩:ByteArray),(⟨#[]⟩:ByteArray),(⟨#[]⟩:ByteArray),0)) = some (r1,r2,r3,r4,r5,r6,r7,r8):=by rw [if_pos rfl] at H;exact H
        clear H
        have H:=H1
        clear H1
        simp only [Option.some.injEq,Prod.mk.injEq] at H
        obtain ⟨rfl,rfl,rfl,rfl,rfl,rfl,rfl,rfl⟩:=H
        go_wp2_with (first | ((with_reducible refine u1u (f:=23) rfl ?_);refine u3e (some 33) rfl rfl Tryz.func23 (by kernel_rfl) rfl #[.string a0,.string (⟨#[35]⟩:ByteArray)] rfl (by (try simp only [List.map_toArray,List.map_cons,List.map_nil]);first | done | rfl | (simp only [List.length_drop,List.length_take];rfl)) ?_;(with_reducible refine (uv.calls a0 (⟨#[35]⟩:ByteArray) false _ A18.out).mono ?_);rintro e w' ⟨rfl,⟨nd,rfl⟩⟩;refine ⟨_,rfl,?_⟩;(try (rw [u2z wr];generalize hq_:World.drewN wr _ = wr;have n0_:Aside0 (wr.heap[gb219]? = some (.cells #[.slice none 0 0,.int .i64 x220001_1,.int .u64 x220002_1] 53 (0,0))):=⟨by rw [← hq_];exact (by (with_reducible repeat (first | refine ue ?_ _ | refine ug ?_ | refine uf ?_ _));exact BK219.out)⟩;have n1_:Aside0 (wr.heap[gb220]? = some (.cells #[.string x221000_1,.string x221001_1,.string x221002_1] 34 (0,0))):=⟨by rw [← hq_];exact (by (with_reducible repeat (first | refine ue ?_ _ | refine ug ?_ | refine uf ?_ _));exact BK220.out)⟩;have n2_:Aside0 (Below w.heap.size w wr):=⟨by rw [← hq_];exact (by repeat (first | (with_reducible first | exact HB.out | apply uc | apply ub | apply ud | refine ui ?_ GE219.out | refine ui ?_ GE220.out) | exact HB.out))⟩;clear BK219 BK220 HB hq_;have BK219:=n0_;have BK220:=n1_;have HB:=n2_;clear n0_ n1_ n2_))) | ((with_reducible refine u1u (f:=53) rfl ?_);refine u3e (some 47) rfl rfl Tryz.func53 (by kernel_rfl) rfl #[.string a0] rfl (by (try simp only [List.map_toArray,List.map_cons,List.map_nil]);first | done | rfl | (simp only [List.length_drop,List.length_take];rfl)) ?_;(with_reducible refine (u1f.calls k1 a0 t227 t228 _ A43.out).mono ?_);rintro e w' ⟨rfl,⟨nd,rfl⟩⟩;refine ⟨_,rfl,?_⟩;(try (rw [u2z wr];generalize hq_:World.drewN wr _ = wr;have n0_:Aside0 (wr.heap[gb219]? = some (.cells #[.slice none 0 0,.int .i64 x220001_1,.int .u64 x220002_1] 53 (0,0))):=⟨by rw [← hq_];exact (by (with_reducible repeat (first | refine ue ?_ _ | refine ug ?_ | refine uf ?_ _));exact BK219.out)⟩;have n1_:Aside0 (wr.heap[gb220]? = some (.cells #[.string x221000_1,.string x221001_1,.string x221002_1] 34 (0,0))):=⟨by rw [← hq_];exact (by (with_reducible repeat (first | refine ue ?_ _ | refine ug ?_ | refine uf ?_ _));exact BK220.out)⟩;have n2_:Aside0 (Below w.heap.size w wr):=⟨by rw [← hq_];exact (by repeat (first | (with_reducible first | exact HB.out | apply uc | apply ub | apply ud | refine ui ?_ GE219.out | refine ui ?_ GE220.out) | exact HB.out))⟩;clear BK219 BK220 HB hq_;have BK219:=n0_;have BK220:=n1_;have HB:=n2_;clear n0_ n1_ n2_))) | ((with_reducible refine u1u (f:=54) rfl ?_);refine u3e (some 57) rfl rfl Tryz.func54 (by kernel_rfl) rfl #[.string a0,.int .i64 a1] rfl (by (try simp only [List.map_toArray,List.map_cons,List.map_nil]);first | done | rfl | (simp only [List.length_drop,List.length_take];rfl)) ?_;(with_reducible refine (uo.calls k1 a0 a1 t229 t232 t233 true _ A48.out).mono ?_);rintro e w50 ⟨v230,rfl,ho0,hb⟩;refine ⟨_,rfl,?_⟩;have n0_:=Aside0.mk (Kd.R_lower ho0 (u1c (by repeat (first | (with_reducible first | exact HB.out | apply uc | apply ub | apply ud | refine ui ?_ GE219.out | refine ui ?_ GE220.out) | exact HB.out))));have n1_:=Aside0.mk (u2c (g:=gb219) (o:=.cells #[.slice none 0 0,.int .i64 x220001_1,.int .u64 x220002_1] 53 (0,0)) (by (with_reducible repeat (first | refine ue ?_ _ | refine ug ?_ | refine uf ?_ _));exact BK219.out) hb);have n2_:=Aside0.mk (u2c (g:=gb220) (o:=.cells #[.string x221000_1,.string x221001_1,.string x221002_1] 34 (0,0)) (by (with_reducible repeat (first | refine ue ?_ _ | refine ug ?_ | refine uf ?_ _));exact BK220.out) hb);have n3_:=Aside0.mk (u1h (by repeat (first | (with_reducible first | exact HB.out | apply uc | apply ub | apply ud | refine ui ?_ GE219.out | refine ui ?_ GE220.out) | exact HB.out)) hb);clear BK219;clear BK220;clear HB;have HO231:=n0_;have BK219:=n1_;have BK220:=n2_;have HB:=n3_;clear n0_ n1_ n2_ n3_;(try clear hb);(try clear hb2);(try clear hk);(try clear hi);(try clear ho0)) | ((with_reducible refine u3f (N:=13) rfl ?_);refine u3c ?hg (N:=13) ?hd (cs:=#[.slice none 0 0,.int .i64 0,.int .u64 0]) (t:=53) ?hr ?_;(case hd => rfl);(case hg => rfl);(case hr => first | (go_simp;done) | (go_simp;rfl));intro gb235 hg w51 hbox hb;have n0_:=Aside0.mk (Kd.R_below (by (with_reducible repeat (first | apply Kd.R_alloc | apply Kd.R_drewN | apply Kd.R_drew));exact HO231.out) hb);have n1_:=Aside0.mk (u2c (g:=gb219) (o:=.cells #[.slice none 0 0,.int .i64 x220001_1,.int .u64 x220002_1] 53 (0,0)) (by (with_reducible repeat (first | refine ue ?_ _ | refine ug ?_ | refine uf ?_ _));exact BK219.out) hb);have n2_:=Aside0.mk (u2c (g:=gb220) (o:=.cells #[.string x221000_1,.string x221001_1,.string x221002_1] 34 (0,0)) (by (with_reducible repeat (first | refine ue ?_ _ | refine ug ?_ | refine uf ?_ _));exact BK220.out) hb);have n3_:=Aside0.mk (u1h (by repeat (first | (with_reducible first | exact HB.out | apply uc | apply ub | apply ud | refine ui ?_ GE219.out | refine ui ?_ GE220.out) | exact HB.out)) hb);have n4_:=Aside0.mk (hbox);have n5_:=Aside0.mk ((by rw [hg];exact (u1c (by repeat (first | (with_reducible first | exact HB.out | apply uc | apply ub | apply ud | refine ui ?_ GE219.out | refine ui ?_ GE220.out) | exact HB.out))):w.heap.size ≤ gb235));have n6_:=Aside0.mk ((by rw [hg];exact (u1c (by repeat (first | (with_reducible first | exact HB.out | apply uc | apply ub | apply ud | refine ui ?_ GE219.out | refine ui ?_ GE220.out) | exact HB.out))):w.heap.size ≤ gb235));have n7_:=Aside0.mk ((by rw [hg];exact Nat.ne_of_lt (u3g (g:=gb219) (o:=.cells #[.slice none 0 0,.int .i64 x220001_1,.int .u64 x220002_1] 53 (0,0)) (by (with_reducible repeat (first | refine ue ?_ _ | refine ug ?_ | refine uf ?_ _));exact BK219.out)):gb219 ≠ gb235));have n8_:=Aside0.mk ((by rw [hg];exact Nat.ne_of_gt (u3g (g:=gb219) (o:=.cells #[.slice none 0 0,.int .i64 x220001_1,.int .u64 x220002_1] 53 (0,0)) (by (with_reducible repeat (first | refine ue ?_ _ | refine ug ?_ | refine uf ?_ _));exact BK219.out)):gb235 ≠ gb219));have n9_:=Aside0.mk ((by rw [hg];exact Nat.ne_of_lt (u3g (g:=gb220) (o:=.cells #[.string x221000_1,.string x221001_1,.string x221002_1] 34 (0,0)) (by (with_reducible repeat (first | refine ue ?_ _ | refine ug ?_ | refine uf ?_ _));exact BK220.out)):gb220 ≠ gb235));have n10_:=Aside0.mk ((by rw [hg];exact Nat.ne_of_gt (u3g (g:=gb220) (o:=.cells #[.string x221000_1,.string x221001_1,.string x221002_1] 34 (0,0)) (by (with_reducible repeat (first | refine ue ?_ _ | refine ug ?_ | refine uf ?_ _));exact BK220.out)):gb235 ≠ gb220));clear HO231;clear BK219;clear BK220;clear HB;have HO231:=n0_;have BK219:=n1_;have BK220:=n2_;have HB:=n3_;have BK235:=n4_;have GW235:=n5_;have GE235:=n6_;have NB219_235:=n7_;have NB235_219:=n8_;have NB220_235:=n9_;have NB235_220:=n10_;clear n0_ n1_ n2_ n3_ n4_ n5_ n6_ n7_ n8_ n9_ n10_;clear hb hbox hg;obtain ⟨Ao52,co52,eo52⟩:=Kd.R_slice HO231.out;subst eo52;have hnb53:=NB235_219.out;have hnc53:=NB219_235.out;have hnb54:=NB235_220.out;have hnc54:=NB220_235.out;have hcz55_0:w51.cell? ⟨gb235,0,none⟩ = some (.slice none 0 0):=(uj BK235.out 0).trans rfl;have hcz55_1:w51.cell? ⟨gb235,1,none⟩ = some (.int .i64 0):=(uj BK235.out 1).trans rfl;have hcz55_2:w51.cell? ⟨gb235,2,none⟩ = some (.int .u64 0):=(uj BK235.out 2).trans rfl;have hfz55_0:=uk BK235.out 0;have hfz55_1:=uk BK235.out 1;have hfz55_2:=uk BK235.out 2;have hnb56:=NB219_220.out;have hnc56:=NB220_219.out;have hcz57_0:w51.cell? ⟨gb219,0,none⟩ = some (.slice none 0 0):=(uj BK219.out 0).trans rfl;have hcz57_1:w51.cell? ⟨gb219,1,none⟩ = some (.int .i64 x220001_1):=(uj BK219.out 1).trans rfl;have hcz57_2:w51.cell? ⟨gb219,2,none⟩ = some (.int .u64 x220002_1):=(uj BK219.out 2).trans rfl;have hfz57_0:=uk BK219.out 0;have hfz57_1:=uk BK219.out 1;have hfz57_2:=uk BK219.out 2;have hcz58_0:w51.cell? ⟨gb220,0,none⟩ = some (.string x221000_1):=(uj BK220.out 0).trans rfl;have hcz58_1:w51.cell? ⟨gb220,1,none⟩ = some (.string x221001_1):=(uj BK220.out 1).trans rfl;have hcz58_2:w51.cell? ⟨gb220,2,none⟩ = some (.string x221002_1):=(uj BK220.out 2).trans rfl;have hfz58_0:=uk BK220.out 0;have hfz58_1:=uk BK220.out 1;have hfz58_2:=uk BK220.out 2))
        refine bodyPost_ret (results_list (rs:=[.cell 4 53,.tmp 5,.cell 6 34,.tmp 7]) rfl (by simp) (.cell gb219 53 #[.slice Ao52 t229.length co52,.int .i64 t232,.int .u64 t233] (0,0) _ rfl (by (with_reducible repeat (first | refine ue ?_ _ | refine ug ?_ | refine uf ?_ _));refine u2m ?_ NB219_220.out _;(with_reducible repeat (first | refine ue ?_ _ | refine ug ?_ | refine uf ?_ _));refine u2m ?_ NB219_220.out _;(with_reducible repeat (first | refine ue ?_ _ | refine ug ?_ | refine uf ?_ _));refine u2m ?_ NB219_220.out _;(with_reducible repeat (first | refine ue ?_ _ | refine ug ?_ | refine uf ?_ _));refine u2d (cs:=#[.slice Ao52 t229.length co52,.int .i64 t232,.int .u64 x220002_1]) ?_ 2 _ rfl;(with_reducible repeat (first | refine ue ?_ _ | refine ug ?_ | refine uf ?_ _));refine u2d (cs:=#[.slice Ao52 t229.length co52,.int .i64 x220001_1,.int .u64 x220002_1]) ?_ 1 _ rfl;(with_reducible repeat (first | refine ue ?_ _ | refine ug ?_ | refine uf ?_ _));refine u2d (cs:=#[.slice none 0 0,.int .i64 x220001_1,.int .u64 x220002_1]) ?_ 0 _ rfl;(with_reducible repeat (first | refine ue ?_ _ | refine ug ?_ | refine uf ?_ _));refine u2m ?_ NB219_235.out _;(with_reducible repeat (first | refine ue ?_ _ | refine ug ?_ | refine uf ?_ _));refine u2m ?_ NB219_235.out _;(with_reducible repeat (first | refine ue ?_ _ | refine ug ?_ | refine uf ?_ _));refine u2m ?_ NB219_235.out _;(with_reducible repeat (first | refine ue ?_ _ | refine ug ?_ | refine uf ?_ _));exact BK219.out) Tryz.underlying53 rfl (by kernel_rfl) (.tmp (.cell gb220 34 #[.string (⟨#[]⟩:ByteArray),.string (⟨#[]⟩:ByteArray),.string (⟨#[]⟩:ByteArray)] (0,0) _ rfl (by (with_reducible repeat (first | refine ue ?_ _ | refine ug ?_ | refine uf ?_ _));refine u2d (cs:=#[.string (⟨#[]⟩:ByteArray),.string (⟨#[]⟩:ByteArray),.string x221002_1]) ?_ 2 _ rfl;(with_reducible repeat (first | refine ue ?_ _ | refine ug ?_ | refine uf ?_ _));refine u2d (cs:=#[.string (⟨#[]⟩:ByteArray),.string x221001_1,.string x221002_1]) ?_ 1 _ rfl;(with_reducible repeat (first | refine ue ?_ _ | refine ug ?_ | refine uf ?_ _));refine u2d (cs:=#[.string x221000_1,.string x221001_1,.string x221002_1]) ?_ 0 _ rfl;(with_reducible repeat (first | refine ue ?_ _ | refine ug ?_ | refine uf ?_ _));refine u2m ?_ NB220_219.out _;(with_reducible repeat (first | refine ue ?_ _ | refine ug ?_ | refine uf ?_ _));refine u2m ?_ NB220_219.out _;(with_reducible repeat (first | refine ue ?_ _ | refine ug ?_ | refine uf ?_ _));refine u2m ?_ NB220_219.out _;(with_reducible repeat (first | refine ue ?_ _ | refine ug ?_ | refine uf ?_ _));refine u2m ?_ NB220_235.out _;(with_reducible repeat (first | refine ue ?_ _ | refine ug ?_ | refine uf ?_ _));refine u2m ?_ NB220_235.out _;(with_reducible repeat (first | refine ue ?_ _ | refine ug ?_ | refine uf ?_ _));refine u2m ?_ NB220_235.out _;(with_reducible repeat (first | refine ue ?_ _ | refine ug ?_ | refine uf ?_ _));exact BK220.out) Tryz.underlying34 rfl (by kernel_rfl) (.tmp .nil))))) rfl ?_
        exact ⟨_,by first | rfl | (simp [u1k,u1l] <;> rfl) | (simp [*,u1k,u1l] <;> rfl),by (with_reducible repeat (first | apply Kd.R_alloc | apply Kd.R_drewN | apply Kd.R_drew));exact Kd.R_mono (Kd.R_far (p:=⟨gb220,2,none⟩) (Kd.R_far (p:=⟨gb220,1,none⟩) (Kd.R_far (p:=⟨gb220,0,none⟩) (Kd.R_far (p:=⟨gb219,2,none⟩) (Kd.R_far (p:=⟨gb219,1,none⟩) (Kd.R_far (p:=⟨gb219,0,none⟩) (Kd.R_far (p:=⟨gb235,2,none⟩) (Kd.R_far (p:=⟨gb235,1,none⟩) (Kd.R_far (p:=⟨gb235,0,none⟩) (Kd.R_types (Kd.R_types (Kd.R_types HO231.out BK235.out (by decide)) BK219.out (by decide)) BK220.out (by decide)) (fun _ hk => hk.1.1.2) (.slice Ao52 t229.length co52)) (fun _ hk => hk.1.1.2) (.int .i64 t232)) (fun _ hk => hk.1.1.2) (.int .u64 t233)) (fun _ hk => hk.1.2) (.slice Ao52 t229.length co52)) (fun _ hk => hk.1.2) (.int .i64 t232)) (fun _ hk => hk.1.2) (.int .u64 t233)) (fun _ hk => hk.2) (.string (⟨#[]⟩:ByteArray))) (fun _ hk => hk.2) (.string (⟨#[]⟩:ByteArray))) (fun _ hk => hk.2) (.string (⟨#[]⟩:ByteArray))) (fun _ hk => trivial),by repeat (first | (with_reducible first | exact HB.out | apply uc | apply ub | apply ud | refine ui ?_ GE219.out | refine ui ?_ GE220.out | refine ui ?_ GE235.out) | exact HB.out)⟩
       ·replace c49:=Bool.eq_false_iff.mpr c49
        subst c49
        have H1:(some (([]:List (S66)),0,0,false,(⟨#[]⟩:ByteArray),(⟨#[]⟩:ByteArray),(⟨#[]⟩:ByteArray),280)) = some (r1,r2,r3,r4,r5,r6,r7,r8):=by rw [if_neg (show ¬ (false = true) by decide)] at H;exact H
        clear H
        have H:=H1
        clear H1
        simp only [Option.some.injEq,Prod.mk.injEq] at H
        obtain ⟨rfl,rfl,rfl,rfl,rfl,rfl,rfl,rfl⟩:=H
        go_wp2_with (first | ((with_reducible refine u1u (f:=23) rfl ?_);refine u3e (some 33) rfl rfl Tryz.func23 (by kernel_rfl) rfl #[.string a0,.string (⟨#[35]⟩:ByteArray)] rfl (by (try simp only [List.map_toArray,List.map_cons,List.map_nil]);first | done | rfl | (simp only [List.length_drop,List.length_take];rfl)) ?_;(with_reducible refine (uv.calls a0 (⟨#[35]⟩:ByteArray) false _ A18.out).mono ?_);rintro e w' ⟨rfl,⟨nd,rfl⟩⟩;refine ⟨_,rfl,?_⟩;(try (rw [u2z wr];generalize hq_:World.drewN wr _ = wr;have n0_:Aside0 (wr.heap[gb219]? = some (.cells #[.slice none 0 0,.int .i64 x220001_1,.int .u64 x220002_1] 53 (0,0))):=⟨by rw [← hq_];exact (by (with_reducible repeat (first | refine ue ?_ _ | refine ug ?_ | refine uf ?_ _));exact BK219.out)⟩;have n1_:Aside0 (wr.heap[gb220]? = some (.cells #[.string x221000_1,.string x221001_1,.string x221002_1] 34 (0,0))):=⟨by rw [← hq_];exact (by (with_reducible repeat (first | refine ue ?_ _ | refine ug ?_ | refine uf ?_ _));exact BK220.out)⟩;have n2_:Aside0 (Below w.heap.size w wr):=⟨by rw [← hq_];exact (by repeat (first | (with_reducible first | exact HB.out | apply uc | apply ub | apply ud | refine ui ?_ GE219.out | refine ui ?_ GE220.out) | exact HB.out))⟩;clear BK219 BK220 HB hq_;have BK219:=n0_;have BK220:=n1_;have HB:=n2_;clear n0_ n1_ n2_))) | ((with_reducible refine u1u (f:=53) rfl ?_);refine u3e (some 47) rfl rfl Tryz.func53 (by kernel_rfl) rfl #[.string a0] rfl (by (try simp only [List.map_toArray,List.map_cons,List.map_nil]);first | done | rfl | (simp only [List.length_drop,List.length_take];rfl)) ?_;(with_reducible refine (u1f.calls k1 a0 t227 t228 _ A43.out).mono ?_);rintro e w' ⟨rfl,⟨nd,rfl⟩⟩;refine ⟨_,rfl,?_⟩;(try (rw [u2z wr];generalize hq_:World.drewN wr _ = wr;have n0_:Aside0 (wr.heap[gb219]? = some (.cells #[.slice none 0 0,.int .i64 x220001_1,.int .u64 x220002_1] 53 (0,0))):=⟨by rw [← hq_];exact (by (with_reducible repeat (first | refine ue ?_ _ | refine ug ?_ | refine uf ?_ _));exact BK219.out)⟩;have n1_:Aside0 (wr.heap[gb220]? = some (.cells #[.string x221000_1,.string x221001_1,.string x221002_1] 34 (0,0))):=⟨by rw [← hq_];exact (by (with_reducible repeat (first | refine ue ?_ _ | refine ug ?_ | refine uf ?_ _));exact BK220.out)⟩;have n2_:Aside0 (Below w.heap.size w wr):=⟨by rw [← hq_];exact (by repeat (first | (with_reducible first | exact HB.out | apply uc | apply ub | apply ud | refine ui ?_ GE219.out | refine ui ?_ GE220.out) | exact HB.out))⟩;clear BK219 BK220 HB hq_;have BK219:=n0_;have BK220:=n1_;have HB:=n2_;clear n0_ n1_ n2_))) | ((with_reducible refine u1u (f:=54) rfl ?_);refine u3e (some 57) rfl rfl Tryz.func54 (by kernel_rfl) rfl #[.string a0,.int .i64 a1] rfl (by (try simp only [List.map_toArray,List.map_cons,List.map_nil]);first | done | rfl | (simp only [List.length_drop,List.length_take];rfl)) ?_;(with_reducible refine (uo.calls k1 a0 a1 t229 t232 t233 false _ A48.out).mono ?_);rintro e w59 ⟨v230,rfl,ho0,hb⟩;refine ⟨_,rfl,?_⟩;have n0_:=Aside0.mk (Kd.R_lower ho0 (u1c (by repeat (first | (with_reducible first | exact HB.out | apply uc | apply ub | apply ud | refine ui ?_ GE219.out | refine ui ?_ GE220.out) | exact HB.out))));have n1_:=Aside0.mk (u2c (g:=gb219) (o:=.cells #[.slice none 0 0,.int .i64 x220001_1,.int .u64 x220002_1] 53 (0,0)) (by (with_reducible repeat (first | refine ue ?_ _ | refine ug ?_ | refine uf ?_ _));exact BK219.out) hb);have n2_:=Aside0.mk (u2c (g:=gb220) (o:=.cells #[.string x221000_1,.string x221001_1,.string x221002_1] 34 (0,0)) (by (with_reducible repeat (first | refine ue ?_ _ | refine ug ?_ | refine uf ?_ _));exact BK220.out) hb);have n3_:=Aside0.mk (u1h (by repeat (first | (with_reducible first | exact HB.out | apply uc | apply ub | apply ud | refine ui ?_ GE219.out | refine ui ?_ GE220.out) | exact HB.out)) hb);clear BK219;clear BK220;clear HB;have HO231:=n0_;have BK219:=n1_;have BK220:=n2_;have HB:=n3_;clear n0_ n1_ n2_ n3_;(try clear hb);(try clear hb2);(try clear hk);(try clear hi);(try clear ho0)) | ((with_reducible refine u3f (N:=13) rfl ?_);refine u3c ?hg (N:=13) ?hd (cs:=#[.slice none 0 0,.int .i64 0,.int .u64 0]) (t:=53) ?hr ?_;(case hd => rfl);(case hg => rfl);(case hr => first | (go_simp;done) | (go_simp;rfl));intro gb235 hg w60 hbox hb;have n0_:=Aside0.mk (Kd.R_below (by (with_reducible repeat (first | apply Kd.R_alloc | apply Kd.R_drewN | apply Kd.R_drew));exact HO231.out) hb);have n1_:=Aside0.mk (u2c (g:=gb219) (o:=.cells #[.slice none 0 0,.int .i64 x220001_1,.int .u64 x220002_1] 53 (0,0)) (by (with_reducible repeat (first | refine ue ?_ _ | refine ug ?_ | refine uf ?_ _));exact BK219.out) hb);have n2_:=Aside0.mk (u2c (g:=gb220) (o:=.cells #[.string x221000_1,.string x221001_1,.string x221002_1] 34 (0,0)) (by (with_reducible repeat (first | refine ue ?_ _ | refine ug ?_ | refine uf ?_ _));exact BK220.out) hb);have n3_:=Aside0.mk (u1h (by repeat (first | (with_reducible first | exact HB.out | apply uc | apply ub | apply ud | refine ui ?_ GE219.out | refine ui ?_ GE220.out) | exact HB.out)) hb);have n4_:=Aside0.mk (hbox);have n5_:=Aside0.mk ((by rw [hg];exact (u1c (by repeat (first | (with_reducible first | exact HB.out | apply uc | apply ub | apply ud | refine ui ?_ GE219.out | refine ui ?_ GE220.out) | exact HB.out))):w.heap.size ≤ gb235));have n6_:=Aside0.mk ((by rw [hg];exact (u1c (by repeat (first | (with_reducible first | exact HB.out | apply uc | apply ub | apply ud | refine ui ?_ GE219.out | refine ui ?_ GE220.out) | exact HB.out))):w.heap.size ≤ gb235));have n7_:=Aside0.mk ((by rw [hg];exact Nat.ne_of_lt (u3g (g:=gb219) (o:=.cells #[.slice none 0 0,.int .i64 x220001_1,.int .u64 x220002_1] 53 (0,0)) (by (with_reducible repeat (first | refine ue ?_ _ | refine ug ?_ | refine uf ?_ _));exact BK219.out)):gb219 ≠ gb235));have n8_:=Aside0.mk ((by rw [hg];exact Nat.ne_of_gt (u3g (g:=gb219) (o:=.cells #[.slice none 0 0,.int .i64 x220001_1,.int .u64 x220002_1] 53 (0,0)) (by (with_reducible repeat (first | refine ue ?_ _ | refine ug ?_ | refine uf ?_ _));exact BK219.out)):gb235 ≠ gb219));have n9_:=Aside0.mk ((by rw [hg];exact Nat.ne_of_lt (u3g (g:=gb220) (o:=.cells #[.string x221000_1,.string x221001_1,.string x221002_1] 34 (0,0)) (by (with_reducible repeat (first | refine ue ?_ _ | refine ug ?_ | refine uf ?_ _));exact BK220.out)):gb220 ≠ gb235));have n10_:=Aside0.mk ((by rw [hg];exact Nat.ne_of_gt (u3g (g:=gb220) (o:=.cells #[.string x221000_1,.string x221001_1,.string x221002_1] 34 (0,0)) (by (with_reducible repeat (first | refine ue ?_ _ | refine ug ?_ | refine uf ?_ _));exact BK220.out)):gb235 ≠ gb220));clear HO231;clear BK219;clear BK220;clear HB;have HO231:=n0_;have BK219:=n1_;have BK220:=n2_;have HB:=n3_;have BK235:=n4_;have GW235:=n5_;have GE235:=n6_;have NB219_235:=n7_;have NB235_219:=n8_;have NB220_235:=n9_;have NB235_220:=n10_;clear n0_ n1_ n2_ n3_ n4_ n5_ n6_ n7_ n8_ n9_ n10_;clear hb hbox hg;obtain ⟨Ao61,co61,eo61⟩:=Kd.R_slice HO231.out;subst eo61;have hnb62:=NB235_219.out;have hnc62:=NB219_235.out;have hnb63:=NB235_220.out;have hnc63:=NB220_235.out;have hcz64_0:w60.cell? ⟨gb235,0,none⟩ = some (.slice none 0 0):=(uj BK235.out 0).trans rfl;have hcz64_1:w60.cell? ⟨gb235,1,none⟩ = some (.int .i64 0):=(uj BK235.out 1).trans rfl;have hcz64_2:w60.cell? ⟨gb235,2,none⟩ = some (.int .u64 0):=(uj BK235.out 2).trans rfl;have hfz64_0:=uk BK235.out 0;have hfz64_1:=uk BK235.out 1;have hfz64_2:=uk BK235.out 2;have hnb65:=NB219_220.out;have hnc65:=NB220_219.out;have hcz66_0:w60.cell? ⟨gb219,0,none⟩ = some (.slice none 0 0):=(uj BK219.out 0).trans rfl;have hcz66_1:w60.cell? ⟨gb219,1,none⟩ = some (.int .i64 x220001_1):=(uj BK219.out 1).trans rfl;have hcz66_2:w60.cell? ⟨gb219,2,none⟩ = some (.int .u64 x220002_1):=(uj BK219.out 2).trans rfl;have hfz66_0:=uk BK219.out 0;have hfz66_1:=uk BK219.out 1;have hfz66_2:=uk BK219.out 2;have hcz67_0:w60.cell? ⟨gb220,0,none⟩ = some (.string x221000_1):=(uj BK220.out 0).trans rfl;have hcz67_1:w60.cell? ⟨gb220,1,none⟩ = some (.string x221001_1):=(uj BK220.out 1).trans rfl;have hcz67_2:w60.cell? ⟨gb220,2,none⟩ = some (.string x221002_1):=(uj BK220.out 2).trans rfl;have hfz67_0:=uk BK220.out 0;have hfz67_1:=uk BK220.out 1;have hfz67_2:=uk BK220.out 2))
        refine bodyPost_ret (results_list (rs:=[.cell 4 53,.tmp 5,.cell 6 34,.tmp 7]) rfl (by simp) (.cell gb219 53 #[.slice none 0 0,.int .i64 0,.int .u64 0] (0,0) _ rfl (by (with_reducible repeat (first | refine ue ?_ _ | refine ug ?_ | refine uf ?_ _));refine u2m ?_ NB219_220.out _;(with_reducible repeat (first | refine ue ?_ _ | refine ug ?_ | refine uf ?_ _));refine u2m ?_ NB219_220.out _;(with_reducible repeat (first | refine ue ?_ _ | refine ug ?_ | refine uf ?_ _));refine u2m ?_ NB219_220.out _;(with_reducible repeat (first | refine ue ?_ _ | refine ug ?_ | refine uf ?_ _));refine u2d (cs:=#[.slice none 0 0,.int .i64 0,.int .u64 x220002_1]) ?_ 2 _ rfl;(with_reducible repeat (first | refine ue ?_ _ | refine ug ?_ | refine uf ?_ _));refine u2d (cs:=#[.slice none 0 0,.int .i64 x220001_1,.int .u64 x220002_1]) ?_ 1 _ rfl;(with_reducible repeat (first | refine ue ?_ _ | refine ug ?_ | refine uf ?_ _));refine u2d (cs:=#[.slice none 0 0,.int .i64 x220001_1,.int .u64 x220002_1]) ?_ 0 _ rfl;(with_reducible repeat (first | refine ue ?_ _ | refine ug ?_ | refine uf ?_ _));refine u2m ?_ NB219_235.out _;(with_reducible repeat (first | refine ue ?_ _ | refine ug ?_ | refine uf ?_ _));refine u2m ?_ NB219_235.out _;(with_reducible repeat (first | refine ue ?_ _ | refine ug ?_ | refine uf ?_ _));refine u2m ?_ NB219_235.out _;(with_reducible repeat (first | refine ue ?_ _ | refine ug ?_ | refine uf ?_ _));exact BK219.out) Tryz.underlying53 rfl (by kernel_rfl) (.tmp (.cell gb220 34 #[.string (⟨#[]⟩:ByteArray),.string (⟨#[]⟩:ByteArray),.string (⟨#[]⟩:ByteArray)] (0,0) _ rfl (by (with_reducible repeat (first | refine ue ?_ _ | refine ug ?_ | refine uf ?_ _));refine u2d (cs:=#[.string (⟨#[]⟩:ByteArray),.string (⟨#[]⟩:ByteArray),.string x221002_1]) ?_ 2 _ rfl;(with_reducible repeat (first | refine ue ?_ _ | refine ug ?_ | refine uf ?_ _));refine u2d (cs:=#[.string (⟨#[]⟩:ByteArray),.string x221001_1,.string x221002_1]) ?_ 1 _ rfl;(with_reducible repeat (first | refine ue ?_ _ | refine ug ?_ | refine uf ?_ _));refine u2d (cs:=#[.string x221000_1,.string x221001_1,.string x221002_1]) ?_ 0 _ rfl;(with_reducible repeat (first | refine ue ?_ _ | refine ug ?_ | refine uf ?_ _));refine u2m ?_ NB220_219.out _;(with_reducible repeat (first | refine ue ?_ _ | refine ug ?_ | refine uf ?_ _));refine u2m ?_ NB220_219.out _;(with_reducible repeat (first | refine ue ?_ _ | refine ug ?_ | refine uf ?_ _));refine u2m ?_ NB220_219.out _;(with_reducible repeat (first | refine ue ?_ _ | refine ug ?_ | refine uf ?_ _));refine u2m ?_ NB220_235.out _;(with_reducible repeat (first | refine ue ?_ _ | refine ug ?_ | refine uf ?_ _));refine u2m ?_ NB220_235.out _;(with_reducible repeat (first | refine ue ?_ _ | refine ug ?_ | refine uf ?_ _));refine u2m ?_ NB220_235.out _;(with_reducible repeat (first | refine ue ?_ _ | refine ug ?_ | refine uf ?_ _));exact BK220.out) Tryz.underlying34 rfl (by kernel_rfl) (.tmp .nil))))) rfl ?_
        exact ⟨_,by first | rfl | (simp [u1k,u1l] <;> rfl) | (simp [*,u1k,u1l] <;> rfl),by first | exact Kd.R_nil _ _ _ _ _ | exact Kd.N_nil _ _ _ _ _ | exact Kd.V_nil _ _ _ _ _ | exact Kd.Q_nil _ _ _ _ _ | exact Kd.S_nil _ _ _ _ _,by repeat (first | (with_reducible first | exact HB.out | apply uc | apply ub | apply ud | refine ui ?_ GE219.out | refine ui ?_ GE220.out | refine ui ?_ GE235.out) | exact HB.out)⟩
end Go.Proofs.YtmcpeifhapekoaaGreatDoor.PAll
namespace Go.Proofs.YtmcpeifhapekoaaGreatDoor.Tx
open Go.RowKit Go.Proofs.YtmcpeifhapekoaaGreatDoor.PAll Go.Proofs.YtmcpeifhapekoaaGreatDoorW.PrintWords Go.Proofs.YtmcpeifhapekoaaGreatDoorW.PrintLast
open Go.Proofs.YtmcpeifhapekoaaGreatDoor.Laws (okFrom canB wrap_up at_byte no_byte word_ev)
set_option linter.unusedVariables false
set_option linter.unusedSimpArgs false
theorem plain_l0 (s:B8) (hs:s.length ≤ 1000):∀ (r:B8) (i:Nat),s.drop i = r → i ≤ s.length → Ev (fun k => u2l.l0 k (Base.ofL s) (i:Int)) (plainL r)
 | [],i,h,hi => by
   have h2:s.length ≤ i:=by
    have:=List.drop_eq_nil_iff.1 h
    omega
   refine Ev.step (f:=fun _ => some true) (fun k => ?_) (Ev.now _)
   simp only [u2l.l0]
   rw [if_neg (by rw [sz];omega)]
 | c :: r,i,h,hi => by
   obtain ⟨hlt,hbt,hr⟩:=at_byte (Base.ofL s) i c r (by rw [Base.ofL_data];exact h)
   rw [Base.ofL_data] at hr
   rw [sz] at hlt
   have hw:=wrap_up i (by omega)
   have ih:=plain_l0 s hs r (i + 1) hr (by omega)
   have hstep:∀ k,u2l.l0 (k + 1) (Base.ofL s) (i:Int) = if (c.toNat:Int) < 32 then some false else u2l.l0 k (Base.ofL s) ((i + 1:Nat):Int):=fun k => by
    simp only [u2l.l0]
    rw [if_pos (by rw [sz];omega),if_pos (by omega),hbt,hw]
   refine Ev.step hstep ?_
   unfold plainL at ih ⊢
   rw [List.all_cons]
   by_cases hb:32 ≤ c.toNat
   · rw [decide_eq_true hb,Bool.true_and]
     exact Ev.congr (fun k => if_neg (by omega)) ih
   · rw [decide_eq_false hb,Bool.false_and]
     exact Ev.congr (f:=fun _ => some false) (fun k => if_pos (by omega)) (Ev.now _)
theorem plain_ev (s:B8) (hs:s.length ≤ 1000):Ev (fun k => u2l.f k (Base.ofL s)) (plainL s):=plain_l0 s hs s 0 rfl (by omega)
theorem kind_l0 (s:B8) (L:List B8) (hL:L.length ≤ 1000):∀ (r:List B8) (i:Nat),L.drop i = r → i ≤ L.length → Ev (fun k => u2n.l0 k (Base.ofL s) (L.map Base.ofL) (L.length:Int) (i:Int)) (r.contains s)
 | [],i,h,hi => by
   have h2:L.length ≤ i:=by
    have:=List.drop_eq_nil_iff.1 h
    omega
   refine Ev.step (f:=fun _ => some false) (fun k => ?_) (Ev.now _)
   simp only [u2n.l0]
   rw [if_neg (by omega)]
 | c :: r,i,h,hi => by
   have hlt:i < L.length:=by
    rcases Nat.lt_or_ge i L.length with h1 | h1
    · exact h1
    · rw [List.drop_eq_nil_of_le h1] at h
      cases h
   rw [List.drop_eq_getElem_cons hlt] at h
   obtain ⟨h1,h2⟩:=List.cons.inj h
   have hrd:(rdOf ByteArray.empty (L.map Base.ofL) (i:Int)).toList = c:=by
    unfold rdOf
    rw [Int.toNat_natCast,List.getD_eq_getElem?_getD,List.getElem?_map,List.getElem?_eq_getElem hlt,h1]
    exact tl_ofL c
   have hw:=wrap_up i (by omega)
   have ih:=kind_l0 s L hL r (i + 1) h2 (by omega)
   have hstep:∀ k,u2n.l0 (k + 1) (Base.ofL s) (L.map Base.ofL) (L.length:Int) (i:Int) = if s = c then some true else u2n.l0 k (Base.ofL s) (L.map Base.ofL) (L.length:Int) ((i + 1:Nat):Int):=fun k => by
    simp only [u2n.l0]
    rw [if_pos (by omega),if_pos (by omega),if_pos (by rw [List.length_map];omega),hrd,tl_ofL,hw]
   refine Ev.step hstep ?_
   rw [List.contains_cons]
   by_cases hb:s = c
   · rw [beq_iff_eq.2 hb,Bool.true_or]
     exact Ev.congr (f:=fun _ => some true) (fun k => if_pos hb) (Ev.now _)
   · rw [beq_eq_false_iff_ne.2 hb,Bool.false_or]
     exact Ev.congr (fun k => if_neg hb) ih
theorem kind_ev (s:B8):Ev (fun k => u2n.f k (Base.ofL s)) (knownL s):=kind_l0 s kinds (by decide) kinds 0 rfl (by decide)
def SaysM (g:Nat → Option (ByteArray × ByteArray × ByteArray × Bool)) (o:Option Me):Prop:=match o with
 | some m => Ev g (m.1,m.2.1,m.2.2,true)
 | none => ∃ (a b c:ByteArray),Ev g (a,b,c,false)
theorem SaysM.congr {g f:Nat → Option (ByteArray × ByteArray × ByteArray × Bool)} {o:Option Me} (h:∀ k,g k = f k) (hf:SaysM f o):SaysM g o:=by
 rw [show g = f from funext h]
 exact hf
theorem SaysM.step {g f:Nat → Option (ByteArray × ByteArray × ByteArray × Bool)} {o:Option Me} (h:∀ k,g (k + 1) = f k) (hf:SaysM f o):SaysM g o:=by
 cases o with
 | some r => exact Ev.step h hf
 | none =>
   obtain ⟨a,b,c,hf⟩:=hf
   exact ⟨a,b,c,Ev.step h hf⟩
theorem SaysM.bind {α:Type} {g:Nat → Option α} {f:Nat → α → Option (ByteArray × ByteArray × ByteArray × Bool)} {x:α} {o:Option Me} (hg:Ev g x) (hf:SaysM (fun k => f k x) o):SaysM (fun k => (g k).bind (f k)) o:=by
 cases o with
 | some r => exact Ev.bind hg hf
 | none =>
   obtain ⟨a,b,c,hf⟩:=hf
   exact ⟨a,b,c,Ev.bind hg hf⟩
theorem remark_j1no (x4:Bool) (a b:ByteArray) (x:Bool) (hx:x = true):SaysM (fun k => ur.j1 k x4 a b x) none:=by
 subst hx
 exact ⟨⟨#[]⟩,⟨#[]⟩,⟨#[]⟩,Ev.step (f:=fun _ => some (⟨#[]⟩,⟨#[]⟩,⟨#[]⟩,false)) (fun k => by simp only [ur.j1,if_true]) (Ev.now _)⟩
theorem remark_j1 (help:Bool) (a:ByteArray) (q:B8) (hq:q.length ≤ 999) (x:Bool) (hx:x = false):SaysM (fun k => ur.j1 k help a (Base.ofL (32 :: q)) x) (if help = true then (if plainL q = true then some (a,Base.ofL [],Base.ofL q) else none) else if knownL q = true then some (a,Base.ofL q,Base.ofL []) else none):=by
 subst hx
 obtain ⟨f1,f2,f3,f4⟩:=first_of 32 q (by omega)
 cases help with
 | true =>
   rw [if_pos rfl]
   have hp:=plain_ev (32 :: q) (by rw [List.length_cons];omega)
   have e:plainL (32 :: q) = plainL q:=by
    unfold plainL
    rw [List.all_cons]
    rfl
   rw [e] at hp
   refine SaysM.step (f:=fun k => (u2l.f k (Base.ofL (32 :: q))).bind fun t121 => (some (a,(⟨#[]⟩:ByteArray),Base.ofL q,t121))) (fun k => ?_) (SaysM.bind hp ?_)
   · simp only [ur.j1,Bool.false_eq_true,if_false,if_true]
     rw [if_pos f1,f4]
   · by_cases h:plainL q = true
     · rw [if_pos h,h]
       exact Ev.now _
     · rw [if_neg h,show plainL q = false by simpa using h]
       exact ⟨_,_,_,Ev.now _⟩
 | false =>
   rw [if_neg (by decide)]
   have hp:=kind_ev q
   refine SaysM.step (f:=fun k => (u2n.f k (Base.ofL q)).bind fun t122 => (some (a,Base.ofL q,(⟨#[]⟩:ByteArray),t122))) (fun k => ?_) (SaysM.bind hp ?_)
   · simp only [ur.j1,Bool.false_eq_true,if_false]
     rw [if_pos f1,f4]
   · by_cases h:knownL q = true
     · rw [if_pos h,h]
       exact Ev.now _
     · rw [if_neg h,show knownL q = false by simpa using h]
       exact ⟨_,_,_,Ev.now _⟩
theorem remark_j0 (help:Bool) (s:B8) (hs:s.length ≤ 1000) (h7:7 ≤ s.length) (x:Bool) (hx:x = false):SaysM (fun k => ur.j0 k (Base.ofL s) help x) ((nameP (s.drop 7)).bind fun p => (expectP [32] p.2).bind fun r => if help = true then (if plainL r = true then some (p.1,Base.ofL [],Base.ofL r) else none) else if knownL r = true then some (p.1,Base.ofL r,Base.ofL []) else none):=by
 subst hx
 have hd:(s.drop 7).length ≤ s.length:=by
  rw [List.length_drop]
  omega
 have hw:=rword_ev (s.drop 7) (by omega)
 have htl:=tw_le wordC (s.drop 7)
 have hdl:=dw_len wordC (s.drop 7)
 have hn:=Laws.rname_ev (Base.ofL ((s.drop 7).takeWhile wordC)) (by rw [sz];omega)
 have hbg:uv.f (Base.ofL ((s.drop 7).dropWhile wordC)) (⟨#[32]⟩:ByteArray) = some (([32]:B8).isPrefixOf ((s.drop 7).dropWhile wordC)):=begins_is [32] _
 refine SaysM.step (f:=fun k => (u1v.f k (Base.ofL (s.drop 7))).bind fun bt117 => ((u1a.f k bt117.1).bind fun t119 => (if t119 = true then ((uv.f bt117.2 (⟨#[32]⟩:ByteArray)).bind fun t120 => (ur.j1 k help bt117.1 bt117.2 (!t120))) else (ur.j1 k help bt117.1 bt117.2 true)))) (fun k => ?_) (SaysM.bind hw (SaysM.bind hn ?_))
 · simp only [ur.j0,Bool.false_eq_true,if_false]
   rw [if_pos (by rw [sz];omega),exr s 7 h7]
 · simp only
   unfold nameP
   by_cases h1:Base.nameB (Base.ofL ((s.drop 7).takeWhile wordC)) = true
   · rw [if_pos h1]
     simp only [Option.bind_some]
     refine SaysM.congr (fun k => if_pos h1) ?_
     rw [hbg]
     simp only [Option.bind_some]
     rcases pre1 32 ((s.drop 7).dropWhile wordC) with ⟨q,hq,hp⟩ | ⟨hp,hne⟩
     · have hql:q.length + 1 ≤ s.length:=by
        rw [hq,List.length_cons] at hdl
        omega
       rw [hp,hq,expect_cons,if_pos rfl]
       exact remark_j1 help _ q (by omega) _ rfl
     · rw [hp]
       have e:expectP [32] ((s.drop 7).dropWhile wordC) = none:=by
        unfold expectP
        rw [hp]
        rfl
       rw [e]
       exact remark_j1no _ _ _ _ rfl
   · rw [if_neg h1]
     exact SaysM.congr (fun k => if_neg h1) (remark_j1no _ _ _ _ rfl)
theorem pre_len {p s:B8} (h:p.isPrefixOf s = true):p.length ≤ s.length:=List.IsPrefix.length_le (List.isPrefixOf_iff_prefix.1 h)
theorem not_both {s:B8} (h:helpW.isPrefixOf s = true):typeW.isPrefixOf s = false:=by
 cases e:typeW.isPrefixOf s with
 | false => rfl
 | true =>
   have h1:=List.prefix_iff_eq_take.1 (List.isPrefixOf_iff_prefix.1 h)
   have h2:=List.prefix_iff_eq_take.1 (List.isPrefixOf_iff_prefix.1 e)
   rw [show helpW.length = typeW.length from rfl] at h1
   rw [← h2] at h1
   exact absurd h1 (by decide)
theorem remark_says (s:B8) (hs:s.length ≤ 1000):SaysM (fun k => ur.f k (Base.ofL s)) (remarkP s):=by
 have h1:uv.f (Base.ofL s) (⟨#[35,32,72,69,76,80,32]⟩:ByteArray) = some (helpW.isPrefixOf s):=begins_is helpW s
 have h2:uv.f (Base.ofL s) (⟨#[35,32,84,89,80,69,32]⟩:ByteArray) = some (typeW.isPrefixOf s):=begins_is typeW s
 have e:∀ k,ur.f k (Base.ofL s) = if helpW.isPrefixOf s = true then ur.j0 k (Base.ofL s) (helpW.isPrefixOf s) false else ur.j0 k (Base.ofL s) (helpW.isPrefixOf s) (!typeW.isPrefixOf s):=fun k => by
  unfold ur.f
  rw [h1,h2]
  rfl
 refine SaysM.congr e ?_
 unfold remarkP
 by_cases hh:helpW.isPrefixOf s = true
 · have ht:=not_both hh
   have hl:7 ≤ s.length:=pre_len hh
   refine SaysM.congr (fun k => if_pos hh) ?_
   rw [ht,hh]
   simp only [Bool.true_or,if_true,Bool.false_eq_true,if_false]
   have h3:=remark_j0 true s hs hl _ rfl
   simp only [if_true] at h3
   exact h3
 · have hh':helpW.isPrefixOf s = false:=(Bool.eq_false_iff.2 hh)
   refine SaysM.congr (fun k => if_neg hh) ?_
   rw [hh']
   by_cases ht:typeW.isPrefixOf s = true
   · have hl:7 ≤ s.length:=pre_len ht
     rw [ht]
     simp only [Bool.false_or,if_true]
     have h3:=remark_j0 false s hs hl _ rfl
     simp only [Bool.false_eq_true,if_false] at h3
     exact h3
   · have ht':typeW.isPrefixOf s = false:=Bool.eq_false_iff.2 ht
     rw [ht']
     refine Ev.step (f:=fun _ => some ((⟨#[]⟩:ByteArray),(⟨#[]⟩:ByteArray),(⟨#[]⟩:ByteArray),true)) (fun k => ?_) (Ev.now _)
     simp only [ur.j0,Bool.not_false,if_true]
def labO (o:Option Rw):List Lb:=match o with | none => [] | some r => r.f0
def timO (o:Option Rw):Int:=match o with | none => 0 | some r => r.f1
def valO (o:Option Rw):Int:=match o with | none => 0 | some r => r.f2
def anyO (x:Option Rw × Me × Int):List Lb × Int × Int × Bool × ByteArray × ByteArray × ByteArray × Int:=(labO x.1,timO x.1,valO x.1,x.1.isSome,x.2.1.1,x.2.1.2.1,x.2.1.2.2,x.2.2)
def restOf (s:B8) (now:Int):Option Rw × Me × Int:=match s with
 | 35 :: _ => (match remarkP s with | none => (none,me0,280) | some m => (none,m,0))
 | _ => if s.all blankC = true then (none,me0,0) else match sampleP canB s now with | none => (none,me0,280) | some r => (some r,me0,0)
theorem read_is (s:B8) (now:Int):readP canB s now = if s.length > 1000 then (none,me0,4) else if s.contains 10 = true then (none,me0,280) else restOf s now:=rfl
theorem all_dw (p:UInt8 → Bool):∀ s:B8,s.all p = true ↔ s.dropWhile p = []
 | [] => by simp
 | c :: s => by
   rw [List.all_cons,List.dropWhile_cons,Bool.and_eq_true]
   by_cases hc:p c = true
   · rw [if_pos hc,all_dw p s]
     exact ⟨fun h => h.2,fun h => ⟨hc,h⟩⟩
   · rw [if_neg hc]
     exact ⟨fun h => absurd h.1 hc,fun h => by cases h⟩
def tailF (k:Nat) (s:ByteArray) (now:Int):Option ((List Lb) × Int × Int × Bool × ByteArray × ByteArray × ByteArray × Int):=((uv.f s (⟨#[35]⟩:ByteArray)).bind fun t221 => (if t221 = true then ((ur.f k s).bind fun bt222 => (if bt222.2.2.2 = true then (some (([]:List Lb),0,0,false,bt222.1,bt222.2.1,bt222.2.2.1,0)) else (some (([]:List Lb),0,0,false,(⟨#[]⟩:ByteArray),(⟨#[]⟩:ByteArray),(⟨#[]⟩:ByteArray),280)))) else ((u1f.f k s).bind fun bt227 => (if bt227.1.toList = ([]:List UInt8) then (some (([]:List Lb),0,0,false,(⟨#[]⟩:ByteArray),(⟨#[]⟩:ByteArray),(⟨#[]⟩:ByteArray),0)) else ((uo.f k s now).bind fun bt229 => (if bt229.2.2.2 = true then (some (bt229.1,bt229.2.1,bt229.2.2.1,true,(⟨#[]⟩:ByteArray),(⟨#[]⟩:ByteArray),(⟨#[]⟩:ByteArray),0)) else (some (([]:List Lb),0,0,false,(⟨#[]⟩:ByteArray),(⟨#[]⟩:ByteArray),(⟨#[]⟩:ByteArray),280))))))))
theorem tail_ev (s:B8) (hs:s.length ≤ 1000) (now:Int):Ev (fun k => tailF k (Base.ofL s) now) (anyO (restOf s now)):=by
 have h1:uv.f (Base.ofL s) (⟨#[35]⟩:ByteArray) = some (([35]:B8).isPrefixOf s):=begins_is [35] s
 unfold tailF
 rw [h1]
 simp only [Option.bind_some]
 rcases pre1 35 s with ⟨q,hq,hp⟩ | ⟨hp,hne⟩
 · rw [hp]
   refine Ev.congr (fun k => if_pos rfl) ?_
   have hr:=remark_says s hs
   have e:restOf s now = match remarkP s with | none => (none,me0,280) | some m => (none,m,0):=by
    rw [hq]
    rfl
   rw [e]
   cases hm:remarkP s with
   | none =>
     rw [hm] at hr
     obtain ⟨a,b,c,hr⟩:=hr
     exact Ev.bind hr (Ev.congr (fun k => if_neg (by simp)) (Ev.now _))
   | some m =>
     rw [hm] at hr
     exact Ev.bind hr (Ev.congr (fun k => if_pos rfl) (Ev.now _))
 · rw [hp]
   refine Ev.congr (fun k => if_neg (by decide)) ?_
   have e:restOf s now = (if s.all blankC = true then ((none,me0,0):Option Rw × Me × Int) else match sampleP canB s now with | none => (none,me0,280) | some r => (some r,me0,0)):=by
    unfold restOf
    split
    · exact absurd rfl (hne _)
    · rfl
   rw [e]
   refine Ev.bind (blanks_ev s hs) ?_
   simp only [tl_ofL]
   by_cases hb:s.dropWhile blankC = []
   · rw [if_pos ((all_dw blankC s).2 hb)]
     exact Ev.congr (fun k => if_pos hb) (Ev.now _)
   · rw [if_neg (fun h => hb ((all_dw blankC s).1 h))]
     refine Ev.congr (fun k => if_neg hb) ?_
     have hr:=sample_says s hs now
     cases hm:sampleP canB s now with
     | none =>
       rw [hm] at hr
       obtain ⟨a,b,c,hr⟩:=hr
       exact Ev.bind hr (Ev.congr (fun k => if_neg (by simp)) (Ev.now _))
     | some m =>
       rw [hm] at hr
       exact Ev.bind hr (Ev.congr (fun k => if_pos rfl) (Ev.now _))
theorem any_l0 (s:B8) (hs:s.length ≤ 1000) (now:Int):∀ (r:B8) (i:Nat),s.drop i = r → i ≤ s.length → Ev (fun k => u2k.l0 k (Base.ofL s) now (i:Int)) (anyO (if r.contains 10 = true then (none,me0,280) else restOf s now))
 | [],i,h,hi => by
   have h2:s.length ≤ i:=by
    have:=List.drop_eq_nil_iff.1 h
    omega
   refine Ev.step (f:=fun k => tailF k (Base.ofL s) now) (fun k => ?_) (tail_ev s hs now)
   simp only [u2k.l0]
   rw [if_neg (by rw [sz];omega)]
   rfl
 | c :: r,i,h,hi => by
   obtain ⟨hlt,hbt,hr⟩:=at_byte (Base.ofL s) i c r (by rw [Base.ofL_data];exact h)
   rw [Base.ofL_data] at hr
   rw [sz] at hlt
   have hw:=wrap_up i (by omega)
   have ih:=any_l0 s hs now r (i + 1) hr (by omega)
   have hstep:∀ k,u2k.l0 (k + 1) (Base.ofL s) now (i:Int) = if (c.toNat:Int) = 10 then some (anyO (none,me0,280)) else u2k.l0 k (Base.ofL s) now ((i + 1:Nat):Int):=fun k => by
    simp only [u2k.l0]
    rw [if_pos (by rw [sz];omega),if_pos (by omega),hbt,hw]
    rfl
   refine Ev.step hstep ?_
   rw [List.contains_cons]
   by_cases hb:c = 10
   · refine Ev.congr (f:=fun _ => some (anyO (none,me0,280))) (fun k => if_pos ((byte_eq c 10 10 rfl).2 hb)) ?_
     rw [if_pos (by rw [hb];rfl)]
     exact Ev.now _
   · refine Ev.congr (fun k => if_neg (fun e => hb ((byte_eq c 10 10 rfl).1 e))) ?_
     rw [beq_eq_false_iff_ne.2 (fun e => hb e.symm),Bool.false_or]
     exact ih
theorem any_ev (s:B8) (now:Int):Ev (fun k => u2k.f k (Base.ofL s) now) (anyO (readP canB s now)):=by
 rw [read_is]
 by_cases h:s.length > 1000
 · rw [if_pos h]
   refine Ev.congr (f:=fun _ => some (anyO (none,me0,4))) (fun k => ?_) (Ev.now _)
   unfold u2k.f
   rw [if_pos (by rw [sz];omega)]
   rfl
 · rw [if_neg h]
   refine Ev.congr (f:=fun k => u2k.l0 k (Base.ofL s) now ((0:Nat):Int)) (fun k => ?_) (any_l0 s (by omega) now s 0 rfl (by omega))
   unfold u2k.f
   rw [if_neg (by rw [sz];omega)]
   rfl
theorem same_l0 (m:List Lb) (hm:m.length ≤ 9223372036854775806):∀ (r:List Lb) (i:Nat),m.drop i = r → Ev (fun k => u3d.l0 k m m (m.length:Int) (i:Int)) true:=by
 intro r
 induction r with
 | nil =>
   intro i h
   have hi:m.length ≤ i:=List.drop_eq_nil_iff.1 h
   refine Ev.step (f:=fun _ => some true) (fun k => ?_) (Ev.now true)
   simp only [u3d.l0]
   rw [if_neg (by omega)]
 | cons x r ih =>
   intro i h
   obtain ⟨hx,hi,hr⟩:=Laws.rd_drop m i x r h
   have hw:=wrap_up i (by omega)
   refine Ev.step (fun k => ?_) (ih (i + 1) hr)
   simp only [u3d.l0]
   rw [if_pos (by omega),if_pos (by omega),if_pos (by omega),if_pos (by omega),hx,if_neg (by simp),hw]
theorem same_ls (m:List Lb) (hm:m.length ≤ 9223372036854775806):Ev (fun k => u3d.f k m m) true:=by
 refine Ev.congr (fun k => ?_) (same_l0 m hm m 0 rfl)
 show u3d.f k m m = _
 unfold u3d.f
 rw [if_pos rfl]
 rfl
theorem same_rows:∀ (l:List Rw),(∀ x ∈ l,x.f0.length ≤ 9223372036854775806) → Ev (fun k => u1r.all k l l) true
 | [],_ => Ev.now true
 | x :: l,h => by
   refine Ev.bind (a:=true) (g:=fun k => u1r.same k x x) ?_ ?_
   · refine Ev.bind (same_ls x.f0 (h x (List.mem_cons_self ..))) ?_
     exact Ev.congr (fun k => by simp) (Ev.now true)
   · exact Ev.congr (fun k => by simp) (same_rows l (fun y hy => h y (List.mem_cons_of_mem _ hy)))
theorem same_rowsf (l:List Rw) (hl:l.length ≤ 4611686018427387904) (h:∀ x ∈ l,x.f0.length ≤ 9223372036854775806):Ev (fun k => u1r.f k l l) true:=by
 refine Ev.congr (fun k => ?_) (same_rows l h)
 show u1r.f k l l = _
 unfold u1r.f
 rw [if_pos rfl,if_pos (by omega)]
theorem line_is (a0:ByteArray) (a1:Int) (h:a0.size ≤ 4611686018427387904):u2t.f a0 a1 = some (labO (readP canB a0.data.toList a1).1,timO (readP canB a0.data.toList a1).1,valO (readP canB a0.data.toList a1).1,(readP canB a0.data.toList a1).1.isSome,(readP canB a0.data.toList a1).2.2,0):=by
 unfold u2t.f
 rw [if_pos h]
 rfl
theorem awake27:u2r.f = some true:=by
 unfold u2r.f
 rw [line_is _ _ (by decide),show (⟨#[117,112,123,106,111,98,61,34,120,34,125,32,48,120,49,102,32,55]⟩:ByteArray).data.toList = [117,112,123,106,111,98,61,34,120,34,125,32,48,120,49,102,32,55] from rfl,awake_read]
 rfl
theorem read_len (s:B8) (now:Int):(labO (readP canB s now).1).length ≤ 8:=by
 unfold readP
 split
 · exact Nat.zero_le _
 · split
   · exact Nat.zero_le _
   · split
     · split <;> exact Nat.zero_le _
     · split
       · exact Nat.zero_le _
       · split
         · exact Nat.zero_le _
         · rename_i r h
           unfold sampleP at h
           cases hl:labsP s with
           | none => rw [hl] at h;cases h
           | some p =>
             rw [hl] at h
             simp only [Option.bind_some] at h
             split at h
             · rename_i hc
               cases he:endP p.2 now with
               | none => rw [he] at h;cases h
               | some q =>
                 rw [he] at h
                 cases Option.some.inj h
                 exact (can_names hc).1
             · cases h
end Go.Proofs.YtmcpeifhapekoaaGreatDoor.Tx
namespace Go.Proofs.YtmcpeifhapekoaaGreatDoor.PAll
open Go.RowKit Go.Proofs.YtmcpeifhapekoaaGreatDoorW.PrintWords Go.Proofs.YtmcpeifhapekoaaGreatDoorW.PrintLast Go.Proofs.YtmcpeifhapekoaaGreatDoorW.PrintMore
attribute [local go_sem] u3q u3r max_two min_two u3l u3k u3s u3p
set_option linter.unusedVariables false
set_option linter.unusedSimpArgs false
def uq.l0:Nat → Int → List S53 → List S34 → Int → List Int → Option (List S53 × List S34 × Int × Int)
 | 0,_,_,_,_,_ => none
 | k + 1,now,rows,metas,line,xs => if xs = [] then some (rows,metas,0,0) else
   (u2k.f k (Base.ofL (Tx.partL (Lib.bytesOf xs))) now).bind fun t =>
     if t.2.2.2.1 = true ∧ 10000 ≤ rows.length then some ([],[],4,line + 1)
     else if t.2.2.2.2.2.2.2 ≠ 0 then some ([],[],t.2.2.2.2.2.2.2,line + 1)
     else if t.2.2.2.1 = true then (if t.2.2.2.2.1 = Base.ofL [] then uq.l0 k now (rows ++ [⟨t.1,t.2.1,t.2.2.1⟩]) metas (line + 1) (xs.drop ((Tx.partL (Lib.bytesOf xs)).length + 1)) else none)
     else if t.2.2.2.2.1 = Base.ofL [] then uq.l0 k now rows metas (line + 1) (xs.drop ((Tx.partL (Lib.bytesOf xs)).length + 1))
     else (u2h.f k metas t.2.2.2.2.1 t.2.2.2.2.2.1 t.2.2.2.2.2.2.1 (Tx.helpW.isPrefixOf (Tx.partL (Lib.bytesOf xs)))).bind fun m => uq.l0 k now rows m (line + 1) (xs.drop ((Tx.partL (Lib.bytesOf xs)).length + 1))
def uq.f (k:Nat) (a0:List Int) (a1:Int):Option (List S53 × List S34 × Int × Int):=if a0.length ≤ 1000000000000 ∧ ∀ x ∈ a0,0 ≤ x ∧ x < 256 then uq.l0 k a1 [] [] 0 a0 else none
set_option maxRecDepth 100000 in
set_option maxHeartbeats 2000000 in
theorem uq.lite (a0 a1:ByteArray) (r:Bool) (w:World) (h:uv.f a0 a1 = some r):Calls Tryz.prog 23 #[.string a0,.string a1] w fun e w' => e = .returned (.bool r) ∧ w' = w:=by
 unfold uv.f at h
 by_cases c3:(a0.size:Int) ≥ (a1.size:Int)
 · rw [if_pos c3,if_pos (by omega),if_pos (by omega)] at h
   have c3b0:decide ((a1.size:Int) ≤ (a0.size:Int)) = true:=decide_eq_true c3
   have c3b1:decide (a1.size ≤ a0.size) = true:=decide_eq_true (Int.ofNat_le.mp c3)
   have c4b0:(0 ≤ (a1.size:Int)) = True:=eq_true (by omega)
   have c5b0:((a1.size:Int) ≤ (a0.size:Int)) = True:=eq_true c3
   obtain rfl:=Option.some.inj h
   clear c3
   go_enter Tryz.func23,Tryz.ntmps23
   go_wp2
   go_ret
   exact ⟨by first | rfl | (simp;done) | (simp [*];done),rfl⟩
 · rw [if_neg c3] at h
   have c3b0:decide ((a1.size:Int) ≤ (a0.size:Int)) = false:=decide_eq_false c3
   have c3b1:decide (a1.size ≤ a0.size) = false:=decide_eq_false (fun h => c3 (Int.ofNat_le.mpr h))
   clear c3
   obtain rfl:=Option.some.inj h
   go_enter Tryz.func23,Tryz.ntmps23
   go_wp2
   go_ret
   exact ⟨by first | rfl | (simp;done) | (simp [*];done),rfl⟩
theorem uq.begins_is (p s:List UInt8):uv.f (Base.ofL s) (Base.ofL p) = some (p.isPrefixOf s):=by
 have sz:∀ s:List UInt8,(Base.ofL s).size = s.length:=fun s => (Tx.cut_ofL s 0 (by omega)).2.2
 unfold uv.f
 rw [sz,sz]
 by_cases h:p.length ≤ s.length
 · have e1:((Base.ofL s).extract 0 ((p.length:Int)).toNat).toList = s.take p.length:=by
    rw [ByteArray.toList_eq,Base.extract_list,Base.ofL_data]
    simp
   have e2:(Base.ofL p).toList = p:=by rw [ByteArray.toList_eq,Base.ofL_data]
   have e4:(s.take p.length == p) = p.isPrefixOf s:=by
    rw [Bool.eq_iff_iff,beq_iff_eq,List.isPrefixOf_iff_prefix]
    constructor
    · intro e
      rw [← e]
      exact List.take_prefix _ _
    · intro e
      exact (List.prefix_iff_eq_take.1 e).symm
   rw [if_pos (by omega),if_pos (by omega),if_pos (by omega),e1,e2,e4]
 · have e5:p.isPrefixOf s = false:=by
    cases e:p.isPrefixOf s with
    | false => rfl
    | true => exact absurd (List.IsPrefix.length_le (List.isPrefixOf_iff_prefix.1 e)) h
   rw [if_neg (by omega),e5]
theorem uq.help_same (s:List UInt8) (w:World):Calls Tryz.prog 23 #[.string (Base.ofL s),.string ⟨#[35,32,72,69,76,80,32]⟩] w fun e w' => e = .returned (.bool (Tx.helpW.isPrefixOf s)) ∧ w' = w:=uq.lite _ _ _ w (uq.begins_is Tx.helpW s)
structure uq.In (w0 W:World) (gf:Nat) (vr vm:Value) (rows:List S53) (L:List S34):Prop where
 below:Below w0.heap.size w0 W
 fault:W.heap[gf]? = some (.cells #[.int .i64 0,.int .i64 0] 28 (0,0))
 rows:Kd.R k53 53 W w0.heap.size (fun _ => True) vr rows
 metas:Kd.R k34 34 W w0.heap.size (fun _ => True) vm L
theorem uq.In.more {w0 W W':World} {gf:Nat} {vr vm:Value} {rows:List S53} {L:List S34} (h:uq.In w0 W gf vr vm rows L) (hb:Below W.heap.size W W'):uq.In w0 W' gf vr vm rows L :=
 ⟨u3n h.below h.below.size hb,ua.below_at hb h.fault,Kd.R_below h.rows hb,Kd.R_below h.metas hb⟩
def uq.Out (w0:World) (X:List S53 × List S34 × Int × Int) (e:Ending) (W':World):Prop:=∃ v1 v2:Value,e = .returned (.tuple #[v1,v2,.agg #[.int .i64 X.2.2.1,.int .i64 X.2.2.2]]) ∧ Kd.R k53 53 W' w0.heap.size (fun _ => True) v1 X.1 ∧ Kd.R k34 34 W' w0.heap.size (fun _ => True) v2 X.2.1 ∧ Below w0.heap.size w0 W'
theorem uq.bad (w0 W:World) (C line:Int) (X:List S53 × List S34 × Int × Int) (hX:([],[],C,line) = X) (hb:Below w0.heap.size w0 W):uq.Out w0 X (.returned (.tuple #[.slice none 0 0,.slice none 0 0,.agg #[.int .i64 C,.int .i64 line]])) ((W.setCell ⟨w0.heap.size,0,none⟩ (.int .i64 C)).setCell ⟨w0.heap.size,1,none⟩ (.int .i64 line)):=by
 subst hX
 exact ⟨_,_,rfl,Kd.R_nil _ _ _ _ _,Kd.R_nil _ _ _ _ _,(hb.setCell (Nat.le_refl _) _).setCell (Nat.le_refl _) _⟩
theorem uq.good (w0 W:World) (rows:List S53) (L:List S34) (X:List S53 × List S34 × Int × Int) (hX:(rows,L,0,0) = X) (v1 v2:Value) (h:uq.In w0 W w0.heap.size v1 v2 rows L):uq.Out w0 X (.returned (.tuple #[v1,v2,.agg #[.int .i64 0,.int .i64 0]])) ((W.setCell ⟨w0.heap.size,0,none⟩ (.int .i64 0)).setCell ⟨w0.heap.size,1,none⟩ (.int .i64 0)):=by
 subst hX
 have f1:=blk_set h.fault 0 (.int .i64 0)
 exact ⟨v1,v2,rfl,Kd.R_set (Kd.R_set h.rows h.fault (by decide) 0 _) f1 (by decide) 1 _,Kd.R_set (Kd.R_set h.metas h.fault (by decide) 0 _) f1 (by decide) 1 _,(h.below.setCell (Nat.le_refl _) _).setCell (Nat.le_refl _) _⟩
theorem uq.line_at (xs:List Int) (i j:Nat) (hi:i ≤ j) (hj:j ≤ i + (Tx.partL (Lib.bytesOf (xs.drop i))).length) (hlt:j < xs.length) (h8:∀ x ∈ xs,0 ≤ x ∧ x < 256):(xs.getD j 0 ≠ 10 → j + 1 ≤ i + (Tx.partL (Lib.bytesOf (xs.drop i))).length) ∧ (xs.getD j 0 = 10 → j = i + (Tx.partL (Lib.bytesOf (xs.drop i))).length):=by
 have hd:(Lib.bytesOf (xs.drop i)).length = xs.length - i:=by rw [Lib.bytesOf_length,List.length_drop]
 have hg:(Lib.bytesOf (xs.drop i))[j - i]'(by omega) = UInt8.ofNat (xs.getD j 0).toNat:=by
  unfold Lib.bytesOf
  rw [List.getElem_map,List.getElem_drop]
  congr 2
  rw [List.getD_eq_getElem?_getD,List.getElem?_eq_getElem hlt]
  simp [show i + (j - i) = j by omega]
 have hb:=h8 (xs.getD j 0) (by rw [List.getD_eq_getElem?_getD,List.getElem?_eq_getElem hlt];exact List.getElem_mem hlt)
 obtain ⟨t1,t2⟩:=Tx.tw_step (· != 10) (Lib.bytesOf (xs.drop i)) (j - i) (by unfold Tx.partL at hj;omega) (by omega)
 rw [hg] at t1 t2
 unfold Tx.partL
 constructor
 · intro h
   have:=t1 (by
    rw [bne_iff_ne]
    intro e
    have:=congrArg UInt8.toNat e
    rw [UInt8.toNat_ofNat'] at this
    have e10:(10:UInt8).toNat = 10:=rfl
    omega)
   omega
 · intro h
   have:=t2 (by rw [h];rfl)
   omega
theorem uq.line_end (xs:List Int) (i:Nat):(Tx.partL (Lib.bytesOf (xs.drop i))).length ≤ xs.length - i:=by
 have h1:=Tx.tw_le (· != 10) (Lib.bytesOf (xs.drop i))
 rw [Lib.bytesOf_length,List.length_drop] at h1
 exact h1
theorem uq.infoR:(Tryz.prog.info? 53).map (fun i => (i.zero,i.size,i.bytes)) = some (some (.agg #[.slice none 0 0,.int .i64 0,.int .u64 0]),3,40):=by kernel_rfl
theorem uq.told {w0 W W':World} {gf:Nat} {vr vm v:Value} {rows:List S53} {L L':List S34} (h:uq.In w0 W gf vr vm rows L) (hr:Kd.R k34 34 W' W.heap.size (fun _ => True) v L') (hb:Below W.heap.size W W'):uq.In w0 W' gf vr v rows L' :=
 ⟨(h.more hb).below,(h.more hb).fault,(h.more hb).rows,Kd.R_lower hr h.below.size⟩
theorem uq.cells {w:World} {A:Option Addr} {xs:List Int} (h:(Kd.int .u8).C w A xs.length xs) (hp:0 < xs.length):∃ a,A = some a ∧ ∀ i,i < xs.length → w.cell? (a.add i) = some (.int .u8 (xs.getD i 0)) :=
 (Kd.reads_of_C (enc:=Value.int .u8) (d:=(0:Int)) (h1:=fun _ => rfl) h).2.2 hp
set_option maxRecDepth 100000 in
set_option maxHeartbeats 4000000 in
theorem uq.walk (k:Nat) (A0:Option Addr) (c0:Nat) (l0:List Int) (a1:Int) (X:List S53 × List S34 × Int × Int) (w:World) (hr0:Kd.C (Kd.int .u8) w A0 l0.length l0) (hc0:l0.length ≤ c0) (hlen:l0.length ≤ 1000000000000) (h8:∀ x ∈ l0,0 ≤ x ∧ x < 256) (hX:uq.l0 k a1 [] [] 0 l0 = some X) :
 Calls Tryz.prog 8 #[.slice A0 l0.length c0,.int .i64 a1] w fun e w' => uq.Out w X e w':=by
 have HX:=Aside0.mk hX
 have HC0:=Aside0.mk hr0
 have HL0:=Aside0.mk hc0
 have H8:=Aside0.mk h8
 have HI0:Aside0 (uq.In w (w.alloc (.cells #[.int .i64 0,.int .i64 0] 28)) w.heap.size (.slice none 0 0) (.slice none 0 0) [] []):=⟨uc (Below.refl _ _) _,ua.new_at _ _,Kd.R_nil _ _ _ _ _,Kd.R_nil _ _ _ _ _⟩
 clear hX hr0 hc0 h8
 go_enter Tryz.func8,Tryz.ntmps8
 go_wp2
 go_loopg [7,8,9,10] k (fun kq v7 v8 v9 v10 wr => ∃ (i line:Nat) (rows:List S53) (L:List S34),v10 = .int .i64 (i:Int) ∧ v9 = .int .i64 (line:Int) ∧ i ≤ l0.length + 1 ∧ line ≤ i ∧ rows.length ≤ 10000 ∧ Aside0 (uq.l0 kq a1 rows L (line:Int) (l0.drop i) = some X) ∧ Aside0 (uq.In w wr w.heap.size v7 v8 rows L))
 case atStart => exact ⟨0,0,[],[],rfl,rfl,by omega,by omega,by simp,HX,HI0⟩
 case round =>
  clear HX HI0
  obtain ⟨i,line,rows,L,rfl,rfl,hi,hln,hrw,HX,HI⟩:=hrel
  obtain ⟨Ar,cr,er⟩:=Kd.R_slice HI.out.rows
  obtain ⟨Am,cm,em⟩:=Kd.R_slice HI.out.metas
  subst er em
  cases gk with
  | zero => exact absurd HX.out (by simp [uq.l0])
  | succ k1 =>
  by_cases hlt:i < l0.length
  · obtain ⟨ad,eA,hcell⟩:=uq.cells (Kd.C_below HC0.out HI.out.below) (by omega)
    subst eA
    obtain ⟨n,hn⟩:∃ n,(Tx.partL (Lib.bytesOf (l0.drop i))).length = n:=⟨_,rfl⟩
    have hne:=uq.line_end l0 i
    rw [hn] at hne
    have hq:decide ((i:Int) < (l0.length:Int)) = true:=decide_eq_true (by omega)
    have HCL:=Aside0.mk hcell
    have HN:=Aside0.mk hn
    clear hcell hn
    have hil:(i:Int) < (l0.length:Int):=by omega
    go_wp2
    go_loop [11] (fun v11 => ∃ j:Nat,v11 = .int .i64 (j:Int) ∧ i ≤ j ∧ j ≤ i + n) (fun v11 => l0.length - (intOf v11).toNat)
    case atStart => exact ⟨i,rfl,by omega,by omega⟩
    case round =>
     obtain ⟨j,rfl,hij,hjn⟩:=hrel
     by_cases hjl:j < l0.length
     · have hcj:=HCL.out j hjl
       have hqj:decide ((j:Int) < (l0.length:Int)) = true:=decide_eq_true (by omega)
       have hj2:(j:Int) < (l0.length:Int):=by omega
       obtain ⟨t1,t2⟩:=uq.line_at l0 i j hij (by rw [HN.out];exact hjn) hjl H8.out
       rw [HN.out] at t1 t2
       by_cases h10:l0.getD j 0 = 10
       · have HJ:=Aside0.mk (t2 h10)
         have hnb:((l0.getD j 0:Int) != 10) = false:=by rw [h10];rfl
         clear t1 t2 h10
         generalize l0.getD j 0 = z at *
         obtain ⟨P,hP⟩:∃ P,Tx.partL (Lib.bytesOf (l0.drop i)) = P:=⟨_,rfl⟩
         have hPl:P.length = n:=by rw [← hP];exact HN.out
         have hji:j - i = n:=by have:=HJ.out;omega
         have hjl2:j ≤ l0.length:=by have:=HJ.out;omega
         have hjc:j ≤ c0:=by have:=HL0.out;omega
         have hic:¬ c0 = i:=by have:=HL0.out;omega
         have hcv:(convert 22 9 (.slice (some (ad.add i)) (j - i) (c0 - i))).run Tryz.prog wr = .ok (.string (Base.ofL P)) wr:=by
          have k2:=Kd.C_drop (Kd.C_below HC0.out HI.out.below) (m:=i) (c:=c0) (by omega) HL0.out
          rw [show i * (Kd.int .u8).sz = i from Nat.mul_one _,if_neg hic] at k2
          have k3:=Kd.C_take k2 (m:=n) (by rw [List.length_drop];omega)
          have h:=Kd.C_string Tryz.underlying22 Tryz.underlying5 Tryz.underlying9 k3 (c:=c0 - i)
          rw [show ((l0.drop i).take n).length = j - i from by rw [List.length_take,List.length_drop];omega,show strOfNums ((l0.drop i).take n) = Base.ofL P from by
           show Base.ofL (Lib.bytesOf ((l0.drop i).take n)) = _
           rw [Lib.bytesOf_take,← hP,← HN.out]
           exact congrArg Base.ofL (Tx.tw_take _ _).1] at h
          exact h
         have hX2:=HX.out
         unfold uq.l0 at hX2
         rw [if_neg (fun e => absurd (List.drop_eq_nil_iff.1 e) (by omega)),hP,List.drop_drop,hPl,show i + (n + 1) = j + 1 by have:=HJ.out;omega] at hX2
         clear HX hP hPl hji
         cases ha:u2k.f k1 (Base.ofL P) a1 with
         | none =>
           rw [ha] at hX2
           cases hX2
         | some t =>
           obtain ⟨t1,t2,t3,t4,t5,t6,t7,t8⟩:=t
           rw [ha] at hX2
           simp only [Option.bind_some] at hX2
           have HAN:Aside0 (∀ W,Calls Tryz.prog 21 #[.string (Base.ofL P),.int .i64 a1] W fun e w' => ∃ v0_:Value,e = .returned (.tuple #[.agg #[v0_,.int .i64 t2,.int .u64 t3],.bool t4,.agg #[.string t5,.string t6,.string t7],.int .i64 t8]) ∧ Kd.R k66 66 w' W.heap.size (fun _ => True) v0_ t1 ∧ Below W.heap.size W w'):=⟨fun W => u2k.calls k1 (Base.ofL P) a1 t1 t2 t3 t4 t5 t6 t7 t8 W ha⟩
           clear ha
           by_cases hf:t4 = true ∧ 10000 ≤ rows.length
           · rw [if_pos hf] at hX2
             have HXE:=Aside0.mk (Option.some.inj hX2)
             obtain ⟨rfl,hr⟩:=hf
             have q1:decide ((10000:Int) ≤ (rows.length:Int)) = true:=decide_eq_true (by omega)
             have q2:decide (10000 ≤ rows.length) = true:=decide_eq_true hr
             clear hX2 hr
             go_wp2_with (go_at_call 21;(with_reducible refine (HAN.out _).mono ?_);rintro e W2 ⟨v,rfl,hr2,hb2⟩;have HI2:=Aside0.mk (HI.out.more hb2);obtain ⟨Al,cl,el⟩:=Kd.R_slice hr2;subst el;have HR2:=Aside0.mk hr2;clear hr2 hb2;obtain ⟨z0,z1,z2,z3⟩:=ua.look2 (ua.new_old (ua.new_old HI2.out.fault (.cells #[.slice Al t1.length cl,.int .i64 t2,.int .u64 t3] 53)) (.cells #[.string t5,.string t6,.string t7] 34)))
             refine bodyPost_ret (v:=.tuple #[.slice none 0 0,.slice none 0 0,.agg #[.int .i64 4,.int .i64 ((line:Int) + 1)]]) (by simp [results,Tryz.results8,go_sem,z0,z1]) rfl ?_
             exact uq.bad w _ 4 _ X HXE.out (uc (uc HI2.out.below _) _)
           · rw [if_neg hf] at hX2
             by_cases h8:t8 ≠ 0
             · rw [if_pos h8] at hX2
               have HXE:=Aside0.mk (Option.some.inj hX2)
               have e1:((t8:Int) != 0) = true:=bne_iff_ne.2 h8
               have e2:((t8:Int) == 0) = false:=beq_eq_false_iff_ne.2 h8
               clear hX2 h8
               cases t4 with
               | true =>
                 have q1:decide ((10000:Int) ≤ (rows.length:Int)) = false:=decide_eq_false (by have:=Nat.lt_of_not_le (fun h => hf ⟨rfl,h⟩);omega)
                 have q2:decide (10000 ≤ rows.length) = false:=decide_eq_false (fun h => hf ⟨rfl,h⟩)
                 clear hf
                 go_wp2_with (go_at_call 21;(with_reducible refine (HAN.out _).mono ?_);rintro e W2 ⟨v,rfl,hr2,hb2⟩;have HI2:=Aside0.mk (HI.out.more hb2);obtain ⟨Al,cl,el⟩:=Kd.R_slice hr2;subst el;have HR2:=Aside0.mk hr2;clear hr2 hb2;obtain ⟨z0,z1,z2,z3⟩:=ua.look2 (ua.new_old (ua.new_old HI2.out.fault (.cells #[.slice Al t1.length cl,.int .i64 t2,.int .u64 t3] 53)) (.cells #[.string t5,.string t6,.string t7] 34)))
                 refine bodyPost_ret (v:=.tuple #[.slice none 0 0,.slice none 0 0,.agg #[.int .i64 t8,.int .i64 ((line:Int) + 1)]]) (by simp [results,Tryz.results8,go_sem,z0,z1]) rfl ?_
                 exact uq.bad w _ t8 _ X HXE.out (uc (uc HI2.out.below _) _)
               | false =>
                 clear hf
                 go_wp2_with (go_at_call 21;(with_reducible refine (HAN.out _).mono ?_);rintro e W2 ⟨v,rfl,hr2,hb2⟩;have HI2:=Aside0.mk (HI.out.more hb2);obtain ⟨Al,cl,el⟩:=Kd.R_slice hr2;subst el;have HR2:=Aside0.mk hr2;clear hr2 hb2;obtain ⟨z0,z1,z2,z3⟩:=ua.look2 (ua.new_old (ua.new_old HI2.out.fault (.cells #[.slice Al t1.length cl,.int .i64 t2,.int .u64 t3] 53)) (.cells #[.string t5,.string t6,.string t7] 34)))
                 refine bodyPost_ret (v:=.tuple #[.slice none 0 0,.slice none 0 0,.agg #[.int .i64 t8,.int .i64 ((line:Int) + 1)]]) (by simp [results,Tryz.results8,go_sem,z0,z1]) rfl ?_
                 exact uq.bad w _ t8 _ X HXE.out (uc (uc HI2.out.below _) _)
             · rw [if_neg h8] at hX2
               obtain rfl:t8 = 0:=Classical.not_not.1 h8
               clear h8
               have hemp:(Base.ofL []).toList.isEmpty = true:=by rw [ByteArray.toList_eq,Base.ofL_data];rfl
               cases t4 with
               | true =>
                 have hrl:rows.length < 10000:=Nat.lt_of_not_le (fun h => hf ⟨rfl,h⟩)
                 have q1:decide ((10000:Int) ≤ (rows.length:Int)) = false:=decide_eq_false (by omega)
                 have q2:decide (10000 ≤ rows.length) = false:=decide_eq_false (by omega)
                 simp only [if_true] at hX2
                 clear hf
                 by_cases h5:t5 = Base.ofL []
                 · rw [if_pos h5] at hX2
                   have hme:t5.toList.isEmpty = true:=by rw [h5];exact hemp
                   have HX2:=Aside0.mk hX2
                   clear hX2 h5
                   go_wp2_with (first
                    | (go_at_call 21;(with_reducible refine (HAN.out _).mono ?_);rintro e W2 ⟨v,rfl,hr2,hb2⟩;have HI2:=Aside0.mk (HI.out.more hb2);obtain ⟨Al,cl,el⟩:=Kd.R_slice hr2;subst el;have HR2:=Aside0.mk hr2;clear hr2 hb2;obtain ⟨z0,z1,z2,z3⟩:=ua.look2 (ua.new_old (ua.new_old HI2.out.fault (.cells #[.slice Al t1.length cl,.int .i64 t2,.int .u64 t3] 53)) (.cells #[.string t5,.string t6,.string t7] 34)))
                    | ((with_reducible refine gate_builtin (b:=.append) (xs:=#[.tmp 62,.tmp 64]) rfl ?_);at_builtin;go_loud (refine Kd.R_append k53 (w0:=w) (W:=((W2.alloc (.cells #[.slice Al t1.length cl,.int .i64 t2,.int .u64 t3] 53)).alloc (.cells #[.string t5,.string t6,.string t7] 34))) w.heap.size rfl (.tmp 62) (.tmp 64) 24 53 (.agg #[.slice none 0 0,.int .i64 0,.int .u64 0]) 40 rfl Tryz.underlying24 uq.infoR rfl (by decide) (by decide) _ rows ⟨t1,t2,t3⟩ [.slice Al t1.length cl,.int .i64 t2,.int .u64 t3] (fun _ => True) (fun k => wr.heap.size ≤ k) rfl (by rw [World.size_alloc,World.size_alloc];rfl) ?hM ?hok (fun _ _ => trivial) (Kd.R_alloc (Kd.R_alloc HI2.out.rows _) _) (uc (uc HI2.out.below _) _) ?hbs ?hbig ?_;(case hM => exact k53_mkM _ _ _ ⟨t1,t2,t3⟩ (Kd.R_lower (Kd.R_mono (Kd.R_bound (Kd.R_alloc (Kd.R_alloc HR2.out _) _)) (fun k hk => hk.2.1)) HI.out.below.size));(case hok => intro k hk;refine ⟨trivial,fun e => ?_⟩;have h1:=Kd.R_lt HI.out.rows k e.symm;omega);(case hbs => have h1:=HI2.out.below.size;rw [World.size_alloc,World.size_alloc];omega);(case hbig => omega);intro v8 w8 ho hb8 hg8 hat;have HR8:=Aside0.mk ho;have HB8:=Aside0.mk hb8;have HG8:=Aside0.mk hg8;have hbm:=u3b (ua.new_at (W2.alloc (.cells #[.slice Al t1.length cl,.int .i64 t2,.int .u64 t3] 53)) (.cells #[.string t5,.string t6,.string t7] 34)) hg8 (Kd.R_ne (Kd.R_alloc (Kd.R_alloc HI2.out.rows _) _) (ua.new_at (W2.alloc (.cells #[.slice Al t1.length cl,.int .i64 t2,.int .u64 t3] 53)) (.cells #[.string t5,.string t6,.string t7] 34)) (by decide));rw [World.size_alloc] at hbm;obtain ⟨⟨m0,m1,m2⟩,m3⟩:=uh.look3 hbm;clear ho hb8 hg8 hat hbm)))
                   have HI8:Aside0 (uq.In w w8 w.heap.size v8 (.slice Am L.length cm) (rows ++ [⟨t1,t2,t3⟩]) L):=⟨by
                    have hA:=(HI2.out.more (uc (uc (Below.refl W2.heap.size W2) (.cells #[.slice Al t1.length cl,.int .i64 t2,.int .u64 t3] 53)) (.cells #[.string t5,.string t6,.string t7] 34)))
                    exact ⟨HB8.out,u3b hA.fault HG8.out (Kd.R_ne hA.rows hA.fault (by decide)),HR8.out,Kd.R_over hA.metas hA.rows (by decide) HG8.out⟩⟩
                   go_roundg k1
                   case rel => exact ⟨j + 1,line + 1,rows ++ [⟨t1,t2,t3⟩],L,by go_num,by go_num,by omega,by omega,by rw [List.length_append,List.length_singleton];omega,⟨HX2.out⟩,HI8⟩
                   case measure => omega
                 · rw [if_neg h5] at hX2
                   cases hX2
               | false =>
                 rw [if_neg Bool.false_ne_true] at hX2
                 clear hf
                 by_cases h5:t5 = Base.ofL []
                 · rw [if_pos h5] at hX2
                   have hme:t5.toList.isEmpty = true:=by rw [h5];exact hemp
                   have HX2:=Aside0.mk hX2
                   clear hX2 h5
                   go_wp2_with (go_at_call 21;(with_reducible refine (HAN.out _).mono ?_);rintro e W2 ⟨v,rfl,hr2,hb2⟩;have HI2:=Aside0.mk (HI.out.more hb2);obtain ⟨Al,cl,el⟩:=Kd.R_slice hr2;subst el;have HR2:=Aside0.mk hr2;clear hr2 hb2;obtain ⟨z0,z1,z2,z3⟩:=ua.look2 (ua.new_old (ua.new_old HI2.out.fault (.cells #[.slice Al t1.length cl,.int .i64 t2,.int .u64 t3] 53)) (.cells #[.string t5,.string t6,.string t7] 34)))
                   have HI8:Aside0 (uq.In w ((W2.alloc (.cells #[.slice Al t1.length cl,.int .i64 t2,.int .u64 t3] 53)).alloc (.cells #[.string t5,.string t6,.string t7] 34)) w.heap.size (.slice Ar rows.length cr) (.slice Am L.length cm) rows L):=⟨HI2.out.more (uc (uc (Below.refl W2.heap.size W2) _) _)⟩
                   go_roundg k1
                   case rel => exact ⟨j + 1,line + 1,rows,L,by go_num,by go_num,by omega,by omega,hrw,⟨HX2.out⟩,HI8⟩
                   case measure => omega
                 · rw [if_neg h5] at hX2
                   have hme:t5.toList.isEmpty = false:=by
                    cases h:t5.toList with
                    | nil => exact absurd (Base.ext_data (by rw [Base.ofL_data,← ByteArray.toList_eq];exact h)) h5
                    | cons _ _ => rfl
                   cases hb:u2h.f k1 L t5 t6 t7 (Tx.helpW.isPrefixOf P) with
                   | none =>
                     rw [hb] at hX2
                     cases hX2
                   | some m =>
                     rw [hb] at hX2
                     have HX2:=Aside0.mk hX2
                     have HTB:=Aside0.mk hb
                     clear hX2 h5 hb
                     go_wp2_with (go_at_call 21;(with_reducible refine (HAN.out _).mono ?_);rintro e W2 ⟨v,rfl,hr2,hb2⟩;have HI2:=Aside0.mk (HI.out.more hb2);obtain ⟨Al,cl,el⟩:=Kd.R_slice hr2;subst el;have HR2:=Aside0.mk hr2;clear hr2 hb2;obtain ⟨z0,z1,z2,z3⟩:=ua.look2 (ua.new_old (ua.new_old HI2.out.fault (.cells #[.slice Al t1.length cl,.int .i64 t2,.int .u64 t3] 53)) (.cells #[.string t5,.string t6,.string t7] 34)))
                     have HI3:=Aside0.mk (HI2.out.more (uc (uc (Below.refl W2.heap.size W2) (.cells #[.slice Al t1.length cl,.int .i64 t2,.int .u64 t3] 53)) (.cells #[.string t5,.string t6,.string t7] 34)))
                     have hs3:=ua.new_at (W2.alloc (.cells #[.slice Al t1.length cl,.int .i64 t2,.int .u64 t3] 53)) (.cells #[.string t5,.string t6,.string t7] 34)
                     rw [World.size_alloc] at hs3
                     have HS3:=Aside0.mk hs3
                     obtain ⟨⟨q0,q1,q2⟩,fq⟩:=uh.look3 HS3.out
                     clear z0 z1 z2 z3 hs3
                     generalize (W2.alloc (.cells #[.slice Al t1.length cl,.int .i64 t2,.int .u64 t3] 53)).alloc (.cells #[.string t5,.string t6,.string t7] 34) = W3 at *
                     generalize W2.heap.size = zz at *
                     go_still_tail 4,(by kernel_rfl)
                     still_call (uq.help_same P _)
                     refine wpStill_nil ?_
                     change wpList _ _ _ _ _ W3.drew
                     have HI4:=Aside0.mk (HI3.out.more (below_drew (Below.refl W3.heap.size W3)))
                     clear HI3 HS3 q0 q1 q2 fq
                     generalize W3.drew = W4 at *
                     have HTL:Aside0 (Calls Tryz.prog 22 #[.slice Am L.length cm,.agg #[.string t5,.string t6,.string t7],.bool (Tx.helpW.isPrefixOf P)] W4 fun e w' => ∃ v0_:Value,e = .returned (v0_) ∧ Kd.R k34 34 w' W4.heap.size (fun _ => True) v0_ m ∧ Below W4.heap.size W4 w'):=⟨u2h.calls k1 Am cm L t5 t6 t7 (Tx.helpW.isPrefixOf P) m W4 (Kd.R_reads' HI4.out.metas).2.2 (Kd.R_reads' HI4.out.metas).2.1 HTB.out⟩
                     go_wp2_with (go_at_call 22;(with_reducible refine HTL.out.mono ?_);rintro e W5 ⟨v5,rfl,hr5,hb5⟩;have HI5:=Aside0.mk (uq.told HI4.out hr5 hb5);clear hr5 hb5)
                     go_roundg k1
                     case rel => exact ⟨j + 1,line + 1,rows,m,by go_num,by go_num,by omega,by omega,hrw,⟨HX2.out⟩,HI5⟩
                     case measure => omega
       · have ht:=t1 h10
         have hnb:((l0.getD j 0:Int) != 10) = true:=bne_iff_ne.2 h10
         have HT:=Aside0.mk ht
         clear t1 t2 h10 ht
         generalize l0.getD j 0 = z at *
         go_wp2
         go_round
         case rel => exact ⟨j + 1,by go_num,by omega,HT.out⟩
         case measure => simp [intOf];omega
     · have HJ:Aside0 (j = i + n):=⟨by omega⟩
       have hqj:decide ((j:Int) < (l0.length:Int)) = false:=decide_eq_false (by omega)
       have hqn:decide (j < l0.length) = false:=decide_eq_false hjl
       clear hjl
       obtain ⟨P,hP⟩:∃ P,Tx.partL (Lib.bytesOf (l0.drop i)) = P:=⟨_,rfl⟩
       have hPl:P.length = n:=by rw [← hP];exact HN.out
       have hji:j - i = n:=by have:=HJ.out;omega
       have hjl2:j ≤ l0.length:=by have:=HJ.out;omega
       have hjc:j ≤ c0:=by have:=HL0.out;omega
       have hic:¬ c0 = i:=by have:=HL0.out;omega
       have hcv:(convert 22 9 (.slice (some (ad.add i)) (j - i) (c0 - i))).run Tryz.prog wr = .ok (.string (Base.ofL P)) wr:=by
        have k2:=Kd.C_drop (Kd.C_below HC0.out HI.out.below) (m:=i) (c:=c0) (by omega) HL0.out
        rw [show i * (Kd.int .u8).sz = i from Nat.mul_one _,if_neg hic] at k2
        have k3:=Kd.C_take k2 (m:=n) (by rw [List.length_drop];omega)
        have h:=Kd.C_string Tryz.underlying22 Tryz.underlying5 Tryz.underlying9 k3 (c:=c0 - i)
        rw [show ((l0.drop i).take n).length = j - i from by rw [List.length_take,List.length_drop];omega,show strOfNums ((l0.drop i).take n) = Base.ofL P from by
         show Base.ofL (Lib.bytesOf ((l0.drop i).take n)) = _
         rw [Lib.bytesOf_take,← hP,← HN.out]
         exact congrArg Base.ofL (Tx.tw_take _ _).1] at h
        exact h
       have hX2:=HX.out
       unfold uq.l0 at hX2
       rw [if_neg (fun e => absurd (List.drop_eq_nil_iff.1 e) (by omega)),hP,List.drop_drop,hPl,show i + (n + 1) = j + 1 by have:=HJ.out;omega] at hX2
       clear HX hP hPl hji
       cases ha:u2k.f k1 (Base.ofL P) a1 with
       | none =>
         rw [ha] at hX2
         cases hX2
       | some t =>
         obtain ⟨t1,t2,t3,t4,t5,t6,t7,t8⟩:=t
         rw [ha] at hX2
         simp only [Option.bind_some] at hX2
         have HAN:Aside0 (∀ W,Calls Tryz.prog 21 #[.string (Base.ofL P),.int .i64 a1] W fun e w' => ∃ v0_:Value,e = .returned (.tuple #[.agg #[v0_,.int .i64 t2,.int .u64 t3],.bool t4,.agg #[.string t5,.string t6,.string t7],.int .i64 t8]) ∧ Kd.R k66 66 w' W.heap.size (fun _ => True) v0_ t1 ∧ Below W.heap.size W w'):=⟨fun W => u2k.calls k1 (Base.ofL P) a1 t1 t2 t3 t4 t5 t6 t7 t8 W ha⟩
         clear ha
         by_cases hf:t4 = true ∧ 10000 ≤ rows.length
         · rw [if_pos hf] at hX2
           have HXE:=Aside0.mk (Option.some.inj hX2)
           obtain ⟨rfl,hr⟩:=hf
           have q1:decide ((10000:Int) ≤ (rows.length:Int)) = true:=decide_eq_true (by omega)
           have q2:decide (10000 ≤ rows.length) = true:=decide_eq_true hr
           clear hX2 hr
           go_wp2_with (go_at_call 21;(with_reducible refine (HAN.out _).mono ?_);rintro e W2 ⟨v,rfl,hr2,hb2⟩;have HI2:=Aside0.mk (HI.out.more hb2);obtain ⟨Al,cl,el⟩:=Kd.R_slice hr2;subst el;have HR2:=Aside0.mk hr2;clear hr2 hb2;obtain ⟨z0,z1,z2,z3⟩:=ua.look2 (ua.new_old (ua.new_old HI2.out.fault (.cells #[.slice Al t1.length cl,.int .i64 t2,.int .u64 t3] 53)) (.cells #[.string t5,.string t6,.string t7] 34)))
           refine bodyPost_ret (v:=.tuple #[.slice none 0 0,.slice none 0 0,.agg #[.int .i64 4,.int .i64 ((line:Int) + 1)]]) (by simp [results,Tryz.results8,go_sem,z0,z1]) rfl ?_
           exact uq.bad w _ 4 _ X HXE.out (uc (uc HI2.out.below _) _)
         · rw [if_neg hf] at hX2
           by_cases h8:t8 ≠ 0
           · rw [if_pos h8] at hX2
             have HXE:=Aside0.mk (Option.some.inj hX2)
             have e1:((t8:Int) != 0) = true:=bne_iff_ne.2 h8
             have e2:((t8:Int) == 0) = false:=beq_eq_false_iff_ne.2 h8
             clear hX2 h8
             cases t4 with
             | true =>
               have q1:decide ((10000:Int) ≤ (rows.length:Int)) = false:=decide_eq_false (by have:=Nat.lt_of_not_le (fun h => hf ⟨rfl,h⟩);omega)
               have q2:decide (10000 ≤ rows.length) = false:=decide_eq_false (fun h => hf ⟨rfl,h⟩)
               clear hf
               go_wp2_with (go_at_call 21;(with_reducible refine (HAN.out _).mono ?_);rintro e W2 ⟨v,rfl,hr2,hb2⟩;have HI2:=Aside0.mk (HI.out.more hb2);obtain ⟨Al,cl,el⟩:=Kd.R_slice hr2;subst el;have HR2:=Aside0.mk hr2;clear hr2 hb2;obtain ⟨z0,z1,z2,z3⟩:=ua.look2 (ua.new_old (ua.new_old HI2.out.fault (.cells #[.slice Al t1.length cl,.int .i64 t2,.int .u64 t3] 53)) (.cells #[.string t5,.string t6,.string t7] 34)))
               refine bodyPost_ret (v:=.tuple #[.slice none 0 0,.slice none 0 0,.agg #[.int .i64 t8,.int .i64 ((line:Int) + 1)]]) (by simp [results,Tryz.results8,go_sem,z0,z1]) rfl ?_
               exact uq.bad w _ t8 _ X HXE.out (uc (uc HI2.out.below _) _)
             | false =>
               clear hf
               go_wp2_with (go_at_call 21;(with_reducible refine (HAN.out _).mono ?_);rintro e W2 ⟨v,rfl,hr2,hb2⟩;have HI2:=Aside0.mk (HI.out.more hb2);obtain ⟨Al,cl,el⟩:=Kd.R_slice hr2;subst el;have HR2:=Aside0.mk hr2;clear hr2 hb2;obtain ⟨z0,z1,z2,z3⟩:=ua.look2 (ua.new_old (ua.new_old HI2.out.fault (.cells #[.slice Al t1.length cl,.int .i64 t2,.int .u64 t3] 53)) (.cells #[.string t5,.string t6,.string t7] 34)))
               refine bodyPost_ret (v:=.tuple #[.slice none 0 0,.slice none 0 0,.agg #[.int .i64 t8,.int .i64 ((line:Int) + 1)]]) (by simp [results,Tryz.results8,go_sem,z0,z1]) rfl ?_
               exact uq.bad w _ t8 _ X HXE.out (uc (uc HI2.out.below _) _)
           · rw [if_neg h8] at hX2
             obtain rfl:t8 = 0:=Classical.not_not.1 h8
             clear h8
             have hemp:(Base.ofL []).toList.isEmpty = true:=by rw [ByteArray.toList_eq,Base.ofL_data];rfl
             cases t4 with
             | true =>
               have hrl:rows.length < 10000:=Nat.lt_of_not_le (fun h => hf ⟨rfl,h⟩)
               have q1:decide ((10000:Int) ≤ (rows.length:Int)) = false:=decide_eq_false (by omega)
               have q2:decide (10000 ≤ rows.length) = false:=decide_eq_false (by omega)
               simp only [if_true] at hX2
               clear hf
               by_cases h5:t5 = Base.ofL []
               · rw [if_pos h5] at hX2
                 have hme:t5.toList.isEmpty = true:=by rw [h5];exact hemp
                 have HX2:=Aside0.mk hX2
                 clear hX2 h5
                 go_wp2_with (first
                  | (go_at_call 21;(with_reducible refine (HAN.out _).mono ?_);rintro e W2 ⟨v,rfl,hr2,hb2⟩;have HI2:=Aside0.mk (HI.out.more hb2);obtain ⟨Al,cl,el⟩:=Kd.R_slice hr2;subst el;have HR2:=Aside0.mk hr2;clear hr2 hb2;obtain ⟨z0,z1,z2,z3⟩:=ua.look2 (ua.new_old (ua.new_old HI2.out.fault (.cells #[.slice Al t1.length cl,.int .i64 t2,.int .u64 t3] 53)) (.cells #[.string t5,.string t6,.string t7] 34)))
                  | ((with_reducible refine gate_builtin (b:=.append) (xs:=#[.tmp 62,.tmp 64]) rfl ?_);at_builtin;go_loud (refine Kd.R_append k53 (w0:=w) (W:=((W2.alloc (.cells #[.slice Al t1.length cl,.int .i64 t2,.int .u64 t3] 53)).alloc (.cells #[.string t5,.string t6,.string t7] 34))) w.heap.size rfl (.tmp 62) (.tmp 64) 24 53 (.agg #[.slice none 0 0,.int .i64 0,.int .u64 0]) 40 rfl Tryz.underlying24 uq.infoR rfl (by decide) (by decide) _ rows ⟨t1,t2,t3⟩ [.slice Al t1.length cl,.int .i64 t2,.int .u64 t3] (fun _ => True) (fun k => wr.heap.size ≤ k) rfl (by rw [World.size_alloc,World.size_alloc];rfl) ?hM ?hok (fun _ _ => trivial) (Kd.R_alloc (Kd.R_alloc HI2.out.rows _) _) (uc (uc HI2.out.below _) _) ?hbs ?hbig ?_;(case hM => exact k53_mkM _ _ _ ⟨t1,t2,t3⟩ (Kd.R_lower (Kd.R_mono (Kd.R_bound (Kd.R_alloc (Kd.R_alloc HR2.out _) _)) (fun k hk => hk.2.1)) HI.out.below.size));(case hok => intro k hk;refine ⟨trivial,fun e => ?_⟩;have h1:=Kd.R_lt HI.out.rows k e.symm;omega);(case hbs => have h1:=HI2.out.below.size;rw [World.size_alloc,World.size_alloc];omega);(case hbig => omega);intro v8 w8 ho hb8 hg8 hat;have HR8:=Aside0.mk ho;have HB8:=Aside0.mk hb8;have HG8:=Aside0.mk hg8;have hbm:=u3b (ua.new_at (W2.alloc (.cells #[.slice Al t1.length cl,.int .i64 t2,.int .u64 t3] 53)) (.cells #[.string t5,.string t6,.string t7] 34)) hg8 (Kd.R_ne (Kd.R_alloc (Kd.R_alloc HI2.out.rows _) _) (ua.new_at (W2.alloc (.cells #[.slice Al t1.length cl,.int .i64 t2,.int .u64 t3] 53)) (.cells #[.string t5,.string t6,.string t7] 34)) (by decide));rw [World.size_alloc] at hbm;obtain ⟨⟨m0,m1,m2⟩,m3⟩:=uh.look3 hbm;clear ho hb8 hg8 hat hbm)))
                 have HI8:Aside0 (uq.In w w8 w.heap.size v8 (.slice Am L.length cm) (rows ++ [⟨t1,t2,t3⟩]) L):=⟨by
                  have hA:=(HI2.out.more (uc (uc (Below.refl W2.heap.size W2) (.cells #[.slice Al t1.length cl,.int .i64 t2,.int .u64 t3] 53)) (.cells #[.string t5,.string t6,.string t7] 34)))
                  exact ⟨HB8.out,u3b hA.fault HG8.out (Kd.R_ne hA.rows hA.fault (by decide)),HR8.out,Kd.R_over hA.metas hA.rows (by decide) HG8.out⟩⟩
                 go_roundg k1
                 case rel => exact ⟨j + 1,line + 1,rows ++ [⟨t1,t2,t3⟩],L,by go_num,by go_num,by omega,by omega,by rw [List.length_append,List.length_singleton];omega,⟨HX2.out⟩,HI8⟩
                 case measure => omega
               · rw [if_neg h5] at hX2
                 cases hX2
             | false =>
               rw [if_neg Bool.false_ne_true] at hX2
               clear hf
               by_cases h5:t5 = Base.ofL []
               · rw [if_pos h5] at hX2
                 have hme:t5.toList.isEmpty = true:=by rw [h5];exact hemp
                 have HX2:=Aside0.mk hX2
                 clear hX2 h5
                 go_wp2_with (go_at_call 21;(with_reducible refine (HAN.out _).mono ?_);rintro e W2 ⟨v,rfl,hr2,hb2⟩;have HI2:=Aside0.mk (HI.out.more hb2);obtain ⟨Al,cl,el⟩:=Kd.R_slice hr2;subst el;have HR2:=Aside0.mk hr2;clear hr2 hb2;obtain ⟨z0,z1,z2,z3⟩:=ua.look2 (ua.new_old (ua.new_old HI2.out.fault (.cells #[.slice Al t1.length cl,.int .i64 t2,.int .u64 t3] 53)) (.cells #[.string t5,.string t6,.string t7] 34)))
                 have HI8:Aside0 (uq.In w ((W2.alloc (.cells #[.slice Al t1.length cl,.int .i64 t2,.int .u64 t3] 53)).alloc (.cells #[.string t5,.string t6,.string t7] 34)) w.heap.size (.slice Ar rows.length cr) (.slice Am L.length cm) rows L):=⟨HI2.out.more (uc (uc (Below.refl W2.heap.size W2) _) _)⟩
                 go_roundg k1
                 case rel => exact ⟨j + 1,line + 1,rows,L,by go_num,by go_num,by omega,by omega,hrw,⟨HX2.out⟩,HI8⟩
                 case measure => omega
               · rw [if_neg h5] at hX2
                 have hme:t5.toList.isEmpty = false:=by
                  cases h:t5.toList with
                  | nil => exact absurd (Base.ext_data (by rw [Base.ofL_data,← ByteArray.toList_eq];exact h)) h5
                  | cons _ _ => rfl
                 cases hb:u2h.f k1 L t5 t6 t7 (Tx.helpW.isPrefixOf P) with
                 | none =>
                   rw [hb] at hX2
                   cases hX2
                 | some m =>
                   rw [hb] at hX2
                   have HX2:=Aside0.mk hX2
                   have HTB:=Aside0.mk hb
                   clear hX2 h5 hb
                   go_wp2_with (go_at_call 21;(with_reducible refine (HAN.out _).mono ?_);rintro e W2 ⟨v,rfl,hr2,hb2⟩;have HI2:=Aside0.mk (HI.out.more hb2);obtain ⟨Al,cl,el⟩:=Kd.R_slice hr2;subst el;have HR2:=Aside0.mk hr2;clear hr2 hb2;obtain ⟨z0,z1,z2,z3⟩:=ua.look2 (ua.new_old (ua.new_old HI2.out.fault (.cells #[.slice Al t1.length cl,.int .i64 t2,.int .u64 t3] 53)) (.cells #[.string t5,.string t6,.string t7] 34)))
                   have HI3:=Aside0.mk (HI2.out.more (uc (uc (Below.refl W2.heap.size W2) (.cells #[.slice Al t1.length cl,.int .i64 t2,.int .u64 t3] 53)) (.cells #[.string t5,.string t6,.string t7] 34)))
                   have hs3:=ua.new_at (W2.alloc (.cells #[.slice Al t1.length cl,.int .i64 t2,.int .u64 t3] 53)) (.cells #[.string t5,.string t6,.string t7] 34)
                   rw [World.size_alloc] at hs3
                   have HS3:=Aside0.mk hs3
                   obtain ⟨⟨q0,q1,q2⟩,fq⟩:=uh.look3 HS3.out
                   clear z0 z1 z2 z3 hs3
                   generalize (W2.alloc (.cells #[.slice Al t1.length cl,.int .i64 t2,.int .u64 t3] 53)).alloc (.cells #[.string t5,.string t6,.string t7] 34) = W3 at *
                   generalize W2.heap.size = zz at *
                   go_still_tail 4,(by kernel_rfl)
                   still_call (uq.help_same P _)
                   refine wpStill_nil ?_
                   change wpList _ _ _ _ _ W3.drew
                   have HI4:=Aside0.mk (HI3.out.more (below_drew (Below.refl W3.heap.size W3)))
                   clear HI3 HS3 q0 q1 q2 fq
                   generalize W3.drew = W4 at *
                   have HTL:Aside0 (Calls Tryz.prog 22 #[.slice Am L.length cm,.agg #[.string t5,.string t6,.string t7],.bool (Tx.helpW.isPrefixOf P)] W4 fun e w' => ∃ v0_:Value,e = .returned (v0_) ∧ Kd.R k34 34 w' W4.heap.size (fun _ => True) v0_ m ∧ Below W4.heap.size W4 w'):=⟨u2h.calls k1 Am cm L t5 t6 t7 (Tx.helpW.isPrefixOf P) m W4 (Kd.R_reads' HI4.out.metas).2.2 (Kd.R_reads' HI4.out.metas).2.1 HTB.out⟩
                   go_wp2_with (go_at_call 22;(with_reducible refine HTL.out.mono ?_);rintro e W5 ⟨v5,rfl,hr5,hb5⟩;have HI5:=Aside0.mk (uq.told HI4.out hr5 hb5);clear hr5 hb5)
                   go_roundg k1
                   case rel => exact ⟨j + 1,line + 1,rows,m,by go_num,by go_num,by omega,by omega,hrw,⟨HX2.out⟩,HI5⟩
                   case measure => omega
  · have hXe:(rows,L,0,0) = X:=by
     have h1:=HX.out
     unfold uq.l0 at h1
     rw [if_pos (List.drop_eq_nil_iff.2 (by omega))] at h1
     exact Option.some.inj h1
    have hq:decide ((i:Int) < (l0.length:Int)) = false:=decide_eq_false (by omega)
    have hq2:decide (i < l0.length) = false:=decide_eq_false hlt
    obtain ⟨z0,z1,z2,z3⟩:=ua.look2 HI.out.fault
    have HXE:=Aside0.mk hXe
    clear HX hXe
    go_wp2
    refine bodyPost_ret (v:=.tuple #[.slice Ar rows.length cr,.slice Am L.length cm,.agg #[.int .i64 0,.int .i64 0]]) (by simp [results,Tryz.results8,go_sem,z0,z1]) rfl ?_
    exact uq.good w wr rows L X HXE.out _ _ HI.out
theorem uq.calls (k:Nat) (A0:Option Addr) (c0:Nat) (l0:List Int) (a1:Int) (r1:List S53) (r2:List S34) (r3 r4:Int) (w:World) (hr0:Kd.C (Kd.int .u8) w A0 l0.length l0) (hc0:l0.length ≤ c0) (h:uq.f k l0 a1 = some (r1,r2,r3,r4)) :
 Calls Tryz.prog 8 #[.slice A0 l0.length c0,.int .i64 a1] w fun e w' => ∃ v0_ v1_:Value,e = .returned (.tuple #[v0_,v1_,.agg #[.int .i64 r3,.int .i64 r4]]) ∧ Kd.R k53 53 w' w.heap.size (fun _ => True) v0_ r1 ∧ Kd.R k34 34 w' w.heap.size (fun _ => True) v1_ r2 ∧ Below w.heap.size w w':=by
 unfold uq.f at h
 by_cases c:l0.length ≤ 1000000000000 ∧ ∀ x ∈ l0,0 ≤ x ∧ x < 256
 · rw [if_pos c] at h
   exact uq.walk k A0 c0 l0 a1 _ w hr0 hc0 c.1 c.2 h
 · rw [if_neg c] at h
   cases h
end Go.Proofs.YtmcpeifhapekoaaGreatDoor.PAll
namespace Go.Proofs.YtmcpeifhapekoaaGreatDoor.Tx
open Go.RowKit Go.Proofs.YtmcpeifhapekoaaGreatDoor.PAll Go.Proofs.YtmcpeifhapekoaaGreatDoorW.PrintWords Go.Proofs.YtmcpeifhapekoaaGreatDoorW.PrintLast
open Go.Proofs.YtmcpeifhapekoaaGreatDoor.Laws (okFrom canB wrap_up at_byte no_byte word_ev)
set_option linter.unusedVariables false
set_option linter.unusedSimpArgs false
abbrev Mt:=S34
theorem rd_mt (l:List Mt) (i:Nat) (h:i < l.length):u2o l (i:Int) = l[i]:=by
 simp [u2o,List.getD_eq_getElem?_getD,h]
theorem text_ext {a b:ByteArray}:a.toList = b.toList ↔ a = b:=by
 rw [ByteArray.toList_eq,ByteArray.toList_eq]
 exact ⟨fun h => Base.ext_data h,fun h => by rw [h]⟩
theorem tell_l0 (m:Mt) (help:Bool):∀ (R A:List Mt),A.length + R.length ≤ 2000000000000 → Ev (fun k => u2h.l0 k help (A ++ R) ((A ++ R).length:Int) (A.length:Int) m.f0 m.f1 m.f2) (A ++ ut.noteS m help R)
 | [],A,h => by
   refine Ev.step (f:=fun _ => some (A ++ [m])) (fun k => ?_) (Ev.now _)
   simp only [u2h.l0,List.append_nil]
   simp only [List.length_nil] at h
   rw [if_neg (by omega),if_pos (by omega)]
 | x :: R,A,h => by
   have hl:(A ++ x :: R).length = A.length + R.length + 1:=by rw [List.length_append,List.length_cons];omega
   rw [List.length_cons] at h
   have hx:u2o (A ++ x :: R) (A.length:Int) = x:=by
    rw [rd_mt _ _ (by omega)]
    simp
   have hset:∀ y:Mt,(A ++ x :: R).set A.length y = A ++ y :: R:=fun y => by
    rw [List.set_append,if_neg (by omega),Nat.sub_self]
    rfl
   have hw:wrap64 ((A.length:Int) + 1) = ((A ++ [x]).length:Int):=by
    rw [wrap_up _ (by omega),List.length_append,List.length_singleton]
   unfold ut.noteS
   by_cases hn:x.f0 = m.f0
   · rw [if_pos hn]
     unfold ut.set
     cases help with
     | true =>
       refine Ev.step (f:=fun _ => some (A ++ (⟨x.f0,x.f1,m.f2⟩:Mt) :: R)) (fun k => ?_) (Ev.now _)
       simp only [u2h.l0]
       rw [if_pos (by omega),if_pos (by omega),if_pos (by omega),hx,if_pos (by rw [hn]),Int.toNat_natCast,hset]
       rfl
     | false =>
       refine Ev.step (f:=fun _ => some (A ++ (⟨x.f0,m.f1,x.f2⟩:Mt) :: R)) (fun k => ?_) (Ev.now _)
       simp only [u2h.l0]
       rw [if_pos (by omega),if_pos (by omega),if_pos (by omega),hx,if_pos (by rw [hn]),Int.toNat_natCast,if_neg Bool.false_ne_true,hset]
   · rw [if_neg hn]
     have ih:=tell_l0 m help R (A ++ [x]) (by rw [List.length_append,List.length_singleton];omega)
     have e:(A ++ [x]) ++ R = A ++ x :: R:=by simp
     have e2:(A ++ [x]) ++ ut.noteS m help R = A ++ x :: ut.noteS m help R:=by simp
     rw [e,e2] at ih
     refine Ev.step (fun k => ?_) ih
     simp only [u2h.l0]
     rw [if_pos (by omega),if_pos (by omega),if_pos (by omega),hx,if_neg (fun e => hn (text_ext.1 e)),hw]
theorem tell_ev (m:Mt) (help:Bool) (l:List Mt) (h:l.length ≤ 2000000000000):Ev (fun k => u2h.f k l m.f0 m.f1 m.f2 help) (ut.noteS m help l):=by
 refine Ev.congr (fun k => ?_) (tell_l0 m help l [] (by simpa using h))
 show u2h.f k l m.f0 m.f1 m.f2 help = _
 unfold u2h.f
 simp only [Option.bind_some,List.nil_append,List.length_nil]
 rw [if_pos (by omega)]
 rfl
theorem drop_bytes (xs:List Int) (n:Nat):Lib.bytesOf (xs.drop n) = (Lib.bytesOf xs).drop n:=by
 unfold Lib.bytesOf
 rw [List.map_drop]
theorem rest_drop (b:B8):restL b = b.drop ((partL b).length + 1):=by
 unfold restL partL
 rw [← (tw_take (· != 10) b).2,List.drop_drop]
abbrev Xp:=List Rw × List Me × Int × Int
def unX (X:Xp):List Rw × List Mt × Int × Int:=(X.1,X.2.1.map ux.un,X.2.2.1,X.2.2.2)
theorem me_un (b:List Me):(b.map ux.un).map ux.me = b:=by
 rw [List.map_map]
 exact List.map_id b
def stepT (k:Nat) (now:Int) (rows:List Rw) (metas:List Mt) (line:Int) (xs:List Int) (P:B8) (t:List Lb × Int × Int × Bool × ByteArray × ByteArray × ByteArray × Int):Option (List Rw × List Mt × Int × Int) :=
 if t.2.2.2.1 = true ∧ 10000 ≤ rows.length then some ([],[],4,line + 1)
 else if t.2.2.2.2.2.2.2 ≠ 0 then some ([],[],t.2.2.2.2.2.2.2,line + 1)
 else if t.2.2.2.1 = true then (if t.2.2.2.2.1 = Base.ofL [] then uq.l0 k now (rows ++ [⟨t.1,t.2.1,t.2.2.1⟩]) metas (line + 1) (xs.drop (P.length + 1)) else none)
 else if t.2.2.2.2.1 = Base.ofL [] then uq.l0 k now rows metas (line + 1) (xs.drop (P.length + 1))
 else (u2h.f k metas t.2.2.2.2.1 t.2.2.2.2.2.1 t.2.2.2.2.2.2.1 (helpW.isPrefixOf P)).bind fun m => uq.l0 k now rows m (line + 1) (xs.drop (P.length + 1))
theorem l0_step (k:Nat) (now:Int) (rows:List Rw) (metas:List Mt) (line:Int) (xs:List Int) (hx:¬ xs = []):uq.l0 (k + 1) now rows metas line xs = (u2k.f k (Base.ofL (partL (Lib.bytesOf xs))) now).bind (stepT k now rows metas line xs (partL (Lib.bytesOf xs))):=by
 conv => lhs;unfold uq.l0
 rw [if_neg hx]
 rfl
theorem rparse_l0 (now:Int):∀ (n:Nat) (xs:List Int) (rows:List Rw) (book:List Me) (line:Int),xs.length < n → rows.length ≤ 10000 → book.length + xs.length ≤ 1000000000000 →
 Ev (fun k => uq.l0 k now rows (book.map ux.un) line xs) (unX (parseP canB now n (line + 1) rows book (Lib.bytesOf xs)))
 | 0,xs,rows,book,line,h,_,_ => by omega
 | n + 1,xs,rows,book,line,h,hr,hb => by
   by_cases hx:xs = []
   · subst hx
     refine Ev.step (f:=fun _ => some (rows,book.map ux.un,0,0)) (fun k => ?_) (Ev.now _)
     unfold uq.l0
     exact if_pos rfl
   · have hpos:0 < xs.length:=List.length_pos_iff.2 hx
     have hbx:¬ Lib.bytesOf xs = []:=fun e => by
      have:=congrArg List.length e
      rw [Lib.bytesOf_length] at this
      exact hx (List.eq_nil_of_length_eq_zero this)
     have hP:parseP canB now (n + 1) (line + 1) rows book (Lib.bytesOf xs) = (let x:=readP canB (partL (Lib.bytesOf xs)) now;let e:=if x.1.isSome = true ∧ rows.length = 10000 then 4 else x.2.2;if e ≠ 0 then ([],[],e,line + 1) else parseP canB now n (line + 1 + 1) (rows ++ x.1.toList) (if x.2.1.1 = Base.ofL [] then book else noteP x.2.1 (helpW.isPrefixOf (partL (Lib.bytesOf xs))) book) (restL (Lib.bytesOf xs))):=by
      conv => lhs;unfold parseP
      rw [if_neg hbx]
     rw [rest_drop,← drop_bytes] at hP
     rw [hP]
     refine Ev.step (fun k => l0_step k now rows (book.map ux.un) line xs hx) (Ev.bind (any_ev _ now) ?_)
     have hd:(xs.drop ((partL (Lib.bytesOf xs)).length + 1)).length + 1 ≤ xs.length:=by
      rw [List.length_drop]
      omega
     rcases ux.read_cases canB (partL (Lib.bytesOf xs)) now with ⟨c,hx2,hc⟩ | ⟨r,hx2⟩ | ⟨m,hx2,hm⟩
     · rw [hx2]
       refine Ev.congr (f:=fun _ => some ([],[],c,line + 1)) (fun k => ?_) ?_
       · unfold stepT
         rw [if_neg (by intro e;exact Bool.false_ne_true e.1),if_pos (show (anyO (none,me0,c)).2.2.2.2.2.2.2 ≠ 0 from hc)]
         rfl
       · have e:(let x:Option Rw × Me × Int:=(none,me0,c);let e:=if x.1.isSome = true ∧ rows.length = 10000 then 4 else x.2.2;if e ≠ 0 then ([],[],e,line + 1) else parseP canB now n (line + 1 + 1) (rows ++ x.1.toList) (if x.2.1.1 = Base.ofL [] then book else noteP x.2.1 (helpW.isPrefixOf (partL (Lib.bytesOf xs))) book) (Lib.bytesOf (xs.drop ((partL (Lib.bytesOf xs)).length + 1)))) = ([],[],c,line + 1):=by
          simp [hc]
         rw [e]
         exact Ev.now _
     · rw [hx2]
       by_cases h4:rows.length = 10000
       · refine Ev.congr (f:=fun _ => some ([],[],4,line + 1)) (fun k => ?_) ?_
         · unfold stepT
           rw [if_pos ⟨rfl,by omega⟩]
         · have e:(let x:Option Rw × Me × Int:=(some r,me0,0);let e:=if x.1.isSome = true ∧ rows.length = 10000 then 4 else x.2.2;if e ≠ 0 then ([],[],e,line + 1) else parseP canB now n (line + 1 + 1) (rows ++ x.1.toList) (if x.2.1.1 = Base.ofL [] then book else noteP x.2.1 (helpW.isPrefixOf (partL (Lib.bytesOf xs))) book) (Lib.bytesOf (xs.drop ((partL (Lib.bytesOf xs)).length + 1)))) = ([],[],4,line + 1):=by
            simp [h4]
           rw [e]
           exact Ev.now _
       · have ih:=rparse_l0 now n (xs.drop ((partL (Lib.bytesOf xs)).length + 1)) (rows ++ [r]) book (line + 1) (by omega) (by rw [List.length_append,List.length_singleton];omega) (by omega)
         have e:(let x:Option Rw × Me × Int:=(some r,me0,0);let e:=if x.1.isSome = true ∧ rows.length = 10000 then 4 else x.2.2;if e ≠ 0 then ([],[],e,line + 1) else parseP canB now n (line + 1 + 1) (rows ++ x.1.toList) (if x.2.1.1 = Base.ofL [] then book else noteP x.2.1 (helpW.isPrefixOf (partL (Lib.bytesOf xs))) book) (Lib.bytesOf (xs.drop ((partL (Lib.bytesOf xs)).length + 1)))) = parseP canB now n (line + 1 + 1) (rows ++ [r]) book (Lib.bytesOf (xs.drop ((partL (Lib.bytesOf xs)).length + 1))):=by
          simp [h4,me0]
         rw [e]
         refine Ev.congr (fun k => ?_) ih
         unfold stepT
         rw [if_neg (by rintro ⟨_,e⟩;omega),if_neg (show ¬ (anyO (some r,me0,0)).2.2.2.2.2.2.2 ≠ 0 from fun e => e rfl),if_pos (show (anyO (some r,me0,0)).2.2.2.1 = true from rfl),if_pos (show (anyO (some r,me0,0)).2.2.2.2.1 = Base.ofL [] from rfl)]
         rfl
     · rw [hx2]
       by_cases hm1:m.1 = Base.ofL []
       · have ih:=rparse_l0 now n (xs.drop ((partL (Lib.bytesOf xs)).length + 1)) rows book (line + 1) (by omega) hr (by omega)
         have e:(let x:Option Rw × Me × Int:=(none,m,0);let e:=if x.1.isSome = true ∧ rows.length = 10000 then 4 else x.2.2;if e ≠ 0 then ([],[],e,line + 1) else parseP canB now n (line + 1 + 1) (rows ++ x.1.toList) (if x.2.1.1 = Base.ofL [] then book else noteP x.2.1 (helpW.isPrefixOf (partL (Lib.bytesOf xs))) book) (Lib.bytesOf (xs.drop ((partL (Lib.bytesOf xs)).length + 1)))) = parseP canB now n (line + 1 + 1) rows book (Lib.bytesOf (xs.drop ((partL (Lib.bytesOf xs)).length + 1))):=by
          simp [hm1]
         rw [e]
         refine Ev.congr (fun k => ?_) ih
         unfold stepT
         rw [if_neg (by rintro ⟨e,_⟩;exact Bool.false_ne_true e),if_neg (show ¬ (anyO (none,m,0)).2.2.2.2.2.2.2 ≠ 0 from fun e => e rfl),if_neg (show ¬ (anyO (none,m,0)).2.2.2.1 = true from Bool.false_ne_true),if_pos (show (anyO (none,m,0)).2.2.2.2.1 = Base.ofL [] from hm1)]
       · have ih:=rparse_l0 now n (xs.drop ((partL (Lib.bytesOf xs)).length + 1)) rows (noteP m (helpW.isPrefixOf (partL (Lib.bytesOf xs))) book) (line + 1) (by omega) hr (by have:=ux.note_len (ux.un m) (helpW.isPrefixOf (partL (Lib.bytesOf xs))) (book.map ux.un);have h2:=congrArg List.length (ux.note_is (ux.un m) (helpW.isPrefixOf (partL (Lib.bytesOf xs))) (book.map ux.un));rw [me_un,List.length_map,show ux.me (ux.un m) = m from rfl] at h2;rw [List.length_map] at this;omega)
         have e:(let x:Option Rw × Me × Int:=(none,m,0);let e:=if x.1.isSome = true ∧ rows.length = 10000 then 4 else x.2.2;if e ≠ 0 then ([],[],e,line + 1) else parseP canB now n (line + 1 + 1) (rows ++ x.1.toList) (if x.2.1.1 = Base.ofL [] then book else noteP x.2.1 (helpW.isPrefixOf (partL (Lib.bytesOf xs))) book) (Lib.bytesOf (xs.drop ((partL (Lib.bytesOf xs)).length + 1)))) = parseP canB now n (line + 1 + 1) rows (noteP m (helpW.isPrefixOf (partL (Lib.bytesOf xs))) book) (Lib.bytesOf (xs.drop ((partL (Lib.bytesOf xs)).length + 1))):=by
          simp [hm1]
         rw [e]
         have ht:=tell_ev (ux.un m) (helpW.isPrefixOf (partL (Lib.bytesOf xs))) (book.map ux.un) (by rw [List.length_map];omega)
         have h3:=ux.note_is (ux.un m) (helpW.isPrefixOf (partL (Lib.bytesOf xs))) (book.map ux.un)
         rw [me_un,show ux.me (ux.un m) = m from rfl] at h3
         have h4:=congrArg (List.map ux.un) h3
         rw [ux.un_me] at h4
         rw [h4] at ht
         refine Ev.congr (fun k => ?_) (Ev.bind (f:=fun k m => uq.l0 k now rows m (line + 1) (xs.drop ((partL (Lib.bytesOf xs)).length + 1))) ht ih)
         unfold stepT
         rw [if_neg (by rintro ⟨e,_⟩;exact Bool.false_ne_true e),if_neg (show ¬ (anyO (none,m,0)).2.2.2.2.2.2.2 ≠ 0 from fun e => e rfl),if_neg (show ¬ (anyO (none,m,0)).2.2.2.1 = true from Bool.false_ne_true),if_neg (show ¬ (anyO (none,m,0)).2.2.2.2.1 = Base.ofL [] from hm1)]
         rfl
theorem parse_rows (now:Int):∀ (n:Nat) (line:Int) (rows:List Rw) (book:List Me) (b:B8),(∀ x ∈ rows,x.f0.length ≤ 8) → rows.length ≤ 10000 → (∀ x ∈ (parseP canB now n line rows book b).1,x.f0.length ≤ 8) ∧ (parseP canB now n line rows book b).1.length ≤ 10000 ∧ (parseP canB now n line rows book b).2.1.length ≤ book.length + n
 | 0,line,rows,book,b,h,hr => ⟨h,hr,Nat.le_refl _⟩
 | n + 1,line,rows,book,b,h,hr => by
   unfold parseP
   by_cases hb:b = []
   · rw [if_pos hb]
     exact ⟨h,hr,by show book.length ≤ _;omega⟩
   rw [if_neg hb]
   have hl:=read_len (partL b) now
   rcases ux.read_cases canB (partL b) now with ⟨c,hx2,hc⟩ | ⟨r,hx2⟩ | ⟨m,hx2,hm⟩
   · rw [hx2]
     simp [hc]
   · rw [hx2] at hl ⊢
     have hl2:r.f0.length ≤ 8:=hl
     by_cases h4:rows.length = 10000
     · simp [h4]
     · have ih:=parse_rows now n (line + 1) (rows ++ [r]) book (restL b) (fun x hx => by
        rcases List.mem_append.1 hx with h9 | h9
        · exact h x h9
        · rw [List.mem_singleton] at h9
          subst h9
          exact hl2) (by rw [List.length_append,List.length_singleton];omega)
       simp only [Option.isSome_some,h4,and_false,if_false,Option.toList_some,ne_eq,not_true,me0,if_true]
       exact ⟨ih.1,ih.2.1,by omega⟩
   · rw [hx2]
     have hnl:(if m.1 = Base.ofL [] then book else noteP m (helpW.isPrefixOf (partL b)) book).length ≤ book.length + 1:=by
      split
      · omega
      · have:=ux.note_len (ux.un m) (helpW.isPrefixOf (partL b)) (book.map ux.un)
        have h2:=congrArg List.length (ux.note_is (ux.un m) (helpW.isPrefixOf (partL b)) (book.map ux.un))
        rw [me_un,List.length_map,show ux.me (ux.un m) = m from rfl] at h2
        rw [List.length_map] at this
        omega
     have ih:=parse_rows now n (line + 1) rows (if m.1 = Base.ofL [] then book else noteP m (helpW.isPrefixOf (partL b)) book) (restL b) h hr
     simp only [Option.isSome_none,Bool.false_eq_true,false_and,if_false,Option.toList_none,List.append_nil,ne_eq,not_true]
     exact ⟨ih.1,ih.2.1,by omega⟩
end Go.Proofs.YtmcpeifhapekoaaGreatDoor.Tx
namespace Go.Proofs.YtmcpeifhapekoaaGreatDoor.PAll
open Go.RowKit Go.Proofs.YtmcpeifhapekoaaGreatDoorW.PrintWords Go.Proofs.YtmcpeifhapekoaaGreatDoorW.PrintLast Go.Proofs.YtmcpeifhapekoaaGreatDoorW.PrintMore
attribute [local go_sem] u3q u3r max_two min_two u3l u3k u3s u3p
set_option linter.unusedVariables false
set_option linter.unusedSimpArgs false
attribute [local go_sem high] eqA28
def u3o.f (k:Nat) (l0:List Int) (a1:Int):Option (Bool):=(u2y.f l0).bind fun t265 => ((ux.f t265 a1).bind fun bt268 => ((uq.f k l0 a1).bind fun bt277 => ((u1r.f k bt268.1 bt277.1).bind fun t286 => (if t286 = true then ((u2x.f k bt268.2.1 bt277.2.1).bind fun t287 => (if t287 = true then (if (bt268.2.2.1 == bt277.2.2.1 && (bt268.2.2.2 == bt277.2.2.2)) = true then ((u1q.f k t265 l0).bind fun t288 => (if t288 = true then ((u2r.f).bind fun t289 => (some t289)) else (some false))) else (some false)) else (some false))) else (some false)))))
set_option maxHeartbeats 8000000 in
set_option maxRecDepth 100000 in
theorem u3o.calls (k:Nat) (A0:Option Addr) (c0:Nat) (l0:List Int) (a1:Int) (r:Bool) (hr_:r = true) (w:World) (hr0:Kd.C (Kd.int .u8) w A0 l0.length l0) (hc0:l0.length ≤ c0) (h:u3o.f k l0 a1 = some r) :
 Calls Tryz.prog 3 #[.slice A0 l0.length c0,.int .i64 a1] w fun e w' => e = .returned (.bool r) ∧ Below w.heap.size w w':=by
 have hu28:=Tryz.underlying28
 have HR0:=Aside0.mk hr0
 have HC0:=Aside0.mk hc0
 clear hr0 hc0
 have HB:=Aside0.mk (Below.refl w.heap.size w)
 have H:((u2y.f l0).bind fun t265 => ((ux.f t265 a1).bind fun bt268 => ((uq.f k l0 a1).bind fun bt277 => ((u1r.f k bt268.1 bt277.1).bind fun t286 => (if t286 = true then ((u2x.f k bt268.2.1 bt277.2.1).bind fun t287 => (if t287 = true then (if (bt268.2.2.1 == bt277.2.2.1 && (bt268.2.2.2 == bt277.2.2.2)) = true then ((u1q.f k t265 l0).bind fun t288 => (if t288 = true then ((u2r.f).bind fun t289 => (some t289)) else (some false))) else (some false)) else (some false))) else (some false)))))) = some r:=h
 clear h
 replace H:=Option.bind_eq_some_iff.mp H
 obtain ⟨t265,A30,H⟩:=H
 replace H:((ux.f t265 a1).bind fun bt268 => ((uq.f k l0 a1).bind fun bt277 => ((u1r.f k bt268.1 bt277.1).bind fun t286 => (if t286 = true then ((u2x.f k bt268.2.1 bt277.2.1).bind fun t287 => (if t287 = true then (if (bt268.2.2.1 == bt277.2.2.1 && (bt268.2.2.2 == bt277.2.2.2)) = true then ((u1q.f k t265 l0).bind fun t288 => (if t288 = true then ((u2r.f).bind fun t289 => (some t289)) else (some false))) else (some false)) else (some false))) else (some false))))) = some r:=H
 have A3:=Aside0.mk A30
 clear A30
 replace H:=Option.bind_eq_some_iff.mp H
 obtain ⟨⟨t268,t271,t274,t275⟩,A40,H⟩:=H
 replace H:((uq.f k l0 a1).bind fun bt277 => ((u1r.f k t268 bt277.1).bind fun t286 => (if t286 = true then ((u2x.f k t271 bt277.2.1).bind fun t287 => (if t287 = true then (if (t274 == bt277.2.2.1 && (t275 == bt277.2.2.2)) = true then ((u1q.f k t265 l0).bind fun t288 => (if t288 = true then ((u2r.f).bind fun t289 => (some t289)) else (some false))) else (some false)) else (some false))) else (some false)))) = some r:=H
 have A4:=Aside0.mk A40
 clear A40
 replace H:=Option.bind_eq_some_iff.mp H
 obtain ⟨⟨t277,t280,t283,t284⟩,A50,H⟩:=H
 replace H:((u1r.f k t268 t277).bind fun t286 => (if t286 = true then ((u2x.f k t271 t280).bind fun t287 => (if t287 = true then (if (t274 == t283 && (t275 == t284)) = true then ((u1q.f k t265 l0).bind fun t288 => (if t288 = true then ((u2r.f).bind fun t289 => (some t289)) else (some false))) else (some false)) else (some false))) else (some false))) = some r:=H
 have A5:=Aside0.mk A50
 clear A50
 replace H:=Option.bind_eq_some_iff.mp H
 obtain ⟨t286,A60,H⟩:=H
 replace H:(if t286 = true then ((u2x.f k t271 t280).bind fun t287 => (if t287 = true then (if (t274 == t283 && (t275 == t284)) = true then ((u1q.f k t265 l0).bind fun t288 => (if t288 = true then ((u2r.f).bind fun t289 => (some t289)) else (some false))) else (some false)) else (some false))) else (some false)) = some r:=H
 have A6:=Aside0.mk A60
 clear A60
 by_cases c7:t286 = true
 · subst c7
   have H1:((u2x.f k t271 t280).bind fun t287 => (if t287 = true then (if (t274 == t283 && (t275 == t284)) = true then ((u1q.f k t265 l0).bind fun t288 => (if t288 = true then ((u2r.f).bind fun t289 => (some t289)) else (some false))) else (some false)) else (some false))) = some r:=by rw [if_pos rfl] at H;exact H
   clear H
   have H:=H1
   clear H1
   replace H:=Option.bind_eq_some_iff.mp H
   obtain ⟨t287,A80,H⟩:=H
   replace H:(if t287 = true then (if (t274 == t283 && (t275 == t284)) = true then ((u1q.f k t265 l0).bind fun t288 => (if t288 = true then ((u2r.f).bind fun t289 => (some t289)) else (some false))) else (some false)) else (some false)) = some r:=H
   have A8:=Aside0.mk A80
   clear A80
   by_cases c9:t287 = true
   · subst c9
     have H1:(if (t274 == t283 && (t275 == t284)) = true then ((u1q.f k t265 l0).bind fun t288 => (if t288 = true then ((u2r.f).bind fun t289 => (some t289)) else (some false))) else (some false)) = some r:=by rw [if_pos rfl] at H;exact H
     clear H
     have H:=H1
     clear H1
     by_cases c10:(t274 == t283 && (t275 == t284)) = true
     · rw [if_pos c10] at H
       have c10b0:(t274 == t283 && (t275 == t284)) = true:=c10
       (try (have c10b1:decide (t274 = t283 && (t275 == t284)) = true:=by simpa using c10))
       (try (have c10b2:(t274 == t283 && (t275 == t284)) = true:=by simpa using c10))
       clear c10
       replace H:=Option.bind_eq_some_iff.mp H
       obtain ⟨t288,A110,H⟩:=H
       replace H:(if t288 = true then ((u2r.f).bind fun t289 => (some t289)) else (some false)) = some r:=H
       have A11:=Aside0.mk A110
       clear A110
       by_cases c12:t288 = true
       · subst c12
         have H1:((u2r.f).bind fun t289 => (some t289)) = some r:=by rw [if_pos rfl] at H;exact H
         clear H
         have H:=H1
         clear H1
         replace H:=Option.bind_eq_some_iff.mp H
         obtain ⟨t289,A130,H⟩:=H
         replace H:(some t289) = some r:=H
         have A13:=Aside0.mk A130
         clear A130
         obtain rfl:=Option.some.inj H
         go_enter Tryz.func3,Tryz.ntmps3
         go_wp2_with (first | ((with_reducible refine u1u (f:=6) rfl ?_);refine u3e (some 13) rfl rfl Tryz.func6 (by kernel_rfl) rfl #[.slice A0 l0.length c0] rfl (by (try simp only [List.map_toArray,List.map_cons,List.map_nil]);first | done | rfl | (simp only [List.length_drop,List.length_take];rfl)) ?_;(with_reducible refine (u2y.calls _ _ l0 t265 _ ?side1 ?side2 A3.out).mono ?_);(case side1 => repeat (first | exact HR0.out | (with_reducible refine Kd.C_alloc ?_ _) | (with_reducible refine Kd.C_drewN ?_ _) | (with_reducible refine Kd.C_drew ?_)));(case side2 => exact HC0.out);rintro e w14 ⟨v266,rfl,ho0,hb⟩;refine ⟨_,rfl,?_⟩;have n0_:=Aside0.mk (Kd.R_lower ho0 (u1c (by repeat (first | (with_reducible first | exact HB.out | apply uc | apply ub | apply ud) | exact HB.out))));have n1_:=Aside0.mk (u1h (by repeat (first | (with_reducible first | exact HB.out | apply uc | apply ub | apply ud) | exact HB.out)) hb);clear HB;have HO267:=n0_;have HB:=n1_;clear n0_ n1_;(try clear hb);(try clear hb2);(try clear hk);(try clear hi);(try clear ho0);obtain ⟨Ao15,co15,eo15⟩:=Kd.R_slice HO267.out;subst eo15) | ((with_reducible refine u1u (f:=7) rfl ?_);refine u3e (some 17) rfl rfl Tryz.func7 (by kernel_rfl) rfl #[.slice Ao15 t265.length co15,.int .i64 a1] rfl (by (try simp only [List.map_toArray,List.map_cons,List.map_nil]);first | done | rfl | (simp only [List.length_drop,List.length_take];rfl)) ?_;(with_reducible refine (ux.calls _ _ t265 a1 t268 t271 t274 t275 _ ?side1 ?side2 A4.out).mono ?_);(case side1 => repeat (first | exact (Kd.R_reads' HO267.out).2.2 | (with_reducible refine Kd.C_alloc ?_ _) | (with_reducible refine Kd.C_drewN ?_ _) | (with_reducible refine Kd.C_drew ?_)));(case side2 => exact (Kd.R_reads' HO267.out).2.1);rintro e w16 ⟨v269,v272,rfl,ho0,ho1,hb⟩;refine ⟨_,rfl,?_⟩;have n0_:=Aside0.mk (Kd.R_below (by (with_reducible repeat (first | apply Kd.R_alloc | apply Kd.R_drewN | apply Kd.R_drew));exact HO267.out) hb);have n1_:=Aside0.mk (Kd.R_lower ho0 (u1c (by repeat (first | (with_reducible first | exact HB.out | apply uc | apply ub | apply ud) | exact HB.out))));have n2_:=Aside0.mk (Kd.R_lower ho1 (u1c (by repeat (first | (with_reducible first | exact HB.out | apply uc | apply ub | apply ud) | exact HB.out))));have n3_:=Aside0.mk (u1h (by repeat (first | (with_reducible first | exact HB.out | apply uc | apply ub | apply ud) | exact HB.out)) hb);clear HO267;clear HB;have HO267:=n0_;have HO270:=n1_;have HO273:=n2_;have HB:=n3_;clear n0_ n1_ n2_ n3_;(try clear hb);(try clear hb2);(try clear hk);(try clear hi);(try clear ho0);(try clear ho1)) | ((with_reducible refine u3f (N:=8) rfl ?_);refine u3c ?hg (N:=8) ?hd (cs:=#[.int .i64 0,.int .i64 0]) (t:=28) ?hr ?_;(case hd => rfl);(case hg => rfl);(case hr => first | (go_simp;done) | (go_simp;rfl));intro gb276 hg w17 hbox hb;have n0_:=Aside0.mk (Kd.R_below (by (with_reducible repeat (first | apply Kd.R_alloc | apply Kd.R_drewN | apply Kd.R_drew));exact HO267.out) hb);have n1_:=Aside0.mk (Kd.R_below (by (with_reducible repeat (first | apply Kd.R_alloc | apply Kd.R_drewN | apply Kd.R_drew));exact HO270.out) hb);have n2_:=Aside0.mk (Kd.R_below (by (with_reducible repeat (first | apply Kd.R_alloc | apply Kd.R_drewN | apply Kd.R_drew));exact HO273.out) hb);have n3_:=Aside0.mk (u1h (by repeat (first | (with_reducible first | exact HB.out | apply uc | apply ub | apply ud) | exact HB.out)) hb);have n4_:=Aside0.mk (hbox);have n5_:=Aside0.mk ((by rw [hg];exact (u1c (by repeat (first | (with_reducible first | exact HB.out | apply uc | apply ub | apply ud) | exact HB.out))):w.heap.size ≤ gb276));have n6_:=Aside0.mk ((by rw [hg];exact (u1c (by repeat (first | (with_reducible first | exact HB.out | apply uc | apply ub | apply ud) | exact HB.out))):w.heap.size ≤ gb276));clear HO267;clear HO270;clear HO273;clear HB;have HO267:=n0_;have HO270:=n1_;have HO273:=n2_;have HB:=n3_;have BK276:=n4_;have GW276:=n5_;have GE276:=n6_;clear n0_ n1_ n2_ n3_ n4_ n5_ n6_;clear hb hbox hg;have hcz18_0:w17.cell? ⟨gb276,0,none⟩ = some (.int .i64 0):=(uj BK276.out 0).trans rfl;have hcz18_1:w17.cell? ⟨gb276,1,none⟩ = some (.int .i64 0):=(uj BK276.out 1).trans rfl;have hfz18_0:=uk BK276.out 0;have hfz18_1:=uk BK276.out 1) | ((with_reducible refine u1u (f:=8) rfl ?_);refine u3e (some 24) rfl rfl Tryz.func8 (by kernel_rfl) rfl #[.slice A0 l0.length c0,.int .i64 a1] rfl (by (try simp only [List.map_toArray,List.map_cons,List.map_nil]);first | done | rfl | (simp only [List.length_drop,List.length_take];rfl)) ?_;(with_reducible refine (uq.calls k _ _ l0 a1 t277 t280 t283 t284 _ ?side1 ?side2 A5.out).mono ?_);(case side1 => exact Kd.C_below HR0.out (by repeat (first | (with_reducible first | exact HB.out | apply uc | apply ub | apply ud | refine ui ?_ GE276.out) | exact HB.out)));(case side2 => exact HC0.out);rintro e w19 ⟨v278,v281,rfl,ho0,ho1,hb⟩;refine ⟨_,rfl,?_⟩;have n0_:=Aside0.mk (Kd.R_below (by (with_reducible repeat (first | apply Kd.R_alloc | apply Kd.R_drewN | apply Kd.R_drew));exact (Kd.R_mono (Kd.R_far (p:=⟨gb276,1,none⟩) (Kd.R_far (p:=⟨gb276,0,none⟩) (Kd.R_types HO267.out BK276.out (by decide)) (fun _ hk => hk.2) (.int .i64 t274)) (fun _ hk => hk.2) (.int .i64 t275)) (fun _ h_ => h_.1))) hb);have n1_:=Aside0.mk (Kd.R_elder' (by (with_reducible repeat (first | apply Kd.R_alloc | apply Kd.R_drewN | apply Kd.R_drew));exact (Kd.R_mono (Kd.R_far (p:=⟨gb276,1,none⟩) (Kd.R_far (p:=⟨gb276,0,none⟩) (Kd.R_types HO270.out BK276.out (by decide)) (fun _ hk => hk.2) (.int .i64 t274)) (fun _ hk => hk.2) (.int .i64 t275)) (fun _ h_ => h_.1))) (Kd.R_base ho0) hb);have n2_:=Aside0.mk (Kd.R_elder' (by (with_reducible repeat (first | apply Kd.R_alloc | apply Kd.R_drewN | apply Kd.R_drew));exact (Kd.R_mono (Kd.R_far (p:=⟨gb276,1,none⟩) (Kd.R_far (p:=⟨gb276,0,none⟩) (Kd.R_types HO273.out BK276.out (by decide)) (fun _ hk => hk.2) (.int .i64 t274)) (fun _ hk => hk.2) (.int .i64 t275)) (fun _ h_ => h_.1))) (Kd.R_base ho1) hb);have n3_:=Aside0.mk (Kd.R_lower (Kd.R_new' ho0 (Kd.R_lt (by (with_reducible repeat (first | apply Kd.R_alloc | apply Kd.R_drewN | apply Kd.R_drew));exact (Kd.R_mono (Kd.R_far (p:=⟨gb276,1,none⟩) (Kd.R_far (p:=⟨gb276,0,none⟩) (Kd.R_types HO270.out BK276.out (by decide)) (fun _ hk => hk.2) (.int .i64 t274)) (fun _ hk => hk.2) (.int .i64 t275)) (fun _ h_ => h_.1))))) (u1c (by repeat (first | (with_reducible first | exact HB.out | apply uc | apply ub | apply ud | refine ui ?_ GE276.out) | exact HB.out))));have n4_:=Aside0.mk (Kd.R_lower (Kd.R_new' ho1 (Kd.R_lt (by (with_reducible repeat (first | apply Kd.R_alloc | apply Kd.R_drewN | apply Kd.R_drew));exact (Kd.R_mono (Kd.R_far (p:=⟨gb276,1,none⟩) (Kd.R_far (p:=⟨gb276,0,none⟩) (Kd.R_types HO273.out BK276.out (by decide)) (fun _ hk => hk.2) (.int .i64 t274)) (fun _ hk => hk.2) (.int .i64 t275)) (fun _ h_ => h_.1))))) (u1c (by repeat (first | (with_reducible first | exact HB.out | apply uc | apply ub | apply ud | refine ui ?_ GE276.out) | exact HB.out))));have n5_:=Aside0.mk (u2c (g:=gb276) (o:=.cells #[.int .i64 t274,.int .i64 t275] 28 (0,0)) (by (with_reducible repeat (first | refine ue ?_ _ | refine ug ?_ | refine uf ?_ _));refine u2d (cs:=#[.int .i64 t274,.int .i64 0]) ?_ 1 _ rfl;(with_reducible repeat (first | refine ue ?_ _ | refine ug ?_ | refine uf ?_ _));refine u2d (cs:=#[.int .i64 0,.int .i64 0]) ?_ 0 _ rfl;(with_reducible repeat (first | refine ue ?_ _ | refine ug ?_ | refine uf ?_ _));exact BK276.out) hb);have n6_:=Aside0.mk (u1h (by repeat (first | (with_reducible first | exact HB.out | apply uc | apply ub | apply ud | refine ui ?_ GE276.out) | exact HB.out)) hb);clear HO267;clear HO270;clear HO273;clear BK276;clear HB;have HO267:=n0_;have HO270:=n1_;have HO273:=n2_;have HO279:=n3_;have HO282:=n4_;have BK276:=n5_;have HB:=n6_;clear n0_ n1_ n2_ n3_ n4_ n5_ n6_;(try clear hb);(try clear hb2);(try clear hk);(try clear hi);(try clear ho0);(try clear ho1)) | ((with_reducible refine u3f (N:=11) rfl ?_);refine u3c ?hg (N:=11) ?hd (cs:=#[.int .i64 0,.int .i64 0]) (t:=28) ?hr ?_;(case hd => rfl);(case hg => rfl);(case hr => first | (go_simp;done) | (go_simp;rfl));intro gb285 hg w20 hbox hb;have n0_:=Aside0.mk (Kd.R_below (by (with_reducible repeat (first | apply Kd.R_alloc | apply Kd.R_drewN | apply Kd.R_drew));exact HO267.out) hb);have n1_:=Aside0.mk (Kd.R_below (by (with_reducible repeat (first | apply Kd.R_alloc | apply Kd.R_drewN | apply Kd.R_drew));exact HO270.out) hb);have n2_:=Aside0.mk (Kd.R_below (by (with_reducible repeat (first | apply Kd.R_alloc | apply Kd.R_drewN | apply Kd.R_drew));exact HO273.out) hb);have n3_:=Aside0.mk (Kd.R_below (by (with_reducible repeat (first | apply Kd.R_alloc | apply Kd.R_drewN | apply Kd.R_drew));exact HO279.out) hb);have n4_:=Aside0.mk (Kd.R_below (by (with_reducible repeat (first | apply Kd.R_alloc | apply Kd.R_drewN | apply Kd.R_drew));exact HO282.out) hb);have n5_:=Aside0.mk (u2c (g:=gb276) (o:=.cells #[.int .i64 t274,.int .i64 t275] 28 (0,0)) (by (with_reducible repeat (first | refine ue ?_ _ | refine ug ?_ | refine uf ?_ _));exact BK276.out) hb);have n6_:=Aside0.mk (u1h (by repeat (first | (with_reducible first | exact HB.out | apply uc | apply ub | apply ud | refine ui ?_ GE276.out) | exact HB.out)) hb);have n7_:=Aside0.mk (hbox);have n8_:=Aside0.mk ((by rw [hg];exact (u1c (by repeat (first | (with_reducible first | exact HB.out | apply uc | apply ub | apply ud | refine ui ?_ GE276.out) | exact HB.out))):w.heap.size ≤ gb285));have n9_:=Aside0.mk ((by rw [hg];exact (u1c (by repeat (first | (with_reducible first | exact HB.out | apply uc | apply ub | apply ud | refine ui ?_ GE276.out) | exact HB.out))):w.heap.size ≤ gb285));have n10_:=Aside0.mk ((by rw [hg];exact Nat.ne_of_lt (u3g (g:=gb276) (o:=.cells #[.int .i64 t274,.int .i64 t275] 28 (0,0)) (by (with_reducible repeat (first | refine ue ?_ _ | refine ug ?_ | refine uf ?_ _));exact BK276.out)):gb276 ≠ gb285));have n11_:=Aside0.mk ((by rw [hg];exact Nat.ne_of_gt (u3g (g:=gb276) (o:=.cells #[.int .i64 t274,.int .i64 t275] 28 (0,0)) (by (with_reducible repeat (first | refine ue ?_ _ | refine ug ?_ | refine uf ?_ _));exact BK276.out)):gb285 ≠ gb276));clear HO267;clear HO270;clear HO273;clear HO279;clear HO282;clear BK276;clear HB;have HO267:=n0_;have HO270:=n1_;have HO273:=n2_;have HO279:=n3_;have HO282:=n4_;have BK276:=n5_;have HB:=n6_;have BK285:=n7_;have GW285:=n8_;have GE285:=n9_;have NB276_285:=n10_;have NB285_276:=n11_;clear n0_ n1_ n2_ n3_ n4_ n5_ n6_ n7_ n8_ n9_ n10_ n11_;clear hb hbox hg;have hnb21:=NB285_276.out;have hnc21:=NB276_285.out;have hcz22_0:w20.cell? ⟨gb285,0,none⟩ = some (.int .i64 0):=(uj BK285.out 0).trans rfl;have hcz22_1:w20.cell? ⟨gb285,1,none⟩ = some (.int .i64 0):=(uj BK285.out 1).trans rfl;have hfz22_0:=uk BK285.out 0;have hfz22_1:=uk BK285.out 1;obtain ⟨Ao23,co23,eo23⟩:=Kd.R_slice HO270.out;subst eo23;obtain ⟨Ao24,co24,eo24⟩:=Kd.R_slice HO279.out;subst eo24) | ((with_reducible refine u1u (f:=9) rfl ?_);refine u3e (some 30) rfl rfl Tryz.func9 (by kernel_rfl) rfl #[.slice Ao23 t268.length co23,.slice Ao24 t277.length co24] rfl (by (try simp only [List.map_toArray,List.map_cons,List.map_nil]);first | done | rfl | (simp only [List.length_drop,List.length_take];rfl)) ?_;(with_reducible refine (u1r.calls k _ _ t268 _ _ t277 true _ ?side1 ?side2 ?side3 ?side4 A6.out).mono ?_);(case side1 => refine (Kd.R_reads' (e:=53) (base:=w.heap.size) (ok:=fun k_ => (True ∧ some k_ ≠ (.slice Ao24 t277.length co24:Value).ownBlock)) (n:=t268.length) (c:=co23) ?_).2.2;exact (by (with_reducible repeat (first | apply Kd.R_alloc | apply Kd.R_drewN | apply Kd.R_drew));exact (Kd.R_mono (Kd.R_far (p:=⟨gb285,1,none⟩) (Kd.R_far (p:=⟨gb285,0,none⟩) (Kd.R_types HO270.out BK285.out (by decide)) (fun _ hk => hk.2) (.int .i64 t283)) (fun _ hk => hk.2) (.int .i64 t284)) (fun _ h_ => h_.1))));(case side2 => exact (Kd.R_reads' HO270.out).2.1);(case side3 => refine (Kd.R_reads' (e:=53) (base:=w.heap.size) (ok:=fun k_ => (True ∧ some k_ ≠ (.slice Ao23 t268.length co23:Value).ownBlock)) (n:=t277.length) (c:=co24) ?_).2.2;exact (by (with_reducible repeat (first | apply Kd.R_alloc | apply Kd.R_drewN | apply Kd.R_drew));exact (Kd.R_mono (Kd.R_far (p:=⟨gb285,1,none⟩) (Kd.R_far (p:=⟨gb285,0,none⟩) (Kd.R_types HO279.out BK285.out (by decide)) (fun _ hk => hk.2) (.int .i64 t283)) (fun _ hk => hk.2) (.int .i64 t284)) (fun _ h_ => h_.1))));(case side4 => exact (Kd.R_reads' HO279.out).2.1);rintro e w25 ⟨rfl,hb⟩;refine ⟨_,rfl,?_⟩;have n0_:=Aside0.mk (Kd.R_below (by (with_reducible repeat (first | apply Kd.R_alloc | apply Kd.R_drewN | apply Kd.R_drew));exact (Kd.R_mono (Kd.R_far (p:=⟨gb285,1,none⟩) (Kd.R_far (p:=⟨gb285,0,none⟩) (Kd.R_types HO267.out BK285.out (by decide)) (fun _ hk => hk.2) (.int .i64 t283)) (fun _ hk => hk.2) (.int .i64 t284)) (fun _ h_ => h_.1))) hb);have n1_:=Aside0.mk (Kd.R_below (by (with_reducible repeat (first | apply Kd.R_alloc | apply Kd.R_drewN | apply Kd.R_drew));exact (Kd.R_mono (Kd.R_far (p:=⟨gb285,1,none⟩) (Kd.R_far (p:=⟨gb285,0,none⟩) (Kd.R_types HO270.out BK285.out (by decide)) (fun _ hk => hk.2) (.int .i64 t283)) (fun _ hk => hk.2) (.int .i64 t284)) (fun _ h_ => h_.1))) hb);have n2_:=Aside0.mk (Kd.R_below (by (with_reducible repeat (first | apply Kd.R_alloc | apply Kd.R_drewN | apply Kd.R_drew));exact (Kd.R_mono (Kd.R_far (p:=⟨gb285,1,none⟩) (Kd.R_far (p:=⟨gb285,0,none⟩) (Kd.R_types HO273.out BK285.out (by decide)) (fun _ hk => hk.2) (.int .i64 t283)) (fun _ hk => hk.2) (.int .i64 t284)) (fun _ h_ => h_.1))) hb);have n3_:=Aside0.mk (Kd.R_below (by (with_reducible repeat (first | apply Kd.R_alloc | apply Kd.R_drewN | apply Kd.R_drew));exact (Kd.R_mono (Kd.R_far (p:=⟨gb285,1,none⟩) (Kd.R_far (p:=⟨gb285,0,none⟩) (Kd.R_types HO279.out BK285.out (by decide)) (fun _ hk => hk.2) (.int .i64 t283)) (fun _ hk => hk.2) (.int .i64 t284)) (fun _ h_ => h_.1))) hb);have n4_:=Aside0.mk (Kd.R_below (by (with_reducible repeat (first | apply Kd.R_alloc | apply Kd.R_drewN | apply Kd.R_drew));exact (Kd.R_mono (Kd.R_far (p:=⟨gb285,1,none⟩) (Kd.R_far (p:=⟨gb285,0,none⟩) (Kd.R_types HO282.out BK285.out (by decide)) (fun _ hk => hk.2) (.int .i64 t283)) (fun _ hk => hk.2) (.int .i64 t284)) (fun _ h_ => h_.1))) hb);have n5_:=Aside0.mk (u2c (g:=gb276) (o:=.cells #[.int .i64 t274,.int .i64 t275] 28 (0,0)) (by (with_reducible repeat (first | refine ue ?_ _ | refine ug ?_ | refine uf ?_ _));refine u2m ?_ NB276_285.out _;(with_reducible repeat (first | refine ue ?_ _ | refine ug ?_ | refine uf ?_ _));refine u2m ?_ NB276_285.out _;(with_reducible repeat (first | refine ue ?_ _ | refine ug ?_ | refine uf ?_ _));exact BK276.out) hb);have n6_:=Aside0.mk (u2c (g:=gb285) (o:=.cells #[.int .i64 t283,.int .i64 t284] 28 (0,0)) (by (with_reducible repeat (first | refine ue ?_ _ | refine ug ?_ | refine uf ?_ _));refine u2d (cs:=#[.int .i64 t283,.int .i64 0]) ?_ 1 _ rfl;(with_reducible repeat (first | refine ue ?_ _ | refine ug ?_ | refine uf ?_ _));refine u2d (cs:=#[.int .i64 0,.int .i64 0]) ?_ 0 _ rfl;(with_reducible repeat (first | refine ue ?_ _ | refine ug ?_ | refine uf ?_ _));exact BK285.out) hb);have n7_:=Aside0.mk (u1h (by repeat (first | (with_reducible first | exact HB.out | apply uc | apply ub | apply ud | refine ui ?_ GE276.out | refine ui ?_ GE285.out) | exact HB.out)) hb);clear HO267;clear HO270;clear HO273;clear HO279;clear HO282;clear BK276;clear BK285;clear HB;have HO267:=n0_;have HO270:=n1_;have HO273:=n2_;have HO279:=n3_;have HO282:=n4_;have BK276:=n5_;have BK285:=n6_;have HB:=n7_;clear n0_ n1_ n2_ n3_ n4_ n5_ n6_ n7_;(try clear hb);(try clear hb2);(try clear hk);(try clear hi);obtain ⟨Ao26,co26,eo26⟩:=Kd.R_slice HO273.out;subst eo26;obtain ⟨Ao27,co27,eo27⟩:=Kd.R_slice HO282.out;subst eo27) | (go_at_call 10;(with_reducible refine (u2x.calls k _ _ t271 _ _ t280 true _ ?side1 ?side2 ?side3 ?side4 A8.out).mono ?_);(case side1 => repeat (first | exact (Kd.R_reads' HO273.out).2.2 | (with_reducible refine Kd.C_alloc ?_ _) | (with_reducible refine Kd.C_drewN ?_ _) | (with_reducible refine Kd.C_drew ?_)));(case side2 => exact (Kd.R_reads' HO273.out).2.1);(case side3 => repeat (first | exact (Kd.R_reads' HO282.out).2.2 | (with_reducible refine Kd.C_alloc ?_ _) | (with_reducible refine Kd.C_drewN ?_ _) | (with_reducible refine Kd.C_drew ?_)));(case side4 => exact (Kd.R_reads' HO282.out).2.1);rintro e w' ⟨rfl,⟨nd,rfl⟩⟩;have hcz28_0:w25.cell? ⟨gb276,0,none⟩ = some (.int .i64 t274):=(uj BK276.out 0).trans rfl;have hcz28_1:w25.cell? ⟨gb276,1,none⟩ = some (.int .i64 t275):=(uj BK276.out 1).trans rfl;have hfz28_0:=uk BK276.out 0;have hfz28_1:=uk BK276.out 1;have hcz29_0:w25.cell? ⟨gb285,0,none⟩ = some (.int .i64 t283):=(uj BK285.out 0).trans rfl;have hcz29_1:w25.cell? ⟨gb285,1,none⟩ = some (.int .i64 t284):=(uj BK285.out 1).trans rfl;have hfz29_0:=uk BK285.out 0;have hfz29_1:=uk BK285.out 1) | (go_at_call 11;(with_reducible refine (u1q.calls k _ _ t265 _ _ l0 true _ ?side1 ?side2 ?side3 ?side4 A11.out).mono ?_);(case side1 => repeat (first | exact (Kd.R_reads' HO267.out).2.2 | (with_reducible refine Kd.C_alloc ?_ _) | (with_reducible refine Kd.C_drewN ?_ _) | (with_reducible refine Kd.C_drew ?_)));(case side2 => exact (Kd.R_reads' HO267.out).2.1);(case side3 => repeat (first | exact (Kd.C_below HR0.out (by repeat (first | (with_reducible first | exact HB.out | apply uc | apply ub | apply ud | refine ui ?_ GE276.out | refine ui ?_ GE285.out) | exact HB.out))) | (with_reducible refine Kd.C_alloc ?_ _) | (with_reducible refine Kd.C_drewN ?_ _) | (with_reducible refine Kd.C_drew ?_)));(case side4 => exact HC0.out);rintro e w' ⟨rfl,⟨nd,rfl⟩⟩) | (go_at_call 12;(with_reducible refine (u2r.calls  t289 _ A13.out).mono ?_);rintro e w30 ⟨rfl,hb⟩;have n0_:=Aside0.mk (Kd.R_below (by (with_reducible repeat (first | apply Kd.R_alloc | apply Kd.R_drewN | apply Kd.R_drew));exact HO267.out) hb);have n1_:=Aside0.mk (Kd.R_below (by (with_reducible repeat (first | apply Kd.R_alloc | apply Kd.R_drewN | apply Kd.R_drew));exact HO270.out) hb);have n2_:=Aside0.mk (Kd.R_below (by (with_reducible repeat (first | apply Kd.R_alloc | apply Kd.R_drewN | apply Kd.R_drew));exact HO273.out) hb);have n3_:=Aside0.mk (Kd.R_below (by (with_reducible repeat (first | apply Kd.R_alloc | apply Kd.R_drewN | apply Kd.R_drew));exact HO279.out) hb);have n4_:=Aside0.mk (Kd.R_below (by (with_reducible repeat (first | apply Kd.R_alloc | apply Kd.R_drewN | apply Kd.R_drew));exact HO282.out) hb);have n5_:=Aside0.mk (u2c (g:=gb276) (o:=.cells #[.int .i64 t274,.int .i64 t275] 28 (0,0)) (by (with_reducible repeat (first | refine ue ?_ _ | refine ug ?_ | refine uf ?_ _));exact BK276.out) hb);have n6_:=Aside0.mk (u2c (g:=gb285) (o:=.cells #[.int .i64 t283,.int .i64 t284] 28 (0,0)) (by (with_reducible repeat (first | refine ue ?_ _ | refine ug ?_ | refine uf ?_ _));exact BK285.out) hb);have n7_:=Aside0.mk (u1h (by repeat (first | (with_reducible first | exact HB.out | apply uc | apply ub | apply ud | refine ui ?_ GE276.out | refine ui ?_ GE285.out) | exact HB.out)) hb);clear HO267;clear HO270;clear HO273;clear HO279;clear HO282;clear BK276;clear BK285;clear HB;have HO267:=n0_;have HO270:=n1_;have HO273:=n2_;have HO279:=n3_;have HO282:=n4_;have BK276:=n5_;have BK285:=n6_;have HB:=n7_;clear n0_ n1_ n2_ n3_ n4_ n5_ n6_ n7_;(try clear hb);(try clear hb2);(try clear hk);(try clear hi)))
         go_ret
         exact ⟨by first | rfl | (simp [u1k,u1l] <;> rfl) | (simp [*,u1k,u1l] <;> rfl),by repeat (first | (with_reducible first | exact HB.out | apply uc | apply ub | apply ud | refine ui ?_ GE276.out | refine ui ?_ GE285.out) | exact HB.out)⟩
       · replace c12:=Bool.eq_false_iff.mpr c12
         subst c12
         have H1:(some false) = some r:=by rw [if_neg (show ¬ (false = true) by decide)] at H;exact H
         clear H
         have H:=H1
         clear H1
         exact absurd (Option.some.inj H) (by rw [hr_];decide)
     · rw [if_neg c10] at H
       have c10b0:(t274 == t283 && (t275 == t284)) = false:=by simpa using c10
       (try (have c10b1:decide (t274 = t283 && (t275 == t284)) = false:=by simpa using c10))
       (try (have c10b2:(t274 == t283 && (t275 == t284)) = false:=by simpa using c10))
       (try (have c10b3:¬ (t274 = t283 && (t275 == t284)):=by simpa using c10))
       clear c10
       exact absurd (Option.some.inj H) (by rw [hr_];decide)
   · replace c9:=Bool.eq_false_iff.mpr c9
     subst c9
     have H1:(some false) = some r:=by rw [if_neg (show ¬ (false = true) by decide)] at H;exact H
     clear H
     have H:=H1
     clear H1
     exact absurd (Option.some.inj H) (by rw [hr_];decide)
 · replace c7:=Bool.eq_false_iff.mpr c7
   subst c7
   have H1:(some false) = some r:=by rw [if_neg (show ¬ (false = true) by decide)] at H;exact H
   clear H
   have H:=H1
   clear H1
   exact absurd (Option.some.inj H) (by rw [hr_];decide)
end Go.Proofs.YtmcpeifhapekoaaGreatDoor.PAll
namespace Go.Proofs.YtmcpeifhapekoaaGreatDoor.Tx
open Go.RowKit Go.Proofs.YtmcpeifhapekoaaGreatDoor.PAll Go.Proofs.YtmcpeifhapekoaaGreatDoorW.PrintWords Go.Proofs.YtmcpeifhapekoaaGreatDoorW.PrintLast
open Go.Proofs.YtmcpeifhapekoaaGreatDoor.Laws (okFrom canB wrap_up at_byte no_byte word_ev)
set_option linter.unusedVariables false
set_option linter.unusedSimpArgs false
theorem same_mt (m:List Mt) (hm:m.length ≤ 9223372036854775806):∀ (r:List Mt) (i:Nat),m.drop i = r → Ev (fun k => u2x.l0 k m m (m.length:Int) (i:Int)) true:=by
 intro r
 induction r with
 | nil =>
   intro i h
   have hi:m.length ≤ i:=List.drop_eq_nil_iff.1 h
   refine Ev.step (f:=fun _ => some true) (fun k => ?_) (Ev.now true)
   simp only [u2x.l0]
   rw [if_neg (by omega)]
 | cons x r ih =>
   intro i h
   have hi:i < m.length:=by
    rcases Nat.lt_or_ge i m.length with h1 | h1
    · exact h1
    · rw [List.drop_eq_nil_of_le h1] at h
      cases h
   have hr:m.drop (i + 1) = r:=by
    rw [List.drop_eq_getElem_cons hi] at h
    exact (List.cons.inj h).2
   have hw:=wrap_up i (by omega)
   refine Ev.step (fun k => ?_) (ih (i + 1) hr)
   simp only [u2x.l0]
   rw [if_pos (by omega),if_pos (by omega),if_pos (by omega),if_pos (by omega),if_neg (by simp),hw]
theorem same_metas (m:List Mt) (hm:m.length ≤ 9223372036854775806):Ev (fun k => u2x.f k m m) true:=by
 refine Ev.congr (fun k => ?_) (same_mt m hm m 0 rfl)
 show u2x.f k m m = _
 unfold u2x.f
 rw [if_pos rfl]
 rfl
theorem same_by (m:List Int) (hm:m.length ≤ 9223372036854775806):∀ (r:List Int) (i:Nat),m.drop i = r → Ev (fun k => u1q.l0 k m m (m.length:Int) (i:Int)) true:=by
 intro r
 induction r with
 | nil =>
   intro i h
   have hi:m.length ≤ i:=List.drop_eq_nil_iff.1 h
   refine Ev.step (f:=fun _ => some true) (fun k => ?_) (Ev.now true)
   simp only [u1q.l0]
   rw [if_neg (by omega)]
 | cons x r ih =>
   intro i h
   have hi:i < m.length:=by
    rcases Nat.lt_or_ge i m.length with h1 | h1
    · exact h1
    · rw [List.drop_eq_nil_of_le h1] at h
      cases h
   have hr:m.drop (i + 1) = r:=by
    rw [List.drop_eq_getElem_cons hi] at h
    exact (List.cons.inj h).2
   have hw:=wrap_up i (by omega)
   refine Ev.step (fun k => ?_) (ih (i + 1) hr)
   simp only [u1q.l0]
   rw [if_pos (by omega),if_pos (by omega),if_pos (by omega),if_pos (by omega)]
   simp only [if_true,hw]
theorem same_bytes (m:List Int) (hm:m.length ≤ 9223372036854775806):Ev (fun k => u1q.f k m m) true:=by
 refine Ev.congr (fun k => ?_) (same_by m hm m 0 rfl)
 show u1q.f k m m = _
 unfold u1q.f
 rw [if_pos rfl]
 rfl
theorem reads_ev (l0:List Int) (a1:Int) (hl:l0.length ≤ 1048576) (h8:∀ x ∈ l0,0 ≤ x ∧ x < 256):Ev (fun k => u3o.f k l0 a1) true:=by
 have hX:=rparse_l0 a1 (l0.length + 1) l0 [] [] 0 (by omega) (by simp) (by simp;omega)
 obtain ⟨h1,h2,h3⟩:=parse_rows a1 (l0.length + 1) 1 [] [] (Lib.bytesOf l0) (by simp) (by simp)
 have hp:ux.f l0 a1 = some ((parseP canB a1 (l0.length + 1) 1 [] [] (Lib.bytesOf l0)).1,(parseP canB a1 (l0.length + 1) 1 [] [] (Lib.bytesOf l0)).2.1.map ux.un,(parseP canB a1 (l0.length + 1) 1 [] [] (Lib.bytesOf l0)).2.2.1,(parseP canB a1 (l0.length + 1) 1 [] [] (Lib.bytesOf l0)).2.2.2):=by
  unfold ux.f
  rw [if_pos (by omega)]
 rw [show (0:Int) + 1 = 1 from rfl] at hX
 unfold u3o.f u2y.f
 rw [if_pos (by omega)]
 simp only [Option.bind_some]
 rw [hp]
 simp only [Option.bind_some]
 generalize parseP canB a1 (l0.length + 1) 1 [] [] (Lib.bytesOf l0) = X at *
 have hR:Ev (fun k => uq.f k l0 a1) (unX X):=by
  refine Ev.congr (fun k => ?_) hX
  show uq.f k l0 a1 = _
  unfold uq.f
  rw [if_pos ⟨by omega,h8⟩]
  rfl
 refine Ev.bind hR ?_
 refine Ev.bind (same_rowsf X.1 (by omega) (fun x hx => by have:=h1 x hx;omega)) ?_
 simp only [if_true]
 refine Ev.bind (same_metas (X.2.1.map ux.un) (by rw [List.length_map];simp at h3;omega)) ?_
 simp only [if_true]
 refine Ev.congr (fun k => if_pos ?_) ?_
 · simp [unX]
 refine Ev.bind (same_bytes l0 (by omega)) ?_
 simp only [if_true]
 rw [awake27]
 exact Ev.now true
end Go.Proofs.YtmcpeifhapekoaaGreatDoor.Tx
