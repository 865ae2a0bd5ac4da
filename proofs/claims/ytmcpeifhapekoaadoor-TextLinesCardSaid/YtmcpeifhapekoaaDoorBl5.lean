/- Texts of this seat, joined in the order in which they build. -/
import Derived.Test.YtmcpeifhapekoaaDoorBl1
import Derived.Test.YtmcpeifhapekoaaDoorBl3
import Derived.Test.YtmcpeifhapekoaaDoorBl2
import Derived.Test.YtmcpeifhapekoaaDoorBl4
namespace Go.Proofs.YtmcpeifhapekoaaDoor.PAll
open Go.RowKit Go.Proofs.YtmcpeifhapekoaaDoorW.PrintWords Go.Proofs.YtmcpeifhapekoaaDoorW.PrintLast Go.Proofs.YtmcpeifhapekoaaDoorW.PrintMore
attribute [local go_sem] max2_int min2_int max_two min_two max_three min_three max_four min_four
set_option linter.unusedVariables false
set_option linter.unusedSimpArgs false
mutual
def un.j0:Nat → Int → List (S37) → ByteArray → Option ((List (S37)) × Int × Int × Bool)
 | 0,_,_,_ => none
 | k + 1,x1,x6,x8 => (ut.f x8 (⟨#[123]⟩:ByteArray)).bind fun t200 => (if t200 = true then (if 1 ≤ (x8.size:Int) then ((ul.f k x6 (x8.extract 1 x8.size)).bind fun bt201 => (if bt201.2.2 = true then (un.j1 k x1 bt201.1 bt201.2.1) else (some (([]:List (S37)),0,0,false)))) else (none)) else (un.j1 k x1 x6 x8))
def un.j1:Nat → Int → List (S37) → ByteArray → Option ((List (S37)) × Int × Int × Bool)
 | 0,_,_,_ => none
 | k + 1,x1,x6,x8 => (u1e.f k x8).bind fun bt206 => ((u2a.f k bt206.1).bind fun bt208 => ((uv.f k x6).bind fun t211 => (if t211 = true then (if bt206.2 = true then (un.j2 k x1 x6 bt208.2.1 bt208.1 (!bt208.2.2)) else (un.j2 k x1 x6 bt208.2.1 bt208.1 true)) else (un.j2 k x1 x6 bt208.2.1 bt208.1 true))))
def un.j2:Nat → Int → List (S37) → ByteArray → Int → Bool → Option ((List (S37)) × Int × Int × Bool)
 | 0,_,_,_,_,_ => none
 | k + 1,x1,x6,x8,x11,x62 => if x62 = true then (some (([]:List (S37)),0,0,false)) else ((u1e.f k x8).bind fun bt212 => (if bt212.1.toList = ([]:List UInt8) then (some (x6,x1,x11,true)) else ((u1g.f k bt212.1).bind fun bt214 => ((u1e.f k bt214.2.1).bind fun bt217 => (if bt212.2 = true then (if bt214.2.2 = true then (some (x6,bt214.1,x11,(bt217.1.toList == ([]:List UInt8)))) else (some (x6,bt214.1,x11,false))) else (some (x6,bt214.1,x11,false)))))))
end
def un.f (k:Nat) (a0:ByteArray) (a1:Int):Option ((List (S37)) × Int × Int × Bool):=(u1t.f k a0).bind fun bt194 => (if bt194.1.toList = ([]:List UInt8) then (un.j0 k a1 ([]:List (S37)) bt194.2) else ((uy.f k bt194.1).bind fun t196 => (if t196 = true then (un.j0 k a1 (([(⟨(⟨#[95,95,110,97,109,101,95,95]⟩:ByteArray),bt194.1⟩:S37)]:List (S37))) bt194.2) else (some (([]:List (S37)),0,0,false)))))
set_option maxHeartbeats 8000000 in
set_option maxRecDepth 100000 in
theorem un.calls (k:Nat) (a0:ByteArray) (a1:Int) (r1:List (S37)) (r2:Int) (r3:Int) (r4:Bool) (w:World) (h:un.f k a0 a1 = some (r1,r2,r3,r4)) :
 Calls Tryd.prog 38 #[.string a0,.int .i64 a1] w fun e w' => ∃ v0_:Value,e = .returned (.tuple #[.agg #[v0_,.int .i64 r2,.int .u64 r3],.bool r4]) ∧ Kd.R k37 37 w' w.heap.size (fun _ => True) v0_ r1 ∧ Below w.heap.size w w':=by
 have hu25:=Tryd.underlying25
 have hu37:=Tryd.underlying37
 have HB:=Aside0.mk (Below.refl w.heap.size w)
 have H:((u1t.f k a0).bind fun bt194 => (if bt194.1.toList = ([]:List UInt8) then (un.j0 k a1 ([]:List (S37)) bt194.2) else ((uy.f k bt194.1).bind fun t196 => (if t196 = true then (un.j0 k a1 (([(⟨(⟨#[95,95,110,97,109,101,95,95]⟩:ByteArray),bt194.1⟩:S37)]:List (S37))) bt194.2) else (some (([]:List (S37)),0,0,false)))))) = some (r1,r2,r3,r4):=h
 clear h
 replace H:=Option.bind_eq_some_iff.mp H
 obtain ⟨⟨t194,t195⟩,A30,H⟩:=H
 replace H:(if t194.toList = ([]:List UInt8) then (un.j0 k a1 ([]:List (S37)) t195) else ((uy.f k t194).bind fun t196 => (if t196 = true then (un.j0 k a1 (([(⟨(⟨#[95,95,110,97,109,101,95,95]⟩:ByteArray),t194⟩:S37)]:List (S37))) t195) else (some (([]:List (S37)),0,0,false))))) = some (r1,r2,r3,r4):=H
 have A3:=Aside0.mk A30
 clear A30
 have HC4:=Aside0.mk H
 clear H
 go_enter Tryd.func38,Tryd.ntmps38
 go_upto_if 20 with (first | ((with_reducible refine u2k (N:=4) rfl ?_);refine u2h ?hg (N:=4) ?hd (cs:=#[.slice none 0 0,.int .i64 0,.int .u64 0]) (t:=25) ?hr ?_;(case hd => rfl);(case hg => rfl);(case hr => first | (go_simp;done) | (go_simp;rfl));intro gb193 hg w5 hbox hb;have n0_:=Aside0.mk (ux (by repeat (first | (with_reducible first | exact HB.out | apply uf | apply ua | apply ug) | exact HB.out)) hb);have n1_:=Aside0.mk (hbox);have n2_:=Aside0.mk ((by rw [hg];exact (uq (by repeat (first | (with_reducible first | exact HB.out | apply uf | apply ua | apply ug) | exact HB.out))):w.heap.size ≤ gb193));have n3_:=Aside0.mk ((by rw [hg];exact (uq (by repeat (first | (with_reducible first | exact HB.out | apply uf | apply ua | apply ug) | exact HB.out))):w.heap.size ≤ gb193));clear HB;have HB:=n0_;have BK193:=n1_;have GW193:=n2_;have GE193:=n3_;clear n0_ n1_ n2_ n3_;clear hb hbox hg) | ((with_reducible refine u1k (f:=65) rfl ?_);refine u2r (some 16) rfl rfl Tryd.func65 (by kernel_rfl) rfl #[.string a0] rfl (by (try simp only [List.map_toArray,List.map_cons,List.map_nil]);first | done | rfl | (simp only [List.length_drop,List.length_take];rfl)) ?_;(with_reducible refine (u1t.calls k a0 t194 t195 _ A3.out).mono ?_);rintro e w' ⟨rfl,⟨nd,rfl⟩⟩;refine ⟨_,rfl,?_⟩))
 (try simp only [Act.put,List.setIfInBounds_toArray,List.set_cons_zero,List.set_cons_succ])
 go_cut [6] (fun v6 wc => ∃ (kq:Nat) (x6_3:List (S37)) (x194001_3:Int) (x194002_3:Int),Aside0 (un.j0 kq a1 x6_3 t195 = some (r1,r2,r3,r4)) ∧ Aside0 (kq ≤ k) ∧ Aside0 (Kd.R k37 37 wc w.heap.size (fun _ => True) v6 x6_3) ∧ Aside0 (wc.heap[gb193]? = some (.cells #[(.slice none 0 0),.int .i64 x194001_3,.int .u64 x194002_3] 25 (0,0))) ∧ Aside0 (Below w.heap.size w wc))
 case first =>
  have H:=HC4.out
  clear HC4
  by_cases c6:t194.toList = ([]:List UInt8)
  · rw [if_pos c6] at H
    have c6b0:(t194.toList == ([]:List UInt8)) = true:=beq_iff_eq.mpr c6
    have c6b1:(t194.toList != ([]:List UInt8)) = false:=bne_eq_false_iff_eq.mpr c6
    have c6b2:t194.toList.isEmpty = true:=by rw [c6];rfl
    clear c6
    (first | rw [c6b0] | (rw [c6b2];simp only [Bool.not_true,Bool.not_false]) | (simp only [i64_w,i32_w];rw [c6b0]) | skip)
    have H':=Aside0.mk H
    clear H
    go_wp2
    go_meet
    case rel => exact ⟨_,(([]:List (S37))),(0),(0),H',⟨by first | omega | exact Nat.le_refl _⟩,⟨by first | exact Kd.R_nil _ _ _ _ _ | exact Kd.N_nil _ _ _ _ _ | exact Kd.V_nil _ _ _ _ _ | exact Kd.Q_nil _ _ _ _ _ | exact Kd.S_nil _ _ _ _ _⟩,⟨by (with_reducible repeat (first | refine uc ?_ _ | refine ue ?_ | refine ub ?_ _));exact BK193.out⟩,⟨by repeat (first | (with_reducible first | exact HB.out | apply uf | apply ua | apply ug | refine uh ?_ GE193.out) | exact HB.out)⟩⟩
  · rw [if_neg c6] at H
    have c6b0:(t194.toList == ([]:List UInt8)) = false:=beq_eq_false_iff_ne.mpr c6
    have c6b1:(t194.toList != ([]:List UInt8)) = true:=bne_iff_ne.mpr c6
    have c6b2:t194.toList.isEmpty = false:=by cases e_:t194.toList with | nil => exact absurd e_ c6 | cons _ _ => rfl
    (first | rw [c6b0] | (rw [c6b2];simp only [Bool.not_true,Bool.not_false]) | (simp only [i64_w,i32_w];rw [c6b0]) | skip)
    replace H:=Option.bind_eq_some_iff.mp H
    obtain ⟨t196,A70,H⟩:=H
    replace H:(if t196 = true then (un.j0 k a1 (([(⟨(⟨#[95,95,110,97,109,101,95,95]⟩:ByteArray),t194⟩:S37)]:List (S37))) t195) else (some (([]:List (S37)),0,0,false))) = some (r1,r2,r3,r4):=H
    have A7:=Aside0.mk A70
    clear A70
    by_cases c8:t196 = true
    · subst c8
      have H1:(un.j0 k a1 (([(⟨(⟨#[95,95,110,97,109,101,95,95]⟩:ByteArray),t194⟩:S37)]:List (S37))) t195) = some (r1,r2,r3,r4):=by rw [if_pos rfl] at H;exact H
      clear H
      have H:=H1
      clear H1
      obtain ⟨y197,hy197⟩:∃ y_:List (S37),y_ = (([(⟨(⟨#[95,95,110,97,109,101,95,95]⟩:ByteArray),t194⟩:S37)]:List (S37))):=⟨_,rfl⟩
      replace H:(un.j0 k a1 y197 t195) = some (r1,r2,r3,r4):=by first | (rw [hy197];with_reducible exact H) | (have H2_:=(Option.bind_some _ _).symm.trans H;rw [hy197];with_reducible exact H2_) | (have H2_:=(Option.bind_some _ _).symm.trans H;with_reducible exact H2_) | with_reducible exact H | (rw [hy197];exact H) | exact H
      have Ny197:=Aside0.mk hy197
      clear hy197
      have H':=Aside0.mk H
      clear H
      go_wp2_with (first | ((with_reducible refine u1k (f:=18) rfl ?_);refine u2r (some 22) rfl rfl Tryd.func18 (by kernel_rfl) rfl #[.string t194] rfl (by (try simp only [List.map_toArray,List.map_cons,List.map_nil]);first | done | rfl | (simp only [List.length_drop,List.length_take];rfl)) ?_;(with_reducible refine (uy.calls k t194 true _ A7.out).mono ?_);rintro e w' ⟨rfl,⟨nd,rfl⟩⟩;refine ⟨_,rfl,?_⟩) | ((with_reducible refine u2k (N:=27) rfl ?_);refine Kd.R_lit k37 _ 37 ?hg (N:=27) ?hd (xs:=([(⟨(⟨#[95,95,110,97,109,101,95,95]⟩:ByteArray),t194⟩:S37)]:List (S37))) (inner:=[.string (⟨#[95,95,110,97,109,101,95,95]⟩:ByteArray),.string t194]) (ok:=fun _ => True) (okp:=fun _ => True) ?hr ?hp (fun _ hk => hk) trivial (Below.refl _ _) (Nat.le_refl _) (by simp) ?_;(case hd => rfl);(case hg => rfl);(case hr => first | (go_simp;done) | (go_simp;rfl));(case hp => exact (Reps.c2 (show Kd.M k37 _ _ _ (⟨(⟨#[95,95,110,97,109,101,95,95]⟩:ByteArray),t194⟩:S37) [.string (⟨#[95,95,110,97,109,101,95,95]⟩:ByteArray),.string t194] from (k37_mkM _ _ _ (⟨(⟨#[95,95,110,97,109,101,95,95]⟩:ByteArray),t194⟩:S37) )) (Reps.none _ _)));intro v198 w9 ho10 hb hg_ hnew_;clear hg_ hnew_;(first | rw [← Ny197.out] at ho10 | (simp only [Int.reduceToNat] at ho10;rw [← Ny197.out] at ho10));have n0_:=Aside0.mk (Kd.R_lower ho10 (uq (by repeat (first | (with_reducible first | exact HB.out | apply uf | apply ua | apply ug | refine uh ?_ GE193.out) | exact HB.out))));have n1_:=Aside0.mk (u1a (g:=gb193) (o:=.cells #[.slice none 0 0,.int .i64 0,.int .u64 0] 25 (0,0)) (by (with_reducible repeat (first | refine uc ?_ _ | refine ue ?_ | refine ub ?_ _));exact BK193.out) hb);have n2_:=Aside0.mk (ux (by repeat (first | (with_reducible first | exact HB.out | apply uf | apply ua | apply ug | refine uh ?_ GE193.out) | exact HB.out)) hb);clear BK193;clear HB;have HO199:=n0_;have BK193:=n1_;have HB:=n2_;clear n0_ n1_ n2_;clear hb ho10))
      go_meet
      case rel => exact ⟨_,(y197),(0),(0),H',⟨by first | omega | exact Nat.le_refl _⟩,⟨by (with_reducible repeat (first | apply Kd.R_alloc | apply Kd.R_drewN | apply Kd.R_drew));exact HO199.out⟩,⟨by (with_reducible repeat (first | refine uc ?_ _ | refine ue ?_ | refine ub ?_ _));exact BK193.out⟩,⟨by repeat (first | (with_reducible first | exact HB.out | apply uf | apply ua | apply ug | refine uh ?_ GE193.out) | exact HB.out)⟩⟩
    · replace c8:=Bool.eq_false_iff.mpr c8
      subst c8
      have H1:(some (([]:List (S37)),0,0,false)) = some (r1,r2,r3,r4):=by rw [if_neg (show ¬ (false = true) by decide)] at H;exact H
      clear H
      have H:=H1
      clear H1
      simp only [Option.some.injEq,Prod.mk.injEq] at H
      obtain ⟨rfl,rfl,rfl,rfl⟩:=H
      go_wp2_with (first | ((with_reducible refine u1k (f:=18) rfl ?_);refine u2r (some 22) rfl rfl Tryd.func18 (by kernel_rfl) rfl #[.string t194] rfl (by (try simp only [List.map_toArray,List.map_cons,List.map_nil]);first | done | rfl | (simp only [List.length_drop,List.length_take];rfl)) ?_;(with_reducible refine (uy.calls k t194 false _ A7.out).mono ?_);rintro e w' ⟨rfl,⟨nd,rfl⟩⟩;refine ⟨_,rfl,?_⟩;(try (rw [u2z w5];generalize hq_:World.drewN w5 _ = w5;have n0_:Aside0 (w5.heap[gb193]? = some (.cells #[.slice none 0 0,.int .i64 0,.int .u64 0] 25 (0,0))):=⟨by rw [← hq_];exact (by (with_reducible repeat (first | refine uc ?_ _ | refine ue ?_ | refine ub ?_ _));exact BK193.out)⟩;have n1_:Aside0 (Below w.heap.size w w5):=⟨by rw [← hq_];exact (by repeat (first | (with_reducible first | exact HB.out | apply uf | apply ua | apply ug | refine uh ?_ GE193.out) | exact HB.out))⟩;clear BK193 HB hq_;have BK193:=n0_;have HB:=n1_;clear n0_ n1_));have hcz11_0:w5.cell? ⟨gb193,0,none⟩ = some (.slice none 0 0):=(uj BK193.out 0).trans rfl;have hcz11_1:w5.cell? ⟨gb193,1,none⟩ = some (.int .i64 0):=(uj BK193.out 1).trans rfl;have hcz11_2:w5.cell? ⟨gb193,2,none⟩ = some (.int .u64 0):=(uj BK193.out 2).trans rfl;have hfz11_0:=ui BK193.out 0;have hfz11_1:=ui BK193.out 1;have hfz11_2:=ui BK193.out 2))
      refine bodyPost_ret (results_ct rfl _ _ gb193 25 #[.slice none 0 0,.int .i64 0,.int .u64 0] (0,0) _ rfl (by (with_reducible repeat (first | refine uc ?_ _ | refine ue ?_ | refine ub ?_ _));refine u1m (cs:=#[.slice none 0 0,.int .i64 0,.int .u64 0]) ?_ 2 _ rfl;(with_reducible repeat (first | refine uc ?_ _ | refine ue ?_ | refine ub ?_ _));refine u1m (cs:=#[.slice none 0 0,.int .i64 0,.int .u64 0]) ?_ 1 _ rfl;(with_reducible repeat (first | refine uc ?_ _ | refine ue ?_ | refine ub ?_ _));refine u1m (cs:=#[.slice none 0 0,.int .i64 0,.int .u64 0]) ?_ 0 _ rfl;(with_reducible repeat (first | refine uc ?_ _ | refine ue ?_ | refine ub ?_ _));exact BK193.out) Tryd.underlying25 rfl (by kernel_rfl)) rfl ?_
      exact ⟨_,by first | rfl | (simp [u1j,u1i] <;> rfl) | (simp [*,u1j,u1i] <;> rfl),by first | exact Kd.R_nil _ _ _ _ _ | exact Kd.N_nil _ _ _ _ _ | exact Kd.V_nil _ _ _ _ _ | exact Kd.Q_nil _ _ _ _ _ | exact Kd.S_nil _ _ _ _ _,by repeat (first | (with_reducible first | exact HB.out | apply uf | apply ua | apply ug | refine uh ?_ GE193.out) | exact HB.out)⟩
 case rest =>
  clear HC4
  try clear c1
  try clear c2
  try clear p2
  try clear c3
  try clear c6
  try clear c6b0
  try clear c6b1
  try clear c8
  try clear hcz11_0
  try clear hcz11_1
  try clear hcz11_2
  try clear hfz11_0
  try clear hfz11_1
  try clear hfz11_2
  obtain ⟨kq,x6_3,x194001_3,x194002_3,HA,HJ3,HO_6,BK193,HB⟩:=hcut
  cases kq with
  | zero => exact absurd HA.out (by simp [un.j0])
  | succ kj3 =>
    have H:=HA.out
    clear HA
    simp only [un.j0] at H
    replace H:=Option.bind_eq_some_iff.mp H
    obtain ⟨t200,A120,H⟩:=H
    replace H:(if t200 = true then (if 1 ≤ (t195.size:Int) then ((ul.f kj3 x6_3 (t195.extract 1 t195.size)).bind fun bt201 => (if bt201.2.2 = true then (un.j1 kj3 a1 bt201.1 bt201.2.1) else (some (([]:List (S37)),0,0,false)))) else (none)) else (un.j1 kj3 a1 x6_3 t195)) = some (r1,r2,r3,r4):=H
    have A12:=Aside0.mk A120
    clear A120
    have HC13:=Aside0.mk H
    clear H
    go_upto_if 29 with (first | ((with_reducible refine u1k (f:=35) rfl ?_);refine u2r (some 29) rfl rfl Tryd.func35 (by kernel_rfl) rfl #[.string t195,.string (⟨#[123]⟩:ByteArray)] rfl (by (try simp only [List.map_toArray,List.map_cons,List.map_nil]);first | done | rfl | (simp only [List.length_drop,List.length_take];rfl)) ?_;(with_reducible refine (ut.calls t195 (⟨#[123]⟩:ByteArray) t200 _ A12.out).mono ?_);rintro e w' ⟨rfl,⟨nd,rfl⟩⟩;refine ⟨_,rfl,?_⟩))
    (try simp only [Act.put,List.setIfInBounds_toArray,List.set_cons_zero,List.set_cons_succ])
    go_cut [6,8] (fun v6 v8 wc => ∃ (kq:Nat) (x6_12:List (S37)) (x8_12:ByteArray) (x194001_12:Int) (x194002_12:Int),v8 = .string x8_12 ∧ Aside0 (un.j1 kq a1 x6_12 x8_12 = some (r1,r2,r3,r4)) ∧ Aside0 (kq ≤ kj3) ∧ Aside0 (Kd.R k37 37 wc w.heap.size (fun _ => True) v6 x6_12) ∧ Aside0 (wc.heap[gb193]? = some (.cells #[(.slice none 0 0),.int .i64 x194001_12,.int .u64 x194002_12] 25 (0,0))) ∧ Aside0 (Below w.heap.size w wc))
    case first =>
     have H:=HC13.out
     clear HC13
     by_cases c14:t200 = true
     · subst c14
       have H1:(if 1 ≤ (t195.size:Int) then ((ul.f kj3 x6_3 (t195.extract 1 t195.size)).bind fun bt201 => (if bt201.2.2 = true then (un.j1 kj3 a1 bt201.1 bt201.2.1) else (some (([]:List (S37)),0,0,false)))) else (none)) = some (r1,r2,r3,r4):=by rw [if_pos rfl] at H;exact H
       clear H
       have H:=H1
       clear H1
       by_cases c15:1 ≤ (t195.size:Int)
       · rw [if_pos c15] at H
         have c15b0:=eq_true c15
         have c15b1:decide (1 ≤ (t195.size:Int)) = true:=decide_eq_true c15
         clear c15
         replace H:=Option.bind_eq_some_iff.mp H
         obtain ⟨⟨t201,t204,t205⟩,A160,H⟩:=H
         replace H:(if t205 = true then (un.j1 kj3 a1 t201 t204) else (some (([]:List (S37)),0,0,false))) = some (r1,r2,r3,r4):=H
         have A16:=Aside0.mk A160
         clear A160
         by_cases c17:t205 = true
         · subst c17
           have H1:(un.j1 kj3 a1 t201 t204) = some (r1,r2,r3,r4):=by rw [if_pos rfl] at H;exact H
           clear H
           have H:=H1
           clear H1
           have H':=Aside0.mk H
           clear H
           obtain ⟨Ao18,co18,eo18⟩:=Kd.R_slice HO_6.out
           subst eo18
           go_wp2_with (first | ((with_reducible refine u1k (f:=68) rfl ?_);refine u2r (some 34) rfl rfl Tryd.func68 (by kernel_rfl) rfl #[.slice Ao18 x6_3.length co18,.string (t195.extract 1 t195.size)] rfl (by (try simp only [List.map_toArray,List.map_cons,List.map_nil]);first | done | rfl | (simp only [List.length_drop,List.length_take];rfl)) ?_;(with_reducible refine (ul.calls kj3 (fun k_ => some k_ = (.slice Ao18 x6_3.length co18:Value).ownBlock) _ _ x6_3 (t195.extract 1 t195.size) t201 t204 true _ ?side1 A16.out).mono ?_);(case side1 => exact Kd.R_V (Kd.R_tight rfl (Kd.R_types (HO_6.out) BK193.out (by decide))));rintro e w19 ⟨v202,rfl,ho0,hb⟩;refine ⟨_,rfl,?_⟩;have n0_:=Aside0.mk (Kd.R_elder' (by (with_reducible repeat (first | apply Kd.R_alloc | apply Kd.R_drewN | apply Kd.R_drew));exact HO_6.out) (Kd.R_base ho0) hb);have n1_:=Aside0.mk (Kd.R_lower (Kd.R_new' (Kd.R_mono (ok':=fun k_ => True) ho0 (fun _ hk_ => trivial)) (Kd.R_lt (by (with_reducible repeat (first | apply Kd.R_alloc | apply Kd.R_drewN | apply Kd.R_drew));exact HO_6.out))) (uq (by repeat (first | (with_reducible first | exact HB.out | apply uf | apply ua | apply ug | refine uh ?_ GE193.out) | exact HB.out))));have n2_:=Aside0.mk (u1a (g:=gb193) (o:=.cells #[.slice none 0 0,.int .i64 x194001_3,.int .u64 x194002_3] 25 (0,0)) (by (with_reducible repeat (first | refine uc ?_ _ | refine ue ?_ | refine ub ?_ _));exact BK193.out) hb);have n3_:=Aside0.mk (ux (by repeat (first | (with_reducible first | exact HB.out | apply uf | apply ua | apply ug | refine uh ?_ GE193.out) | exact HB.out)) hb);clear HO_6;clear BK193;clear HB;have HO_6:=n0_;have HO203:=n1_;have BK193:=n2_;have HB:=n3_;clear n0_ n1_ n2_ n3_;(try clear hb);(try clear hb2);(try clear hk);(try clear hi);(try clear ho0)))
           go_meet
           case rel => exact ⟨_,(t201),(t204),(x194001_3),(x194002_3),(by first | rfl | (simp;done) | (simp [*];done)),H',⟨by have:=HJ3.out;first | omega | exact Nat.le_refl _⟩,⟨by (with_reducible repeat (first | apply Kd.R_alloc | apply Kd.R_drewN | apply Kd.R_drew));exact Kd.R_mono HO203.out (fun _ hk => trivial)⟩,⟨by (with_reducible repeat (first | refine uc ?_ _ | refine ue ?_ | refine ub ?_ _));exact BK193.out⟩,⟨by repeat (first | (with_reducible first | exact HB.out | apply uf | apply ua | apply ug | refine uh ?_ GE193.out) | exact HB.out)⟩⟩
         · replace c17:=Bool.eq_false_iff.mpr c17
           subst c17
           have H1:(some (([]:List (S37)),0,0,false)) = some (r1,r2,r3,r4):=by rw [if_neg (show ¬ (false = true) by decide)] at H;exact H
           clear H
           have H:=H1
           clear H1
           simp only [Option.some.injEq,Prod.mk.injEq] at H
           obtain ⟨rfl,rfl,rfl,rfl⟩:=H
           obtain ⟨Ao20,co20,eo20⟩:=Kd.R_slice HO_6.out
           subst eo20
           go_wp2_with (first | ((with_reducible refine u1k (f:=68) rfl ?_);refine u2r (some 34) rfl rfl Tryd.func68 (by kernel_rfl) rfl #[.slice Ao20 x6_3.length co20,.string (t195.extract 1 t195.size)] rfl (by (try simp only [List.map_toArray,List.map_cons,List.map_nil]);first | done | rfl | (simp only [List.length_drop,List.length_take];rfl)) ?_;(with_reducible refine (ul.calls kj3 (fun k_ => some k_ = (.slice Ao20 x6_3.length co20:Value).ownBlock) _ _ x6_3 (t195.extract 1 t195.size) t201 t204 false _ ?side1 A16.out).mono ?_);(case side1 => exact Kd.R_V (Kd.R_tight rfl (Kd.R_types (HO_6.out) BK193.out (by decide))));rintro e w21 ⟨v202,rfl,ho0,hb⟩;refine ⟨_,rfl,?_⟩;have n0_:=Aside0.mk (Kd.R_elder' (by (with_reducible repeat (first | apply Kd.R_alloc | apply Kd.R_drewN | apply Kd.R_drew));exact HO_6.out) (Kd.R_base ho0) hb);have n1_:=Aside0.mk (Kd.R_lower (Kd.R_new' (Kd.R_mono (ok':=fun k_ => True) ho0 (fun _ hk_ => trivial)) (Kd.R_lt (by (with_reducible repeat (first | apply Kd.R_alloc | apply Kd.R_drewN | apply Kd.R_drew));exact HO_6.out))) (uq (by repeat (first | (with_reducible first | exact HB.out | apply uf | apply ua | apply ug | refine uh ?_ GE193.out) | exact HB.out))));have n2_:=Aside0.mk (u1a (g:=gb193) (o:=.cells #[.slice none 0 0,.int .i64 x194001_3,.int .u64 x194002_3] 25 (0,0)) (by (with_reducible repeat (first | refine uc ?_ _ | refine ue ?_ | refine ub ?_ _));exact BK193.out) hb);have n3_:=Aside0.mk (ux (by repeat (first | (with_reducible first | exact HB.out | apply uf | apply ua | apply ug | refine uh ?_ GE193.out) | exact HB.out)) hb);clear HO_6;clear BK193;clear HB;have HO_6:=n0_;have HO203:=n1_;have BK193:=n2_;have HB:=n3_;clear n0_ n1_ n2_ n3_;(try clear hb);(try clear hb2);(try clear hk);(try clear hi);(try clear ho0);have hcz22_0:w21.cell? ⟨gb193,0,none⟩ = some (.slice none 0 0):=(uj BK193.out 0).trans rfl;have hcz22_1:w21.cell? ⟨gb193,1,none⟩ = some (.int .i64 x194001_3):=(uj BK193.out 1).trans rfl;have hcz22_2:w21.cell? ⟨gb193,2,none⟩ = some (.int .u64 x194002_3):=(uj BK193.out 2).trans rfl;have hfz22_0:=ui BK193.out 0;have hfz22_1:=ui BK193.out 1;have hfz22_2:=ui BK193.out 2))
           refine bodyPost_ret (results_ct rfl _ _ gb193 25 #[.slice none 0 0,.int .i64 0,.int .u64 0] (0,0) _ rfl (by (with_reducible repeat (first | refine uc ?_ _ | refine ue ?_ | refine ub ?_ _));refine u1m (cs:=#[.slice none 0 0,.int .i64 0,.int .u64 x194002_3]) ?_ 2 _ rfl;(with_reducible repeat (first | refine uc ?_ _ | refine ue ?_ | refine ub ?_ _));refine u1m (cs:=#[.slice none 0 0,.int .i64 x194001_3,.int .u64 x194002_3]) ?_ 1 _ rfl;(with_reducible repeat (first | refine uc ?_ _ | refine ue ?_ | refine ub ?_ _));refine u1m (cs:=#[.slice none 0 0,.int .i64 x194001_3,.int .u64 x194002_3]) ?_ 0 _ rfl;(with_reducible repeat (first | refine uc ?_ _ | refine ue ?_ | refine ub ?_ _));exact BK193.out) Tryd.underlying25 rfl (by kernel_rfl)) rfl ?_
           exact ⟨_,by first | rfl | (simp [u1j,u1i] <;> rfl) | (simp [*,u1j,u1i] <;> rfl),by first | exact Kd.R_nil _ _ _ _ _ | exact Kd.N_nil _ _ _ _ _ | exact Kd.V_nil _ _ _ _ _ | exact Kd.Q_nil _ _ _ _ _ | exact Kd.S_nil _ _ _ _ _,by repeat (first | (with_reducible first | exact HB.out | apply uf | apply ua | apply ug | refine uh ?_ GE193.out) | exact HB.out)⟩
       · rw [if_neg c15] at H
         exact absurd H (by simp)
     · replace c14:=Bool.eq_false_iff.mpr c14
       subst c14
       have H1:(un.j1 kj3 a1 x6_3 t195) = some (r1,r2,r3,r4):=by rw [if_neg (show ¬ (false = true) by decide)] at H;exact H
       clear H
       have H:=H1
       clear H1
       have H':=Aside0.mk H
       clear H
       go_wp2
       go_meet
       case rel => exact ⟨_,(x6_3),(t195),(x194001_3),(x194002_3),(by first | rfl | (simp;done) | (simp [*];done)),H',⟨by have:=HJ3.out;first | omega | exact Nat.le_refl _⟩,⟨by (with_reducible repeat (first | apply Kd.R_alloc | apply Kd.R_drewN | apply Kd.R_drew));exact HO_6.out⟩,⟨by (with_reducible repeat (first | refine uc ?_ _ | refine ue ?_ | refine ub ?_ _));exact BK193.out⟩,⟨by repeat (first | (with_reducible first | exact HB.out | apply uf | apply ua | apply ug | refine uh ?_ GE193.out) | exact HB.out)⟩⟩
    case rest =>
     clear HC13
     try clear c1
     try clear c2
     try clear p2
     try clear c3
     try clear c6
     try clear c6b0
     try clear c6b1
     try clear c8
     try clear c14
     try clear c15
     try clear c15b0
     try clear c15b1
     try clear c17
     try clear c18
     try clear hcz11_0
     try clear hcz11_1
     try clear hcz11_2
     try clear hcz22_0
     try clear hcz22_1
     try clear hcz22_2
     try clear hfz11_0
     try clear hfz11_1
     try clear hfz11_2
     try clear hfz22_0
     try clear hfz22_1
     try clear hfz22_2
     try clear p2
     obtain ⟨kq,x6_12,x8_12,x194001_12,x194002_12,rfl,HA,HJ12,HO_6,BK193,HB⟩:=hcut
     cases kq with
     | zero => exact absurd HA.out (by simp [un.j1])
     | succ kj12 =>
       have H:=HA.out
       clear HA
       simp only [un.j1] at H
       replace H:=Option.bind_eq_some_iff.mp H
       obtain ⟨⟨t206,t207⟩,A230,H⟩:=H
       replace H:((u2a.f kj12 t206).bind fun bt208 => ((uv.f kj12 x6_12).bind fun t211 => (if t211 = true then (if t207 = true then (un.j2 kj12 a1 x6_12 bt208.2.1 bt208.1 (!bt208.2.2)) else (un.j2 kj12 a1 x6_12 bt208.2.1 bt208.1 true)) else (un.j2 kj12 a1 x6_12 bt208.2.1 bt208.1 true)))) = some (r1,r2,r3,r4):=H
       have A23:=Aside0.mk A230
       clear A230
       replace H:=Option.bind_eq_some_iff.mp H
       obtain ⟨⟨t208,t209,t210⟩,A240,H⟩:=H
       replace H:((uv.f kj12 x6_12).bind fun t211 => (if t211 = true then (if t207 = true then (un.j2 kj12 a1 x6_12 t209 t208 (!t210)) else (un.j2 kj12 a1 x6_12 t209 t208 true)) else (un.j2 kj12 a1 x6_12 t209 t208 true))) = some (r1,r2,r3,r4):=H
       have A24:=Aside0.mk A240
       clear A240
       have HC25:=Aside0.mk H
       clear H
       go_upto_region 14 with (first | ((with_reducible refine u1k (f:=37) rfl ?_);refine u2r (some 43) rfl rfl Tryd.func37 (by kernel_rfl) rfl #[.string x8_12] rfl (by (try simp only [List.map_toArray,List.map_cons,List.map_nil]);first | done | rfl | (simp only [List.length_drop,List.length_take];rfl)) ?_;(with_reducible refine (u1e.calls kj12 x8_12 t206 t207 _ A23.out).mono ?_);rintro e w' ⟨rfl,⟨nd,rfl⟩⟩;refine ⟨_,rfl,?_⟩) | ((with_reducible refine u1k (f:=69) rfl ?_);refine u2r (some 48) rfl rfl Tryd.func69 (by kernel_rfl) rfl #[.string t206] rfl (by (try simp only [List.map_toArray,List.map_cons,List.map_nil]);first | done | rfl | (simp only [List.length_drop,List.length_take];rfl)) ?_;(with_reducible refine (u2a.calls kj12 t206 t208 t209 t210 _ A24.out).mono ?_);rintro e w' ⟨rfl,⟨nd,rfl⟩⟩;refine ⟨_,rfl,?_⟩))
       (try simp only [Act.put,List.setIfInBounds_toArray,List.set_cons_zero,List.set_cons_succ])
       go_cut [62] (fun v62 wc => ∃ (kq:Nat) (x62_24:Bool),v62 = .bool x62_24 ∧ Aside0 (un.j2 kq a1 x6_12 t209 t208 x62_24 = some (r1,r2,r3,r4)) ∧ Aside0 (kq ≤ kj12) ∧ Aside0 (Kd.R k37 37 wc w.heap.size (fun _ => True) u6 x6_12) ∧ Aside0 (wc.heap[gb193]? = some (.cells #[(.slice none 0 0),.int .i64 x194001_12,.int .u64 x194002_12] 25 (0,0))) ∧ Aside0 (Below w.heap.size w wc))
       case first =>
        have H:=HC25.out
        clear HC25
        replace H:=Option.bind_eq_some_iff.mp H
        obtain ⟨t211,A260,H⟩:=H
        replace H:(if t211 = true then (if t207 = true then (un.j2 kj12 a1 x6_12 t209 t208 (!t210)) else (un.j2 kj12 a1 x6_12 t209 t208 true)) else (un.j2 kj12 a1 x6_12 t209 t208 true)) = some (r1,r2,r3,r4):=H
        have A26:=Aside0.mk A260
        clear A260
        by_cases c27:t211 = true
        · subst c27
          have H1:(if t207 = true then (un.j2 kj12 a1 x6_12 t209 t208 (!t210)) else (un.j2 kj12 a1 x6_12 t209 t208 true)) = some (r1,r2,r3,r4):=by rw [if_pos rfl] at H;exact H
          clear H
          have H:=H1
          clear H1
          by_cases c28:t207 = true
          · subst c28
            have H1:(un.j2 kj12 a1 x6_12 t209 t208 (!t210)) = some (r1,r2,r3,r4):=by rw [if_pos rfl] at H;exact H
            clear H
            have H:=H1
            clear H1
            have H':=Aside0.mk H
            clear H
            obtain ⟨Ao29,co29,eo29⟩:=Kd.R_slice HO_6.out
            subst eo29
            go_wp2_with (first | ((with_reducible refine u1k (f:=10) rfl ?_);refine u2r (some 53) rfl rfl Tryd.func10 (by kernel_rfl) rfl #[.slice Ao29 x6_12.length co29] rfl (by (try simp only [List.map_toArray,List.map_cons,List.map_nil]);first | done | rfl | (simp only [List.length_drop,List.length_take];rfl)) ?_;(with_reducible refine (uv.calls kj12 _ _ x6_12 true _ ?side1 ?side2 A26.out).mono ?_);(case side1 => repeat (first | exact (Kd.R_reads' HO_6.out).2.2 | (with_reducible refine Kd.C_alloc ?_ _) | (with_reducible refine Kd.C_drewN ?_ _) | (with_reducible refine Kd.C_drew ?_)));(case side2 => exact (Kd.R_reads' HO_6.out).2.1);rintro e w30 ⟨rfl,hb⟩;refine ⟨_,rfl,?_⟩;have n0_:=Aside0.mk (Kd.R_below (by (with_reducible repeat (first | apply Kd.R_alloc | apply Kd.R_drewN | apply Kd.R_drew));exact HO_6.out) hb);have n1_:=Aside0.mk (u1a (g:=gb193) (o:=.cells #[.slice none 0 0,.int .i64 x194001_12,.int .u64 x194002_12] 25 (0,0)) (by (with_reducible repeat (first | refine uc ?_ _ | refine ue ?_ | refine ub ?_ _));exact BK193.out) hb);have n2_:=Aside0.mk (ux (by repeat (first | (with_reducible first | exact HB.out | apply uf | apply ua | apply ug | refine uh ?_ GE193.out) | exact HB.out)) hb);clear HO_6;clear BK193;clear HB;have HO_6:=n0_;have BK193:=n1_;have HB:=n2_;clear n0_ n1_ n2_;(try clear hb);(try clear hb2);(try clear hk);(try clear hi)))
            go_meet
            case rel => exact ⟨_,(!t210),(by first | rfl | (simp;done) | (simp [*];done)),H',⟨by have:=HJ3.out;have:=HJ12.out;first | omega | exact Nat.le_refl _⟩,⟨by (with_reducible repeat (first | apply Kd.R_alloc | apply Kd.R_drewN | apply Kd.R_drew));exact HO_6.out⟩,⟨by (with_reducible repeat (first | refine uc ?_ _ | refine ue ?_ | refine ub ?_ _));exact BK193.out⟩,⟨by repeat (first | (with_reducible first | exact HB.out | apply uf | apply ua | apply ug | refine uh ?_ GE193.out) | exact HB.out)⟩⟩
          · replace c28:=Bool.eq_false_iff.mpr c28
            subst c28
            have H1:(un.j2 kj12 a1 x6_12 t209 t208 true) = some (r1,r2,r3,r4):=by rw [if_neg (show ¬ (false = true) by decide)] at H;exact H
            clear H
            have H:=H1
            clear H1
            have H':=Aside0.mk H
            clear H
            obtain ⟨Ao31,co31,eo31⟩:=Kd.R_slice HO_6.out
            subst eo31
            go_wp2_with (first | ((with_reducible refine u1k (f:=10) rfl ?_);refine u2r (some 53) rfl rfl Tryd.func10 (by kernel_rfl) rfl #[.slice Ao31 x6_12.length co31] rfl (by (try simp only [List.map_toArray,List.map_cons,List.map_nil]);first | done | rfl | (simp only [List.length_drop,List.length_take];rfl)) ?_;(with_reducible refine (uv.calls kj12 _ _ x6_12 true _ ?side1 ?side2 A26.out).mono ?_);(case side1 => repeat (first | exact (Kd.R_reads' HO_6.out).2.2 | (with_reducible refine Kd.C_alloc ?_ _) | (with_reducible refine Kd.C_drewN ?_ _) | (with_reducible refine Kd.C_drew ?_)));(case side2 => exact (Kd.R_reads' HO_6.out).2.1);rintro e w32 ⟨rfl,hb⟩;refine ⟨_,rfl,?_⟩;have n0_:=Aside0.mk (Kd.R_below (by (with_reducible repeat (first | apply Kd.R_alloc | apply Kd.R_drewN | apply Kd.R_drew));exact HO_6.out) hb);have n1_:=Aside0.mk (u1a (g:=gb193) (o:=.cells #[.slice none 0 0,.int .i64 x194001_12,.int .u64 x194002_12] 25 (0,0)) (by (with_reducible repeat (first | refine uc ?_ _ | refine ue ?_ | refine ub ?_ _));exact BK193.out) hb);have n2_:=Aside0.mk (ux (by repeat (first | (with_reducible first | exact HB.out | apply uf | apply ua | apply ug | refine uh ?_ GE193.out) | exact HB.out)) hb);clear HO_6;clear BK193;clear HB;have HO_6:=n0_;have BK193:=n1_;have HB:=n2_;clear n0_ n1_ n2_;(try clear hb);(try clear hb2);(try clear hk);(try clear hi)))
            go_meet
            case rel => exact ⟨_,(true),(by first | rfl | (simp;done) | (simp [*];done)),H',⟨by have:=HJ3.out;have:=HJ12.out;first | omega | exact Nat.le_refl _⟩,⟨by (with_reducible repeat (first | apply Kd.R_alloc | apply Kd.R_drewN | apply Kd.R_drew));exact HO_6.out⟩,⟨by (with_reducible repeat (first | refine uc ?_ _ | refine ue ?_ | refine ub ?_ _));exact BK193.out⟩,⟨by repeat (first | (with_reducible first | exact HB.out | apply uf | apply ua | apply ug | refine uh ?_ GE193.out) | exact HB.out)⟩⟩
        · replace c27:=Bool.eq_false_iff.mpr c27
          subst c27
          have H1:(un.j2 kj12 a1 x6_12 t209 t208 true) = some (r1,r2,r3,r4):=by rw [if_neg (show ¬ (false = true) by decide)] at H;exact H
          clear H
          have H:=H1
          clear H1
          have H':=Aside0.mk H
          clear H
          obtain ⟨Ao33,co33,eo33⟩:=Kd.R_slice HO_6.out
          subst eo33
          go_wp2_with (first | ((with_reducible refine u1k (f:=10) rfl ?_);refine u2r (some 53) rfl rfl Tryd.func10 (by kernel_rfl) rfl #[.slice Ao33 x6_12.length co33] rfl (by (try simp only [List.map_toArray,List.map_cons,List.map_nil]);first | done | rfl | (simp only [List.length_drop,List.length_take];rfl)) ?_;(with_reducible refine (uv.calls kj12 _ _ x6_12 false _ ?side1 ?side2 A26.out).mono ?_);(case side1 => repeat (first | exact (Kd.R_reads' HO_6.out).2.2 | (with_reducible refine Kd.C_alloc ?_ _) | (with_reducible refine Kd.C_drewN ?_ _) | (with_reducible refine Kd.C_drew ?_)));(case side2 => exact (Kd.R_reads' HO_6.out).2.1);rintro e w34 ⟨rfl,hb⟩;refine ⟨_,rfl,?_⟩;have n0_:=Aside0.mk (Kd.R_below (by (with_reducible repeat (first | apply Kd.R_alloc | apply Kd.R_drewN | apply Kd.R_drew));exact HO_6.out) hb);have n1_:=Aside0.mk (u1a (g:=gb193) (o:=.cells #[.slice none 0 0,.int .i64 x194001_12,.int .u64 x194002_12] 25 (0,0)) (by (with_reducible repeat (first | refine uc ?_ _ | refine ue ?_ | refine ub ?_ _));exact BK193.out) hb);have n2_:=Aside0.mk (ux (by repeat (first | (with_reducible first | exact HB.out | apply uf | apply ua | apply ug | refine uh ?_ GE193.out) | exact HB.out)) hb);clear HO_6;clear BK193;clear HB;have HO_6:=n0_;have BK193:=n1_;have HB:=n2_;clear n0_ n1_ n2_;(try clear hb);(try clear hb2);(try clear hk);(try clear hi)))
          go_meet
          case rel => exact ⟨_,(true),(by first | rfl | (simp;done) | (simp [*];done)),H',⟨by have:=HJ3.out;have:=HJ12.out;first | omega | exact Nat.le_refl _⟩,⟨by (with_reducible repeat (first | apply Kd.R_alloc | apply Kd.R_drewN | apply Kd.R_drew));exact HO_6.out⟩,⟨by (with_reducible repeat (first | refine uc ?_ _ | refine ue ?_ | refine ub ?_ _));exact BK193.out⟩,⟨by repeat (first | (with_reducible first | exact HB.out | apply uf | apply ua | apply ug | refine uh ?_ GE193.out) | exact HB.out)⟩⟩
       case rest =>
        clear HC25
        try clear c1
        try clear c2
        try clear p2
        try clear c3
        try clear c6
        try clear c6b0
        try clear c6b1
        try clear c8
        try clear c10
        try clear c14
        try clear c15
        try clear c15b0
        try clear c15b1
        try clear c17
        try clear c18
        try clear c27
        try clear c28
        try clear hcz11_0
        try clear hcz11_1
        try clear hcz11_2
        try clear hcz22_0
        try clear hcz22_1
        try clear hcz22_2
        try clear hfz11_0
        try clear hfz11_1
        try clear hfz11_2
        try clear hfz22_0
        try clear hfz22_1
        try clear hfz22_2
        try clear p2
        obtain ⟨kq,x62_24,rfl,HA,HJ24,HO_6,BK193,HB⟩:=hcut
        cases kq with
        | zero => exact absurd HA.out (by simp [un.j2])
        | succ kj24 =>
          have H:=HA.out
          clear HA
          simp only [un.j2] at H
          by_cases c35:x62_24 = true
          · subst c35
            have H1:(some (([]:List (S37)),0,0,false)) = some (r1,r2,r3,r4):=by rw [if_pos rfl] at H;exact H
            clear H
            have H:=H1
            clear H1
            simp only [Option.some.injEq,Prod.mk.injEq] at H
            obtain ⟨rfl,rfl,rfl,rfl⟩:=H
            have hcz36_0:wc.cell? ⟨gb193,0,none⟩ = some (.slice none 0 0):=(uj BK193.out 0).trans rfl
            have hcz36_1:wc.cell? ⟨gb193,1,none⟩ = some (.int .i64 x194001_12):=(uj BK193.out 1).trans rfl
            have hcz36_2:wc.cell? ⟨gb193,2,none⟩ = some (.int .u64 x194002_12):=(uj BK193.out 2).trans rfl
            have hfz36_0:=ui BK193.out 0
            have hfz36_1:=ui BK193.out 1
            have hfz36_2:=ui BK193.out 2
            go_wp2
            refine bodyPost_ret (results_ct rfl _ _ gb193 25 #[.slice none 0 0,.int .i64 0,.int .u64 0] (0,0) _ rfl (by (with_reducible repeat (first | refine uc ?_ _ | refine ue ?_ | refine ub ?_ _));refine u1m (cs:=#[.slice none 0 0,.int .i64 0,.int .u64 x194002_12]) ?_ 2 _ rfl;(with_reducible repeat (first | refine uc ?_ _ | refine ue ?_ | refine ub ?_ _));refine u1m (cs:=#[.slice none 0 0,.int .i64 x194001_12,.int .u64 x194002_12]) ?_ 1 _ rfl;(with_reducible repeat (first | refine uc ?_ _ | refine ue ?_ | refine ub ?_ _));refine u1m (cs:=#[.slice none 0 0,.int .i64 x194001_12,.int .u64 x194002_12]) ?_ 0 _ rfl;(with_reducible repeat (first | refine uc ?_ _ | refine ue ?_ | refine ub ?_ _));exact BK193.out) Tryd.underlying25 rfl (by kernel_rfl)) rfl ?_
            exact ⟨_,by first | rfl | (simp [u1j,u1i] <;> rfl) | (simp [*,u1j,u1i] <;> rfl),by first | exact Kd.R_nil _ _ _ _ _ | exact Kd.N_nil _ _ _ _ _ | exact Kd.V_nil _ _ _ _ _ | exact Kd.Q_nil _ _ _ _ _ | exact Kd.S_nil _ _ _ _ _,by repeat (first | (with_reducible first | exact HB.out | apply uf | apply ua | apply ug | refine uh ?_ GE193.out) | exact HB.out)⟩
          · replace c35:=Bool.eq_false_iff.mpr c35
            subst c35
            have H1:((u1e.f kj24 t209).bind fun bt212 => (if bt212.1.toList = ([]:List UInt8) then (some (x6_12,a1,t208,true)) else ((u1g.f kj24 bt212.1).bind fun bt214 => ((u1e.f kj24 bt214.2.1).bind fun bt217 => (if bt212.2 = true then (if bt214.2.2 = true then (some (x6_12,bt214.1,t208,(bt217.1.toList == ([]:List UInt8)))) else (some (x6_12,bt214.1,t208,false))) else (some (x6_12,bt214.1,t208,false))))))) = some (r1,r2,r3,r4):=by rw [if_neg (show ¬ (false = true) by decide)] at H;exact H
            clear H
            have H:=H1
            clear H1
            replace H:=Option.bind_eq_some_iff.mp H
            obtain ⟨⟨t212,t213⟩,A370,H⟩:=H
            replace H:(if t212.toList = ([]:List UInt8) then (some (x6_12,a1,t208,true)) else ((u1g.f kj24 t212).bind fun bt214 => ((u1e.f kj24 bt214.2.1).bind fun bt217 => (if t213 = true then (if bt214.2.2 = true then (some (x6_12,bt214.1,t208,(bt217.1.toList == ([]:List UInt8)))) else (some (x6_12,bt214.1,t208,false))) else (some (x6_12,bt214.1,t208,false)))))) = some (r1,r2,r3,r4):=H
            have A37:=Aside0.mk A370
            clear A370
            by_cases c38:t212.toList = ([]:List UInt8)
            · rw [if_pos c38] at H
              have c38b0:(t212.toList == ([]:List UInt8)) = true:=beq_iff_eq.mpr c38
              have c38b1:(t212.toList != ([]:List UInt8)) = false:=bne_eq_false_iff_eq.mpr c38
              have c38b2:t212.toList.isEmpty = true:=by rw [c38];rfl
              clear c38
              simp only [Option.some.injEq,Prod.mk.injEq] at H
              obtain ⟨rfl,rfl,rfl,rfl⟩:=H
              go_wp2_with (first | ((with_reducible refine u1k (f:=37) rfl ?_);refine u2r (some 66) rfl rfl Tryd.func37 (by kernel_rfl) rfl #[.string t209] rfl (by (try simp only [List.map_toArray,List.map_cons,List.map_nil]);first | done | rfl | (simp only [List.length_drop,List.length_take];rfl)) ?_;(with_reducible refine (u1e.calls kj24 t209 t212 t213 _ A37.out).mono ?_);rintro e w' ⟨rfl,⟨nd,rfl⟩⟩;refine ⟨_,rfl,?_⟩;(try (rw [u2z wc];generalize hq_:World.drewN wc _ = wc;have n0_:Aside0 (Kd.R k37 37 wc w.heap.size (fun _ => True) u6 x6_12):=⟨by rw [← hq_];exact (by (with_reducible repeat (first | apply Kd.R_alloc | apply Kd.R_drewN | apply Kd.R_drew));exact HO_6.out)⟩;have n1_:Aside0 (wc.heap[gb193]? = some (.cells #[.slice none 0 0,.int .i64 x194001_12,.int .u64 x194002_12] 25 (0,0))):=⟨by rw [← hq_];exact (by (with_reducible repeat (first | refine uc ?_ _ | refine ue ?_ | refine ub ?_ _));exact BK193.out)⟩;have n2_:Aside0 (Below w.heap.size w wc):=⟨by rw [← hq_];exact (by repeat (first | (with_reducible first | exact HB.out | apply uf | apply ua | apply ug | refine uh ?_ GE193.out) | exact HB.out))⟩;clear HO_6 BK193 HB hq_;have HO_6:=n0_;have BK193:=n1_;have HB:=n2_;clear n0_ n1_ n2_));obtain ⟨Ao39,co39,eo39⟩:=Kd.R_slice HO_6.out;subst eo39;have hcz40_0:wc.cell? ⟨gb193,0,none⟩ = some (.slice none 0 0):=(uj BK193.out 0).trans rfl;have hcz40_1:wc.cell? ⟨gb193,1,none⟩ = some (.int .i64 x194001_12):=(uj BK193.out 1).trans rfl;have hcz40_2:wc.cell? ⟨gb193,2,none⟩ = some (.int .u64 x194002_12):=(uj BK193.out 2).trans rfl;have hfz40_0:=ui BK193.out 0;have hfz40_1:=ui BK193.out 1;have hfz40_2:=ui BK193.out 2))
              refine bodyPost_ret (results_ct rfl _ _ gb193 25 #[.slice Ao39 x6_12.length co39,.int .i64 a1,.int .u64 t208] (0,0) _ rfl (by (with_reducible repeat (first | refine uc ?_ _ | refine ue ?_ | refine ub ?_ _));refine u1m (cs:=#[.slice Ao39 x6_12.length co39,.int .i64 a1,.int .u64 x194002_12]) ?_ 2 _ rfl;(with_reducible repeat (first | refine uc ?_ _ | refine ue ?_ | refine ub ?_ _));refine u1m (cs:=#[.slice Ao39 x6_12.length co39,.int .i64 x194001_12,.int .u64 x194002_12]) ?_ 1 _ rfl;(with_reducible repeat (first | refine uc ?_ _ | refine ue ?_ | refine ub ?_ _));refine u1m (cs:=#[.slice none 0 0,.int .i64 x194001_12,.int .u64 x194002_12]) ?_ 0 _ rfl;(with_reducible repeat (first | refine uc ?_ _ | refine ue ?_ | refine ub ?_ _));exact BK193.out) Tryd.underlying25 rfl (by kernel_rfl)) rfl ?_
              exact ⟨_,by first | rfl | (simp [u1j,u1i] <;> rfl) | (simp [*,u1j,u1i] <;> rfl),by (with_reducible repeat (first | apply Kd.R_alloc | apply Kd.R_drewN | apply Kd.R_drew));exact Kd.R_mono (Kd.R_far (p:=⟨gb193,2,none⟩) (Kd.R_far (p:=⟨gb193,1,none⟩) (Kd.R_far (p:=⟨gb193,0,none⟩) (Kd.R_types HO_6.out BK193.out (by decide)) (fun _ hk => hk.2) (.slice Ao39 x6_12.length co39)) (fun _ hk => hk.2) (.int .i64 a1)) (fun _ hk => hk.2) (.int .u64 t208)) (fun _ hk => trivial),by repeat (first | (with_reducible first | exact HB.out | apply uf | apply ua | apply ug | refine uh ?_ GE193.out) | exact HB.out)⟩
            · rw [if_neg c38] at H
              have c38b0:(t212.toList == ([]:List UInt8)) = false:=beq_eq_false_iff_ne.mpr c38
              have c38b1:(t212.toList != ([]:List UInt8)) = true:=bne_iff_ne.mpr c38
              have c38b2:t212.toList.isEmpty = false:=by cases e_:t212.toList with | nil => exact absurd e_ c38 | cons _ _ => rfl
              replace H:=Option.bind_eq_some_iff.mp H
              obtain ⟨⟨t214,t215,t216⟩,A410,H⟩:=H
              replace H:((u1e.f kj24 t215).bind fun bt217 => (if t213 = true then (if t216 = true then (some (x6_12,t214,t208,(bt217.1.toList == ([]:List UInt8)))) else (some (x6_12,t214,t208,false))) else (some (x6_12,t214,t208,false)))) = some (r1,r2,r3,r4):=H
              have A41:=Aside0.mk A410
              clear A410
              replace H:=Option.bind_eq_some_iff.mp H
              obtain ⟨⟨t217,t218⟩,A420,H⟩:=H
              replace H:(if t213 = true then (if t216 = true then (some (x6_12,t214,t208,(t217.toList == ([]:List UInt8)))) else (some (x6_12,t214,t208,false))) else (some (x6_12,t214,t208,false))) = some (r1,r2,r3,r4):=H
              have A42:=Aside0.mk A420
              clear A420
              by_cases c43:t213 = true
              · subst c43
                have H1:(if t216 = true then (some (x6_12,t214,t208,(t217.toList == ([]:List UInt8)))) else (some (x6_12,t214,t208,false))) = some (r1,r2,r3,r4):=by rw [if_pos rfl] at H;exact H
                clear H
                have H:=H1
                clear H1
                by_cases c44:t216 = true
                · subst c44
                  have H1:(some (x6_12,t214,t208,(t217.toList == ([]:List UInt8)))) = some (r1,r2,r3,r4):=by rw [if_pos rfl] at H;exact H
                  clear H
                  have H:=H1
                  clear H1
                  simp only [Option.some.injEq,Prod.mk.injEq] at H
                  obtain ⟨rfl,rfl,rfl,rfl⟩:=H
                  go_wp2_with (first | ((with_reducible refine u1k (f:=37) rfl ?_);refine u2r (some 66) rfl rfl Tryd.func37 (by kernel_rfl) rfl #[.string t209] rfl (by (try simp only [List.map_toArray,List.map_cons,List.map_nil]);first | done | rfl | (simp only [List.length_drop,List.length_take];rfl)) ?_;(with_reducible refine (u1e.calls kj24 t209 t212 true _ A37.out).mono ?_);rintro e w' ⟨rfl,⟨nd,rfl⟩⟩;refine ⟨_,rfl,?_⟩;(try (rw [u2z wc];generalize hq_:World.drewN wc _ = wc;have n0_:Aside0 (Kd.R k37 37 wc w.heap.size (fun _ => True) u6 x6_12):=⟨by rw [← hq_];exact (by (with_reducible repeat (first | apply Kd.R_alloc | apply Kd.R_drewN | apply Kd.R_drew));exact HO_6.out)⟩;have n1_:Aside0 (wc.heap[gb193]? = some (.cells #[.slice none 0 0,.int .i64 x194001_12,.int .u64 x194002_12] 25 (0,0))):=⟨by rw [← hq_];exact (by (with_reducible repeat (first | refine uc ?_ _ | refine ue ?_ | refine ub ?_ _));exact BK193.out)⟩;have n2_:Aside0 (Below w.heap.size w wc):=⟨by rw [← hq_];exact (by repeat (first | (with_reducible first | exact HB.out | apply uf | apply ua | apply ug | refine uh ?_ GE193.out) | exact HB.out))⟩;clear HO_6 BK193 HB hq_;have HO_6:=n0_;have BK193:=n1_;have HB:=n2_;clear n0_ n1_ n2_))) | ((with_reducible refine u1k (f:=70) rfl ?_);refine u2r (some 77) rfl rfl Tryd.func70 (by kernel_rfl) rfl #[.string t212] rfl (by (try simp only [List.map_toArray,List.map_cons,List.map_nil]);first | done | rfl | (simp only [List.length_drop,List.length_take];rfl)) ?_;(with_reducible refine (u1g.calls kj24 t212 t214 t215 true _ A41.out).mono ?_);rintro e w' ⟨rfl,⟨nd,rfl⟩⟩;refine ⟨_,rfl,?_⟩;(try (rw [u2z wc];generalize hq_:World.drewN wc _ = wc;have n0_:Aside0 (Kd.R k37 37 wc w.heap.size (fun _ => True) u6 x6_12):=⟨by rw [← hq_];exact (by (with_reducible repeat (first | apply Kd.R_alloc | apply Kd.R_drewN | apply Kd.R_drew));exact HO_6.out)⟩;have n1_:Aside0 (wc.heap[gb193]? = some (.cells #[.slice none 0 0,.int .i64 x194001_12,.int .u64 x194002_12] 25 (0,0))):=⟨by rw [← hq_];exact (by (with_reducible repeat (first | refine uc ?_ _ | refine ue ?_ | refine ub ?_ _));exact BK193.out)⟩;have n2_:Aside0 (Below w.heap.size w wc):=⟨by rw [← hq_];exact (by repeat (first | (with_reducible first | exact HB.out | apply uf | apply ua | apply ug | refine uh ?_ GE193.out) | exact HB.out))⟩;clear HO_6 BK193 HB hq_;have HO_6:=n0_;have BK193:=n1_;have HB:=n2_;clear n0_ n1_ n2_))) | ((with_reducible refine u1k (f:=37) rfl ?_);refine u2r (some 83) rfl rfl Tryd.func37 (by kernel_rfl) rfl #[.string t215] rfl (by (try simp only [List.map_toArray,List.map_cons,List.map_nil]);first | done | rfl | (simp only [List.length_drop,List.length_take];rfl)) ?_;(with_reducible refine (u1e.calls kj24 t215 t217 t218 _ A42.out).mono ?_);rintro e w' ⟨rfl,⟨nd,rfl⟩⟩;refine ⟨_,rfl,?_⟩;(try (rw [u2z wc];generalize hq_:World.drewN wc _ = wc;have n0_:Aside0 (Kd.R k37 37 wc w.heap.size (fun _ => True) u6 x6_12):=⟨by rw [← hq_];exact (by (with_reducible repeat (first | apply Kd.R_alloc | apply Kd.R_drewN | apply Kd.R_drew));exact HO_6.out)⟩;have n1_:Aside0 (wc.heap[gb193]? = some (.cells #[.slice none 0 0,.int .i64 x194001_12,.int .u64 x194002_12] 25 (0,0))):=⟨by rw [← hq_];exact (by (with_reducible repeat (first | refine uc ?_ _ | refine ue ?_ | refine ub ?_ _));exact BK193.out)⟩;have n2_:Aside0 (Below w.heap.size w wc):=⟨by rw [← hq_];exact (by repeat (first | (with_reducible first | exact HB.out | apply uf | apply ua | apply ug | refine uh ?_ GE193.out) | exact HB.out))⟩;clear HO_6 BK193 HB hq_;have HO_6:=n0_;have BK193:=n1_;have HB:=n2_;clear n0_ n1_ n2_));obtain ⟨Ao45,co45,eo45⟩:=Kd.R_slice HO_6.out;subst eo45;have hcz46_0:wc.cell? ⟨gb193,0,none⟩ = some (.slice none 0 0):=(uj BK193.out 0).trans rfl;have hcz46_1:wc.cell? ⟨gb193,1,none⟩ = some (.int .i64 x194001_12):=(uj BK193.out 1).trans rfl;have hcz46_2:wc.cell? ⟨gb193,2,none⟩ = some (.int .u64 x194002_12):=(uj BK193.out 2).trans rfl;have hfz46_0:=ui BK193.out 0;have hfz46_1:=ui BK193.out 1;have hfz46_2:=ui BK193.out 2))
                  refine bodyPost_ret (results_ct rfl _ _ gb193 25 #[.slice Ao45 x6_12.length co45,.int .i64 t214,.int .u64 t208] (0,0) _ rfl (by (with_reducible repeat (first | refine uc ?_ _ | refine ue ?_ | refine ub ?_ _));refine u1m (cs:=#[.slice Ao45 x6_12.length co45,.int .i64 t214,.int .u64 x194002_12]) ?_ 2 _ rfl;(with_reducible repeat (first | refine uc ?_ _ | refine ue ?_ | refine ub ?_ _));refine u1m (cs:=#[.slice Ao45 x6_12.length co45,.int .i64 x194001_12,.int .u64 x194002_12]) ?_ 1 _ rfl;(with_reducible repeat (first | refine uc ?_ _ | refine ue ?_ | refine ub ?_ _));refine u1m (cs:=#[.slice none 0 0,.int .i64 x194001_12,.int .u64 x194002_12]) ?_ 0 _ rfl;(with_reducible repeat (first | refine uc ?_ _ | refine ue ?_ | refine ub ?_ _));exact BK193.out) Tryd.underlying25 rfl (by kernel_rfl)) rfl ?_
                  exact ⟨_,by first | rfl | (simp [u1j,u1i] <;> rfl) | (simp [*,u1j,u1i] <;> rfl),by (with_reducible repeat (first | apply Kd.R_alloc | apply Kd.R_drewN | apply Kd.R_drew));exact Kd.R_mono (Kd.R_far (p:=⟨gb193,2,none⟩) (Kd.R_far (p:=⟨gb193,1,none⟩) (Kd.R_far (p:=⟨gb193,0,none⟩) (Kd.R_types HO_6.out BK193.out (by decide)) (fun _ hk => hk.2) (.slice Ao45 x6_12.length co45)) (fun _ hk => hk.2) (.int .i64 t214)) (fun _ hk => hk.2) (.int .u64 t208)) (fun _ hk => trivial),by repeat (first | (with_reducible first | exact HB.out | apply uf | apply ua | apply ug | refine uh ?_ GE193.out) | exact HB.out)⟩
                · replace c44:=Bool.eq_false_iff.mpr c44
                  subst c44
                  have H1:(some (x6_12,t214,t208,false)) = some (r1,r2,r3,r4):=by rw [if_neg (show ¬ (false = true) by decide)] at H;exact H
                  clear H
                  have H:=H1
                  clear H1
                  simp only [Option.some.injEq,Prod.mk.injEq] at H
                  obtain ⟨rfl,rfl,rfl,rfl⟩:=H
                  go_wp2_with (first | ((with_reducible refine u1k (f:=37) rfl ?_);refine u2r (some 66) rfl rfl Tryd.func37 (by kernel_rfl) rfl #[.string t209] rfl (by (try simp only [List.map_toArray,List.map_cons,List.map_nil]);first | done | rfl | (simp only [List.length_drop,List.length_take];rfl)) ?_;(with_reducible refine (u1e.calls kj24 t209 t212 true _ A37.out).mono ?_);rintro e w' ⟨rfl,⟨nd,rfl⟩⟩;refine ⟨_,rfl,?_⟩;(try (rw [u2z wc];generalize hq_:World.drewN wc _ = wc;have n0_:Aside0 (Kd.R k37 37 wc w.heap.size (fun _ => True) u6 x6_12):=⟨by rw [← hq_];exact (by (with_reducible repeat (first | apply Kd.R_alloc | apply Kd.R_drewN | apply Kd.R_drew));exact HO_6.out)⟩;have n1_:Aside0 (wc.heap[gb193]? = some (.cells #[.slice none 0 0,.int .i64 x194001_12,.int .u64 x194002_12] 25 (0,0))):=⟨by rw [← hq_];exact (by (with_reducible repeat (first | refine uc ?_ _ | refine ue ?_ | refine ub ?_ _));exact BK193.out)⟩;have n2_:Aside0 (Below w.heap.size w wc):=⟨by rw [← hq_];exact (by repeat (first | (with_reducible first | exact HB.out | apply uf | apply ua | apply ug | refine uh ?_ GE193.out) | exact HB.out))⟩;clear HO_6 BK193 HB hq_;have HO_6:=n0_;have BK193:=n1_;have HB:=n2_;clear n0_ n1_ n2_))) | ((with_reducible refine u1k (f:=70) rfl ?_);refine u2r (some 77) rfl rfl Tryd.func70 (by kernel_rfl) rfl #[.string t212] rfl (by (try simp only [List.map_toArray,List.map_cons,List.map_nil]);first | done | rfl | (simp only [List.length_drop,List.length_take];rfl)) ?_;(with_reducible refine (u1g.calls kj24 t212 t214 t215 false _ A41.out).mono ?_);rintro e w' ⟨rfl,⟨nd,rfl⟩⟩;refine ⟨_,rfl,?_⟩;(try (rw [u2z wc];generalize hq_:World.drewN wc _ = wc;have n0_:Aside0 (Kd.R k37 37 wc w.heap.size (fun _ => True) u6 x6_12):=⟨by rw [← hq_];exact (by (with_reducible repeat (first | apply Kd.R_alloc | apply Kd.R_drewN | apply Kd.R_drew));exact HO_6.out)⟩;have n1_:Aside0 (wc.heap[gb193]? = some (.cells #[.slice none 0 0,.int .i64 x194001_12,.int .u64 x194002_12] 25 (0,0))):=⟨by rw [← hq_];exact (by (with_reducible repeat (first | refine uc ?_ _ | refine ue ?_ | refine ub ?_ _));exact BK193.out)⟩;have n2_:Aside0 (Below w.heap.size w wc):=⟨by rw [← hq_];exact (by repeat (first | (with_reducible first | exact HB.out | apply uf | apply ua | apply ug | refine uh ?_ GE193.out) | exact HB.out))⟩;clear HO_6 BK193 HB hq_;have HO_6:=n0_;have BK193:=n1_;have HB:=n2_;clear n0_ n1_ n2_))) | ((with_reducible refine u1k (f:=37) rfl ?_);refine u2r (some 83) rfl rfl Tryd.func37 (by kernel_rfl) rfl #[.string t215] rfl (by (try simp only [List.map_toArray,List.map_cons,List.map_nil]);first | done | rfl | (simp only [List.length_drop,List.length_take];rfl)) ?_;(with_reducible refine (u1e.calls kj24 t215 t217 t218 _ A42.out).mono ?_);rintro e w' ⟨rfl,⟨nd,rfl⟩⟩;refine ⟨_,rfl,?_⟩;(try (rw [u2z wc];generalize hq_:World.drewN wc _ = wc;have n0_:Aside0 (Kd.R k37 37 wc w.heap.size (fun _ => True) u6 x6_12):=⟨by rw [← hq_];exact (by (with_reducible repeat (first | apply Kd.R_alloc | apply Kd.R_drewN | apply Kd.R_drew));exact HO_6.out)⟩;have n1_:Aside0 (wc.heap[gb193]? = some (.cells #[.slice none 0 0,.int .i64 x194001_12,.int .u64 x194002_12] 25 (0,0))):=⟨by rw [← hq_];exact (by (with_reducible repeat (first | refine uc ?_ _ | refine ue ?_ | refine ub ?_ _));exact BK193.out)⟩;have n2_:Aside0 (Below w.heap.size w wc):=⟨by rw [← hq_];exact (by repeat (first | (with_reducible first | exact HB.out | apply uf | apply ua | apply ug | refine uh ?_ GE193.out) | exact HB.out))⟩;clear HO_6 BK193 HB hq_;have HO_6:=n0_;have BK193:=n1_;have HB:=n2_;clear n0_ n1_ n2_));obtain ⟨Ao47,co47,eo47⟩:=Kd.R_slice HO_6.out;subst eo47;have hcz48_0:wc.cell? ⟨gb193,0,none⟩ = some (.slice none 0 0):=(uj BK193.out 0).trans rfl;have hcz48_1:wc.cell? ⟨gb193,1,none⟩ = some (.int .i64 x194001_12):=(uj BK193.out 1).trans rfl;have hcz48_2:wc.cell? ⟨gb193,2,none⟩ = some (.int .u64 x194002_12):=(uj BK193.out 2).trans rfl;have hfz48_0:=ui BK193.out 0;have hfz48_1:=ui BK193.out 1;have hfz48_2:=ui BK193.out 2))
                  refine bodyPost_ret (results_ct rfl _ _ gb193 25 #[.slice Ao47 x6_12.length co47,.int .i64 t214,.int .u64 t208] (0,0) _ rfl (by (with_reducible repeat (first | refine uc ?_ _ | refine ue ?_ | refine ub ?_ _));refine u1m (cs:=#[.slice Ao47 x6_12.length co47,.int .i64 t214,.int .u64 x194002_12]) ?_ 2 _ rfl;(with_reducible repeat (first | refine uc ?_ _ | refine ue ?_ | refine ub ?_ _));refine u1m (cs:=#[.slice Ao47 x6_12.length co47,.int .i64 x194001_12,.int .u64 x194002_12]) ?_ 1 _ rfl;(with_reducible repeat (first | refine uc ?_ _ | refine ue ?_ | refine ub ?_ _));refine u1m (cs:=#[.slice none 0 0,.int .i64 x194001_12,.int .u64 x194002_12]) ?_ 0 _ rfl;(with_reducible repeat (first | refine uc ?_ _ | refine ue ?_ | refine ub ?_ _));exact BK193.out) Tryd.underlying25 rfl (by kernel_rfl)) rfl ?_
                  exact ⟨_,by first | rfl | (simp [u1j,u1i] <;> rfl) | (simp [*,u1j,u1i] <;> rfl),by (with_reducible repeat (first | apply Kd.R_alloc | apply Kd.R_drewN | apply Kd.R_drew));exact Kd.R_mono (Kd.R_far (p:=⟨gb193,2,none⟩) (Kd.R_far (p:=⟨gb193,1,none⟩) (Kd.R_far (p:=⟨gb193,0,none⟩) (Kd.R_types HO_6.out BK193.out (by decide)) (fun _ hk => hk.2) (.slice Ao47 x6_12.length co47)) (fun _ hk => hk.2) (.int .i64 t214)) (fun _ hk => hk.2) (.int .u64 t208)) (fun _ hk => trivial),by repeat (first | (with_reducible first | exact HB.out | apply uf | apply ua | apply ug | refine uh ?_ GE193.out) | exact HB.out)⟩
              · replace c43:=Bool.eq_false_iff.mpr c43
                subst c43
                have H1:(some (x6_12,t214,t208,false)) = some (r1,r2,r3,r4):=by rw [if_neg (show ¬ (false = true) by decide)] at H;exact H
                clear H
                have H:=H1
                clear H1
                simp only [Option.some.injEq,Prod.mk.injEq] at H
                obtain ⟨rfl,rfl,rfl,rfl⟩:=H
                go_wp2_with (first | ((with_reducible refine u1k (f:=37) rfl ?_);refine u2r (some 66) rfl rfl Tryd.func37 (by kernel_rfl) rfl #[.string t209] rfl (by (try simp only [List.map_toArray,List.map_cons,List.map_nil]);first | done | rfl | (simp only [List.length_drop,List.length_take];rfl)) ?_;(with_reducible refine (u1e.calls kj24 t209 t212 false _ A37.out).mono ?_);rintro e w' ⟨rfl,⟨nd,rfl⟩⟩;refine ⟨_,rfl,?_⟩;(try (rw [u2z wc];generalize hq_:World.drewN wc _ = wc;have n0_:Aside0 (Kd.R k37 37 wc w.heap.size (fun _ => True) u6 x6_12):=⟨by rw [← hq_];exact (by (with_reducible repeat (first | apply Kd.R_alloc | apply Kd.R_drewN | apply Kd.R_drew));exact HO_6.out)⟩;have n1_:Aside0 (wc.heap[gb193]? = some (.cells #[.slice none 0 0,.int .i64 x194001_12,.int .u64 x194002_12] 25 (0,0))):=⟨by rw [← hq_];exact (by (with_reducible repeat (first | refine uc ?_ _ | refine ue ?_ | refine ub ?_ _));exact BK193.out)⟩;have n2_:Aside0 (Below w.heap.size w wc):=⟨by rw [← hq_];exact (by repeat (first | (with_reducible first | exact HB.out | apply uf | apply ua | apply ug | refine uh ?_ GE193.out) | exact HB.out))⟩;clear HO_6 BK193 HB hq_;have HO_6:=n0_;have BK193:=n1_;have HB:=n2_;clear n0_ n1_ n2_))) | ((with_reducible refine u1k (f:=70) rfl ?_);refine u2r (some 77) rfl rfl Tryd.func70 (by kernel_rfl) rfl #[.string t212] rfl (by (try simp only [List.map_toArray,List.map_cons,List.map_nil]);first | done | rfl | (simp only [List.length_drop,List.length_take];rfl)) ?_;(with_reducible refine (u1g.calls kj24 t212 t214 t215 t216 _ A41.out).mono ?_);rintro e w' ⟨rfl,⟨nd,rfl⟩⟩;refine ⟨_,rfl,?_⟩;(try (rw [u2z wc];generalize hq_:World.drewN wc _ = wc;have n0_:Aside0 (Kd.R k37 37 wc w.heap.size (fun _ => True) u6 x6_12):=⟨by rw [← hq_];exact (by (with_reducible repeat (first | apply Kd.R_alloc | apply Kd.R_drewN | apply Kd.R_drew));exact HO_6.out)⟩;have n1_:Aside0 (wc.heap[gb193]? = some (.cells #[.slice none 0 0,.int .i64 x194001_12,.int .u64 x194002_12] 25 (0,0))):=⟨by rw [← hq_];exact (by (with_reducible repeat (first | refine uc ?_ _ | refine ue ?_ | refine ub ?_ _));exact BK193.out)⟩;have n2_:Aside0 (Below w.heap.size w wc):=⟨by rw [← hq_];exact (by repeat (first | (with_reducible first | exact HB.out | apply uf | apply ua | apply ug | refine uh ?_ GE193.out) | exact HB.out))⟩;clear HO_6 BK193 HB hq_;have HO_6:=n0_;have BK193:=n1_;have HB:=n2_;clear n0_ n1_ n2_))) | ((with_reducible refine u1k (f:=37) rfl ?_);refine u2r (some 83) rfl rfl Tryd.func37 (by kernel_rfl) rfl #[.string t215] rfl (by (try simp only [List.map_toArray,List.map_cons,List.map_nil]);first | done | rfl | (simp only [List.length_drop,List.length_take];rfl)) ?_;(with_reducible refine (u1e.calls kj24 t215 t217 t218 _ A42.out).mono ?_);rintro e w' ⟨rfl,⟨nd,rfl⟩⟩;refine ⟨_,rfl,?_⟩;(try (rw [u2z wc];generalize hq_:World.drewN wc _ = wc;have n0_:Aside0 (Kd.R k37 37 wc w.heap.size (fun _ => True) u6 x6_12):=⟨by rw [← hq_];exact (by (with_reducible repeat (first | apply Kd.R_alloc | apply Kd.R_drewN | apply Kd.R_drew));exact HO_6.out)⟩;have n1_:Aside0 (wc.heap[gb193]? = some (.cells #[.slice none 0 0,.int .i64 x194001_12,.int .u64 x194002_12] 25 (0,0))):=⟨by rw [← hq_];exact (by (with_reducible repeat (first | refine uc ?_ _ | refine ue ?_ | refine ub ?_ _));exact BK193.out)⟩;have n2_:Aside0 (Below w.heap.size w wc):=⟨by rw [← hq_];exact (by repeat (first | (with_reducible first | exact HB.out | apply uf | apply ua | apply ug | refine uh ?_ GE193.out) | exact HB.out))⟩;clear HO_6 BK193 HB hq_;have HO_6:=n0_;have BK193:=n1_;have HB:=n2_;clear n0_ n1_ n2_));obtain ⟨Ao49,co49,eo49⟩:=Kd.R_slice HO_6.out;subst eo49;have hcz50_0:wc.cell? ⟨gb193,0,none⟩ = some (.slice none 0 0):=(uj BK193.out 0).trans rfl;have hcz50_1:wc.cell? ⟨gb193,1,none⟩ = some (.int .i64 x194001_12):=(uj BK193.out 1).trans rfl;have hcz50_2:wc.cell? ⟨gb193,2,none⟩ = some (.int .u64 x194002_12):=(uj BK193.out 2).trans rfl;have hfz50_0:=ui BK193.out 0;have hfz50_1:=ui BK193.out 1;have hfz50_2:=ui BK193.out 2))
                refine bodyPost_ret (results_ct rfl _ _ gb193 25 #[.slice Ao49 x6_12.length co49,.int .i64 t214,.int .u64 t208] (0,0) _ rfl (by (with_reducible repeat (first | refine uc ?_ _ | refine ue ?_ | refine ub ?_ _));refine u1m (cs:=#[.slice Ao49 x6_12.length co49,.int .i64 t214,.int .u64 x194002_12]) ?_ 2 _ rfl;(with_reducible repeat (first | refine uc ?_ _ | refine ue ?_ | refine ub ?_ _));refine u1m (cs:=#[.slice Ao49 x6_12.length co49,.int .i64 x194001_12,.int .u64 x194002_12]) ?_ 1 _ rfl;(with_reducible repeat (first | refine uc ?_ _ | refine ue ?_ | refine ub ?_ _));refine u1m (cs:=#[.slice none 0 0,.int .i64 x194001_12,.int .u64 x194002_12]) ?_ 0 _ rfl;(with_reducible repeat (first | refine uc ?_ _ | refine ue ?_ | refine ub ?_ _));exact BK193.out) Tryd.underlying25 rfl (by kernel_rfl)) rfl ?_
                exact ⟨_,by first | rfl | (simp [u1j,u1i] <;> rfl) | (simp [*,u1j,u1i] <;> rfl),by (with_reducible repeat (first | apply Kd.R_alloc | apply Kd.R_drewN | apply Kd.R_drew));exact Kd.R_mono (Kd.R_far (p:=⟨gb193,2,none⟩) (Kd.R_far (p:=⟨gb193,1,none⟩) (Kd.R_far (p:=⟨gb193,0,none⟩) (Kd.R_types HO_6.out BK193.out (by decide)) (fun _ hk => hk.2) (.slice Ao49 x6_12.length co49)) (fun _ hk => hk.2) (.int .i64 t214)) (fun _ hk => hk.2) (.int .u64 t208)) (fun _ hk => trivial),by repeat (first | (with_reducible first | exact HB.out | apply uf | apply ua | apply ug | refine uh ?_ GE193.out) | exact HB.out)⟩
end Go.Proofs.YtmcpeifhapekoaaDoor.PAll
namespace Go.Proofs.YtmcpeifhapekoaaDoor.Tx
open Go.RowKit Go.Proofs.YtmcpeifhapekoaaDoor.PAll Go.Proofs.YtmcpeifhapekoaaDoorW.PrintWords Go.Proofs.YtmcpeifhapekoaaDoorW.PrintLast
open Go.Proofs.YtmcpeifhapekoaaDoor.Laws (okFrom canB wrap_up at_byte no_byte word_ev)
set_option linter.unusedVariables false
set_option linter.unusedSimpArgs false
theorem valueD_rest {h:Bool} {most:Nat} {base:Int} {s:B8} {n:Int} {r:B8} (e:valueD h most base s = some (n,r)):r.length ≤ s.length:=by
 unfold valueD digitsP at e
 split at e
 · simp only [Option.bind_some] at e
   cases hn:numL base (s.takeWhile (digC h)) 0 with
   | none => rw [hn] at e;cases e
   | some m =>
     rw [hn] at e
     obtain ⟨_,rfl⟩:=Prod.mk.inj (Option.some.inj e)
     exact dw_len _ _
 · cases e
theorem valueP_rest {s:B8} {n:Int} {r:B8} (e:valueP s = some (n,r)):r.length ≤ s.length:=by
 rcases pre2 s with ⟨q,hq,h,_⟩ | ⟨_,h⟩
 · rw [h] at e
   have:=valueD_rest e
   rw [hq,List.length_cons,List.length_cons]
   omega
 · rw [h] at e
   exact valueD_rest e
theorem timeP_rest {s:B8} {n:Int} {r:B8} (e:timeP s = some (n,r)):r.length ≤ s.length:=by
 unfold timeP at e
 split at e
 · rename_i q
   cases hv:valueD false 19 10 q with
   | none => rw [hv] at e;cases e
   | some p =>
     rw [hv] at e
     simp only [Option.bind_some] at e
     split at e
     · obtain ⟨_,rfl⟩:=Prod.mk.inj (Option.some.inj e)
       have:=valueD_rest (r:=p.2) (n:=p.1) hv
       rw [List.length_cons]
       omega
     · cases e
 · rename_i q hq
   cases hv:valueD false 19 10 s with
   | none => rw [hv] at e;cases e
   | some p =>
     rw [hv] at e
     simp only [Option.bind_some] at e
     split at e
     · cases Option.some.inj e
       exact valueD_rest hv
     · cases e
def small (y:Lb):Prop:=y.f0.size ≤ 1000 ∧ y.f1.size ≤ 1000
theorem addR_mem {x:Lb} {r o:List Lb} (h:addR x r = some o):∀ y ∈ o,y = x ∨ y ∈ r:=fun y hy => by
 rcases addR_some x r with h1 | ⟨h1,_⟩
 · rw [h1] at h
   cases Option.some.inj h
   have:=(insR_perm x r).mem_iff.1 hy
   rcases List.mem_cons.1 this with e | e
   · exact Or.inl e
   · exact Or.inr e
 · rw [h1] at h
   cases h
theorem bracesR_small:∀ (n:Nat) (acc:List Lb) (s:B8) (p:List Lb × B8),bracesR n acc s = some p → s.length ≤ 1000 → (∀ y ∈ acc,small y) → (∀ y ∈ p.1,small y) ∧ p.2.length ≤ s.length
 | 0,acc,s,p,h,_,_ => by cases h
 | n + 1,acc,s,p,h,hs,ha => by
   unfold bracesR at h
   cases hv:valP (s.dropWhile wordC) with
   | none => rw [hv] at h;cases h
   | some q =>
     obtain ⟨v,t0⟩:=q
     rw [hv] at h
     have hvr:=valP_rest hv
     have hdl:=dw_len wordC s
     have htl:=tw_le wordC s
     cases t0 with
     | nil => cases h
     | cons c t =>
       rw [List.length_cons] at hvr
       simp only [Option.bind_some] at h
       split at h
       · cases h
       · cases hax:addR ⟨Base.ofL (s.takeWhile wordC),v⟩ acc with
         | none => rw [hax] at h;cases h
         | some l =>
           rw [hax] at h
           have hl:∀ y ∈ l,small y:=fun y hy => by
            rcases addR_mem hax y hy with rfl | e
            · exact ⟨by rw [sz];omega,by show v.size ≤ 1000;omega⟩
            · exact ha y e
           simp only [Option.bind_some] at h
           split at h
           · have:=bracesR_small n l t p h (by omega) hl
             exact ⟨this.1,by omega⟩
           · split at h
             · cases Option.some.inj h
               exact ⟨hl,by show t.length ≤ _;omega⟩
             · cases h
def SaysR (g:Nat → Option (List Lb × Int × Int × Bool)) (o:Option Rw):Prop:=match o with
 | some r => Ev g (r.f0,r.f1,r.f2,true)
 | none => ∃ (a:List Lb) (b c:Int),Ev g (a,b,c,false)
theorem SaysR.congr {g f:Nat → Option (List Lb × Int × Int × Bool)} {o:Option Rw} (h:∀ k,g k = f k) (hf:SaysR f o):SaysR g o:=by
 rw [show g = f from funext h]
 exact hf
theorem SaysR.no {g:Nat → Option (List Lb × Int × Int × Bool)} (h:∀ k,g (k + 1) = some ([],0,0,false)):SaysR g none:=⟨[],0,0,Ev.step (f:=fun _ => some ([],0,0,false)) h (Ev.now _)⟩
theorem SaysR.step {g f:Nat → Option (List Lb × Int × Int × Bool)} {o:Option Rw} (h:∀ k,g (k + 1) = f k) (hf:SaysR f o):SaysR g o:=by
 cases o with
 | some r => exact Ev.step h hf
 | none =>
   obtain ⟨a,b,c,hf⟩:=hf
   exact ⟨a,b,c,Ev.step h hf⟩
theorem SaysR.bind {α:Type} {g:Nat → Option α} {f:Nat → α → Option (List Lb × Int × Int × Bool)} {x:α} {o:Option Rw} (hg:Ev g x) (hf:SaysR (fun k => f k x) o):SaysR (fun k => (g k).bind (f k)) o:=by
 cases o with
 | some r => exact Ev.bind hg hf
 | none =>
   obtain ⟨a,b,c,hf⟩:=hf
   exact ⟨a,b,c,Ev.bind hg hf⟩
def endT (s:B8) (now v:Int):Option (Int × Int) :=
 if s.dropWhile blankC = [] then some (now,v) else if s.takeWhile blankC = [] then none else
  (timeP (s.dropWhile blankC)).bind fun q => if q.2.dropWhile blankC = [] then some (q.1,v) else none
theorem end_is (s:B8) (now:Int):endP s now = if s.takeWhile blankC = [] then none else (valueP (s.dropWhile blankC)).bind fun p => endT p.2 now p.1:=rfl
theorem emp {s:B8}:(!s.isEmpty) = true ↔ ¬ s = []:=by cases s <;> simp
theorem sample_j2 (l:List Lb) (s:B8) (hs:s.length ≤ 1000) (now v:Int) (b:Bool) (hb:b = false):SaysR (fun k => un.j2 k now l (Base.ofL s) v b) ((endT s now v).map fun q => ⟨l,q.1,q.2⟩):=by
 subst hb
 have hbl:=blanks_ev s hs
 have hdl:=dw_len blankC s
 have hbg:=time_says (s.dropWhile blankC) (by omega)
 refine SaysR.step (f:=fun k => (u1e.f k (Base.ofL s)).bind fun bt212 => (if bt212.1.toList = ([]:List UInt8) then (some (l,now,v,true)) else ((u1g.f k bt212.1).bind fun bt214 => ((u1e.f k bt214.2.1).bind fun bt217 => (if bt212.2 = true then (if bt214.2.2 = true then (some (l,bt214.1,v,(bt217.1.toList == ([]:List UInt8)))) else (some (l,bt214.1,v,false))) else (some (l,bt214.1,v,false))))))) (fun k => rfl) (SaysR.bind hbl ?_)
 simp only [tl_ofL]
 unfold endT
 by_cases h1:s.dropWhile blankC = []
 · rw [if_pos h1]
   exact SaysR.congr (fun k => if_pos h1) (Ev.now _)
 · rw [if_neg h1]
   refine SaysR.congr (fun k => if_neg h1) ?_
   cases ht:timeP (s.dropWhile blankC) with
   | none =>
     rw [ht] at hbg
     obtain ⟨x,y,hy,hbg⟩:=hbg
     have hb2:=blanks_ev y hy
     have:SaysR (fun k => (u1g.f k (Base.ofL (s.dropWhile blankC))).bind fun bt214 => ((u1e.f k bt214.2.1).bind fun bt217 => (if (!(s.takeWhile blankC).isEmpty) = true then (if bt214.2.2 = true then (some (l,bt214.1,v,(bt217.1.toList == ([]:List UInt8)))) else (some (l,bt214.1,v,false))) else (some (l,bt214.1,v,false))))) none:=by
      refine SaysR.bind hbg (SaysR.bind hb2 ?_)
      refine ⟨l,x,v,Ev.congr (f:=fun _ => some (l,x,v,false)) (fun k => ?_) (Ev.now _)⟩
      simp
     have e0:(Option.map (fun q:Int × Int => (⟨l,q.1,q.2⟩:Rw)) (if s.takeWhile blankC = [] then none else (none:Option (Int × B8)).bind fun q => if q.2.dropWhile blankC = [] then some (q.1,v) else none)) = none:=by split <;> rfl
     rw [e0]
     exact SaysR.congr (fun k => rfl) this
   | some q =>
     obtain ⟨n,r⟩:=q
     rw [ht] at hbg
     have hr:=timeP_rest ht
     have hb2:=blanks_ev r (by omega)
     refine SaysR.bind hbg (SaysR.bind hb2 ?_)
     simp only [tl_ofL,if_true,Option.bind_some]
     by_cases h2:s.takeWhile blankC = []
     · rw [if_pos h2]
       exact ⟨l,n,v,Ev.congr (f:=fun _ => some (l,n,v,false)) (fun k => by rw [h2];rfl) (Ev.now _)⟩
     · rw [if_neg h2]
       refine SaysR.congr (fun k => if_pos (emp.2 h2)) ?_
       by_cases h3:r.dropWhile blankC = []
       · rw [if_pos h3]
         refine Ev.congr (f:=fun _ => some (l,n,v,true)) (fun k => ?_) (Ev.now _)
         rw [h3]
         rfl
       · rw [if_neg h3]
         refine ⟨l,n,v,Ev.congr (f:=fun _ => some (l,n,v,false)) (fun k => ?_) (Ev.now _)⟩
         rw [beq_eq_false_iff_ne.2 h3]
theorem sample_j2no (l:List Lb) (s:ByteArray) (now v:Int) (b:Bool) (hb:b = true):SaysR (fun k => un.j2 k now l s v b) none:=by
 subst hb
 exact SaysR.no (fun k => by simp only [un.j2,if_true])
theorem sample_j1 (l:List Lb) (hl:∀ y ∈ l,small y) (s:B8) (hs:s.length ≤ 1000) (now:Int):SaysR (fun k => un.j1 k now l (Base.ofL s)) (if canB l = true then (endP s now).map fun q => ⟨l,q.1,q.2⟩ else none):=by
 have hbl:=blanks_ev s hs
 have hdl:=dw_len blankC s
 have hcan:=Laws.rcan_ev l (fun y hy => by
  have h:=hl y hy
  unfold small at h
  have hm:(1000:Nat) ≤ maxLen:=by decide
  exact ⟨by omega,by omega⟩)
 have hva:=value_says (s.dropWhile blankC) (by omega)
 have hx:∃ (n:Int) (r:B8) (ok:Bool),Ev (fun k => u2a.f k (Base.ofL (s.dropWhile blankC))) (n,Base.ofL r,ok) ∧ r.length ≤ 1000 ∧ valueP (s.dropWhile blankC) = if ok = true then some (n,r) else none:=by
  cases h:valueP (s.dropWhile blankC) with
  | none =>
    rw [h] at hva
    obtain ⟨x,y,hy,hva⟩:=hva
    exact ⟨x,y,false,hva,hy,rfl⟩
  | some q =>
    obtain ⟨n,r⟩:=q
    rw [h] at hva
    have:=valueP_rest h
    exact ⟨n,r,true,hva,by omega,rfl⟩
 obtain ⟨n,r,ok,hva,hr,hok⟩:=hx
 refine SaysR.step (f:=fun k => (u1e.f k (Base.ofL s)).bind fun bt206 => ((u2a.f k bt206.1).bind fun bt208 => ((uv.f k l).bind fun t211 => (if t211 = true then (if bt206.2 = true then (un.j2 k now l bt208.2.1 bt208.1 (!bt208.2.2)) else (un.j2 k now l bt208.2.1 bt208.1 true)) else (un.j2 k now l bt208.2.1 bt208.1 true))))) (fun k => rfl) (SaysR.bind hbl (SaysR.bind hva (SaysR.bind hcan ?_)))
 simp only
 rw [end_is,hok]
 by_cases hc:canB l = true
 · rw [if_pos hc]
   refine SaysR.congr (fun k => if_pos hc) ?_
   by_cases h2:s.takeWhile blankC = []
   · rw [if_pos h2]
     exact SaysR.congr (f:=fun k => un.j2 k now l (Base.ofL r) n true) (fun k => by rw [h2];rfl) (sample_j2no _ _ _ _ _ rfl)
   · rw [if_neg h2]
     refine SaysR.congr (fun k => if_pos (emp.2 h2)) ?_
     cases ok with
     | true => exact sample_j2 l r hr now n _ rfl
     | false => exact sample_j2no _ _ _ _ _ rfl
 · rw [if_neg hc]
   exact SaysR.congr (fun k => if_neg hc) (sample_j2no _ _ _ _ _ rfl)
def restR (l0:List Lb) (s:B8):Option (List Lb × B8):=match s with
 | 123 :: t => bracesR (t.length + 1) l0 t
 | _ => some (l0,s)
theorem restR_no (l0:List Lb) (s:B8) (h:∀ q,s ≠ 123 :: q):restR l0 s = some (l0,s):=by
 unfold restR
 split
 · exact absurd rfl (h _)
 · rfl
theorem sample_j0 (l0:List Lb) (h0:l0.length ≤ 1) (hl:∀ y ∈ l0,small y) (s:B8) (hs:s.length ≤ 1000) (now:Int):SaysR (fun k => un.j0 k now l0 (Base.ofL s))
 ((restR l0 s).bind fun p => if canB p.1.reverse = true then (endP p.2 now).map fun q:Int × Int => (⟨p.1.reverse,q.1,q.2⟩:Rw) else none):=by
 have hrev:l0.reverse = l0:=by
  match l0,h0 with
  | [],_ => rfl
  | [x],_ => rfl
 have hbg:ut.f (Base.ofL s) (⟨#[123]⟩:ByteArray) = some (([123]:B8).isPrefixOf s):=begins_is [123] _
 have hstep:∀ k,un.j0 (k + 1) now l0 (Base.ofL s) = (ut.f (Base.ofL s) (⟨#[123]⟩:ByteArray)).bind fun t200 => (if t200 = true then (if 1 ≤ ((Base.ofL s).size:Int) then ((ul.f k l0 ((Base.ofL s).extract 1 (Base.ofL s).size)).bind fun bt201 => (if bt201.2.2 = true then (un.j1 k now bt201.1 bt201.2.1) else (some (([]:List Lb),0,0,false)))) else (none)) else (un.j1 k now l0 (Base.ofL s))):=fun k => rfl
 rw [hbg] at hstep
 rcases pre1 123 s with ⟨t,ht,hp⟩ | ⟨hp,hne⟩
 · subst ht
   rw [hp] at hstep
   rw [List.length_cons] at hs
   have hbr:=braces_ev l0 t (by omega) (by omega)
   rw [hrev] at hbr
   refine SaysR.step (f:=fun k => (ul.f k l0 (Base.ofL t)).bind fun bt201 => (if bt201.2.2 = true then (un.j1 k now bt201.1 bt201.2.1) else (some (([]:List Lb),0,0,false)))) (fun k => ?_) (SaysR.bind hbr ?_)
   · rw [hstep k]
     simp only [Option.bind_some,if_true]
     rw [if_pos (first_of 123 t (by omega)).1,(first_of 123 t (by omega)).2.2.2]
   · simp only [restR]
     cases hb:bracesR (t.length + 1) l0 t with
     | none => exact ⟨[],0,0,Ev.congr (f:=fun _ => some ([],0,0,false)) (fun k => if_neg (by decide)) (Ev.now _)⟩
     | some p =>
       have hsm:=bracesR_small _ _ _ _ hb (by omega) hl
       refine SaysR.congr (fun k => if_pos rfl) ?_
       exact sample_j1 p.1.reverse (fun y hy => hsm.1 y (List.mem_reverse.1 hy)) p.2 (by omega) now
 · rw [hp] at hstep
   rw [restR_no l0 s hne]
   simp only [Option.bind_some,hrev]
   refine SaysR.step (f:=fun k => un.j1 k now l0 (Base.ofL s)) (fun k => ?_) (sample_j1 l0 hl s hs now)
   rw [hstep k]
   rfl
theorem sample_says (s:B8) (hs:s.length ≤ 1000) (now:Int):SaysR (fun k => un.f k (Base.ofL s) now) (sampleP canB s now):=by
 have hE:=labs_same (fun l t => (endP t now).map fun q => (⟨l,q.1,q.2⟩:Rw)) s
 unfold sampleP
 rw [hE]
 have hw:=rword_ev s hs
 have htl:=tw_le wordC s
 have hdl:=dw_len wordC s
 have hn:=Laws.rname_ev (Base.ofL (s.takeWhile wordC)) (by rw [sz];omega)
 have hgo:∀ l0:List Lb,l0.length ≤ 1 → (∀ y ∈ l0,small y) → SaysR (fun k => un.j0 k now l0 (Base.ofL (s.dropWhile wordC))) _:=fun l0 h0 hl => sample_j0 l0 h0 hl _ (by omega) now
 refine SaysR.congr (f:=fun k => (u1t.f k (Base.ofL s)).bind fun bt194 => (if bt194.1.toList = ([]:List UInt8) then (un.j0 k now ([]:List Lb) bt194.2) else ((uy.f k bt194.1).bind fun t196 => (if t196 = true then (un.j0 k now (([(⟨(⟨#[95,95,110,97,109,101,95,95]⟩:ByteArray),bt194.1⟩:Lb)]:List Lb)) bt194.2) else (some (([]:List Lb),0,0,false)))))) (fun k => rfl) (SaysR.bind hw ?_)
 simp only [tl_ofL]
 unfold labsR
 by_cases h1:s.takeWhile wordC = []
 · rw [if_neg (by rintro ⟨h,_⟩;exact h h1),if_neg (by rw [h1];simp)]
   refine SaysR.congr (fun k => if_pos h1) ?_
   exact hgo [] (by simp) (by simp)
 · refine SaysR.congr (fun k => if_neg h1) (SaysR.bind hn ?_)
   by_cases h2:Base.nameB (Base.ofL (s.takeWhile wordC)) = true
   · rw [if_neg (by rw [h2];rintro ⟨_,h⟩;cases h),if_pos h1]
     refine SaysR.congr (fun k => if_pos h2) ?_
     exact hgo [⟨metric,Base.ofL (s.takeWhile wordC)⟩] (by simp) (fun y hy => by
      rw [List.mem_singleton] at hy
      subst hy
      exact ⟨by show metric.size ≤ 1000;decide,by show (Base.ofL _).size ≤ _;rw [sz];omega⟩)
   · rw [if_pos ⟨h1,by simpa using h2⟩]
     exact ⟨[],0,0,Ev.congr (f:=fun _ => some ([],0,0,false)) (fun k => if_neg h2) (Ev.now _)⟩
end Go.Proofs.YtmcpeifhapekoaaDoor.Tx
namespace Go.Proofs.YtmcpeifhapekoaaDoor.PAll
open Go.RowKit Go.Proofs.YtmcpeifhapekoaaDoorW.PrintWords Go.Proofs.YtmcpeifhapekoaaDoorW.PrintLast Go.Proofs.YtmcpeifhapekoaaDoorW.PrintMore
attribute [local go_sem] max2_int min2_int max_two min_two max_three min_three max_four min_four
set_option linter.unusedVariables false
set_option linter.unusedSimpArgs false
def u2j.l0:Nat → ByteArray → Int → Int → Option ((List (S37)) × Int × Int × Bool × ByteArray × ByteArray × ByteArray × Int)
 | 0,_,_,_ => none
 | k + 1,x0,x1,x8 => if x8 < (x0.size:Int) then (if 0 ≤ x8 then (if (bt x0 x8) = 10 then (some (([]:List (S37)),0,0,false,(⟨#[]⟩:ByteArray),(⟨#[]⟩:ByteArray),(⟨#[]⟩:ByteArray),280)) else (u2j.l0 k x0 x1 (wrap64 (x8 + 1)))) else (none)) else ((ut.f x0 (⟨#[35]⟩:ByteArray)).bind fun t221 => (if t221 = true then ((uo.f k x0).bind fun bt222 => (if bt222.2.2.2 = true then (some (([]:List (S37)),0,0,false,bt222.1,bt222.2.1,bt222.2.2.1,0)) else (some (([]:List (S37)),0,0,false,(⟨#[]⟩:ByteArray),(⟨#[]⟩:ByteArray),(⟨#[]⟩:ByteArray),280)))) else ((u1e.f k x0).bind fun bt227 => (if bt227.1.toList = ([]:List UInt8) then (some (([]:List (S37)),0,0,false,(⟨#[]⟩:ByteArray),(⟨#[]⟩:ByteArray),(⟨#[]⟩:ByteArray),0)) else ((un.f k x0 x1).bind fun bt229 => (if bt229.2.2.2 = true then (some (bt229.1,bt229.2.1,bt229.2.2.1,true,(⟨#[]⟩:ByteArray),(⟨#[]⟩:ByteArray),(⟨#[]⟩:ByteArray),0)) else (some (([]:List (S37)),0,0,false,(⟨#[]⟩:ByteArray),(⟨#[]⟩:ByteArray),(⟨#[]⟩:ByteArray),280))))))))
def u2j.f (k:Nat) (a0:ByteArray) (a1:Int):Option ((List (S37)) × Int × Int × Bool × ByteArray × ByteArray × ByteArray × Int):=if (a0.size:Int) > 1000 then (some (([]:List (S37)),0,0,false,(⟨#[]⟩:ByteArray),(⟨#[]⟩:ByteArray),(⟨#[]⟩:ByteArray),4)) else (u2j.l0 k a0 a1 0)
set_option maxHeartbeats 8000000 in
set_option maxRecDepth 100000 in
theorem u2j.calls (k:Nat) (a0:ByteArray) (a1:Int) (r1:List (S37)) (r2:Int) (r3:Int) (r4:Bool) (r5:ByteArray) (r6:ByteArray) (r7:ByteArray) (r8:Int) (w:World) (h:u2j.f k a0 a1 = some (r1,r2,r3,r4,r5,r6,r7,r8)) :
 Calls Tryd.prog 17 #[.string a0,.int .i64 a1] w fun e w' => ∃ v0_:Value,e = .returned (.tuple #[.agg #[v0_,.int .i64 r2,.int .u64 r3],.bool r4,.agg #[.string r5,.string r6,.string r7],.int .i64 r8]) ∧ Kd.R k37 37 w' w.heap.size (fun _ => True) v0_ r1 ∧ Below w.heap.size w w':=by
 have hu25:=Tryd.underlying25
 have hu51:=Tryd.underlying51
 have HB:=Aside0.mk (Below.refl w.heap.size w)
 have H:(if (a0.size:Int) > 1000 then (some (([]:List (S37)),0,0,false,(⟨#[]⟩:ByteArray),(⟨#[]⟩:ByteArray),(⟨#[]⟩:ByteArray),4)) else (u2j.l0 k a0 a1 0)) = some (r1,r2,r3,r4,r5,r6,r7,r8):=h
 clear h
 by_cases c3:(a0.size:Int) > 1000
 · rw [if_pos c3] at H
   have c3b0:decide (1000 < (a0.size:Int)) = true:=decide_eq_true c3
   have c3b1:decide (1000 < a0.size) = true:=decide_eq_true (by omega)
   clear c3
   simp only [Option.some.injEq,Prod.mk.injEq] at H
   obtain ⟨rfl,rfl,rfl,rfl,rfl,rfl,rfl,rfl⟩:=H
   go_enter Tryd.func17,Tryd.ntmps17
   go_wp2_with (first | ((with_reducible refine u2k (N:=4) rfl ?_);refine u2h ?hg (N:=4) ?hd (cs:=#[.slice none 0 0,.int .i64 0,.int .u64 0]) (t:=25) ?hr ?_;(case hd => rfl);(case hg => rfl);(case hr => first | (go_simp;done) | (go_simp;rfl));intro gb219 hg w4 hbox hb;have n0_:=Aside0.mk (ux (by repeat (first | (with_reducible first | exact HB.out | apply uf | apply ua | apply ug) | exact HB.out)) hb);have n1_:=Aside0.mk (hbox);have n2_:=Aside0.mk ((by rw [hg];exact (uq (by repeat (first | (with_reducible first | exact HB.out | apply uf | apply ua | apply ug) | exact HB.out))):w.heap.size ≤ gb219));have n3_:=Aside0.mk ((by rw [hg];exact (uq (by repeat (first | (with_reducible first | exact HB.out | apply uf | apply ua | apply ug) | exact HB.out))):w.heap.size ≤ gb219));clear HB;have HB:=n0_;have BK219:=n1_;have GW219:=n2_;have GE219:=n3_;clear n0_ n1_ n2_ n3_;clear hb hbox hg) | ((with_reducible refine u2k (N:=6) rfl ?_);refine u2h ?hg (N:=6) ?hd (cs:=#[.string (⟨#[]⟩:ByteArray),.string (⟨#[]⟩:ByteArray),.string (⟨#[]⟩:ByteArray)]) (t:=51) ?hr ?_;(case hd => rfl);(case hg => rfl);(case hr => first | (go_simp;done) | (go_simp;rfl));intro gb220 hg w5 hbox hb;have n0_:=Aside0.mk (u1a (g:=gb219) (o:=.cells #[.slice none 0 0,.int .i64 0,.int .u64 0] 25 (0,0)) (by (with_reducible repeat (first | refine uc ?_ _ | refine ue ?_ | refine ub ?_ _));exact BK219.out) hb);have n1_:=Aside0.mk (ux (by repeat (first | (with_reducible first | exact HB.out | apply uf | apply ua | apply ug | refine uh ?_ GE219.out) | exact HB.out)) hb);have n2_:=Aside0.mk (hbox);have n3_:=Aside0.mk ((by rw [hg];exact (uq (by repeat (first | (with_reducible first | exact HB.out | apply uf | apply ua | apply ug | refine uh ?_ GE219.out) | exact HB.out))):w.heap.size ≤ gb220));have n4_:=Aside0.mk ((by rw [hg];exact (uq (by repeat (first | (with_reducible first | exact HB.out | apply uf | apply ua | apply ug | refine uh ?_ GE219.out) | exact HB.out))):w.heap.size ≤ gb220));have n5_:=Aside0.mk ((by rw [hg];exact Nat.ne_of_lt (u2d (g:=gb219) (o:=.cells #[.slice none 0 0,.int .i64 0,.int .u64 0] 25 (0,0)) (by (with_reducible repeat (first | refine uc ?_ _ | refine ue ?_ | refine ub ?_ _));exact BK219.out)):gb219 ≠ gb220));have n6_:=Aside0.mk ((by rw [hg];exact Nat.ne_of_gt (u2d (g:=gb219) (o:=.cells #[.slice none 0 0,.int .i64 0,.int .u64 0] 25 (0,0)) (by (with_reducible repeat (first | refine uc ?_ _ | refine ue ?_ | refine ub ?_ _));exact BK219.out)):gb220 ≠ gb219));clear BK219;clear HB;have BK219:=n0_;have HB:=n1_;have BK220:=n2_;have GW220:=n3_;have GE220:=n4_;have NB219_220:=n5_;have NB220_219:=n6_;clear n0_ n1_ n2_ n3_ n4_ n5_ n6_;clear hb hbox hg;have hnb6:=NB219_220.out;have hnc6:=NB220_219.out;have hcz7_0:w5.cell? ⟨gb219,0,none⟩ = some (.slice none 0 0):=(uj BK219.out 0).trans rfl;have hcz7_1:w5.cell? ⟨gb219,1,none⟩ = some (.int .i64 0):=(uj BK219.out 1).trans rfl;have hcz7_2:w5.cell? ⟨gb219,2,none⟩ = some (.int .u64 0):=(uj BK219.out 2).trans rfl;have hfz7_0:=ui BK219.out 0;have hfz7_1:=ui BK219.out 1;have hfz7_2:=ui BK219.out 2;have hcz8_0:w5.cell? ⟨gb220,0,none⟩ = some (.string (⟨#[]⟩:ByteArray)):=(uj BK220.out 0).trans rfl;have hcz8_1:w5.cell? ⟨gb220,1,none⟩ = some (.string (⟨#[]⟩:ByteArray)):=(uj BK220.out 1).trans rfl;have hcz8_2:w5.cell? ⟨gb220,2,none⟩ = some (.string (⟨#[]⟩:ByteArray)):=(uj BK220.out 2).trans rfl;have hfz8_0:=ui BK220.out 0;have hfz8_1:=ui BK220.out 1;have hfz8_2:=ui BK220.out 2))
   refine bodyPost_ret (results_list (rs:=[.cell 4 25,.tmp 5,.cell 6 51,.tmp 7]) rfl (by simp) (.cell gb219 25 #[.slice none 0 0,.int .i64 0,.int .u64 0] (0,0) _ rfl (by (with_reducible repeat (first | refine uc ?_ _ | refine ue ?_ | refine ub ?_ _));refine u1d ?_ NB219_220.out _;(with_reducible repeat (first | refine uc ?_ _ | refine ue ?_ | refine ub ?_ _));refine u1d ?_ NB219_220.out _;(with_reducible repeat (first | refine uc ?_ _ | refine ue ?_ | refine ub ?_ _));refine u1d ?_ NB219_220.out _;(with_reducible repeat (first | refine uc ?_ _ | refine ue ?_ | refine ub ?_ _));refine u1m (cs:=#[.slice none 0 0,.int .i64 0,.int .u64 0]) ?_ 2 _ rfl;(with_reducible repeat (first | refine uc ?_ _ | refine ue ?_ | refine ub ?_ _));refine u1m (cs:=#[.slice none 0 0,.int .i64 0,.int .u64 0]) ?_ 1 _ rfl;(with_reducible repeat (first | refine uc ?_ _ | refine ue ?_ | refine ub ?_ _));refine u1m (cs:=#[.slice none 0 0,.int .i64 0,.int .u64 0]) ?_ 0 _ rfl;(with_reducible repeat (first | refine uc ?_ _ | refine ue ?_ | refine ub ?_ _));exact BK219.out) Tryd.underlying25 rfl (by kernel_rfl) (.tmp (.cell gb220 51 #[.string (⟨#[]⟩:ByteArray),.string (⟨#[]⟩:ByteArray),.string (⟨#[]⟩:ByteArray)] (0,0) _ rfl (by (with_reducible repeat (first | refine uc ?_ _ | refine ue ?_ | refine ub ?_ _));refine u1m (cs:=#[.string (⟨#[]⟩:ByteArray),.string (⟨#[]⟩:ByteArray),.string (⟨#[]⟩:ByteArray)]) ?_ 2 _ rfl;(with_reducible repeat (first | refine uc ?_ _ | refine ue ?_ | refine ub ?_ _));refine u1m (cs:=#[.string (⟨#[]⟩:ByteArray),.string (⟨#[]⟩:ByteArray),.string (⟨#[]⟩:ByteArray)]) ?_ 1 _ rfl;(with_reducible repeat (first | refine uc ?_ _ | refine ue ?_ | refine ub ?_ _));refine u1m (cs:=#[.string (⟨#[]⟩:ByteArray),.string (⟨#[]⟩:ByteArray),.string (⟨#[]⟩:ByteArray)]) ?_ 0 _ rfl;(with_reducible repeat (first | refine uc ?_ _ | refine ue ?_ | refine ub ?_ _));refine u1d ?_ NB220_219.out _;(with_reducible repeat (first | refine uc ?_ _ | refine ue ?_ | refine ub ?_ _));refine u1d ?_ NB220_219.out _;(with_reducible repeat (first | refine uc ?_ _ | refine ue ?_ | refine ub ?_ _));refine u1d ?_ NB220_219.out _;(with_reducible repeat (first | refine uc ?_ _ | refine ue ?_ | refine ub ?_ _));exact BK220.out) Tryd.underlying51 rfl (by kernel_rfl) (.tmp .nil))))) rfl ?_
   exact ⟨_,by first | rfl | (simp [u1j,u1i] <;> rfl) | (simp [*,u1j,u1i] <;> rfl),by first | exact Kd.R_nil _ _ _ _ _ | exact Kd.N_nil _ _ _ _ _ | exact Kd.V_nil _ _ _ _ _ | exact Kd.Q_nil _ _ _ _ _ | exact Kd.S_nil _ _ _ _ _,by repeat (first | (with_reducible first | exact HB.out | apply uf | apply ua | apply ug | refine uh ?_ GE219.out | refine uh ?_ GE220.out) | exact HB.out)⟩
 · rw [if_neg c3] at H
   have c3b0:decide (1000 < (a0.size:Int)) = false:=decide_eq_false c3
   have c3b1:decide (1000 < a0.size) = false:=decide_eq_false (by omega)
   clear c3
   have H':=Aside0.mk H
   clear H
   go_enter Tryd.func17,Tryd.ntmps17
   go_wp2_with (first | ((with_reducible refine u2k (N:=4) rfl ?_);refine u2h ?hg (N:=4) ?hd (cs:=#[.slice none 0 0,.int .i64 0,.int .u64 0]) (t:=25) ?hr ?_;(case hd => rfl);(case hg => rfl);(case hr => first | (go_simp;done) | (go_simp;rfl));intro gb219 hg w9 hbox hb;have n0_:=Aside0.mk (ux (by repeat (first | (with_reducible first | exact HB.out | apply uf | apply ua | apply ug) | exact HB.out)) hb);have n1_:=Aside0.mk (hbox);have n2_:=Aside0.mk ((by rw [hg];exact (uq (by repeat (first | (with_reducible first | exact HB.out | apply uf | apply ua | apply ug) | exact HB.out))):w.heap.size ≤ gb219));have n3_:=Aside0.mk ((by rw [hg];exact (uq (by repeat (first | (with_reducible first | exact HB.out | apply uf | apply ua | apply ug) | exact HB.out))):w.heap.size ≤ gb219));clear HB;have HB:=n0_;have BK219:=n1_;have GW219:=n2_;have GE219:=n3_;clear n0_ n1_ n2_ n3_;clear hb hbox hg) | ((with_reducible refine u2k (N:=6) rfl ?_);refine u2h ?hg (N:=6) ?hd (cs:=#[.string (⟨#[]⟩:ByteArray),.string (⟨#[]⟩:ByteArray),.string (⟨#[]⟩:ByteArray)]) (t:=51) ?hr ?_;(case hd => rfl);(case hg => rfl);(case hr => first | (go_simp;done) | (go_simp;rfl));intro gb220 hg w10 hbox hb;have n0_:=Aside0.mk (u1a (g:=gb219) (o:=.cells #[.slice none 0 0,.int .i64 0,.int .u64 0] 25 (0,0)) (by (with_reducible repeat (first | refine uc ?_ _ | refine ue ?_ | refine ub ?_ _));exact BK219.out) hb);have n1_:=Aside0.mk (ux (by repeat (first | (with_reducible first | exact HB.out | apply uf | apply ua | apply ug | refine uh ?_ GE219.out) | exact HB.out)) hb);have n2_:=Aside0.mk (hbox);have n3_:=Aside0.mk ((by rw [hg];exact (uq (by repeat (first | (with_reducible first | exact HB.out | apply uf | apply ua | apply ug | refine uh ?_ GE219.out) | exact HB.out))):w.heap.size ≤ gb220));have n4_:=Aside0.mk ((by rw [hg];exact (uq (by repeat (first | (with_reducible first | exact HB.out | apply uf | apply ua | apply ug | refine uh ?_ GE219.out) | exact HB.out))):w.heap.size ≤ gb220));have n5_:=Aside0.mk ((by rw [hg];exact Nat.ne_of_lt (u2d (g:=gb219) (o:=.cells #[.slice none 0 0,.int .i64 0,.int .u64 0] 25 (0,0)) (by (with_reducible repeat (first | refine uc ?_ _ | refine ue ?_ | refine ub ?_ _));exact BK219.out)):gb219 ≠ gb220));have n6_:=Aside0.mk ((by rw [hg];exact Nat.ne_of_gt (u2d (g:=gb219) (o:=.cells #[.slice none 0 0,.int .i64 0,.int .u64 0] 25 (0,0)) (by (with_reducible repeat (first | refine uc ?_ _ | refine ue ?_ | refine ub ?_ _));exact BK219.out)):gb220 ≠ gb219));clear BK219;clear HB;have BK219:=n0_;have HB:=n1_;have BK220:=n2_;have GW220:=n3_;have GE220:=n4_;have NB219_220:=n5_;have NB220_219:=n6_;clear n0_ n1_ n2_ n3_ n4_ n5_ n6_;clear hb hbox hg))
   go_loopg [8] k (fun kq v8 w' => ∃ (x8_1:Int) (x220001_1:Int) (x220002_1:Int) (x221000_1:ByteArray) (x221001_1:ByteArray) (x221002_1:ByteArray),v8 = .int .i64 x8_1 ∧ Aside0 (u2j.l0 kq a0 a1 x8_1 = some (r1,r2,r3,r4,r5,r6,r7,r8)) ∧ Aside0 (kq ≤ k) ∧ Aside0 (w'.heap[gb219]? = some (.cells #[(.slice none 0 0),.int .i64 x220001_1,.int .u64 x220002_1] 25 (0,0))) ∧ Aside0 (w'.heap[gb220]? = some (.cells #[.string x221000_1,.string x221001_1,.string x221002_1] 51 (0,0))) ∧ Aside0 (Below w.heap.size w w'))
   case atStart => exact ⟨(0),(0),(0),((⟨#[]⟩:ByteArray)),((⟨#[]⟩:ByteArray)),((⟨#[]⟩:ByteArray)),(by first | rfl | (simp;done) | (simp [*];done)),H',⟨Nat.le_refl _⟩,⟨by (with_reducible repeat (first | refine uc ?_ _ | refine ue ?_ | refine ub ?_ _));exact BK219.out⟩,⟨by (with_reducible repeat (first | refine uc ?_ _ | refine ue ?_ | refine ub ?_ _));exact BK220.out⟩,⟨by repeat (first | (with_reducible first | exact HB.out | apply uf | apply ua | apply ug | refine uh ?_ GE219.out | refine uh ?_ GE220.out) | exact HB.out)⟩⟩
   case round =>
    clear H'
    try clear c1
    try clear p2
    try clear c3
    try clear c3b0
    try clear c3b1
    try clear c6
    try clear hcz7_0
    try clear hcz7_1
    try clear hcz7_2
    try clear hcz8_0
    try clear hcz8_1
    try clear hcz8_2
    try clear hfz7_0
    try clear hfz7_1
    try clear hfz7_2
    try clear hfz8_0
    try clear hfz8_1
    try clear hfz8_2
    obtain ⟨x8_1,x220001_1,x220002_1,x221000_1,x221001_1,x221002_1,rfl,HA,HK1,BK219,BK220,HB⟩:=hrel
    cases gk with
    | zero => exact absurd HA.out (by simp [u2j.l0])
    | succ k1 =>
      have H:=HA.out
      clear HA
      simp only [u2j.l0] at H
      by_cases c11:x8_1 < (a0.size:Int)
      · rw [if_pos c11] at H
        have c11b0:decide (x8_1 < (a0.size:Int)) = true:=decide_eq_true c11
        clear c11
        by_cases c12:0 ≤ x8_1
        · rw [if_pos c12] at H
          have c12b0:decide (0 ≤ x8_1) = true:=decide_eq_true c12
          clear c12
          by_cases c14:(bt a0 x8_1) = 10
          · rw [if_pos c14] at H
            have c14b0:((bt a0 x8_1) == 10) = true:=beq_iff_eq.mpr c14
            have c14b1:((bt a0 x8_1) != 10) = false:=bne_eq_false_iff_eq.mpr c14
            clear c14
            simp only [Option.some.injEq,Prod.mk.injEq] at H
            obtain ⟨rfl,rfl,rfl,rfl,rfl,rfl,rfl,rfl⟩:=H
            have p13:0 ≤ (x8_1:Int):=of_decide_eq_true (by first | (with_reducible assumption) | assumption)
            have q13:x8_1 < (a0.size:Int):=of_decide_eq_true (by first | (with_reducible assumption) | assumption)
            have hx13:=bt_at a0 x8_1
            replace p13:=eq_true p13
            replace q13:=eq_true q13
            have hnb15:=NB219_220.out
            have hnc15:=NB220_219.out
            have hcz16_0:wr.cell? ⟨gb219,0,none⟩ = some (.slice none 0 0):=(uj BK219.out 0).trans rfl
            have hcz16_1:wr.cell? ⟨gb219,1,none⟩ = some (.int .i64 x220001_1):=(uj BK219.out 1).trans rfl
            have hcz16_2:wr.cell? ⟨gb219,2,none⟩ = some (.int .u64 x220002_1):=(uj BK219.out 2).trans rfl
            have hfz16_0:=ui BK219.out 0
            have hfz16_1:=ui BK219.out 1
            have hfz16_2:=ui BK219.out 2
            have hcz17_0:wr.cell? ⟨gb220,0,none⟩ = some (.string x221000_1):=(uj BK220.out 0).trans rfl
            have hcz17_1:wr.cell? ⟨gb220,1,none⟩ = some (.string x221001_1):=(uj BK220.out 1).trans rfl
            have hcz17_2:wr.cell? ⟨gb220,2,none⟩ = some (.string x221002_1):=(uj BK220.out 2).trans rfl
            have hfz17_0:=ui BK220.out 0
            have hfz17_1:=ui BK220.out 1
            have hfz17_2:=ui BK220.out 2
            go_wp2
            refine bodyPost_ret (results_list (rs:=[.cell 4 25,.tmp 5,.cell 6 51,.tmp 7]) rfl (by simp) (.cell gb219 25 #[.slice none 0 0,.int .i64 0,.int .u64 0] (0,0) _ rfl (by (with_reducible repeat (first | refine uc ?_ _ | refine ue ?_ | refine ub ?_ _));refine u1d ?_ NB219_220.out _;(with_reducible repeat (first | refine uc ?_ _ | refine ue ?_ | refine ub ?_ _));refine u1d ?_ NB219_220.out _;(with_reducible repeat (first | refine uc ?_ _ | refine ue ?_ | refine ub ?_ _));refine u1d ?_ NB219_220.out _;(with_reducible repeat (first | refine uc ?_ _ | refine ue ?_ | refine ub ?_ _));refine u1m (cs:=#[.slice none 0 0,.int .i64 0,.int .u64 x220002_1]) ?_ 2 _ rfl;(with_reducible repeat (first | refine uc ?_ _ | refine ue ?_ | refine ub ?_ _));refine u1m (cs:=#[.slice none 0 0,.int .i64 x220001_1,.int .u64 x220002_1]) ?_ 1 _ rfl;(with_reducible repeat (first | refine uc ?_ _ | refine ue ?_ | refine ub ?_ _));refine u1m (cs:=#[.slice none 0 0,.int .i64 x220001_1,.int .u64 x220002_1]) ?_ 0 _ rfl;(with_reducible repeat (first | refine uc ?_ _ | refine ue ?_ | refine ub ?_ _));exact BK219.out) Tryd.underlying25 rfl (by kernel_rfl) (.tmp (.cell gb220 51 #[.string (⟨#[]⟩:ByteArray),.string (⟨#[]⟩:ByteArray),.string (⟨#[]⟩:ByteArray)] (0,0) _ rfl (by (with_reducible repeat (first | refine uc ?_ _ | refine ue ?_ | refine ub ?_ _));refine u1m (cs:=#[.string (⟨#[]⟩:ByteArray),.string (⟨#[]⟩:ByteArray),.string x221002_1]) ?_ 2 _ rfl;(with_reducible repeat (first | refine uc ?_ _ | refine ue ?_ | refine ub ?_ _));refine u1m (cs:=#[.string (⟨#[]⟩:ByteArray),.string x221001_1,.string x221002_1]) ?_ 1 _ rfl;(with_reducible repeat (first | refine uc ?_ _ | refine ue ?_ | refine ub ?_ _));refine u1m (cs:=#[.string x221000_1,.string x221001_1,.string x221002_1]) ?_ 0 _ rfl;(with_reducible repeat (first | refine uc ?_ _ | refine ue ?_ | refine ub ?_ _));refine u1d ?_ NB220_219.out _;(with_reducible repeat (first | refine uc ?_ _ | refine ue ?_ | refine ub ?_ _));refine u1d ?_ NB220_219.out _;(with_reducible repeat (first | refine uc ?_ _ | refine ue ?_ | refine ub ?_ _));refine u1d ?_ NB220_219.out _;(with_reducible repeat (first | refine uc ?_ _ | refine ue ?_ | refine ub ?_ _));exact BK220.out) Tryd.underlying51 rfl (by kernel_rfl) (.tmp .nil))))) rfl ?_
            exact ⟨_,by first | rfl | (simp [u1j,u1i] <;> rfl) | (simp [*,u1j,u1i] <;> rfl),by first | exact Kd.R_nil _ _ _ _ _ | exact Kd.N_nil _ _ _ _ _ | exact Kd.V_nil _ _ _ _ _ | exact Kd.Q_nil _ _ _ _ _ | exact Kd.S_nil _ _ _ _ _,by repeat (first | (with_reducible first | exact HB.out | apply uf | apply ua | apply ug | refine uh ?_ GE219.out | refine uh ?_ GE220.out) | exact HB.out)⟩
          · rw [if_neg c14] at H
            have c14b0:((bt a0 x8_1) == 10) = false:=beq_eq_false_iff_ne.mpr c14
            have c14b1:((bt a0 x8_1) != 10) = true:=bne_iff_ne.mpr c14
            have H':=Aside0.mk H
            clear H
            have p13:0 ≤ (x8_1:Int):=of_decide_eq_true (by first | (with_reducible assumption) | assumption)
            have q13:x8_1 < (a0.size:Int):=of_decide_eq_true (by first | (with_reducible assumption) | assumption)
            have hx13:=bt_at a0 x8_1
            replace p13:=eq_true p13
            replace q13:=eq_true q13
            go_wp2
            go_roundg k1
            case measure => have:=HK1.out;omega
            case rel => exact ⟨(wrap64 (x8_1 + 1)),(x220001_1),(x220002_1),(x221000_1),(x221001_1),(x221002_1),(by first | rfl | (simp;done) | (simp [*];done)),H',⟨by have:=HK1.out;omega⟩,⟨by (with_reducible repeat (first | refine uc ?_ _ | refine ue ?_ | refine ub ?_ _));exact BK219.out⟩,⟨by (with_reducible repeat (first | refine uc ?_ _ | refine ue ?_ | refine ub ?_ _));exact BK220.out⟩,⟨by repeat (first | (with_reducible first | exact HB.out | apply uf | apply ua | apply ug | refine uh ?_ GE219.out | refine uh ?_ GE220.out) | exact HB.out)⟩⟩
        · rw [if_neg c12] at H
          exact absurd H (by simp)
      · rw [if_neg c11] at H
        have c11b0:decide (x8_1 < (a0.size:Int)) = false:=decide_eq_false c11
        clear c11
        replace H:=Option.bind_eq_some_iff.mp H
        obtain ⟨t221,A180,H⟩:=H
        replace H:(if t221 = true then ((uo.f k1 a0).bind fun bt222 => (if bt222.2.2.2 = true then (some (([]:List (S37)),0,0,false,bt222.1,bt222.2.1,bt222.2.2.1,0)) else (some (([]:List (S37)),0,0,false,(⟨#[]⟩:ByteArray),(⟨#[]⟩:ByteArray),(⟨#[]⟩:ByteArray),280)))) else ((u1e.f k1 a0).bind fun bt227 => (if bt227.1.toList = ([]:List UInt8) then (some (([]:List (S37)),0,0,false,(⟨#[]⟩:ByteArray),(⟨#[]⟩:ByteArray),(⟨#[]⟩:ByteArray),0)) else ((un.f k1 a0 a1).bind fun bt229 => (if bt229.2.2.2 = true then (some (bt229.1,bt229.2.1,bt229.2.2.1,true,(⟨#[]⟩:ByteArray),(⟨#[]⟩:ByteArray),(⟨#[]⟩:ByteArray),0)) else (some (([]:List (S37)),0,0,false,(⟨#[]⟩:ByteArray),(⟨#[]⟩:ByteArray),(⟨#[]⟩:ByteArray),280))))))) = some (r1,r2,r3,r4,r5,r6,r7,r8):=H
        have A18:=Aside0.mk A180
        clear A180
        by_cases c19:t221 = true
        · subst c19
          have H1:((uo.f k1 a0).bind fun bt222 => (if bt222.2.2.2 = true then (some (([]:List (S37)),0,0,false,bt222.1,bt222.2.1,bt222.2.2.1,0)) else (some (([]:List (S37)),0,0,false,(⟨#[]⟩:ByteArray),(⟨#[]⟩:ByteArray),(⟨#[]⟩:ByteArray),280)))) = some (r1,r2,r3,r4,r5,r6,r7,r8):=by rw [if_pos rfl] at H;exact H
          clear H
          have H:=H1
          clear H1
          replace H:=Option.bind_eq_some_iff.mp H
          obtain ⟨⟨t222,t223,t224,t225⟩,A200,H⟩:=H
          replace H:(if t225 = true then (some (([]:List (S37)),0,0,false,t222,t223,t224,0)) else (some (([]:List (S37)),0,0,false,(⟨#[]⟩:ByteArray),(⟨#[]⟩:ByteArray),(⟨#[]⟩:ByteArray),280))) = some (r1,r2,r3,r4,r5,r6,r7,r8):=H
          have A20:=Aside0.mk A200
          clear A200
          by_cases c21:t225 = true
          · subst c21
            have H1:(some (([]:List (S37)),0,0,false,t222,t223,t224,0)) = some (r1,r2,r3,r4,r5,r6,r7,r8):=by rw [if_pos rfl] at H;exact H
            clear H
            have H:=H1
            clear H1
            simp only [Option.some.injEq,Prod.mk.injEq] at H
            obtain ⟨rfl,rfl,rfl,rfl,rfl,rfl,rfl,rfl⟩:=H
            try go_wp2_with (first | ((with_reducible refine u1k (f:=35) rfl ?_);refine u2r (some 33) rfl rfl Tryd.func35 (by kernel_rfl) rfl #[.string a0,.string (⟨#[35]⟩:ByteArray)] rfl (by (try simp only [List.map_toArray,List.map_cons,List.map_nil]);first | done | rfl | (simp only [List.length_drop,List.length_take];rfl)) ?_;(with_reducible refine (ut.calls a0 (⟨#[35]⟩:ByteArray) true _ A18.out).mono ?_);rintro e w' ⟨rfl,⟨nd,rfl⟩⟩;refine ⟨_,rfl,?_⟩;(try (rw [u2z wr];generalize hq_:World.drewN wr _ = wr;have n0_:Aside0 (wr.heap[gb219]? = some (.cells #[.slice none 0 0,.int .i64 x220001_1,.int .u64 x220002_1] 25 (0,0))):=⟨by rw [← hq_];exact (by (with_reducible repeat (first | refine uc ?_ _ | refine ue ?_ | refine ub ?_ _));exact BK219.out)⟩;have n1_:Aside0 (wr.heap[gb220]? = some (.cells #[.string x221000_1,.string x221001_1,.string x221002_1] 51 (0,0))):=⟨by rw [← hq_];exact (by (with_reducible repeat (first | refine uc ?_ _ | refine ue ?_ | refine ub ?_ _));exact BK220.out)⟩;have n2_:Aside0 (Below w.heap.size w wr):=⟨by rw [← hq_];exact (by repeat (first | (with_reducible first | exact HB.out | apply uf | apply ua | apply ug | refine uh ?_ GE219.out | refine uh ?_ GE220.out) | exact HB.out))⟩;clear BK219 BK220 HB hq_;have BK219:=n0_;have BK220:=n1_;have HB:=n2_;clear n0_ n1_ n2_))) | ((with_reducible refine u1k (f:=36) rfl ?_);refine u2r (some 36) rfl rfl Tryd.func36 (by kernel_rfl) rfl #[.string a0] rfl (by (try simp only [List.map_toArray,List.map_cons,List.map_nil]);first | done | rfl | (simp only [List.length_drop,List.length_take];rfl)) ?_;(with_reducible refine (uo.calls k1 a0 t222 t223 t224 true _ A20.out).mono ?_);rintro e w22 ⟨rfl,hb⟩;refine ⟨_,rfl,?_⟩;have n0_:=Aside0.mk (u1a (g:=gb219) (o:=.cells #[.slice none 0 0,.int .i64 x220001_1,.int .u64 x220002_1] 25 (0,0)) (by (with_reducible repeat (first | refine uc ?_ _ | refine ue ?_ | refine ub ?_ _));exact BK219.out) hb);have n1_:=Aside0.mk (u1a (g:=gb220) (o:=.cells #[.string x221000_1,.string x221001_1,.string x221002_1] 51 (0,0)) (by (with_reducible repeat (first | refine uc ?_ _ | refine ue ?_ | refine ub ?_ _));exact BK220.out) hb);have n2_:=Aside0.mk (ux (by repeat (first | (with_reducible first | exact HB.out | apply uf | apply ua | apply ug | refine uh ?_ GE219.out | refine uh ?_ GE220.out) | exact HB.out)) hb);clear BK219;clear BK220;clear HB;have BK219:=n0_;have BK220:=n1_;have HB:=n2_;clear n0_ n1_ n2_;(try clear hb);(try clear hb2);(try clear hk);(try clear hi)) | ((with_reducible refine u2k (N:=9) rfl ?_);refine u2h ?hg (N:=9) ?hd (cs:=#[.string (⟨#[]⟩:ByteArray),.string (⟨#[]⟩:ByteArray),.string (⟨#[]⟩:ByteArray)]) (t:=51) ?hr ?_;(case hd => rfl);(case hg => rfl);(case hr => first | (go_simp;done) | (go_simp;rfl));intro gb226 hg w23 hbox hb;have n0_:=Aside0.mk (u1a (g:=gb219) (o:=.cells #[.slice none 0 0,.int .i64 x220001_1,.int .u64 x220002_1] 25 (0,0)) (by (with_reducible repeat (first | refine uc ?_ _ | refine ue ?_ | refine ub ?_ _));exact BK219.out) hb);have n1_:=Aside0.mk (u1a (g:=gb220) (o:=.cells #[.string x221000_1,.string x221001_1,.string x221002_1] 51 (0,0)) (by (with_reducible repeat (first | refine uc ?_ _ | refine ue ?_ | refine ub ?_ _));exact BK220.out) hb);have n2_:=Aside0.mk (ux (by repeat (first | (with_reducible first | exact HB.out | apply uf | apply ua | apply ug | refine uh ?_ GE219.out | refine uh ?_ GE220.out) | exact HB.out)) hb);have n3_:=Aside0.mk (hbox);have n4_:=Aside0.mk ((by rw [hg];exact (uq (by repeat (first | (with_reducible first | exact HB.out | apply uf | apply ua | apply ug | refine uh ?_ GE219.out | refine uh ?_ GE220.out) | exact HB.out))):w.heap.size ≤ gb226));have n5_:=Aside0.mk ((by rw [hg];exact (uq (by repeat (first | (with_reducible first | exact HB.out | apply uf | apply ua | apply ug | refine uh ?_ GE219.out | refine uh ?_ GE220.out) | exact HB.out))):w.heap.size ≤ gb226));have n6_:=Aside0.mk ((by rw [hg];exact Nat.ne_of_lt (u2d (g:=gb219) (o:=.cells #[.slice none 0 0,.int .i64 x220001_1,.int .u64 x220002_1] 25 (0,0)) (by (with_reducible repeat (first | refine uc ?_ _ | refine ue ?_ | refine ub ?_ _));exact BK219.out)):gb219 ≠ gb226));have n7_:=Aside0.mk ((by rw [hg];exact Nat.ne_of_gt (u2d (g:=gb219) (o:=.cells #[.slice none 0 0,.int .i64 x220001_1,.int .u64 x220002_1] 25 (0,0)) (by (with_reducible repeat (first | refine uc ?_ _ | refine ue ?_ | refine ub ?_ _));exact BK219.out)):gb226 ≠ gb219));have n8_:=Aside0.mk ((by rw [hg];exact Nat.ne_of_lt (u2d (g:=gb220) (o:=.cells #[.string x221000_1,.string x221001_1,.string x221002_1] 51 (0,0)) (by (with_reducible repeat (first | refine uc ?_ _ | refine ue ?_ | refine ub ?_ _));exact BK220.out)):gb220 ≠ gb226));have n9_:=Aside0.mk ((by rw [hg];exact Nat.ne_of_gt (u2d (g:=gb220) (o:=.cells #[.string x221000_1,.string x221001_1,.string x221002_1] 51 (0,0)) (by (with_reducible repeat (first | refine uc ?_ _ | refine ue ?_ | refine ub ?_ _));exact BK220.out)):gb226 ≠ gb220));clear BK219;clear BK220;clear HB;have BK219:=n0_;have BK220:=n1_;have HB:=n2_;have BK226:=n3_;have GW226:=n4_;have GE226:=n5_;have NB219_226:=n6_;have NB226_219:=n7_;have NB220_226:=n8_;have NB226_220:=n9_;clear n0_ n1_ n2_ n3_ n4_ n5_ n6_ n7_ n8_ n9_;clear hb hbox hg;have hnb24:=NB226_219.out;have hnc24:=NB219_226.out;have hnb25:=NB226_220.out;have hnc25:=NB220_226.out;have hcz26_0:w23.cell? ⟨gb226,0,none⟩ = some (.string (⟨#[]⟩:ByteArray)):=(uj BK226.out 0).trans rfl;have hcz26_1:w23.cell? ⟨gb226,1,none⟩ = some (.string (⟨#[]⟩:ByteArray)):=(uj BK226.out 1).trans rfl;have hcz26_2:w23.cell? ⟨gb226,2,none⟩ = some (.string (⟨#[]⟩:ByteArray)):=(uj BK226.out 2).trans rfl;have hfz26_0:=ui BK226.out 0;have hfz26_1:=ui BK226.out 1;have hfz26_2:=ui BK226.out 2))
            have n0_:Aside0 ((((w23.setCell ⟨gb226,0,none⟩ (.string t222)).setCell ⟨gb226,1,none⟩ (.string t223)).setCell ⟨gb226,2,none⟩ (.string t224)).heap[gb219]? = some (.cells #[.slice none 0 0,.int .i64 x220001_1,.int .u64 x220002_1] 25 (0,0))):=⟨by (with_reducible repeat (first | refine uc ?_ _ | refine ue ?_ | refine ub ?_ _));refine u1d ?_ NB219_226.out _;(with_reducible repeat (first | refine uc ?_ _ | refine ue ?_ | refine ub ?_ _));refine u1d ?_ NB219_226.out _;(with_reducible repeat (first | refine uc ?_ _ | refine ue ?_ | refine ub ?_ _));refine u1d ?_ NB219_226.out _;(with_reducible repeat (first | refine uc ?_ _ | refine ue ?_ | refine ub ?_ _));exact BK219.out⟩
            have n1_:Aside0 ((((w23.setCell ⟨gb226,0,none⟩ (.string t222)).setCell ⟨gb226,1,none⟩ (.string t223)).setCell ⟨gb226,2,none⟩ (.string t224)).heap[gb220]? = some (.cells #[.string x221000_1,.string x221001_1,.string x221002_1] 51 (0,0))):=⟨by (with_reducible repeat (first | refine uc ?_ _ | refine ue ?_ | refine ub ?_ _));refine u1d ?_ NB220_226.out _;(with_reducible repeat (first | refine uc ?_ _ | refine ue ?_ | refine ub ?_ _));refine u1d ?_ NB220_226.out _;(with_reducible repeat (first | refine uc ?_ _ | refine ue ?_ | refine ub ?_ _));refine u1d ?_ NB220_226.out _;(with_reducible repeat (first | refine uc ?_ _ | refine ue ?_ | refine ub ?_ _));exact BK220.out⟩
            have n2_:Aside0 ((((w23.setCell ⟨gb226,0,none⟩ (.string t222)).setCell ⟨gb226,1,none⟩ (.string t223)).setCell ⟨gb226,2,none⟩ (.string t224)).heap[gb226]? = some (.cells #[.string t222,.string t223,.string t224] 51 (0,0))):=⟨by (with_reducible repeat (first | refine uc ?_ _ | refine ue ?_ | refine ub ?_ _));refine u1m (cs:=#[.string t222,.string t223,.string (⟨#[]⟩:ByteArray)]) ?_ 2 _ rfl;(with_reducible repeat (first | refine uc ?_ _ | refine ue ?_ | refine ub ?_ _));refine u1m (cs:=#[.string t222,.string (⟨#[]⟩:ByteArray),.string (⟨#[]⟩:ByteArray)]) ?_ 1 _ rfl;(with_reducible repeat (first | refine uc ?_ _ | refine ue ?_ | refine ub ?_ _));refine u1m (cs:=#[.string (⟨#[]⟩:ByteArray),.string (⟨#[]⟩:ByteArray),.string (⟨#[]⟩:ByteArray)]) ?_ 0 _ rfl;(with_reducible repeat (first | refine uc ?_ _ | refine ue ?_ | refine ub ?_ _));exact BK226.out⟩
            have n3_:Aside0 (Below w.heap.size w (((w23.setCell ⟨gb226,0,none⟩ (.string t222)).setCell ⟨gb226,1,none⟩ (.string t223)).setCell ⟨gb226,2,none⟩ (.string t224))):=⟨by repeat (first | (with_reducible first | exact HB.out | apply uf | apply ua | apply ug | refine uh ?_ GE219.out | refine uh ?_ GE220.out | refine uh ?_ GE226.out) | exact HB.out)⟩
            (try clear BK219)
            (try clear BK220)
            (try clear BK226)
            (try clear HB)
            generalize (((w23.setCell ⟨gb226,0,none⟩ (.string t222)).setCell ⟨gb226,1,none⟩ (.string t223)).setCell ⟨gb226,2,none⟩ (.string t224)) = w27 at n0_ n1_ n2_ n3_ ⊢
            have BK219:=n0_
            have BK220:=n1_
            have BK226:=n2_
            have HB:=n3_
            clear n0_ n1_ n2_ n3_
            have n0_:=Aside0.mk (ue BK219.out)
            have n1_:=Aside0.mk (ue BK220.out)
            have n2_:=Aside0.mk (ue BK226.out)
            have n3_:=Aside0.mk (ug HB.out)
            clear BK219
            clear BK220
            clear BK226
            clear HB
            have BK219:=n0_
            have BK220:=n1_
            have BK226:=n2_
            have HB:=n3_
            clear n0_ n1_ n2_ n3_
            refine start_ (n:=6) (S:=fun w' => w'.cell? ⟨gb226,0,none⟩ = some (.string t222) ∧ w'.cell? ⟨gb226,1,none⟩ = some (.string t223) ∧ w'.cell? ⟨gb226,2,none⟩ = some (.string t224)) (ds:=[]) #[false,false,false,false,false,false] (by kernel_rfl) rfl rfl ⟨(uj BK226.out 0).trans rfl,(uj BK226.out 1).trans rfl,(uj BK226.out 2).trans rfl⟩ (fun hHeld => ?_)
            generalize w27.drew = w28 at BK219 BK220 BK226 HB hHeld ⊢
            refine pure_ (i:=0) (N:=some 43) (v:=?_) (a':=?_) #[true,false,false,false,false,false] rfl rfl (by kernel_rfl) (fun _ _ _ h => h) (Or.inl ⟨by rfl,?_⟩) ?_ ?_
            rotate_left
            · intro w'
              go_simp
              with_reducible rfl
            rotate_left
            · simp only [Act.put,List.setIfInBounds_toArray,List.set_cons_zero,List.set_cons_succ,i64_w,i32_w]
              rfl
            refine take_ (i:=1) (N:=some 44) (v:=?_) (a':=?_) #[true,true,false,false,false,false] rfl rfl (by kernel_rfl) (fun _ _ _ h => h) (Or.inl ⟨by rfl,?_⟩) hHeld ?_ ?_
            rotate_left
            · rintro w' ⟨s0,s1,s2⟩
              go_simp
              with_reducible rfl
            rotate_left
            · simp only [Act.put,List.setIfInBounds_toArray,List.set_cons_zero,List.set_cons_succ,i64_w,i32_w]
              rfl
            refine one_ (i:=2) (N:=none) #[true,true,true,false,false,false] rfl rfl (by kernel_rfl) (by decide) (fun K hK => ?_)
            have hs29:w28.cell? ⟨gb219,0,none⟩ = some (.slice none 0 0):=(uj BK219.out 0).trans rfl
            have hfs29:=ui BK219.out 0
            have hns29_1:=NB220_219.out
            have hns29_2:=NB226_219.out
            have hms29_1:=NB219_220.out
            have hms29_2:=NB219_226.out
            have hs30:w28.cell? ⟨gb219,1,none⟩ = some (.int .i64 x220001_1):=(uj BK219.out 1).trans rfl
            have hfs30:=ui BK219.out 1
            have hns30_1:=NB220_219.out
            have hns30_2:=NB226_219.out
            have hms30_1:=NB219_220.out
            have hms30_2:=NB219_226.out
            have hs31:w28.cell? ⟨gb219,2,none⟩ = some (.int .u64 x220002_1):=(uj BK219.out 2).trans rfl
            have hfs31:=ui BK219.out 2
            have hns31_1:=NB220_219.out
            have hns31_2:=NB226_219.out
            have hms31_1:=NB219_220.out
            have hms31_2:=NB219_226.out
            refine skip_ (w1:=?_) (by rfl) rfl ?_ ?_
            rotate_left
            · go_simp
              rfl
            refine hK.out _ _ ⟨((cell_far (p:=⟨gb219,_,none⟩) NB226_219.out _).trans (((cell_far (p:=⟨gb219,_,none⟩) NB226_219.out _).trans (((cell_far (p:=⟨gb219,_,none⟩) NB226_219.out _).trans (hHeld.1)))))),((cell_far (p:=⟨gb219,_,none⟩) NB226_219.out _).trans (((cell_far (p:=⟨gb219,_,none⟩) NB226_219.out _).trans (((cell_far (p:=⟨gb219,_,none⟩) NB226_219.out _).trans (hHeld.2.1)))))),((cell_far (p:=⟨gb219,_,none⟩) NB226_219.out _).trans (((cell_far (p:=⟨gb219,_,none⟩) NB226_219.out _).trans (((cell_far (p:=⟨gb219,_,none⟩) NB226_219.out _).trans (hHeld.2.2))))))⟩ (fun hHeld => ?_)
            clear hK K
            refine pure_ (i:=3) (N:=some 5) (v:=?_) (a':=?_) #[true,true,true,true,false,false] rfl rfl (by kernel_rfl) (fun _ _ _ h => h) (Or.inl ⟨by rfl,?_⟩) ?_ ?_
            rotate_left
            · intro w'
              go_simp
              with_reducible rfl
            rotate_left
            · simp only [Act.put,List.setIfInBounds_toArray,List.set_cons_zero,List.set_cons_succ,i64_w,i32_w]
              rfl
            refine one_ (i:=4) (N:=none) #[true,true,true,true,true,false] rfl rfl (by kernel_rfl) (by decide) (fun K hK => ?_)
            have hs32:w28.cell? ⟨gb220,0,none⟩ = some (.string x221000_1):=(uj BK220.out 0).trans rfl
            have hfs32:=ui BK220.out 0
            have hns32_0:=NB219_220.out
            have hns32_2:=NB226_220.out
            have hms32_0:=NB220_219.out
            have hms32_2:=NB220_226.out
            have hs33:w28.cell? ⟨gb220,1,none⟩ = some (.string x221001_1):=(uj BK220.out 1).trans rfl
            have hfs33:=ui BK220.out 1
            have hns33_0:=NB219_220.out
            have hns33_2:=NB226_220.out
            have hms33_0:=NB220_219.out
            have hms33_2:=NB220_226.out
            have hs34:w28.cell? ⟨gb220,2,none⟩ = some (.string x221002_1):=(uj BK220.out 2).trans rfl
            have hfs34:=ui BK220.out 2
            have hns34_0:=NB219_220.out
            have hns34_2:=NB226_220.out
            have hms34_0:=NB220_219.out
            have hms34_2:=NB220_226.out
            refine skip_ (w1:=?_) (by rfl) rfl ?_ ?_
            rotate_left
            · go_simp
              rfl
            refine hK.out _ _ ⟨((cell_far (p:=⟨gb220,_,none⟩) NB226_220.out _).trans (((cell_far (p:=⟨gb220,_,none⟩) NB226_220.out _).trans (((cell_far (p:=⟨gb220,_,none⟩) NB226_220.out _).trans (hHeld.1)))))),((cell_far (p:=⟨gb220,_,none⟩) NB226_220.out _).trans (((cell_far (p:=⟨gb220,_,none⟩) NB226_220.out _).trans (((cell_far (p:=⟨gb220,_,none⟩) NB226_220.out _).trans (hHeld.2.1)))))),((cell_far (p:=⟨gb220,_,none⟩) NB226_220.out _).trans (((cell_far (p:=⟨gb220,_,none⟩) NB226_220.out _).trans (((cell_far (p:=⟨gb220,_,none⟩) NB226_220.out _).trans (hHeld.2.2))))))⟩ (fun hHeld => ?_)
            clear hK K
            refine pure_ (i:=5) (N:=some 7) (v:=?_) (a':=?_) #[true,true,true,true,true,true] rfl rfl (by kernel_rfl) (fun _ _ _ h => h) (Or.inl ⟨by rfl,?_⟩) ?_ ?_
            rotate_left
            · intro w'
              go_simp
              with_reducible rfl
            rotate_left
            · simp only [Act.put,List.setIfInBounds_toArray,List.set_cons_zero,List.set_cons_succ,i64_w,i32_w]
              rfl
            refine done_ (by kernel_rfl) ?_
            try go_wp2
            refine bodyPost_ret (results_list (rs:=[.cell 4 25,.tmp 5,.cell 6 51,.tmp 7]) rfl (by simp) (.cell gb219 25 #[.slice none 0 0,.int .i64 0,.int .u64 0] (0,0) _ rfl (by (with_reducible repeat (first | refine uc ?_ _ | refine ue ?_ | refine ub ?_ _));refine u1d ?_ NB219_220.out _;(with_reducible repeat (first | refine uc ?_ _ | refine ue ?_ | refine ub ?_ _));refine u1d ?_ NB219_220.out _;(with_reducible repeat (first | refine uc ?_ _ | refine ue ?_ | refine ub ?_ _));refine u1d ?_ NB219_220.out _;(with_reducible repeat (first | refine uc ?_ _ | refine ue ?_ | refine ub ?_ _));refine u1m (cs:=#[.slice none 0 0,.int .i64 0,.int .u64 x220002_1]) ?_ 2 _ rfl;(with_reducible repeat (first | refine uc ?_ _ | refine ue ?_ | refine ub ?_ _));refine u1m (cs:=#[.slice none 0 0,.int .i64 x220001_1,.int .u64 x220002_1]) ?_ 1 _ rfl;(with_reducible repeat (first | refine uc ?_ _ | refine ue ?_ | refine ub ?_ _));refine u1m (cs:=#[.slice none 0 0,.int .i64 x220001_1,.int .u64 x220002_1]) ?_ 0 _ rfl;(with_reducible repeat (first | refine uc ?_ _ | refine ue ?_ | refine ub ?_ _));exact BK219.out) Tryd.underlying25 rfl (by kernel_rfl) (.tmp (.cell gb220 51 #[.string t222,.string t223,.string t224] (0,0) _ rfl (by (with_reducible repeat (first | refine uc ?_ _ | refine ue ?_ | refine ub ?_ _));refine u1m (cs:=#[.string t222,.string t223,.string x221002_1]) ?_ 2 _ rfl;(with_reducible repeat (first | refine uc ?_ _ | refine ue ?_ | refine ub ?_ _));refine u1m (cs:=#[.string t222,.string x221001_1,.string x221002_1]) ?_ 1 _ rfl;(with_reducible repeat (first | refine uc ?_ _ | refine ue ?_ | refine ub ?_ _));refine u1m (cs:=#[.string x221000_1,.string x221001_1,.string x221002_1]) ?_ 0 _ rfl;(with_reducible repeat (first | refine uc ?_ _ | refine ue ?_ | refine ub ?_ _));refine u1d ?_ NB220_219.out _;(with_reducible repeat (first | refine uc ?_ _ | refine ue ?_ | refine ub ?_ _));refine u1d ?_ NB220_219.out _;(with_reducible repeat (first | refine uc ?_ _ | refine ue ?_ | refine ub ?_ _));refine u1d ?_ NB220_219.out _;(with_reducible repeat (first | refine uc ?_ _ | refine ue ?_ | refine ub ?_ _));exact BK220.out) Tryd.underlying51 rfl (by kernel_rfl) (.tmp .nil))))) rfl ?_
            exact ⟨_,by first | rfl | (simp [u1j,u1i] <;> rfl) | (simp [*,u1j,u1i] <;> rfl),by first | exact Kd.R_nil _ _ _ _ _ | exact Kd.N_nil _ _ _ _ _ | exact Kd.V_nil _ _ _ _ _ | exact Kd.Q_nil _ _ _ _ _ | exact Kd.S_nil _ _ _ _ _,by repeat (first | (with_reducible first | exact HB.out | apply uf | apply ua | apply ug | refine uh ?_ GE219.out | refine uh ?_ GE220.out | refine uh ?_ GE226.out) | exact HB.out)⟩
          · replace c21:=Bool.eq_false_iff.mpr c21
            subst c21
            have H1:(some (([]:List (S37)),0,0,false,(⟨#[]⟩:ByteArray),(⟨#[]⟩:ByteArray),(⟨#[]⟩:ByteArray),280)) = some (r1,r2,r3,r4,r5,r6,r7,r8):=by rw [if_neg (show ¬ (false = true) by decide)] at H;exact H
            clear H
            have H:=H1
            clear H1
            simp only [Option.some.injEq,Prod.mk.injEq] at H
            obtain ⟨rfl,rfl,rfl,rfl,rfl,rfl,rfl,rfl⟩:=H
            go_wp2_with (first | ((with_reducible refine u1k (f:=35) rfl ?_);refine u2r (some 33) rfl rfl Tryd.func35 (by kernel_rfl) rfl #[.string a0,.string (⟨#[35]⟩:ByteArray)] rfl (by (try simp only [List.map_toArray,List.map_cons,List.map_nil]);first | done | rfl | (simp only [List.length_drop,List.length_take];rfl)) ?_;(with_reducible refine (ut.calls a0 (⟨#[35]⟩:ByteArray) true _ A18.out).mono ?_);rintro e w' ⟨rfl,⟨nd,rfl⟩⟩;refine ⟨_,rfl,?_⟩;(try (rw [u2z wr];generalize hq_:World.drewN wr _ = wr;have n0_:Aside0 (wr.heap[gb219]? = some (.cells #[.slice none 0 0,.int .i64 x220001_1,.int .u64 x220002_1] 25 (0,0))):=⟨by rw [← hq_];exact (by (with_reducible repeat (first | refine uc ?_ _ | refine ue ?_ | refine ub ?_ _));exact BK219.out)⟩;have n1_:Aside0 (wr.heap[gb220]? = some (.cells #[.string x221000_1,.string x221001_1,.string x221002_1] 51 (0,0))):=⟨by rw [← hq_];exact (by (with_reducible repeat (first | refine uc ?_ _ | refine ue ?_ | refine ub ?_ _));exact BK220.out)⟩;have n2_:Aside0 (Below w.heap.size w wr):=⟨by rw [← hq_];exact (by repeat (first | (with_reducible first | exact HB.out | apply uf | apply ua | apply ug | refine uh ?_ GE219.out | refine uh ?_ GE220.out) | exact HB.out))⟩;clear BK219 BK220 HB hq_;have BK219:=n0_;have BK220:=n1_;have HB:=n2_;clear n0_ n1_ n2_))) | ((with_reducible refine u1k (f:=36) rfl ?_);refine u2r (some 36) rfl rfl Tryd.func36 (by kernel_rfl) rfl #[.string a0] rfl (by (try simp only [List.map_toArray,List.map_cons,List.map_nil]);first | done | rfl | (simp only [List.length_drop,List.length_take];rfl)) ?_;(with_reducible refine (uo.calls k1 a0 t222 t223 t224 false _ A20.out).mono ?_);rintro e w35 ⟨rfl,hb⟩;refine ⟨_,rfl,?_⟩;have n0_:=Aside0.mk (u1a (g:=gb219) (o:=.cells #[.slice none 0 0,.int .i64 x220001_1,.int .u64 x220002_1] 25 (0,0)) (by (with_reducible repeat (first | refine uc ?_ _ | refine ue ?_ | refine ub ?_ _));exact BK219.out) hb);have n1_:=Aside0.mk (u1a (g:=gb220) (o:=.cells #[.string x221000_1,.string x221001_1,.string x221002_1] 51 (0,0)) (by (with_reducible repeat (first | refine uc ?_ _ | refine ue ?_ | refine ub ?_ _));exact BK220.out) hb);have n2_:=Aside0.mk (ux (by repeat (first | (with_reducible first | exact HB.out | apply uf | apply ua | apply ug | refine uh ?_ GE219.out | refine uh ?_ GE220.out) | exact HB.out)) hb);clear BK219;clear BK220;clear HB;have BK219:=n0_;have BK220:=n1_;have HB:=n2_;clear n0_ n1_ n2_;(try clear hb);(try clear hb2);(try clear hk);(try clear hi)) | ((with_reducible refine u2k (N:=9) rfl ?_);refine u2h ?hg (N:=9) ?hd (cs:=#[.string (⟨#[]⟩:ByteArray),.string (⟨#[]⟩:ByteArray),.string (⟨#[]⟩:ByteArray)]) (t:=51) ?hr ?_;(case hd => rfl);(case hg => rfl);(case hr => first | (go_simp;done) | (go_simp;rfl));intro gb226 hg w36 hbox hb;have n0_:=Aside0.mk (u1a (g:=gb219) (o:=.cells #[.slice none 0 0,.int .i64 x220001_1,.int .u64 x220002_1] 25 (0,0)) (by (with_reducible repeat (first | refine uc ?_ _ | refine ue ?_ | refine ub ?_ _));exact BK219.out) hb);have n1_:=Aside0.mk (u1a (g:=gb220) (o:=.cells #[.string x221000_1,.string x221001_1,.string x221002_1] 51 (0,0)) (by (with_reducible repeat (first | refine uc ?_ _ | refine ue ?_ | refine ub ?_ _));exact BK220.out) hb);have n2_:=Aside0.mk (ux (by repeat (first | (with_reducible first | exact HB.out | apply uf | apply ua | apply ug | refine uh ?_ GE219.out | refine uh ?_ GE220.out) | exact HB.out)) hb);have n3_:=Aside0.mk (hbox);have n4_:=Aside0.mk ((by rw [hg];exact (uq (by repeat (first | (with_reducible first | exact HB.out | apply uf | apply ua | apply ug | refine uh ?_ GE219.out | refine uh ?_ GE220.out) | exact HB.out))):w.heap.size ≤ gb226));have n5_:=Aside0.mk ((by rw [hg];exact (uq (by repeat (first | (with_reducible first | exact HB.out | apply uf | apply ua | apply ug | refine uh ?_ GE219.out | refine uh ?_ GE220.out) | exact HB.out))):w.heap.size ≤ gb226));have n6_:=Aside0.mk ((by rw [hg];exact Nat.ne_of_lt (u2d (g:=gb219) (o:=.cells #[.slice none 0 0,.int .i64 x220001_1,.int .u64 x220002_1] 25 (0,0)) (by (with_reducible repeat (first | refine uc ?_ _ | refine ue ?_ | refine ub ?_ _));exact BK219.out)):gb219 ≠ gb226));have n7_:=Aside0.mk ((by rw [hg];exact Nat.ne_of_gt (u2d (g:=gb219) (o:=.cells #[.slice none 0 0,.int .i64 x220001_1,.int .u64 x220002_1] 25 (0,0)) (by (with_reducible repeat (first | refine uc ?_ _ | refine ue ?_ | refine ub ?_ _));exact BK219.out)):gb226 ≠ gb219));have n8_:=Aside0.mk ((by rw [hg];exact Nat.ne_of_lt (u2d (g:=gb220) (o:=.cells #[.string x221000_1,.string x221001_1,.string x221002_1] 51 (0,0)) (by (with_reducible repeat (first | refine uc ?_ _ | refine ue ?_ | refine ub ?_ _));exact BK220.out)):gb220 ≠ gb226));have n9_:=Aside0.mk ((by rw [hg];exact Nat.ne_of_gt (u2d (g:=gb220) (o:=.cells #[.string x221000_1,.string x221001_1,.string x221002_1] 51 (0,0)) (by (with_reducible repeat (first | refine uc ?_ _ | refine ue ?_ | refine ub ?_ _));exact BK220.out)):gb226 ≠ gb220));clear BK219;clear BK220;clear HB;have BK219:=n0_;have BK220:=n1_;have HB:=n2_;have BK226:=n3_;have GW226:=n4_;have GE226:=n5_;have NB219_226:=n6_;have NB226_219:=n7_;have NB220_226:=n8_;have NB226_220:=n9_;clear n0_ n1_ n2_ n3_ n4_ n5_ n6_ n7_ n8_ n9_;clear hb hbox hg;have hnb37:=NB226_219.out;have hnc37:=NB219_226.out;have hnb38:=NB226_220.out;have hnc38:=NB220_226.out;have hcz39_0:w36.cell? ⟨gb226,0,none⟩ = some (.string (⟨#[]⟩:ByteArray)):=(uj BK226.out 0).trans rfl;have hcz39_1:w36.cell? ⟨gb226,1,none⟩ = some (.string (⟨#[]⟩:ByteArray)):=(uj BK226.out 1).trans rfl;have hcz39_2:w36.cell? ⟨gb226,2,none⟩ = some (.string (⟨#[]⟩:ByteArray)):=(uj BK226.out 2).trans rfl;have hfz39_0:=ui BK226.out 0;have hfz39_1:=ui BK226.out 1;have hfz39_2:=ui BK226.out 2;have hnb40:=NB219_220.out;have hnc40:=NB220_219.out;have hcz41_0:w36.cell? ⟨gb219,0,none⟩ = some (.slice none 0 0):=(uj BK219.out 0).trans rfl;have hcz41_1:w36.cell? ⟨gb219,1,none⟩ = some (.int .i64 x220001_1):=(uj BK219.out 1).trans rfl;have hcz41_2:w36.cell? ⟨gb219,2,none⟩ = some (.int .u64 x220002_1):=(uj BK219.out 2).trans rfl;have hfz41_0:=ui BK219.out 0;have hfz41_1:=ui BK219.out 1;have hfz41_2:=ui BK219.out 2;have hcz42_0:w36.cell? ⟨gb220,0,none⟩ = some (.string x221000_1):=(uj BK220.out 0).trans rfl;have hcz42_1:w36.cell? ⟨gb220,1,none⟩ = some (.string x221001_1):=(uj BK220.out 1).trans rfl;have hcz42_2:w36.cell? ⟨gb220,2,none⟩ = some (.string x221002_1):=(uj BK220.out 2).trans rfl;have hfz42_0:=ui BK220.out 0;have hfz42_1:=ui BK220.out 1;have hfz42_2:=ui BK220.out 2))
            refine bodyPost_ret (results_list (rs:=[.cell 4 25,.tmp 5,.cell 6 51,.tmp 7]) rfl (by simp) (.cell gb219 25 #[.slice none 0 0,.int .i64 0,.int .u64 0] (0,0) _ rfl (by (with_reducible repeat (first | refine uc ?_ _ | refine ue ?_ | refine ub ?_ _));refine u1d ?_ NB219_220.out _;(with_reducible repeat (first | refine uc ?_ _ | refine ue ?_ | refine ub ?_ _));refine u1d ?_ NB219_220.out _;(with_reducible repeat (first | refine uc ?_ _ | refine ue ?_ | refine ub ?_ _));refine u1d ?_ NB219_220.out _;(with_reducible repeat (first | refine uc ?_ _ | refine ue ?_ | refine ub ?_ _));refine u1m (cs:=#[.slice none 0 0,.int .i64 0,.int .u64 x220002_1]) ?_ 2 _ rfl;(with_reducible repeat (first | refine uc ?_ _ | refine ue ?_ | refine ub ?_ _));refine u1m (cs:=#[.slice none 0 0,.int .i64 x220001_1,.int .u64 x220002_1]) ?_ 1 _ rfl;(with_reducible repeat (first | refine uc ?_ _ | refine ue ?_ | refine ub ?_ _));refine u1m (cs:=#[.slice none 0 0,.int .i64 x220001_1,.int .u64 x220002_1]) ?_ 0 _ rfl;(with_reducible repeat (first | refine uc ?_ _ | refine ue ?_ | refine ub ?_ _));refine u1d ?_ NB219_226.out _;(with_reducible repeat (first | refine uc ?_ _ | refine ue ?_ | refine ub ?_ _));refine u1d ?_ NB219_226.out _;(with_reducible repeat (first | refine uc ?_ _ | refine ue ?_ | refine ub ?_ _));refine u1d ?_ NB219_226.out _;(with_reducible repeat (first | refine uc ?_ _ | refine ue ?_ | refine ub ?_ _));exact BK219.out) Tryd.underlying25 rfl (by kernel_rfl) (.tmp (.cell gb220 51 #[.string (⟨#[]⟩:ByteArray),.string (⟨#[]⟩:ByteArray),.string (⟨#[]⟩:ByteArray)] (0,0) _ rfl (by (with_reducible repeat (first | refine uc ?_ _ | refine ue ?_ | refine ub ?_ _));refine u1m (cs:=#[.string (⟨#[]⟩:ByteArray),.string (⟨#[]⟩:ByteArray),.string x221002_1]) ?_ 2 _ rfl;(with_reducible repeat (first | refine uc ?_ _ | refine ue ?_ | refine ub ?_ _));refine u1m (cs:=#[.string (⟨#[]⟩:ByteArray),.string x221001_1,.string x221002_1]) ?_ 1 _ rfl;(with_reducible repeat (first | refine uc ?_ _ | refine ue ?_ | refine ub ?_ _));refine u1m (cs:=#[.string x221000_1,.string x221001_1,.string x221002_1]) ?_ 0 _ rfl;(with_reducible repeat (first | refine uc ?_ _ | refine ue ?_ | refine ub ?_ _));refine u1d ?_ NB220_219.out _;(with_reducible repeat (first | refine uc ?_ _ | refine ue ?_ | refine ub ?_ _));refine u1d ?_ NB220_219.out _;(with_reducible repeat (first | refine uc ?_ _ | refine ue ?_ | refine ub ?_ _));refine u1d ?_ NB220_219.out _;(with_reducible repeat (first | refine uc ?_ _ | refine ue ?_ | refine ub ?_ _));refine u1d ?_ NB220_226.out _;(with_reducible repeat (first | refine uc ?_ _ | refine ue ?_ | refine ub ?_ _));refine u1d ?_ NB220_226.out _;(with_reducible repeat (first | refine uc ?_ _ | refine ue ?_ | refine ub ?_ _));refine u1d ?_ NB220_226.out _;(with_reducible repeat (first | refine uc ?_ _ | refine ue ?_ | refine ub ?_ _));exact BK220.out) Tryd.underlying51 rfl (by kernel_rfl) (.tmp .nil))))) rfl ?_
            exact ⟨_,by first | rfl | (simp [u1j,u1i] <;> rfl) | (simp [*,u1j,u1i] <;> rfl),by first | exact Kd.R_nil _ _ _ _ _ | exact Kd.N_nil _ _ _ _ _ | exact Kd.V_nil _ _ _ _ _ | exact Kd.Q_nil _ _ _ _ _ | exact Kd.S_nil _ _ _ _ _,by repeat (first | (with_reducible first | exact HB.out | apply uf | apply ua | apply ug | refine uh ?_ GE219.out | refine uh ?_ GE220.out | refine uh ?_ GE226.out) | exact HB.out)⟩
        · replace c19:=Bool.eq_false_iff.mpr c19
          subst c19
          have H1:((u1e.f k1 a0).bind fun bt227 => (if bt227.1.toList = ([]:List UInt8) then (some (([]:List (S37)),0,0,false,(⟨#[]⟩:ByteArray),(⟨#[]⟩:ByteArray),(⟨#[]⟩:ByteArray),0)) else ((un.f k1 a0 a1).bind fun bt229 => (if bt229.2.2.2 = true then (some (bt229.1,bt229.2.1,bt229.2.2.1,true,(⟨#[]⟩:ByteArray),(⟨#[]⟩:ByteArray),(⟨#[]⟩:ByteArray),0)) else (some (([]:List (S37)),0,0,false,(⟨#[]⟩:ByteArray),(⟨#[]⟩:ByteArray),(⟨#[]⟩:ByteArray),280)))))) = some (r1,r2,r3,r4,r5,r6,r7,r8):=by rw [if_neg (show ¬ (false = true) by decide)] at H;exact H
          clear H
          have H:=H1
          clear H1
          replace H:=Option.bind_eq_some_iff.mp H
          obtain ⟨⟨t227,t228⟩,A430,H⟩:=H
          replace H:(if t227.toList = ([]:List UInt8) then (some (([]:List (S37)),0,0,false,(⟨#[]⟩:ByteArray),(⟨#[]⟩:ByteArray),(⟨#[]⟩:ByteArray),0)) else ((un.f k1 a0 a1).bind fun bt229 => (if bt229.2.2.2 = true then (some (bt229.1,bt229.2.1,bt229.2.2.1,true,(⟨#[]⟩:ByteArray),(⟨#[]⟩:ByteArray),(⟨#[]⟩:ByteArray),0)) else (some (([]:List (S37)),0,0,false,(⟨#[]⟩:ByteArray),(⟨#[]⟩:ByteArray),(⟨#[]⟩:ByteArray),280))))) = some (r1,r2,r3,r4,r5,r6,r7,r8):=H
          have A43:=Aside0.mk A430
          clear A430
          by_cases c44:t227.toList = ([]:List UInt8)
          · rw [if_pos c44] at H
            have c44b0:(t227.toList == ([]:List UInt8)) = true:=beq_iff_eq.mpr c44
            have c44b1:(t227.toList != ([]:List UInt8)) = false:=bne_eq_false_iff_eq.mpr c44
            have c44b2:t227.toList.isEmpty = true:=by rw [c44];rfl
            clear c44
            simp only [Option.some.injEq,Prod.mk.injEq] at H
            obtain ⟨rfl,rfl,rfl,rfl,rfl,rfl,rfl,rfl⟩:=H
            go_wp2_with (first | ((with_reducible refine u1k (f:=35) rfl ?_);refine u2r (some 33) rfl rfl Tryd.func35 (by kernel_rfl) rfl #[.string a0,.string (⟨#[35]⟩:ByteArray)] rfl (by (try simp only [List.map_toArray,List.map_cons,List.map_nil]);first | done | rfl | (simp only [List.length_drop,List.length_take];rfl)) ?_;(with_reducible refine (ut.calls a0 (⟨#[35]⟩:ByteArray) false _ A18.out).mono ?_);rintro e w' ⟨rfl,⟨nd,rfl⟩⟩;refine ⟨_,rfl,?_⟩;(try (rw [u2z wr];generalize hq_:World.drewN wr _ = wr;have n0_:Aside0 (wr.heap[gb219]? = some (.cells #[.slice none 0 0,.int .i64 x220001_1,.int .u64 x220002_1] 25 (0,0))):=⟨by rw [← hq_];exact (by (with_reducible repeat (first | refine uc ?_ _ | refine ue ?_ | refine ub ?_ _));exact BK219.out)⟩;have n1_:Aside0 (wr.heap[gb220]? = some (.cells #[.string x221000_1,.string x221001_1,.string x221002_1] 51 (0,0))):=⟨by rw [← hq_];exact (by (with_reducible repeat (first | refine uc ?_ _ | refine ue ?_ | refine ub ?_ _));exact BK220.out)⟩;have n2_:Aside0 (Below w.heap.size w wr):=⟨by rw [← hq_];exact (by repeat (first | (with_reducible first | exact HB.out | apply uf | apply ua | apply ug | refine uh ?_ GE219.out | refine uh ?_ GE220.out) | exact HB.out))⟩;clear BK219 BK220 HB hq_;have BK219:=n0_;have BK220:=n1_;have HB:=n2_;clear n0_ n1_ n2_))) | ((with_reducible refine u1k (f:=37) rfl ?_);refine u2r (some 47) rfl rfl Tryd.func37 (by kernel_rfl) rfl #[.string a0] rfl (by (try simp only [List.map_toArray,List.map_cons,List.map_nil]);first | done | rfl | (simp only [List.length_drop,List.length_take];rfl)) ?_;(with_reducible refine (u1e.calls k1 a0 t227 t228 _ A43.out).mono ?_);rintro e w' ⟨rfl,⟨nd,rfl⟩⟩;refine ⟨_,rfl,?_⟩;(try (rw [u2z wr];generalize hq_:World.drewN wr _ = wr;have n0_:Aside0 (wr.heap[gb219]? = some (.cells #[.slice none 0 0,.int .i64 x220001_1,.int .u64 x220002_1] 25 (0,0))):=⟨by rw [← hq_];exact (by (with_reducible repeat (first | refine uc ?_ _ | refine ue ?_ | refine ub ?_ _));exact BK219.out)⟩;have n1_:Aside0 (wr.heap[gb220]? = some (.cells #[.string x221000_1,.string x221001_1,.string x221002_1] 51 (0,0))):=⟨by rw [← hq_];exact (by (with_reducible repeat (first | refine uc ?_ _ | refine ue ?_ | refine ub ?_ _));exact BK220.out)⟩;have n2_:Aside0 (Below w.heap.size w wr):=⟨by rw [← hq_];exact (by repeat (first | (with_reducible first | exact HB.out | apply uf | apply ua | apply ug | refine uh ?_ GE219.out | refine uh ?_ GE220.out) | exact HB.out))⟩;clear BK219 BK220 HB hq_;have BK219:=n0_;have BK220:=n1_;have HB:=n2_;clear n0_ n1_ n2_));have hnb45:=NB219_220.out;have hnc45:=NB220_219.out;have hcz46_0:wr.cell? ⟨gb219,0,none⟩ = some (.slice none 0 0):=(uj BK219.out 0).trans rfl;have hcz46_1:wr.cell? ⟨gb219,1,none⟩ = some (.int .i64 x220001_1):=(uj BK219.out 1).trans rfl;have hcz46_2:wr.cell? ⟨gb219,2,none⟩ = some (.int .u64 x220002_1):=(uj BK219.out 2).trans rfl;have hfz46_0:=ui BK219.out 0;have hfz46_1:=ui BK219.out 1;have hfz46_2:=ui BK219.out 2;have hcz47_0:wr.cell? ⟨gb220,0,none⟩ = some (.string x221000_1):=(uj BK220.out 0).trans rfl;have hcz47_1:wr.cell? ⟨gb220,1,none⟩ = some (.string x221001_1):=(uj BK220.out 1).trans rfl;have hcz47_2:wr.cell? ⟨gb220,2,none⟩ = some (.string x221002_1):=(uj BK220.out 2).trans rfl;have hfz47_0:=ui BK220.out 0;have hfz47_1:=ui BK220.out 1;have hfz47_2:=ui BK220.out 2))
            refine bodyPost_ret (results_list (rs:=[.cell 4 25,.tmp 5,.cell 6 51,.tmp 7]) rfl (by simp) (.cell gb219 25 #[.slice none 0 0,.int .i64 0,.int .u64 0] (0,0) _ rfl (by (with_reducible repeat (first | refine uc ?_ _ | refine ue ?_ | refine ub ?_ _));refine u1d ?_ NB219_220.out _;(with_reducible repeat (first | refine uc ?_ _ | refine ue ?_ | refine ub ?_ _));refine u1d ?_ NB219_220.out _;(with_reducible repeat (first | refine uc ?_ _ | refine ue ?_ | refine ub ?_ _));refine u1d ?_ NB219_220.out _;(with_reducible repeat (first | refine uc ?_ _ | refine ue ?_ | refine ub ?_ _));refine u1m (cs:=#[.slice none 0 0,.int .i64 0,.int .u64 x220002_1]) ?_ 2 _ rfl;(with_reducible repeat (first | refine uc ?_ _ | refine ue ?_ | refine ub ?_ _));refine u1m (cs:=#[.slice none 0 0,.int .i64 x220001_1,.int .u64 x220002_1]) ?_ 1 _ rfl;(with_reducible repeat (first | refine uc ?_ _ | refine ue ?_ | refine ub ?_ _));refine u1m (cs:=#[.slice none 0 0,.int .i64 x220001_1,.int .u64 x220002_1]) ?_ 0 _ rfl;(with_reducible repeat (first | refine uc ?_ _ | refine ue ?_ | refine ub ?_ _));exact BK219.out) Tryd.underlying25 rfl (by kernel_rfl) (.tmp (.cell gb220 51 #[.string (⟨#[]⟩:ByteArray),.string (⟨#[]⟩:ByteArray),.string (⟨#[]⟩:ByteArray)] (0,0) _ rfl (by (with_reducible repeat (first | refine uc ?_ _ | refine ue ?_ | refine ub ?_ _));refine u1m (cs:=#[.string (⟨#[]⟩:ByteArray),.string (⟨#[]⟩:ByteArray),.string x221002_1]) ?_ 2 _ rfl;(with_reducible repeat (first | refine uc ?_ _ | refine ue ?_ | refine ub ?_ _));refine u1m (cs:=#[.string (⟨#[]⟩:ByteArray),.string x221001_1,.string x221002_1]) ?_ 1 _ rfl;(with_reducible repeat (first | refine uc ?_ _ | refine ue ?_ | refine ub ?_ _));refine u1m (cs:=#[.string x221000_1,.string x221001_1,.string x221002_1]) ?_ 0 _ rfl;(with_reducible repeat (first | refine uc ?_ _ | refine ue ?_ | refine ub ?_ _));refine u1d ?_ NB220_219.out _;(with_reducible repeat (first | refine uc ?_ _ | refine ue ?_ | refine ub ?_ _));refine u1d ?_ NB220_219.out _;(with_reducible repeat (first | refine uc ?_ _ | refine ue ?_ | refine ub ?_ _));refine u1d ?_ NB220_219.out _;(with_reducible repeat (first | refine uc ?_ _ | refine ue ?_ | refine ub ?_ _));exact BK220.out) Tryd.underlying51 rfl (by kernel_rfl) (.tmp .nil))))) rfl ?_
            exact ⟨_,by first | rfl | (simp [u1j,u1i] <;> rfl) | (simp [*,u1j,u1i] <;> rfl),by first | exact Kd.R_nil _ _ _ _ _ | exact Kd.N_nil _ _ _ _ _ | exact Kd.V_nil _ _ _ _ _ | exact Kd.Q_nil _ _ _ _ _ | exact Kd.S_nil _ _ _ _ _,by repeat (first | (with_reducible first | exact HB.out | apply uf | apply ua | apply ug | refine uh ?_ GE219.out | refine uh ?_ GE220.out) | exact HB.out)⟩
          · rw [if_neg c44] at H
            have c44b0:(t227.toList == ([]:List UInt8)) = false:=beq_eq_false_iff_ne.mpr c44
            have c44b1:(t227.toList != ([]:List UInt8)) = true:=bne_iff_ne.mpr c44
            have c44b2:t227.toList.isEmpty = false:=by cases e_:t227.toList with | nil => exact absurd e_ c44 | cons _ _ => rfl
            replace H:=Option.bind_eq_some_iff.mp H
            obtain ⟨⟨t229,t232,t233,t234⟩,A480,H⟩:=H
            replace H:(if t234 = true then (some (t229,t232,t233,true,(⟨#[]⟩:ByteArray),(⟨#[]⟩:ByteArray),(⟨#[]⟩:ByteArray),0)) else (some (([]:List (S37)),0,0,false,(⟨#[]⟩:ByteArray),(⟨#[]⟩:ByteArray),(⟨#[]⟩:ByteArray),280))) = some (r1,r2,r3,r4,r5,r6,r7,r8):=H
            have A48:=Aside0.mk A480
            clear A480
            by_cases c49:t234 = true
            · subst c49
              have H1:(some (t229,t232,t233,true,(⟨#[]⟩:ByteArray),(⟨#[]⟩:ByteArray),(⟨#[]⟩:ByteArray),0)) = some (r1,r2,r3,r4,r5,r6,r7,r8):=by rw [if_pos rfl] at H;exact H
              clear H
              have H:=H1
              clear H1
              simp only [Option.some.injEq,Prod.mk.injEq] at H
              obtain ⟨rfl,rfl,rfl,rfl,rfl,rfl,rfl,rfl⟩:=H
              go_wp2_with (first | ((with_reducible refine u1k (f:=35) rfl ?_);refine u2r (some 33) rfl rfl Tryd.func35 (by kernel_rfl) rfl #[.string a0,.string (⟨#[35]⟩:ByteArray)] rfl (by (try simp only [List.map_toArray,List.map_cons,List.map_nil]);first | done | rfl | (simp only [List.length_drop,List.length_take];rfl)) ?_;(with_reducible refine (ut.calls a0 (⟨#[35]⟩:ByteArray) false _ A18.out).mono ?_);rintro e w' ⟨rfl,⟨nd,rfl⟩⟩;refine ⟨_,rfl,?_⟩;(try (rw [u2z wr];generalize hq_:World.drewN wr _ = wr;have n0_:Aside0 (wr.heap[gb219]? = some (.cells #[.slice none 0 0,.int .i64 x220001_1,.int .u64 x220002_1] 25 (0,0))):=⟨by rw [← hq_];exact (by (with_reducible repeat (first | refine uc ?_ _ | refine ue ?_ | refine ub ?_ _));exact BK219.out)⟩;have n1_:Aside0 (wr.heap[gb220]? = some (.cells #[.string x221000_1,.string x221001_1,.string x221002_1] 51 (0,0))):=⟨by rw [← hq_];exact (by (with_reducible repeat (first | refine uc ?_ _ | refine ue ?_ | refine ub ?_ _));exact BK220.out)⟩;have n2_:Aside0 (Below w.heap.size w wr):=⟨by rw [← hq_];exact (by repeat (first | (with_reducible first | exact HB.out | apply uf | apply ua | apply ug | refine uh ?_ GE219.out | refine uh ?_ GE220.out) | exact HB.out))⟩;clear BK219 BK220 HB hq_;have BK219:=n0_;have BK220:=n1_;have HB:=n2_;clear n0_ n1_ n2_))) | ((with_reducible refine u1k (f:=37) rfl ?_);refine u2r (some 47) rfl rfl Tryd.func37 (by kernel_rfl) rfl #[.string a0] rfl (by (try simp only [List.map_toArray,List.map_cons,List.map_nil]);first | done | rfl | (simp only [List.length_drop,List.length_take];rfl)) ?_;(with_reducible refine (u1e.calls k1 a0 t227 t228 _ A43.out).mono ?_);rintro e w' ⟨rfl,⟨nd,rfl⟩⟩;refine ⟨_,rfl,?_⟩;(try (rw [u2z wr];generalize hq_:World.drewN wr _ = wr;have n0_:Aside0 (wr.heap[gb219]? = some (.cells #[.slice none 0 0,.int .i64 x220001_1,.int .u64 x220002_1] 25 (0,0))):=⟨by rw [← hq_];exact (by (with_reducible repeat (first | refine uc ?_ _ | refine ue ?_ | refine ub ?_ _));exact BK219.out)⟩;have n1_:Aside0 (wr.heap[gb220]? = some (.cells #[.string x221000_1,.string x221001_1,.string x221002_1] 51 (0,0))):=⟨by rw [← hq_];exact (by (with_reducible repeat (first | refine uc ?_ _ | refine ue ?_ | refine ub ?_ _));exact BK220.out)⟩;have n2_:Aside0 (Below w.heap.size w wr):=⟨by rw [← hq_];exact (by repeat (first | (with_reducible first | exact HB.out | apply uf | apply ua | apply ug | refine uh ?_ GE219.out | refine uh ?_ GE220.out) | exact HB.out))⟩;clear BK219 BK220 HB hq_;have BK219:=n0_;have BK220:=n1_;have HB:=n2_;clear n0_ n1_ n2_))) | ((with_reducible refine u1k (f:=38) rfl ?_);refine u2r (some 57) rfl rfl Tryd.func38 (by kernel_rfl) rfl #[.string a0,.int .i64 a1] rfl (by (try simp only [List.map_toArray,List.map_cons,List.map_nil]);first | done | rfl | (simp only [List.length_drop,List.length_take];rfl)) ?_;(with_reducible refine (un.calls k1 a0 a1 t229 t232 t233 true _ A48.out).mono ?_);rintro e w50 ⟨v230,rfl,ho0,hb⟩;refine ⟨_,rfl,?_⟩;have n0_:=Aside0.mk (Kd.R_lower ho0 (uq (by repeat (first | (with_reducible first | exact HB.out | apply uf | apply ua | apply ug | refine uh ?_ GE219.out | refine uh ?_ GE220.out) | exact HB.out))));have n1_:=Aside0.mk (u1a (g:=gb219) (o:=.cells #[.slice none 0 0,.int .i64 x220001_1,.int .u64 x220002_1] 25 (0,0)) (by (with_reducible repeat (first | refine uc ?_ _ | refine ue ?_ | refine ub ?_ _));exact BK219.out) hb);have n2_:=Aside0.mk (u1a (g:=gb220) (o:=.cells #[.string x221000_1,.string x221001_1,.string x221002_1] 51 (0,0)) (by (with_reducible repeat (first | refine uc ?_ _ | refine ue ?_ | refine ub ?_ _));exact BK220.out) hb);have n3_:=Aside0.mk (ux (by repeat (first | (with_reducible first | exact HB.out | apply uf | apply ua | apply ug | refine uh ?_ GE219.out | refine uh ?_ GE220.out) | exact HB.out)) hb);clear BK219;clear BK220;clear HB;have HO231:=n0_;have BK219:=n1_;have BK220:=n2_;have HB:=n3_;clear n0_ n1_ n2_ n3_;(try clear hb);(try clear hb2);(try clear hk);(try clear hi);(try clear ho0)) | ((with_reducible refine u2k (N:=13) rfl ?_);refine u2h ?hg (N:=13) ?hd (cs:=#[.slice none 0 0,.int .i64 0,.int .u64 0]) (t:=25) ?hr ?_;(case hd => rfl);(case hg => rfl);(case hr => first | (go_simp;done) | (go_simp;rfl));intro gb235 hg w51 hbox hb;have n0_:=Aside0.mk (Kd.R_below (by (with_reducible repeat (first | apply Kd.R_alloc | apply Kd.R_drewN | apply Kd.R_drew));exact HO231.out) hb);have n1_:=Aside0.mk (u1a (g:=gb219) (o:=.cells #[.slice none 0 0,.int .i64 x220001_1,.int .u64 x220002_1] 25 (0,0)) (by (with_reducible repeat (first | refine uc ?_ _ | refine ue ?_ | refine ub ?_ _));exact BK219.out) hb);have n2_:=Aside0.mk (u1a (g:=gb220) (o:=.cells #[.string x221000_1,.string x221001_1,.string x221002_1] 51 (0,0)) (by (with_reducible repeat (first | refine uc ?_ _ | refine ue ?_ | refine ub ?_ _));exact BK220.out) hb);have n3_:=Aside0.mk (ux (by repeat (first | (with_reducible first | exact HB.out | apply uf | apply ua | apply ug | refine uh ?_ GE219.out | refine uh ?_ GE220.out) | exact HB.out)) hb);have n4_:=Aside0.mk (hbox);have n5_:=Aside0.mk ((by rw [hg];exact (uq (by repeat (first | (with_reducible first | exact HB.out | apply uf | apply ua | apply ug | refine uh ?_ GE219.out | refine uh ?_ GE220.out) | exact HB.out))):w.heap.size ≤ gb235));have n6_:=Aside0.mk ((by rw [hg];exact (uq (by repeat (first | (with_reducible first | exact HB.out | apply uf | apply ua | apply ug | refine uh ?_ GE219.out | refine uh ?_ GE220.out) | exact HB.out))):w.heap.size ≤ gb235));have n7_:=Aside0.mk ((by rw [hg];exact Nat.ne_of_lt (u2d (g:=gb219) (o:=.cells #[.slice none 0 0,.int .i64 x220001_1,.int .u64 x220002_1] 25 (0,0)) (by (with_reducible repeat (first | refine uc ?_ _ | refine ue ?_ | refine ub ?_ _));exact BK219.out)):gb219 ≠ gb235));have n8_:=Aside0.mk ((by rw [hg];exact Nat.ne_of_gt (u2d (g:=gb219) (o:=.cells #[.slice none 0 0,.int .i64 x220001_1,.int .u64 x220002_1] 25 (0,0)) (by (with_reducible repeat (first | refine uc ?_ _ | refine ue ?_ | refine ub ?_ _));exact BK219.out)):gb235 ≠ gb219));have n9_:=Aside0.mk ((by rw [hg];exact Nat.ne_of_lt (u2d (g:=gb220) (o:=.cells #[.string x221000_1,.string x221001_1,.string x221002_1] 51 (0,0)) (by (with_reducible repeat (first | refine uc ?_ _ | refine ue ?_ | refine ub ?_ _));exact BK220.out)):gb220 ≠ gb235));have n10_:=Aside0.mk ((by rw [hg];exact Nat.ne_of_gt (u2d (g:=gb220) (o:=.cells #[.string x221000_1,.string x221001_1,.string x221002_1] 51 (0,0)) (by (with_reducible repeat (first | refine uc ?_ _ | refine ue ?_ | refine ub ?_ _));exact BK220.out)):gb235 ≠ gb220));clear HO231;clear BK219;clear BK220;clear HB;have HO231:=n0_;have BK219:=n1_;have BK220:=n2_;have HB:=n3_;have BK235:=n4_;have GW235:=n5_;have GE235:=n6_;have NB219_235:=n7_;have NB235_219:=n8_;have NB220_235:=n9_;have NB235_220:=n10_;clear n0_ n1_ n2_ n3_ n4_ n5_ n6_ n7_ n8_ n9_ n10_;clear hb hbox hg;obtain ⟨Ao52,co52,eo52⟩:=Kd.R_slice HO231.out;subst eo52;have hnb53:=NB235_219.out;have hnc53:=NB219_235.out;have hnb54:=NB235_220.out;have hnc54:=NB220_235.out;have hcz55_0:w51.cell? ⟨gb235,0,none⟩ = some (.slice none 0 0):=(uj BK235.out 0).trans rfl;have hcz55_1:w51.cell? ⟨gb235,1,none⟩ = some (.int .i64 0):=(uj BK235.out 1).trans rfl;have hcz55_2:w51.cell? ⟨gb235,2,none⟩ = some (.int .u64 0):=(uj BK235.out 2).trans rfl;have hfz55_0:=ui BK235.out 0;have hfz55_1:=ui BK235.out 1;have hfz55_2:=ui BK235.out 2;have hnb56:=NB219_220.out;have hnc56:=NB220_219.out;have hcz57_0:w51.cell? ⟨gb219,0,none⟩ = some (.slice none 0 0):=(uj BK219.out 0).trans rfl;have hcz57_1:w51.cell? ⟨gb219,1,none⟩ = some (.int .i64 x220001_1):=(uj BK219.out 1).trans rfl;have hcz57_2:w51.cell? ⟨gb219,2,none⟩ = some (.int .u64 x220002_1):=(uj BK219.out 2).trans rfl;have hfz57_0:=ui BK219.out 0;have hfz57_1:=ui BK219.out 1;have hfz57_2:=ui BK219.out 2;have hcz58_0:w51.cell? ⟨gb220,0,none⟩ = some (.string x221000_1):=(uj BK220.out 0).trans rfl;have hcz58_1:w51.cell? ⟨gb220,1,none⟩ = some (.string x221001_1):=(uj BK220.out 1).trans rfl;have hcz58_2:w51.cell? ⟨gb220,2,none⟩ = some (.string x221002_1):=(uj BK220.out 2).trans rfl;have hfz58_0:=ui BK220.out 0;have hfz58_1:=ui BK220.out 1;have hfz58_2:=ui BK220.out 2))
              refine bodyPost_ret (results_list (rs:=[.cell 4 25,.tmp 5,.cell 6 51,.tmp 7]) rfl (by simp) (.cell gb219 25 #[.slice Ao52 t229.length co52,.int .i64 t232,.int .u64 t233] (0,0) _ rfl (by (with_reducible repeat (first | refine uc ?_ _ | refine ue ?_ | refine ub ?_ _));refine u1d ?_ NB219_220.out _;(with_reducible repeat (first | refine uc ?_ _ | refine ue ?_ | refine ub ?_ _));refine u1d ?_ NB219_220.out _;(with_reducible repeat (first | refine uc ?_ _ | refine ue ?_ | refine ub ?_ _));refine u1d ?_ NB219_220.out _;(with_reducible repeat (first | refine uc ?_ _ | refine ue ?_ | refine ub ?_ _));refine u1m (cs:=#[.slice Ao52 t229.length co52,.int .i64 t232,.int .u64 x220002_1]) ?_ 2 _ rfl;(with_reducible repeat (first | refine uc ?_ _ | refine ue ?_ | refine ub ?_ _));refine u1m (cs:=#[.slice Ao52 t229.length co52,.int .i64 x220001_1,.int .u64 x220002_1]) ?_ 1 _ rfl;(with_reducible repeat (first | refine uc ?_ _ | refine ue ?_ | refine ub ?_ _));refine u1m (cs:=#[.slice none 0 0,.int .i64 x220001_1,.int .u64 x220002_1]) ?_ 0 _ rfl;(with_reducible repeat (first | refine uc ?_ _ | refine ue ?_ | refine ub ?_ _));refine u1d ?_ NB219_235.out _;(with_reducible repeat (first | refine uc ?_ _ | refine ue ?_ | refine ub ?_ _));refine u1d ?_ NB219_235.out _;(with_reducible repeat (first | refine uc ?_ _ | refine ue ?_ | refine ub ?_ _));refine u1d ?_ NB219_235.out _;(with_reducible repeat (first | refine uc ?_ _ | refine ue ?_ | refine ub ?_ _));exact BK219.out) Tryd.underlying25 rfl (by kernel_rfl) (.tmp (.cell gb220 51 #[.string (⟨#[]⟩:ByteArray),.string (⟨#[]⟩:ByteArray),.string (⟨#[]⟩:ByteArray)] (0,0) _ rfl (by (with_reducible repeat (first | refine uc ?_ _ | refine ue ?_ | refine ub ?_ _));refine u1m (cs:=#[.string (⟨#[]⟩:ByteArray),.string (⟨#[]⟩:ByteArray),.string x221002_1]) ?_ 2 _ rfl;(with_reducible repeat (first | refine uc ?_ _ | refine ue ?_ | refine ub ?_ _));refine u1m (cs:=#[.string (⟨#[]⟩:ByteArray),.string x221001_1,.string x221002_1]) ?_ 1 _ rfl;(with_reducible repeat (first | refine uc ?_ _ | refine ue ?_ | refine ub ?_ _));refine u1m (cs:=#[.string x221000_1,.string x221001_1,.string x221002_1]) ?_ 0 _ rfl;(with_reducible repeat (first | refine uc ?_ _ | refine ue ?_ | refine ub ?_ _));refine u1d ?_ NB220_219.out _;(with_reducible repeat (first | refine uc ?_ _ | refine ue ?_ | refine ub ?_ _));refine u1d ?_ NB220_219.out _;(with_reducible repeat (first | refine uc ?_ _ | refine ue ?_ | refine ub ?_ _));refine u1d ?_ NB220_219.out _;(with_reducible repeat (first | refine uc ?_ _ | refine ue ?_ | refine ub ?_ _));refine u1d ?_ NB220_235.out _;(with_reducible repeat (first | refine uc ?_ _ | refine ue ?_ | refine ub ?_ _));refine u1d ?_ NB220_235.out _;(with_reducible repeat (first | refine uc ?_ _ | refine ue ?_ | refine ub ?_ _));refine u1d ?_ NB220_235.out _;(with_reducible repeat (first | refine uc ?_ _ | refine ue ?_ | refine ub ?_ _));exact BK220.out) Tryd.underlying51 rfl (by kernel_rfl) (.tmp .nil))))) rfl ?_
              exact ⟨_,by first | rfl | (simp [u1j,u1i] <;> rfl) | (simp [*,u1j,u1i] <;> rfl),by (with_reducible repeat (first | apply Kd.R_alloc | apply Kd.R_drewN | apply Kd.R_drew));exact Kd.R_mono (Kd.R_far (p:=⟨gb220,2,none⟩) (Kd.R_far (p:=⟨gb220,1,none⟩) (Kd.R_far (p:=⟨gb220,0,none⟩) (Kd.R_far (p:=⟨gb219,2,none⟩) (Kd.R_far (p:=⟨gb219,1,none⟩) (Kd.R_far (p:=⟨gb219,0,none⟩) (Kd.R_far (p:=⟨gb235,2,none⟩) (Kd.R_far (p:=⟨gb235,1,none⟩) (Kd.R_far (p:=⟨gb235,0,none⟩) (Kd.R_types (Kd.R_types (Kd.R_types HO231.out BK235.out (by decide)) BK219.out (by decide)) BK220.out (by decide)) (fun _ hk => hk.1.1.2) (.slice Ao52 t229.length co52)) (fun _ hk => hk.1.1.2) (.int .i64 t232)) (fun _ hk => hk.1.1.2) (.int .u64 t233)) (fun _ hk => hk.1.2) (.slice Ao52 t229.length co52)) (fun _ hk => hk.1.2) (.int .i64 t232)) (fun _ hk => hk.1.2) (.int .u64 t233)) (fun _ hk => hk.2) (.string (⟨#[]⟩:ByteArray))) (fun _ hk => hk.2) (.string (⟨#[]⟩:ByteArray))) (fun _ hk => hk.2) (.string (⟨#[]⟩:ByteArray))) (fun _ hk => trivial),by repeat (first | (with_reducible first | exact HB.out | apply uf | apply ua | apply ug | refine uh ?_ GE219.out | refine uh ?_ GE220.out | refine uh ?_ GE235.out) | exact HB.out)⟩
            · replace c49:=Bool.eq_false_iff.mpr c49
              subst c49
              have H1:(some (([]:List (S37)),0,0,false,(⟨#[]⟩:ByteArray),(⟨#[]⟩:ByteArray),(⟨#[]⟩:ByteArray),280)) = some (r1,r2,r3,r4,r5,r6,r7,r8):=by rw [if_neg (show ¬ (false = true) by decide)] at H;exact H
              clear H
              have H:=H1
              clear H1
              simp only [Option.some.injEq,Prod.mk.injEq] at H
              obtain ⟨rfl,rfl,rfl,rfl,rfl,rfl,rfl,rfl⟩:=H
              go_wp2_with (first | ((with_reducible refine u1k (f:=35) rfl ?_);refine u2r (some 33) rfl rfl Tryd.func35 (by kernel_rfl) rfl #[.string a0,.string (⟨#[35]⟩:ByteArray)] rfl (by (try simp only [List.map_toArray,List.map_cons,List.map_nil]);first | done | rfl | (simp only [List.length_drop,List.length_take];rfl)) ?_;(with_reducible refine (ut.calls a0 (⟨#[35]⟩:ByteArray) false _ A18.out).mono ?_);rintro e w' ⟨rfl,⟨nd,rfl⟩⟩;refine ⟨_,rfl,?_⟩;(try (rw [u2z wr];generalize hq_:World.drewN wr _ = wr;have n0_:Aside0 (wr.heap[gb219]? = some (.cells #[.slice none 0 0,.int .i64 x220001_1,.int .u64 x220002_1] 25 (0,0))):=⟨by rw [← hq_];exact (by (with_reducible repeat (first | refine uc ?_ _ | refine ue ?_ | refine ub ?_ _));exact BK219.out)⟩;have n1_:Aside0 (wr.heap[gb220]? = some (.cells #[.string x221000_1,.string x221001_1,.string x221002_1] 51 (0,0))):=⟨by rw [← hq_];exact (by (with_reducible repeat (first | refine uc ?_ _ | refine ue ?_ | refine ub ?_ _));exact BK220.out)⟩;have n2_:Aside0 (Below w.heap.size w wr):=⟨by rw [← hq_];exact (by repeat (first | (with_reducible first | exact HB.out | apply uf | apply ua | apply ug | refine uh ?_ GE219.out | refine uh ?_ GE220.out) | exact HB.out))⟩;clear BK219 BK220 HB hq_;have BK219:=n0_;have BK220:=n1_;have HB:=n2_;clear n0_ n1_ n2_))) | ((with_reducible refine u1k (f:=37) rfl ?_);refine u2r (some 47) rfl rfl Tryd.func37 (by kernel_rfl) rfl #[.string a0] rfl (by (try simp only [List.map_toArray,List.map_cons,List.map_nil]);first | done | rfl | (simp only [List.length_drop,List.length_take];rfl)) ?_;(with_reducible refine (u1e.calls k1 a0 t227 t228 _ A43.out).mono ?_);rintro e w' ⟨rfl,⟨nd,rfl⟩⟩;refine ⟨_,rfl,?_⟩;(try (rw [u2z wr];generalize hq_:World.drewN wr _ = wr;have n0_:Aside0 (wr.heap[gb219]? = some (.cells #[.slice none 0 0,.int .i64 x220001_1,.int .u64 x220002_1] 25 (0,0))):=⟨by rw [← hq_];exact (by (with_reducible repeat (first | refine uc ?_ _ | refine ue ?_ | refine ub ?_ _));exact BK219.out)⟩;have n1_:Aside0 (wr.heap[gb220]? = some (.cells #[.string x221000_1,.string x221001_1,.string x221002_1] 51 (0,0))):=⟨by rw [← hq_];exact (by (with_reducible repeat (first | refine uc ?_ _ | refine ue ?_ | refine ub ?_ _));exact BK220.out)⟩;have n2_:Aside0 (Below w.heap.size w wr):=⟨by rw [← hq_];exact (by repeat (first | (with_reducible first | exact HB.out | apply uf | apply ua | apply ug | refine uh ?_ GE219.out | refine uh ?_ GE220.out) | exact HB.out))⟩;clear BK219 BK220 HB hq_;have BK219:=n0_;have BK220:=n1_;have HB:=n2_;clear n0_ n1_ n2_))) | ((with_reducible refine u1k (f:=38) rfl ?_);refine u2r (some 57) rfl rfl Tryd.func38 (by kernel_rfl) rfl #[.string a0,.int .i64 a1] rfl (by (try simp only [List.map_toArray,List.map_cons,List.map_nil]);first | done | rfl | (simp only [List.length_drop,List.length_take];rfl)) ?_;(with_reducible refine (un.calls k1 a0 a1 t229 t232 t233 false _ A48.out).mono ?_);rintro e w59 ⟨v230,rfl,ho0,hb⟩;refine ⟨_,rfl,?_⟩;have n0_:=Aside0.mk (Kd.R_lower ho0 (uq (by repeat (first | (with_reducible first | exact HB.out | apply uf | apply ua | apply ug | refine uh ?_ GE219.out | refine uh ?_ GE220.out) | exact HB.out))));have n1_:=Aside0.mk (u1a (g:=gb219) (o:=.cells #[.slice none 0 0,.int .i64 x220001_1,.int .u64 x220002_1] 25 (0,0)) (by (with_reducible repeat (first | refine uc ?_ _ | refine ue ?_ | refine ub ?_ _));exact BK219.out) hb);have n2_:=Aside0.mk (u1a (g:=gb220) (o:=.cells #[.string x221000_1,.string x221001_1,.string x221002_1] 51 (0,0)) (by (with_reducible repeat (first | refine uc ?_ _ | refine ue ?_ | refine ub ?_ _));exact BK220.out) hb);have n3_:=Aside0.mk (ux (by repeat (first | (with_reducible first | exact HB.out | apply uf | apply ua | apply ug | refine uh ?_ GE219.out | refine uh ?_ GE220.out) | exact HB.out)) hb);clear BK219;clear BK220;clear HB;have HO231:=n0_;have BK219:=n1_;have BK220:=n2_;have HB:=n3_;clear n0_ n1_ n2_ n3_;(try clear hb);(try clear hb2);(try clear hk);(try clear hi);(try clear ho0)) | ((with_reducible refine u2k (N:=13) rfl ?_);refine u2h ?hg (N:=13) ?hd (cs:=#[.slice none 0 0,.int .i64 0,.int .u64 0]) (t:=25) ?hr ?_;(case hd => rfl);(case hg => rfl);(case hr => first | (go_simp;done) | (go_simp;rfl));intro gb235 hg w60 hbox hb;have n0_:=Aside0.mk (Kd.R_below (by (with_reducible repeat (first | apply Kd.R_alloc | apply Kd.R_drewN | apply Kd.R_drew));exact HO231.out) hb);have n1_:=Aside0.mk (u1a (g:=gb219) (o:=.cells #[.slice none 0 0,.int .i64 x220001_1,.int .u64 x220002_1] 25 (0,0)) (by (with_reducible repeat (first | refine uc ?_ _ | refine ue ?_ | refine ub ?_ _));exact BK219.out) hb);have n2_:=Aside0.mk (u1a (g:=gb220) (o:=.cells #[.string x221000_1,.string x221001_1,.string x221002_1] 51 (0,0)) (by (with_reducible repeat (first | refine uc ?_ _ | refine ue ?_ | refine ub ?_ _));exact BK220.out) hb);have n3_:=Aside0.mk (ux (by repeat (first | (with_reducible first | exact HB.out | apply uf | apply ua | apply ug | refine uh ?_ GE219.out | refine uh ?_ GE220.out) | exact HB.out)) hb);have n4_:=Aside0.mk (hbox);have n5_:=Aside0.mk ((by rw [hg];exact (uq (by repeat (first | (with_reducible first | exact HB.out | apply uf | apply ua | apply ug | refine uh ?_ GE219.out | refine uh ?_ GE220.out) | exact HB.out))):w.heap.size ≤ gb235));have n6_:=Aside0.mk ((by rw [hg];exact (uq (by repeat (first | (with_reducible first | exact HB.out | apply uf | apply ua | apply ug | refine uh ?_ GE219.out | refine uh ?_ GE220.out) | exact HB.out))):w.heap.size ≤ gb235));have n7_:=Aside0.mk ((by rw [hg];exact Nat.ne_of_lt (u2d (g:=gb219) (o:=.cells #[.slice none 0 0,.int .i64 x220001_1,.int .u64 x220002_1] 25 (0,0)) (by (with_reducible repeat (first | refine uc ?_ _ | refine ue ?_ | refine ub ?_ _));exact BK219.out)):gb219 ≠ gb235));have n8_:=Aside0.mk ((by rw [hg];exact Nat.ne_of_gt (u2d (g:=gb219) (o:=.cells #[.slice none 0 0,.int .i64 x220001_1,.int .u64 x220002_1] 25 (0,0)) (by (with_reducible repeat (first | refine uc ?_ _ | refine ue ?_ | refine ub ?_ _));exact BK219.out)):gb235 ≠ gb219));have n9_:=Aside0.mk ((by rw [hg];exact Nat.ne_of_lt (u2d (g:=gb220) (o:=.cells #[.string x221000_1,.string x221001_1,.string x221002_1] 51 (0,0)) (by (with_reducible repeat (first | refine uc ?_ _ | refine ue ?_ | refine ub ?_ _));exact BK220.out)):gb220 ≠ gb235));have n10_:=Aside0.mk ((by rw [hg];exact Nat.ne_of_gt (u2d (g:=gb220) (o:=.cells #[.string x221000_1,.string x221001_1,.string x221002_1] 51 (0,0)) (by (with_reducible repeat (first | refine uc ?_ _ | refine ue ?_ | refine ub ?_ _));exact BK220.out)):gb235 ≠ gb220));clear HO231;clear BK219;clear BK220;clear HB;have HO231:=n0_;have BK219:=n1_;have BK220:=n2_;have HB:=n3_;have BK235:=n4_;have GW235:=n5_;have GE235:=n6_;have NB219_235:=n7_;have NB235_219:=n8_;have NB220_235:=n9_;have NB235_220:=n10_;clear n0_ n1_ n2_ n3_ n4_ n5_ n6_ n7_ n8_ n9_ n10_;clear hb hbox hg;obtain ⟨Ao61,co61,eo61⟩:=Kd.R_slice HO231.out;subst eo61;have hnb62:=NB235_219.out;have hnc62:=NB219_235.out;have hnb63:=NB235_220.out;have hnc63:=NB220_235.out;have hcz64_0:w60.cell? ⟨gb235,0,none⟩ = some (.slice none 0 0):=(uj BK235.out 0).trans rfl;have hcz64_1:w60.cell? ⟨gb235,1,none⟩ = some (.int .i64 0):=(uj BK235.out 1).trans rfl;have hcz64_2:w60.cell? ⟨gb235,2,none⟩ = some (.int .u64 0):=(uj BK235.out 2).trans rfl;have hfz64_0:=ui BK235.out 0;have hfz64_1:=ui BK235.out 1;have hfz64_2:=ui BK235.out 2;have hnb65:=NB219_220.out;have hnc65:=NB220_219.out;have hcz66_0:w60.cell? ⟨gb219,0,none⟩ = some (.slice none 0 0):=(uj BK219.out 0).trans rfl;have hcz66_1:w60.cell? ⟨gb219,1,none⟩ = some (.int .i64 x220001_1):=(uj BK219.out 1).trans rfl;have hcz66_2:w60.cell? ⟨gb219,2,none⟩ = some (.int .u64 x220002_1):=(uj BK219.out 2).trans rfl;have hfz66_0:=ui BK219.out 0;have hfz66_1:=ui BK219.out 1;have hfz66_2:=ui BK219.out 2;have hcz67_0:w60.cell? ⟨gb220,0,none⟩ = some (.string x221000_1):=(uj BK220.out 0).trans rfl;have hcz67_1:w60.cell? ⟨gb220,1,none⟩ = some (.string x221001_1):=(uj BK220.out 1).trans rfl;have hcz67_2:w60.cell? ⟨gb220,2,none⟩ = some (.string x221002_1):=(uj BK220.out 2).trans rfl;have hfz67_0:=ui BK220.out 0;have hfz67_1:=ui BK220.out 1;have hfz67_2:=ui BK220.out 2))
              refine bodyPost_ret (results_list (rs:=[.cell 4 25,.tmp 5,.cell 6 51,.tmp 7]) rfl (by simp) (.cell gb219 25 #[.slice none 0 0,.int .i64 0,.int .u64 0] (0,0) _ rfl (by (with_reducible repeat (first | refine uc ?_ _ | refine ue ?_ | refine ub ?_ _));refine u1d ?_ NB219_220.out _;(with_reducible repeat (first | refine uc ?_ _ | refine ue ?_ | refine ub ?_ _));refine u1d ?_ NB219_220.out _;(with_reducible repeat (first | refine uc ?_ _ | refine ue ?_ | refine ub ?_ _));refine u1d ?_ NB219_220.out _;(with_reducible repeat (first | refine uc ?_ _ | refine ue ?_ | refine ub ?_ _));refine u1m (cs:=#[.slice none 0 0,.int .i64 0,.int .u64 x220002_1]) ?_ 2 _ rfl;(with_reducible repeat (first | refine uc ?_ _ | refine ue ?_ | refine ub ?_ _));refine u1m (cs:=#[.slice none 0 0,.int .i64 x220001_1,.int .u64 x220002_1]) ?_ 1 _ rfl;(with_reducible repeat (first | refine uc ?_ _ | refine ue ?_ | refine ub ?_ _));refine u1m (cs:=#[.slice none 0 0,.int .i64 x220001_1,.int .u64 x220002_1]) ?_ 0 _ rfl;(with_reducible repeat (first | refine uc ?_ _ | refine ue ?_ | refine ub ?_ _));refine u1d ?_ NB219_235.out _;(with_reducible repeat (first | refine uc ?_ _ | refine ue ?_ | refine ub ?_ _));refine u1d ?_ NB219_235.out _;(with_reducible repeat (first | refine uc ?_ _ | refine ue ?_ | refine ub ?_ _));refine u1d ?_ NB219_235.out _;(with_reducible repeat (first | refine uc ?_ _ | refine ue ?_ | refine ub ?_ _));exact BK219.out) Tryd.underlying25 rfl (by kernel_rfl) (.tmp (.cell gb220 51 #[.string (⟨#[]⟩:ByteArray),.string (⟨#[]⟩:ByteArray),.string (⟨#[]⟩:ByteArray)] (0,0) _ rfl (by (with_reducible repeat (first | refine uc ?_ _ | refine ue ?_ | refine ub ?_ _));refine u1m (cs:=#[.string (⟨#[]⟩:ByteArray),.string (⟨#[]⟩:ByteArray),.string x221002_1]) ?_ 2 _ rfl;(with_reducible repeat (first | refine uc ?_ _ | refine ue ?_ | refine ub ?_ _));refine u1m (cs:=#[.string (⟨#[]⟩:ByteArray),.string x221001_1,.string x221002_1]) ?_ 1 _ rfl;(with_reducible repeat (first | refine uc ?_ _ | refine ue ?_ | refine ub ?_ _));refine u1m (cs:=#[.string x221000_1,.string x221001_1,.string x221002_1]) ?_ 0 _ rfl;(with_reducible repeat (first | refine uc ?_ _ | refine ue ?_ | refine ub ?_ _));refine u1d ?_ NB220_219.out _;(with_reducible repeat (first | refine uc ?_ _ | refine ue ?_ | refine ub ?_ _));refine u1d ?_ NB220_219.out _;(with_reducible repeat (first | refine uc ?_ _ | refine ue ?_ | refine ub ?_ _));refine u1d ?_ NB220_219.out _;(with_reducible repeat (first | refine uc ?_ _ | refine ue ?_ | refine ub ?_ _));refine u1d ?_ NB220_235.out _;(with_reducible repeat (first | refine uc ?_ _ | refine ue ?_ | refine ub ?_ _));refine u1d ?_ NB220_235.out _;(with_reducible repeat (first | refine uc ?_ _ | refine ue ?_ | refine ub ?_ _));refine u1d ?_ NB220_235.out _;(with_reducible repeat (first | refine uc ?_ _ | refine ue ?_ | refine ub ?_ _));exact BK220.out) Tryd.underlying51 rfl (by kernel_rfl) (.tmp .nil))))) rfl ?_
              exact ⟨_,by first | rfl | (simp [u1j,u1i] <;> rfl) | (simp [*,u1j,u1i] <;> rfl),by first | exact Kd.R_nil _ _ _ _ _ | exact Kd.N_nil _ _ _ _ _ | exact Kd.V_nil _ _ _ _ _ | exact Kd.Q_nil _ _ _ _ _ | exact Kd.S_nil _ _ _ _ _,by repeat (first | (with_reducible first | exact HB.out | apply uf | apply ua | apply ug | refine uh ?_ GE219.out | refine uh ?_ GE220.out | refine uh ?_ GE235.out) | exact HB.out)⟩
def u3b.f (k:Nat) (a0:ByteArray) (a1:Int):Option ((List (S37)) × Int × Int × Bool × Int × Int):=(u2j.f k a0 a1).bind fun bt238 => (some (bt238.1,bt238.2.1,bt238.2.2.1,bt238.2.2.2.1,bt238.2.2.2.2.2.2.2,0))
set_option maxHeartbeats 8000000 in
set_option maxRecDepth 100000 in
theorem u3b.calls (k:Nat) (a0:ByteArray) (a1:Int) (r1:List (S37)) (r2:Int) (r3:Int) (r4:Bool) (r5:Int) (r6:Int) (w:World) (h:u3b.f k a0 a1 = some (r1,r2,r3,r4,r5,r6)) :
 Calls Tryd.prog 7 #[.string a0,.int .i64 a1] w fun e w' => ∃ v0_:Value,e = .returned (.tuple #[.agg #[v0_,.int .i64 r2,.int .u64 r3],.bool r4,.agg #[.int .i64 r5,.int .i64 r6]]) ∧ Kd.R k37 37 w' w.heap.size (fun _ => True) v0_ r1 ∧ Below w.heap.size w w':=by
 have hu25:=Tryd.underlying25
 have hu28:=Tryd.underlying28
 have hu51:=Tryd.underlying51
 have HB:=Aside0.mk (Below.refl w.heap.size w)
 have H:((u2j.f k a0 a1).bind fun bt238 => (some (bt238.1,bt238.2.1,bt238.2.2.1,bt238.2.2.2.1,bt238.2.2.2.2.2.2.2,0))) = some (r1,r2,r3,r4,r5,r6):=h
 clear h
 replace H:=Option.bind_eq_some_iff.mp H
 obtain ⟨⟨t238,t241,t242,t243,t244,t245,t246,t247⟩,A30,H⟩:=H
 replace H:(some (t238,t241,t242,t243,t247,0)) = some (r1,r2,r3,r4,r5,r6):=H
 have A3:=Aside0.mk A30
 clear A30
 simp only [Option.some.injEq,Prod.mk.injEq] at H
 obtain ⟨rfl,rfl,rfl,rfl,rfl,rfl⟩:=H
 go_enter Tryd.func7,Tryd.ntmps7
 go_wp2_with (first | ((with_reducible refine u2k (N:=4) rfl ?_);refine u2h ?hg (N:=4) ?hd (cs:=#[.slice none 0 0,.int .i64 0,.int .u64 0]) (t:=25) ?hr ?_;(case hd => rfl);(case hg => rfl);(case hr => first | (go_simp;done) | (go_simp;rfl));intro gb236 hg w4 hbox hb;have n0_:=Aside0.mk (ux (by repeat (first | (with_reducible first | exact HB.out | apply uf | apply ua | apply ug) | exact HB.out)) hb);have n1_:=Aside0.mk (hbox);have n2_:=Aside0.mk ((by rw [hg];exact (uq (by repeat (first | (with_reducible first | exact HB.out | apply uf | apply ua | apply ug) | exact HB.out))):w.heap.size ≤ gb236));have n3_:=Aside0.mk ((by rw [hg];exact (uq (by repeat (first | (with_reducible first | exact HB.out | apply uf | apply ua | apply ug) | exact HB.out))):w.heap.size ≤ gb236));clear HB;have HB:=n0_;have BK236:=n1_;have GW236:=n2_;have GE236:=n3_;clear n0_ n1_ n2_ n3_;clear hb hbox hg) | ((with_reducible refine u2k (N:=6) rfl ?_);refine u2h ?hg (N:=6) ?hd (cs:=#[.int .i64 0,.int .i64 0]) (t:=28) ?hr ?_;(case hd => rfl);(case hg => rfl);(case hr => first | (go_simp;done) | (go_simp;rfl));intro gb237 hg w5 hbox hb;have n0_:=Aside0.mk (u1a (g:=gb236) (o:=.cells #[.slice none 0 0,.int .i64 0,.int .u64 0] 25 (0,0)) (by (with_reducible repeat (first | refine uc ?_ _ | refine ue ?_ | refine ub ?_ _));exact BK236.out) hb);have n1_:=Aside0.mk (ux (by repeat (first | (with_reducible first | exact HB.out | apply uf | apply ua | apply ug | refine uh ?_ GE236.out) | exact HB.out)) hb);have n2_:=Aside0.mk (hbox);have n3_:=Aside0.mk ((by rw [hg];exact (uq (by repeat (first | (with_reducible first | exact HB.out | apply uf | apply ua | apply ug | refine uh ?_ GE236.out) | exact HB.out))):w.heap.size ≤ gb237));have n4_:=Aside0.mk ((by rw [hg];exact (uq (by repeat (first | (with_reducible first | exact HB.out | apply uf | apply ua | apply ug | refine uh ?_ GE236.out) | exact HB.out))):w.heap.size ≤ gb237));have n5_:=Aside0.mk ((by rw [hg];exact Nat.ne_of_lt (u2d (g:=gb236) (o:=.cells #[.slice none 0 0,.int .i64 0,.int .u64 0] 25 (0,0)) (by (with_reducible repeat (first | refine uc ?_ _ | refine ue ?_ | refine ub ?_ _));exact BK236.out)):gb236 ≠ gb237));have n6_:=Aside0.mk ((by rw [hg];exact Nat.ne_of_gt (u2d (g:=gb236) (o:=.cells #[.slice none 0 0,.int .i64 0,.int .u64 0] 25 (0,0)) (by (with_reducible repeat (first | refine uc ?_ _ | refine ue ?_ | refine ub ?_ _));exact BK236.out)):gb237 ≠ gb236));clear BK236;clear HB;have BK236:=n0_;have HB:=n1_;have BK237:=n2_;have GW237:=n3_;have GE237:=n4_;have NB236_237:=n5_;have NB237_236:=n6_;clear n0_ n1_ n2_ n3_ n4_ n5_ n6_;clear hb hbox hg) | ((with_reducible refine u1k (f:=17) rfl ?_);refine u2r (some 14) rfl rfl Tryd.func17 (by kernel_rfl) rfl #[.string a0,.int .i64 a1] rfl (by (try simp only [List.map_toArray,List.map_cons,List.map_nil]);first | done | rfl | (simp only [List.length_drop,List.length_take];rfl)) ?_;(with_reducible refine (u2j.calls k a0 a1 t238 t241 t242 t243 t244 t245 t246 t247 _ A3.out).mono ?_);rintro e w6 ⟨v239,rfl,ho0,hb⟩;refine ⟨_,rfl,?_⟩;have n0_:=Aside0.mk (Kd.R_lower ho0 (uq (by repeat (first | (with_reducible first | exact HB.out | apply uf | apply ua | apply ug | refine uh ?_ GE236.out | refine uh ?_ GE237.out) | exact HB.out))));have n1_:=Aside0.mk (u1a (g:=gb236) (o:=.cells #[.slice none 0 0,.int .i64 0,.int .u64 0] 25 (0,0)) (by (with_reducible repeat (first | refine uc ?_ _ | refine ue ?_ | refine ub ?_ _));exact BK236.out) hb);have n2_:=Aside0.mk (u1a (g:=gb237) (o:=.cells #[.int .i64 0,.int .i64 0] 28 (0,0)) (by (with_reducible repeat (first | refine uc ?_ _ | refine ue ?_ | refine ub ?_ _));exact BK237.out) hb);have n3_:=Aside0.mk (ux (by repeat (first | (with_reducible first | exact HB.out | apply uf | apply ua | apply ug | refine uh ?_ GE236.out | refine uh ?_ GE237.out) | exact HB.out)) hb);clear BK236;clear BK237;clear HB;have HO240:=n0_;have BK236:=n1_;have BK237:=n2_;have HB:=n3_;clear n0_ n1_ n2_ n3_;(try clear hb);(try clear hb2);(try clear hk);(try clear hi);(try clear ho0)) | ((with_reducible refine u2k (N:=7) rfl ?_);refine u2h ?hg (N:=7) ?hd (cs:=#[.slice none 0 0,.int .i64 0,.int .u64 0]) (t:=25) ?hr ?_;(case hd => rfl);(case hg => rfl);(case hr => first | (go_simp;done) | (go_simp;rfl));intro gb248 hg w7 hbox hb;have n0_:=Aside0.mk (Kd.R_below (by (with_reducible repeat (first | apply Kd.R_alloc | apply Kd.R_drewN | apply Kd.R_drew));exact HO240.out) hb);have n1_:=Aside0.mk (u1a (g:=gb236) (o:=.cells #[.slice none 0 0,.int .i64 0,.int .u64 0] 25 (0,0)) (by (with_reducible repeat (first | refine uc ?_ _ | refine ue ?_ | refine ub ?_ _));exact BK236.out) hb);have n2_:=Aside0.mk (u1a (g:=gb237) (o:=.cells #[.int .i64 0,.int .i64 0] 28 (0,0)) (by (with_reducible repeat (first | refine uc ?_ _ | refine ue ?_ | refine ub ?_ _));exact BK237.out) hb);have n3_:=Aside0.mk (ux (by repeat (first | (with_reducible first | exact HB.out | apply uf | apply ua | apply ug | refine uh ?_ GE236.out | refine uh ?_ GE237.out) | exact HB.out)) hb);have n4_:=Aside0.mk (hbox);have n5_:=Aside0.mk ((by rw [hg];exact (uq (by repeat (first | (with_reducible first | exact HB.out | apply uf | apply ua | apply ug | refine uh ?_ GE236.out | refine uh ?_ GE237.out) | exact HB.out))):w.heap.size ≤ gb248));have n6_:=Aside0.mk ((by rw [hg];exact (uq (by repeat (first | (with_reducible first | exact HB.out | apply uf | apply ua | apply ug | refine uh ?_ GE236.out | refine uh ?_ GE237.out) | exact HB.out))):w.heap.size ≤ gb248));have n7_:=Aside0.mk ((by rw [hg];exact Nat.ne_of_lt (u2d (g:=gb236) (o:=.cells #[.slice none 0 0,.int .i64 0,.int .u64 0] 25 (0,0)) (by (with_reducible repeat (first | refine uc ?_ _ | refine ue ?_ | refine ub ?_ _));exact BK236.out)):gb236 ≠ gb248));have n8_:=Aside0.mk ((by rw [hg];exact Nat.ne_of_gt (u2d (g:=gb236) (o:=.cells #[.slice none 0 0,.int .i64 0,.int .u64 0] 25 (0,0)) (by (with_reducible repeat (first | refine uc ?_ _ | refine ue ?_ | refine ub ?_ _));exact BK236.out)):gb248 ≠ gb236));have n9_:=Aside0.mk ((by rw [hg];exact Nat.ne_of_lt (u2d (g:=gb237) (o:=.cells #[.int .i64 0,.int .i64 0] 28 (0,0)) (by (with_reducible repeat (first | refine uc ?_ _ | refine ue ?_ | refine ub ?_ _));exact BK237.out)):gb237 ≠ gb248));have n10_:=Aside0.mk ((by rw [hg];exact Nat.ne_of_gt (u2d (g:=gb237) (o:=.cells #[.int .i64 0,.int .i64 0] 28 (0,0)) (by (with_reducible repeat (first | refine uc ?_ _ | refine ue ?_ | refine ub ?_ _));exact BK237.out)):gb248 ≠ gb237));clear HO240;clear BK236;clear BK237;clear HB;have HO240:=n0_;have BK236:=n1_;have BK237:=n2_;have HB:=n3_;have BK248:=n4_;have GW248:=n5_;have GE248:=n6_;have NB236_248:=n7_;have NB248_236:=n8_;have NB237_248:=n9_;have NB248_237:=n10_;clear n0_ n1_ n2_ n3_ n4_ n5_ n6_ n7_ n8_ n9_ n10_;clear hb hbox hg) | ((with_reducible refine u2k (N:=9) rfl ?_);refine u2h ?hg (N:=9) ?hd (cs:=#[.string (⟨#[]⟩:ByteArray),.string (⟨#[]⟩:ByteArray),.string (⟨#[]⟩:ByteArray)]) (t:=51) ?hr ?_;(case hd => rfl);(case hg => rfl);(case hr => first | (go_simp;done) | (go_simp;rfl));intro gb249 hg w8 hbox hb;have n0_:=Aside0.mk (Kd.R_below (by (with_reducible repeat (first | apply Kd.R_alloc | apply Kd.R_drewN | apply Kd.R_drew));exact HO240.out) hb);have n1_:=Aside0.mk (u1a (g:=gb236) (o:=.cells #[.slice none 0 0,.int .i64 0,.int .u64 0] 25 (0,0)) (by (with_reducible repeat (first | refine uc ?_ _ | refine ue ?_ | refine ub ?_ _));exact BK236.out) hb);have n2_:=Aside0.mk (u1a (g:=gb237) (o:=.cells #[.int .i64 0,.int .i64 0] 28 (0,0)) (by (with_reducible repeat (first | refine uc ?_ _ | refine ue ?_ | refine ub ?_ _));exact BK237.out) hb);have n3_:=Aside0.mk (u1a (g:=gb248) (o:=.cells #[.slice none 0 0,.int .i64 0,.int .u64 0] 25 (0,0)) (by (with_reducible repeat (first | refine uc ?_ _ | refine ue ?_ | refine ub ?_ _));exact BK248.out) hb);have n4_:=Aside0.mk (ux (by repeat (first | (with_reducible first | exact HB.out | apply uf | apply ua | apply ug | refine uh ?_ GE236.out | refine uh ?_ GE237.out | refine uh ?_ GE248.out) | exact HB.out)) hb);have n5_:=Aside0.mk (hbox);have n6_:=Aside0.mk ((by rw [hg];exact (uq (by repeat (first | (with_reducible first | exact HB.out | apply uf | apply ua | apply ug | refine uh ?_ GE236.out | refine uh ?_ GE237.out | refine uh ?_ GE248.out) | exact HB.out))):w.heap.size ≤ gb249));have n7_:=Aside0.mk ((by rw [hg];exact (uq (by repeat (first | (with_reducible first | exact HB.out | apply uf | apply ua | apply ug | refine uh ?_ GE236.out | refine uh ?_ GE237.out | refine uh ?_ GE248.out) | exact HB.out))):w.heap.size ≤ gb249));have n8_:=Aside0.mk ((by rw [hg];exact Nat.ne_of_lt (u2d (g:=gb236) (o:=.cells #[.slice none 0 0,.int .i64 0,.int .u64 0] 25 (0,0)) (by (with_reducible repeat (first | refine uc ?_ _ | refine ue ?_ | refine ub ?_ _));exact BK236.out)):gb236 ≠ gb249));have n9_:=Aside0.mk ((by rw [hg];exact Nat.ne_of_gt (u2d (g:=gb236) (o:=.cells #[.slice none 0 0,.int .i64 0,.int .u64 0] 25 (0,0)) (by (with_reducible repeat (first | refine uc ?_ _ | refine ue ?_ | refine ub ?_ _));exact BK236.out)):gb249 ≠ gb236));have n10_:=Aside0.mk ((by rw [hg];exact Nat.ne_of_lt (u2d (g:=gb237) (o:=.cells #[.int .i64 0,.int .i64 0] 28 (0,0)) (by (with_reducible repeat (first | refine uc ?_ _ | refine ue ?_ | refine ub ?_ _));exact BK237.out)):gb237 ≠ gb249));have n11_:=Aside0.mk ((by rw [hg];exact Nat.ne_of_gt (u2d (g:=gb237) (o:=.cells #[.int .i64 0,.int .i64 0] 28 (0,0)) (by (with_reducible repeat (first | refine uc ?_ _ | refine ue ?_ | refine ub ?_ _));exact BK237.out)):gb249 ≠ gb237));have n12_:=Aside0.mk ((by rw [hg];exact Nat.ne_of_lt (u2d (g:=gb248) (o:=.cells #[.slice none 0 0,.int .i64 0,.int .u64 0] 25 (0,0)) (by (with_reducible repeat (first | refine uc ?_ _ | refine ue ?_ | refine ub ?_ _));exact BK248.out)):gb248 ≠ gb249));have n13_:=Aside0.mk ((by rw [hg];exact Nat.ne_of_gt (u2d (g:=gb248) (o:=.cells #[.slice none 0 0,.int .i64 0,.int .u64 0] 25 (0,0)) (by (with_reducible repeat (first | refine uc ?_ _ | refine ue ?_ | refine ub ?_ _));exact BK248.out)):gb249 ≠ gb248));clear HO240;clear BK236;clear BK237;clear BK248;clear HB;have HO240:=n0_;have BK236:=n1_;have BK237:=n2_;have BK248:=n3_;have HB:=n4_;have BK249:=n5_;have GW249:=n6_;have GE249:=n7_;have NB236_249:=n8_;have NB249_236:=n9_;have NB237_249:=n10_;have NB249_237:=n11_;have NB248_249:=n12_;have NB249_248:=n13_;clear n0_ n1_ n2_ n3_ n4_ n5_ n6_ n7_ n8_ n9_ n10_ n11_ n12_ n13_;clear hb hbox hg;obtain ⟨Ao9,co9,eo9⟩:=Kd.R_slice HO240.out;subst eo9;have hnb10:=NB248_236.out;have hnc10:=NB236_248.out;have hnb11:=NB248_237.out;have hnc11:=NB237_248.out;have hnb12:=NB248_249.out;have hnc12:=NB249_248.out;have hcz13_0:w8.cell? ⟨gb248,0,none⟩ = some (.slice none 0 0):=(uj BK248.out 0).trans rfl;have hcz13_1:w8.cell? ⟨gb248,1,none⟩ = some (.int .i64 0):=(uj BK248.out 1).trans rfl;have hcz13_2:w8.cell? ⟨gb248,2,none⟩ = some (.int .u64 0):=(uj BK248.out 2).trans rfl;have hfz13_0:=ui BK248.out 0;have hfz13_1:=ui BK248.out 1;have hfz13_2:=ui BK248.out 2;have hnb14:=NB249_236.out;have hnc14:=NB236_249.out;have hnb15:=NB249_237.out;have hnc15:=NB237_249.out;have hcz16_0:w8.cell? ⟨gb249,0,none⟩ = some (.string (⟨#[]⟩:ByteArray)):=(uj BK249.out 0).trans rfl;have hcz16_1:w8.cell? ⟨gb249,1,none⟩ = some (.string (⟨#[]⟩:ByteArray)):=(uj BK249.out 1).trans rfl;have hcz16_2:w8.cell? ⟨gb249,2,none⟩ = some (.string (⟨#[]⟩:ByteArray)):=(uj BK249.out 2).trans rfl;have hfz16_0:=ui BK249.out 0;have hfz16_1:=ui BK249.out 1;have hfz16_2:=ui BK249.out 2;have hnb17:=NB236_237.out;have hnc17:=NB237_236.out;have hcz18_0:w8.cell? ⟨gb236,0,none⟩ = some (.slice none 0 0):=(uj BK236.out 0).trans rfl;have hcz18_1:w8.cell? ⟨gb236,1,none⟩ = some (.int .i64 0):=(uj BK236.out 1).trans rfl;have hcz18_2:w8.cell? ⟨gb236,2,none⟩ = some (.int .u64 0):=(uj BK236.out 2).trans rfl;have hfz18_0:=ui BK236.out 0;have hfz18_1:=ui BK236.out 1;have hfz18_2:=ui BK236.out 2;have hcz19_0:w8.cell? ⟨gb237,0,none⟩ = some (.int .i64 0):=(uj BK237.out 0).trans rfl;have hcz19_1:w8.cell? ⟨gb237,1,none⟩ = some (.int .i64 0):=(uj BK237.out 1).trans rfl;have hfz19_0:=ui BK237.out 0;have hfz19_1:=ui BK237.out 1))
 refine bodyPost_ret (results_list (rs:=[.cell 4 25,.tmp 5,.cell 6 28]) rfl (by simp) (.cell gb236 25 #[.slice Ao9 t238.length co9,.int .i64 t241,.int .u64 t242] (0,0) _ rfl (by (with_reducible repeat (first | refine uc ?_ _ | refine ue ?_ | refine ub ?_ _));refine u1d ?_ NB236_237.out _;(with_reducible repeat (first | refine uc ?_ _ | refine ue ?_ | refine ub ?_ _));refine u1d ?_ NB236_237.out _;(with_reducible repeat (first | refine uc ?_ _ | refine ue ?_ | refine ub ?_ _));refine u1m (cs:=#[.slice Ao9 t238.length co9,.int .i64 t241,.int .u64 0]) ?_ 2 _ rfl;(with_reducible repeat (first | refine uc ?_ _ | refine ue ?_ | refine ub ?_ _));refine u1m (cs:=#[.slice Ao9 t238.length co9,.int .i64 0,.int .u64 0]) ?_ 1 _ rfl;(with_reducible repeat (first | refine uc ?_ _ | refine ue ?_ | refine ub ?_ _));refine u1m (cs:=#[.slice none 0 0,.int .i64 0,.int .u64 0]) ?_ 0 _ rfl;(with_reducible repeat (first | refine uc ?_ _ | refine ue ?_ | refine ub ?_ _));refine u1d ?_ NB236_249.out _;(with_reducible repeat (first | refine uc ?_ _ | refine ue ?_ | refine ub ?_ _));refine u1d ?_ NB236_249.out _;(with_reducible repeat (first | refine uc ?_ _ | refine ue ?_ | refine ub ?_ _));refine u1d ?_ NB236_249.out _;(with_reducible repeat (first | refine uc ?_ _ | refine ue ?_ | refine ub ?_ _));refine u1d ?_ NB236_248.out _;(with_reducible repeat (first | refine uc ?_ _ | refine ue ?_ | refine ub ?_ _));refine u1d ?_ NB236_248.out _;(with_reducible repeat (first | refine uc ?_ _ | refine ue ?_ | refine ub ?_ _));refine u1d ?_ NB236_248.out _;(with_reducible repeat (first | refine uc ?_ _ | refine ue ?_ | refine ub ?_ _));exact BK236.out) Tryd.underlying25 rfl (by kernel_rfl) (.tmp (.cell gb237 28 #[.int .i64 t247,.int .i64 0] (0,0) _ rfl (by (with_reducible repeat (first | refine uc ?_ _ | refine ue ?_ | refine ub ?_ _));refine u1m (cs:=#[.int .i64 t247,.int .i64 0]) ?_ 1 _ rfl;(with_reducible repeat (first | refine uc ?_ _ | refine ue ?_ | refine ub ?_ _));refine u1m (cs:=#[.int .i64 0,.int .i64 0]) ?_ 0 _ rfl;(with_reducible repeat (first | refine uc ?_ _ | refine ue ?_ | refine ub ?_ _));refine u1d ?_ NB237_236.out _;(with_reducible repeat (first | refine uc ?_ _ | refine ue ?_ | refine ub ?_ _));refine u1d ?_ NB237_236.out _;(with_reducible repeat (first | refine uc ?_ _ | refine ue ?_ | refine ub ?_ _));refine u1d ?_ NB237_236.out _;(with_reducible repeat (first | refine uc ?_ _ | refine ue ?_ | refine ub ?_ _));refine u1d ?_ NB237_249.out _;(with_reducible repeat (first | refine uc ?_ _ | refine ue ?_ | refine ub ?_ _));refine u1d ?_ NB237_249.out _;(with_reducible repeat (first | refine uc ?_ _ | refine ue ?_ | refine ub ?_ _));refine u1d ?_ NB237_249.out _;(with_reducible repeat (first | refine uc ?_ _ | refine ue ?_ | refine ub ?_ _));refine u1d ?_ NB237_248.out _;(with_reducible repeat (first | refine uc ?_ _ | refine ue ?_ | refine ub ?_ _));refine u1d ?_ NB237_248.out _;(with_reducible repeat (first | refine uc ?_ _ | refine ue ?_ | refine ub ?_ _));refine u1d ?_ NB237_248.out _;(with_reducible repeat (first | refine uc ?_ _ | refine ue ?_ | refine ub ?_ _));exact BK237.out) Tryd.underlying28 rfl (by kernel_rfl) .nil)))) rfl ?_
 exact ⟨_,by first | rfl | (simp [u1j,u1i] <;> rfl) | (simp [*,u1j,u1i] <;> rfl),by (with_reducible repeat (first | apply Kd.R_alloc | apply Kd.R_drewN | apply Kd.R_drew));exact Kd.R_mono (Kd.R_far (p:=⟨gb237,1,none⟩) (Kd.R_far (p:=⟨gb237,0,none⟩) (Kd.R_far (p:=⟨gb236,2,none⟩) (Kd.R_far (p:=⟨gb236,1,none⟩) (Kd.R_far (p:=⟨gb236,0,none⟩) (Kd.R_far (p:=⟨gb249,2,none⟩) (Kd.R_far (p:=⟨gb249,1,none⟩) (Kd.R_far (p:=⟨gb249,0,none⟩) (Kd.R_far (p:=⟨gb248,2,none⟩) (Kd.R_far (p:=⟨gb248,1,none⟩) (Kd.R_far (p:=⟨gb248,0,none⟩) (Kd.R_types (Kd.R_types (Kd.R_types (Kd.R_types HO240.out BK248.out (by decide)) BK249.out (by decide)) BK236.out (by decide)) BK237.out (by decide)) (fun _ hk => hk.1.1.1.2) (.slice Ao9 t238.length co9)) (fun _ hk => hk.1.1.1.2) (.int .i64 t241)) (fun _ hk => hk.1.1.1.2) (.int .u64 t242)) (fun _ hk => hk.1.1.2) (.string t244)) (fun _ hk => hk.1.1.2) (.string t245)) (fun _ hk => hk.1.1.2) (.string t246)) (fun _ hk => hk.1.2) (.slice Ao9 t238.length co9)) (fun _ hk => hk.1.2) (.int .i64 t241)) (fun _ hk => hk.1.2) (.int .u64 t242)) (fun _ hk => hk.2) (.int .i64 t247)) (fun _ hk => hk.2) (.int .i64 0)) (fun _ hk => trivial),by repeat (first | (with_reducible first | exact HB.out | apply uf | apply ua | apply ug | refine uh ?_ GE236.out | refine uh ?_ GE237.out | refine uh ?_ GE248.out | refine uh ?_ GE249.out) | exact HB.out)⟩
end Go.Proofs.YtmcpeifhapekoaaDoor.PAll
namespace Go.Proofs.YtmcpeifhapekoaaDoor.Tx
open Go.RowKit Go.Proofs.YtmcpeifhapekoaaDoor.PAll Go.Proofs.YtmcpeifhapekoaaDoorW.PrintWords Go.Proofs.YtmcpeifhapekoaaDoorW.PrintLast
open Go.Proofs.YtmcpeifhapekoaaDoor.Laws (okFrom canB wrap_up at_byte no_byte word_ev)
set_option linter.unusedVariables false
set_option linter.unusedSimpArgs false
theorem plain_l0 (s:B8) (hs:s.length ≤ 1000):∀ (r:B8) (i:Nat),s.drop i = r → i ≤ s.length → Ev (fun k => u2g.l0 k (Base.ofL s) (i:Int)) (plainL r)
 | [],i,h,hi => by
   have h2:s.length ≤ i:=by
    have:=List.drop_eq_nil_iff.1 h
    omega
   refine Ev.step (f:=fun _ => some true) (fun k => ?_) (Ev.now _)
   simp only [u2g.l0]
   rw [if_neg (by rw [sz];omega)]
 | c :: r,i,h,hi => by
   obtain ⟨hlt,hbt,hr⟩:=at_byte (Base.ofL s) i c r (by rw [Base.ofL_data];exact h)
   rw [Base.ofL_data] at hr
   rw [sz] at hlt
   have hw:=wrap_up i (by omega)
   have ih:=plain_l0 s hs r (i + 1) hr (by omega)
   have hstep:∀ k,u2g.l0 (k + 1) (Base.ofL s) (i:Int) = if (c.toNat:Int) < 32 then some false else u2g.l0 k (Base.ofL s) ((i + 1:Nat):Int):=fun k => by
    simp only [u2g.l0]
    rw [if_pos (by rw [sz];omega),if_pos (by omega),hbt,hw]
   refine Ev.step hstep ?_
   unfold plainL at ih ⊢
   rw [List.all_cons]
   by_cases hb:32 ≤ c.toNat
   · rw [decide_eq_true hb,Bool.true_and]
     exact Ev.congr (fun k => if_neg (by omega)) ih
   · rw [decide_eq_false hb,Bool.false_and]
     exact Ev.congr (f:=fun _ => some false) (fun k => if_pos (by omega)) (Ev.now _)
theorem plain_ev (s:B8) (hs:s.length ≤ 1000):Ev (fun k => u2g.f k (Base.ofL s)) (plainL s):=plain_l0 s hs s 0 rfl (by omega)
theorem kind_l0 (s:B8) (L:List B8) (hL:L.length ≤ 1000):∀ (r:List B8) (i:Nat),L.drop i = r → i ≤ L.length → Ev (fun k => u2i.l0 k (Base.ofL s) (L.map Base.ofL) (L.length:Int) (i:Int)) (r.contains s)
 | [],i,h,hi => by
   have h2:L.length ≤ i:=by
    have:=List.drop_eq_nil_iff.1 h
    omega
   refine Ev.step (f:=fun _ => some false) (fun k => ?_) (Ev.now _)
   simp only [u2i.l0]
   rw [if_neg (by omega)]
 | c :: r,i,h,hi => by
   have hlt:i < L.length:=by
    rcases Nat.lt_or_ge i L.length with h1 | h1
    · exact h1
    · rw [List.drop_eq_nil_of_le h1] at h
      cases h
   rw [List.drop_eq_getElem_cons hlt] at h
   obtain ⟨h1,h2⟩:=List.cons.inj h
   have hrd:(rdOf ByteArray.empty (L.map Base.ofL) (i:Int)).toList = c:=by
    unfold rdOf
    rw [Int.toNat_natCast,List.getD_eq_getElem?_getD,List.getElem?_map,List.getElem?_eq_getElem hlt,h1]
    exact tl_ofL c
   have hw:=wrap_up i (by omega)
   have ih:=kind_l0 s L hL r (i + 1) h2 (by omega)
   have hstep:∀ k,u2i.l0 (k + 1) (Base.ofL s) (L.map Base.ofL) (L.length:Int) (i:Int) = if s = c then some true else u2i.l0 k (Base.ofL s) (L.map Base.ofL) (L.length:Int) ((i + 1:Nat):Int):=fun k => by
    simp only [u2i.l0]
    rw [if_pos (by omega),if_pos (by omega),if_pos (by rw [List.length_map];omega),hrd,tl_ofL,hw]
   refine Ev.step hstep ?_
   rw [List.contains_cons]
   by_cases hb:s = c
   · rw [beq_iff_eq.2 hb,Bool.true_or]
     exact Ev.congr (f:=fun _ => some true) (fun k => if_pos hb) (Ev.now _)
   · rw [beq_eq_false_iff_ne.2 hb,Bool.false_or]
     exact Ev.congr (fun k => if_neg hb) ih
theorem kind_ev (s:B8):Ev (fun k => u2i.f k (Base.ofL s)) (knownL s):=kind_l0 s kinds (by decide) kinds 0 rfl (by decide)
def SaysM (g:Nat → Option (ByteArray × ByteArray × ByteArray × Bool)) (o:Option Me):Prop:=match o with
 | some m => Ev g (m.1,m.2.1,m.2.2,true)
 | none => ∃ (a b c:ByteArray),Ev g (a,b,c,false)
theorem SaysM.congr {g f:Nat → Option (ByteArray × ByteArray × ByteArray × Bool)} {o:Option Me} (h:∀ k,g k = f k) (hf:SaysM f o):SaysM g o:=by
 rw [show g = f from funext h]
 exact hf
theorem SaysM.step {g f:Nat → Option (ByteArray × ByteArray × ByteArray × Bool)} {o:Option Me} (h:∀ k,g (k + 1) = f k) (hf:SaysM f o):SaysM g o:=by
 cases o with
 | some r => exact Ev.step h hf
 | none =>
   obtain ⟨a,b,c,hf⟩:=hf
   exact ⟨a,b,c,Ev.step h hf⟩
theorem SaysM.bind {α:Type} {g:Nat → Option α} {f:Nat → α → Option (ByteArray × ByteArray × ByteArray × Bool)} {x:α} {o:Option Me} (hg:Ev g x) (hf:SaysM (fun k => f k x) o):SaysM (fun k => (g k).bind (f k)) o:=by
 cases o with
 | some r => exact Ev.bind hg hf
 | none =>
   obtain ⟨a,b,c,hf⟩:=hf
   exact ⟨a,b,c,Ev.bind hg hf⟩
theorem remark_j1no (x4:Bool) (a b:ByteArray) (x:Bool) (hx:x = true):SaysM (fun k => uo.j1 k x4 a b x) none:=by
 subst hx
 exact ⟨⟨#[]⟩,⟨#[]⟩,⟨#[]⟩,Ev.step (f:=fun _ => some (⟨#[]⟩,⟨#[]⟩,⟨#[]⟩,false)) (fun k => by simp only [uo.j1,if_true]) (Ev.now _)⟩
theorem remark_j1 (help:Bool) (a:ByteArray) (q:B8) (hq:q.length ≤ 999) (x:Bool) (hx:x = false):SaysM (fun k => uo.j1 k help a (Base.ofL (32 :: q)) x) (if help = true then (if plainL q = true then some (a,Base.ofL [],Base.ofL q) else none) else if knownL q = true then some (a,Base.ofL q,Base.ofL []) else none):=by
 subst hx
 obtain ⟨f1,f2,f3,f4⟩:=first_of 32 q (by omega)
 cases help with
 | true =>
   rw [if_pos rfl]
   have hp:=plain_ev (32 :: q) (by rw [List.length_cons];omega)
   have e:plainL (32 :: q) = plainL q:=by
    unfold plainL
    rw [List.all_cons]
    rfl
   rw [e] at hp
   refine SaysM.step (f:=fun k => (u2g.f k (Base.ofL (32 :: q))).bind fun t121 => (some (a,(⟨#[]⟩:ByteArray),Base.ofL q,t121))) (fun k => ?_) (SaysM.bind hp ?_)
   · simp only [uo.j1,Bool.false_eq_true,if_false,if_true]
     rw [if_pos f1,f4]
   · by_cases h:plainL q = true
     · rw [if_pos h,h]
       exact Ev.now _
     · rw [if_neg h,show plainL q = false by simpa using h]
       exact ⟨_,_,_,Ev.now _⟩
 | false =>
   rw [if_neg (by decide)]
   have hp:=kind_ev q
   refine SaysM.step (f:=fun k => (u2i.f k (Base.ofL q)).bind fun t122 => (some (a,Base.ofL q,(⟨#[]⟩:ByteArray),t122))) (fun k => ?_) (SaysM.bind hp ?_)
   · simp only [uo.j1,Bool.false_eq_true,if_false]
     rw [if_pos f1,f4]
   · by_cases h:knownL q = true
     · rw [if_pos h,h]
       exact Ev.now _
     · rw [if_neg h,show knownL q = false by simpa using h]
       exact ⟨_,_,_,Ev.now _⟩
theorem remark_j0 (help:Bool) (s:B8) (hs:s.length ≤ 1000) (h7:7 ≤ s.length) (x:Bool) (hx:x = false):SaysM (fun k => uo.j0 k (Base.ofL s) help x) ((nameP (s.drop 7)).bind fun p => (expectP [32] p.2).bind fun r => if help = true then (if plainL r = true then some (p.1,Base.ofL [],Base.ofL r) else none) else if knownL r = true then some (p.1,Base.ofL r,Base.ofL []) else none):=by
 subst hx
 have hd:(s.drop 7).length ≤ s.length:=by
  rw [List.length_drop]
  omega
 have hw:=rword_ev (s.drop 7) (by omega)
 have htl:=tw_le wordC (s.drop 7)
 have hdl:=dw_len wordC (s.drop 7)
 have hn:=Laws.rname_ev (Base.ofL ((s.drop 7).takeWhile wordC)) (by rw [sz];omega)
 have hbg:ut.f (Base.ofL ((s.drop 7).dropWhile wordC)) (⟨#[32]⟩:ByteArray) = some (([32]:B8).isPrefixOf ((s.drop 7).dropWhile wordC)):=begins_is [32] _
 refine SaysM.step (f:=fun k => (u1t.f k (Base.ofL (s.drop 7))).bind fun bt117 => ((uy.f k bt117.1).bind fun t119 => (if t119 = true then ((ut.f bt117.2 (⟨#[32]⟩:ByteArray)).bind fun t120 => (uo.j1 k help bt117.1 bt117.2 (!t120))) else (uo.j1 k help bt117.1 bt117.2 true)))) (fun k => ?_) (SaysM.bind hw (SaysM.bind hn ?_))
 · simp only [uo.j0,Bool.false_eq_true,if_false]
   rw [if_pos (by rw [sz];omega),exr s 7 h7]
 · simp only
   unfold nameP
   by_cases h1:Base.nameB (Base.ofL ((s.drop 7).takeWhile wordC)) = true
   · rw [if_pos h1]
     simp only [Option.bind_some]
     refine SaysM.congr (fun k => if_pos h1) ?_
     rw [hbg]
     simp only [Option.bind_some]
     rcases pre1 32 ((s.drop 7).dropWhile wordC) with ⟨q,hq,hp⟩ | ⟨hp,hne⟩
     · have hql:q.length + 1 ≤ s.length:=by
        rw [hq,List.length_cons] at hdl
        omega
       rw [hp,hq,expect_cons,if_pos rfl]
       exact remark_j1 help _ q (by omega) _ rfl
     · rw [hp]
       have e:expectP [32] ((s.drop 7).dropWhile wordC) = none:=by
        unfold expectP
        rw [hp]
        rfl
       rw [e]
       exact remark_j1no _ _ _ _ rfl
   · rw [if_neg h1]
     exact SaysM.congr (fun k => if_neg h1) (remark_j1no _ _ _ _ rfl)
theorem pre_len {p s:B8} (h:p.isPrefixOf s = true):p.length ≤ s.length:=List.IsPrefix.length_le (List.isPrefixOf_iff_prefix.1 h)
theorem not_both {s:B8} (h:helpW.isPrefixOf s = true):typeW.isPrefixOf s = false:=by
 cases e:typeW.isPrefixOf s with
 | false => rfl
 | true =>
   have h1:=List.prefix_iff_eq_take.1 (List.isPrefixOf_iff_prefix.1 h)
   have h2:=List.prefix_iff_eq_take.1 (List.isPrefixOf_iff_prefix.1 e)
   rw [show helpW.length = typeW.length from rfl] at h1
   rw [← h2] at h1
   exact absurd h1 (by decide)
theorem remark_says (s:B8) (hs:s.length ≤ 1000):SaysM (fun k => uo.f k (Base.ofL s)) (remarkP s):=by
 have h1:ut.f (Base.ofL s) (⟨#[35,32,72,69,76,80,32]⟩:ByteArray) = some (helpW.isPrefixOf s):=begins_is helpW s
 have h2:ut.f (Base.ofL s) (⟨#[35,32,84,89,80,69,32]⟩:ByteArray) = some (typeW.isPrefixOf s):=begins_is typeW s
 have e:∀ k,uo.f k (Base.ofL s) = if helpW.isPrefixOf s = true then uo.j0 k (Base.ofL s) (helpW.isPrefixOf s) false else uo.j0 k (Base.ofL s) (helpW.isPrefixOf s) (!typeW.isPrefixOf s):=fun k => by
  unfold uo.f
  rw [h1,h2]
  rfl
 refine SaysM.congr e ?_
 unfold remarkP
 by_cases hh:helpW.isPrefixOf s = true
 · have ht:=not_both hh
   have hl:7 ≤ s.length:=pre_len hh
   refine SaysM.congr (fun k => if_pos hh) ?_
   rw [ht,hh]
   simp only [Bool.true_or,if_true,Bool.false_eq_true,if_false]
   have h3:=remark_j0 true s hs hl _ rfl
   simp only [if_true] at h3
   exact h3
 · have hh':helpW.isPrefixOf s = false:=(Bool.eq_false_iff.2 hh)
   refine SaysM.congr (fun k => if_neg hh) ?_
   rw [hh']
   by_cases ht:typeW.isPrefixOf s = true
   · have hl:7 ≤ s.length:=pre_len ht
     rw [ht]
     simp only [Bool.false_or,if_true]
     have h3:=remark_j0 false s hs hl _ rfl
     simp only [Bool.false_eq_true,if_false] at h3
     exact h3
   · have ht':typeW.isPrefixOf s = false:=Bool.eq_false_iff.2 ht
     rw [ht']
     refine Ev.step (f:=fun _ => some ((⟨#[]⟩:ByteArray),(⟨#[]⟩:ByteArray),(⟨#[]⟩:ByteArray),true)) (fun k => ?_) (Ev.now _)
     simp only [uo.j0,Bool.not_false,if_true]
def labO (o:Option Rw):List Lb:=match o with | none => [] | some r => r.f0
def timO (o:Option Rw):Int:=match o with | none => 0 | some r => r.f1
def valO (o:Option Rw):Int:=match o with | none => 0 | some r => r.f2
def anyO (x:Option Rw × Me × Int):List Lb × Int × Int × Bool × ByteArray × ByteArray × ByteArray × Int:=(labO x.1,timO x.1,valO x.1,x.1.isSome,x.2.1.1,x.2.1.2.1,x.2.1.2.2,x.2.2)
def restOf (s:B8) (now:Int):Option Rw × Me × Int:=match s with
 | 35 :: _ => (match remarkP s with | none => (none,me0,280) | some m => (none,m,0))
 | _ => if s.all blankC = true then (none,me0,0) else match sampleP canB s now with | none => (none,me0,280) | some r => (some r,me0,0)
theorem read_is (s:B8) (now:Int):readP canB s now = if s.length > 1000 then (none,me0,4) else if s.contains 10 = true then (none,me0,280) else restOf s now:=rfl
theorem all_dw (p:UInt8 → Bool):∀ s:B8,s.all p = true ↔ s.dropWhile p = []
 | [] => by simp
 | c :: s => by
   rw [List.all_cons,List.dropWhile_cons,Bool.and_eq_true]
   by_cases hc:p c = true
   · rw [if_pos hc,all_dw p s]
     exact ⟨fun h => h.2,fun h => ⟨hc,h⟩⟩
   · rw [if_neg hc]
     exact ⟨fun h => absurd h.1 hc,fun h => by cases h⟩
def tailF (k:Nat) (s:ByteArray) (now:Int):Option ((List Lb) × Int × Int × Bool × ByteArray × ByteArray × ByteArray × Int):=((ut.f s (⟨#[35]⟩:ByteArray)).bind fun t221 => (if t221 = true then ((uo.f k s).bind fun bt222 => (if bt222.2.2.2 = true then (some (([]:List Lb),0,0,false,bt222.1,bt222.2.1,bt222.2.2.1,0)) else (some (([]:List Lb),0,0,false,(⟨#[]⟩:ByteArray),(⟨#[]⟩:ByteArray),(⟨#[]⟩:ByteArray),280)))) else ((u1e.f k s).bind fun bt227 => (if bt227.1.toList = ([]:List UInt8) then (some (([]:List Lb),0,0,false,(⟨#[]⟩:ByteArray),(⟨#[]⟩:ByteArray),(⟨#[]⟩:ByteArray),0)) else ((un.f k s now).bind fun bt229 => (if bt229.2.2.2 = true then (some (bt229.1,bt229.2.1,bt229.2.2.1,true,(⟨#[]⟩:ByteArray),(⟨#[]⟩:ByteArray),(⟨#[]⟩:ByteArray),0)) else (some (([]:List Lb),0,0,false,(⟨#[]⟩:ByteArray),(⟨#[]⟩:ByteArray),(⟨#[]⟩:ByteArray),280))))))))
theorem tail_ev (s:B8) (hs:s.length ≤ 1000) (now:Int):Ev (fun k => tailF k (Base.ofL s) now) (anyO (restOf s now)):=by
 have h1:ut.f (Base.ofL s) (⟨#[35]⟩:ByteArray) = some (([35]:B8).isPrefixOf s):=begins_is [35] s
 unfold tailF
 rw [h1]
 simp only [Option.bind_some]
 rcases pre1 35 s with ⟨q,hq,hp⟩ | ⟨hp,hne⟩
 · rw [hp]
   refine Ev.congr (fun k => if_pos rfl) ?_
   have hr:=remark_says s hs
   have e:restOf s now = match remarkP s with | none => (none,me0,280) | some m => (none,m,0):=by
    rw [hq]
    rfl
   rw [e]
   cases hm:remarkP s with
   | none =>
     rw [hm] at hr
     obtain ⟨a,b,c,hr⟩:=hr
     exact Ev.bind hr (Ev.congr (fun k => if_neg (by simp)) (Ev.now _))
   | some m =>
     rw [hm] at hr
     exact Ev.bind hr (Ev.congr (fun k => if_pos rfl) (Ev.now _))
 · rw [hp]
   refine Ev.congr (fun k => if_neg (by decide)) ?_
   have e:restOf s now = (if s.all blankC = true then ((none,me0,0):Option Rw × Me × Int) else match sampleP canB s now with | none => (none,me0,280) | some r => (some r,me0,0)):=by
    unfold restOf
    split
    · exact absurd rfl (hne _)
    · rfl
   rw [e]
   refine Ev.bind (blanks_ev s hs) ?_
   simp only [tl_ofL]
   by_cases hb:s.dropWhile blankC = []
   · rw [if_pos ((all_dw blankC s).2 hb)]
     exact Ev.congr (fun k => if_pos hb) (Ev.now _)
   · rw [if_neg (fun h => hb ((all_dw blankC s).1 h))]
     refine Ev.congr (fun k => if_neg hb) ?_
     have hr:=sample_says s hs now
     cases hm:sampleP canB s now with
     | none =>
       rw [hm] at hr
       obtain ⟨a,b,c,hr⟩:=hr
       exact Ev.bind hr (Ev.congr (fun k => if_neg (by simp)) (Ev.now _))
     | some m =>
       rw [hm] at hr
       exact Ev.bind hr (Ev.congr (fun k => if_pos rfl) (Ev.now _))
theorem any_l0 (s:B8) (hs:s.length ≤ 1000) (now:Int):∀ (r:B8) (i:Nat),s.drop i = r → i ≤ s.length → Ev (fun k => u2j.l0 k (Base.ofL s) now (i:Int)) (anyO (if r.contains 10 = true then (none,me0,280) else restOf s now))
 | [],i,h,hi => by
   have h2:s.length ≤ i:=by
    have:=List.drop_eq_nil_iff.1 h
    omega
   refine Ev.step (f:=fun k => tailF k (Base.ofL s) now) (fun k => ?_) (tail_ev s hs now)
   simp only [u2j.l0]
   rw [if_neg (by rw [sz];omega)]
   rfl
 | c :: r,i,h,hi => by
   obtain ⟨hlt,hbt,hr⟩:=at_byte (Base.ofL s) i c r (by rw [Base.ofL_data];exact h)
   rw [Base.ofL_data] at hr
   rw [sz] at hlt
   have hw:=wrap_up i (by omega)
   have ih:=any_l0 s hs now r (i + 1) hr (by omega)
   have hstep:∀ k,u2j.l0 (k + 1) (Base.ofL s) now (i:Int) = if (c.toNat:Int) = 10 then some (anyO (none,me0,280)) else u2j.l0 k (Base.ofL s) now ((i + 1:Nat):Int):=fun k => by
    simp only [u2j.l0]
    rw [if_pos (by rw [sz];omega),if_pos (by omega),hbt,hw]
    rfl
   refine Ev.step hstep ?_
   rw [List.contains_cons]
   by_cases hb:c = 10
   · refine Ev.congr (f:=fun _ => some (anyO (none,me0,280))) (fun k => if_pos ((byte_eq c 10 10 rfl).2 hb)) ?_
     rw [if_pos (by rw [hb];rfl)]
     exact Ev.now _
   · refine Ev.congr (fun k => if_neg (fun e => hb ((byte_eq c 10 10 rfl).1 e))) ?_
     rw [beq_eq_false_iff_ne.2 (fun e => hb e.symm),Bool.false_or]
     exact ih
theorem any_ev (s:B8) (now:Int):Ev (fun k => u2j.f k (Base.ofL s) now) (anyO (readP canB s now)):=by
 rw [read_is]
 by_cases h:s.length > 1000
 · rw [if_pos h]
   refine Ev.congr (f:=fun _ => some (anyO (none,me0,4))) (fun k => ?_) (Ev.now _)
   unfold u2j.f
   rw [if_pos (by rw [sz];omega)]
   rfl
 · rw [if_neg h]
   refine Ev.congr (f:=fun k => u2j.l0 k (Base.ofL s) now ((0:Nat):Int)) (fun k => ?_) (any_l0 s (by omega) now s 0 rfl (by omega))
   unfold u2j.f
   rw [if_neg (by rw [sz];omega)]
   rfl
theorem rline_ev (s:B8) (now:Int):Ev (fun k => u3b.f k (Base.ofL s) now) (labO (readP canB s now).1,timO (readP canB s now).1,valO (readP canB s now).1,(readP canB s now).1.isSome,(readP canB s now).2.2,0):=by
 refine Ev.congr (f:=fun k => (u2j.f k (Base.ofL s) now).bind fun bt238 => (some (bt238.1,bt238.2.1,bt238.2.2.1,bt238.2.2.2.1,bt238.2.2.2.2.2.2.2,0))) (fun k => rfl) (Ev.bind (any_ev s now) ?_)
 exact Ev.now _
end Go.Proofs.YtmcpeifhapekoaaDoor.Tx
