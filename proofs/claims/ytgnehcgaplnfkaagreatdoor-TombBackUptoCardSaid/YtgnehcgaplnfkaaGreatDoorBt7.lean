/- Texts of this seat, joined in the order in which they build. -/
import Derived.Test.YtgnehcgaplnfkaaGreatDoorBt1
import Derived.Test.YtgnehcgaplnfkaaGreatDoorBt3
import Derived.Test.YtgnehcgaplnfkaaGreatDoorBt6
import Derived.Test.YtgnehcgaplnfkaaGreatDoorBt2
import Derived.Test.YtgnehcgaplnfkaaGreatDoorGx55Bt
import Derived.Test.YtgnehcgaplnfkaaGreatDoorGx44Bt
import Derived.Test.YtgnehcgaplnfkaaGreatDoorBt5
import Derived.Lib.IndexLaws
import Derived.Test.YtgnehcgaplnfkaaGreatDoorBt4
namespace Go.Proofs.YtgnehcgaplnfkaaGreatDoor.PAll
open Go.RowKit Go.Proofs.YtgnehcgaplnfkaaGreatDoorW.PrintWords Go.Proofs.YtgnehcgaplnfkaaGreatDoorW.PrintLast Go.Proofs.YtgnehcgaplnfkaaGreatDoorW.PrintMore
attribute [local go_sem] u3r u3t u4c u4b u3n u3o u3u u3s
set_option linter.unusedVariables false
set_option linter.unusedSimpArgs false
abbrev u1u.Rw:=S59
def u1u.put8 (n:Int):List Int:=u1b.put (IntKind.u64.wrap n) 8
noncomputable def u1u.rowsE (k:Nat):List u1u.Rw → Option (List Int)
 | [] => some []
 | x :: r => (u1m.f k x.f0).bind fun e => (u1u.rowsE k r).map fun t => e.1 ++ (u1u.put8 x.f1 ++ (u1b.put x.f2 8 ++ t))
def u1u.lim (b:List Int):Option (List Int × Int):=if b.length ≤ 140737488355328 then some (b,0) else none
noncomputable def u1u.f (k:Nat) (a0:Int) (l1:List u1u.Rw) (l2:List S79) (a3 a4 a5:Int):Option (List Int × Int) :=
 (u3w.f k a0 l1 l2 a3 a4 a5).bind fun c => if c = true then (if a0 = 1 then (u1u.rowsE k l1).bind fun t => u1u.lim (1 :: (u1b.put (IntKind.u64.wrap (l1.length:Int)) 2 ++ t))
   else if a0 = 2 then (u2z.f k l2).bind fun m => u1u.lim (2 :: (m.1 ++ (u1u.put8 a3 ++ u1u.put8 a4)))
   else if a0 = 3 then u1u.lim (3 :: u1u.put8 a5) else none) else some ([],1)
def u2a.okB (p:ByteArray):Bool:=!uz.early p && uz.okN (Base.runesOf p)
def u2a.f (a0:ByteArray):Option Int:=if a0.size ≤ 35184372088830 then some (if u2a.okB a0 = true then 0 else 5) else none
set_option maxHeartbeats 4000000 in
theorem u2a.calls (p:ByteArray) (r:Int) (w:World) (h:u2a.f p = some r):Calls Tryz.prog 90 #[.string p] w fun e w' => e = .returned (.int .i64 r) ∧ Below w.heap.size w w':=by
 unfold u2a.f at h
 by_cases hs:p.size ≤ 35184372088830
 · rw [if_pos hs] at h
   obtain rfl:=Option.some.inj h
   clear h
   cases he:uz.early p with
   | true =>
     have HE:=Aside0.mk he
     rw [show u2a.okB p = false by unfold u2a.okB;rw [he];rfl,if_neg (by decide)]
     clear he
     go_enter Tryz.func90,Tryz.ntmps90
     go_wp2_with (go_at_call 97;(with_reducible refine (uz.early_calls p w hs HE.out).mono ?_);rintro e W1 ⟨rfl,hB1⟩;unfold uz.zn;have HB1:=Aside0.mk hB1;clear hB1)
     go_ret
     refine ⟨rfl,?_⟩
     repeat (first | exact HB1.out.alloc HB1.out.size _ | (refine Below.setCell ?_ HB1.out.size _))
   | false =>
     have HE:=Aside0.mk he
     obtain ⟨b,hb⟩:∃ b,Aside0 (uz.okN (Base.runesOf p) = b):=⟨_,⟨rfl⟩⟩
     rw [show u2a.okB p = b by unfold u2a.okB;rw [he,hb.out];rfl]
     clear he
     cases b with
     | true =>
       rw [if_pos rfl]
       go_enter Tryz.func90,Tryz.ntmps90
       go_wp2_with (go_at_call 97;(with_reducible refine (uz.full_calls p w HE.out).mono ?_);rintro e W1 ⟨⟨_,rfl,xk,xA,xn,xc,xb,xo,xB,xm,xd,rfl⟩,hB1⟩;rw [hb.out];have HB1:=Aside0.mk hB1;clear hB1)
       go_ret
       refine ⟨rfl,?_⟩
       repeat (first | exact HB1.out.alloc HB1.out.size _ | (refine Below.setCell ?_ HB1.out.size _))
     | false =>
       rw [if_neg (by decide)]
       go_enter Tryz.func90,Tryz.ntmps90
       go_wp2_with (go_at_call 97;(with_reducible refine (uz.full_calls p w HE.out).mono ?_);rintro e W1 ⟨⟨_,rfl,xk,xA,xn,xc,xb,xo,xB,xm,xd,rfl⟩,hB1⟩;rw [hb.out];have HB1:=Aside0.mk hB1;clear hB1)
       go_ret
       refine ⟨rfl,?_⟩
       repeat (first | exact HB1.out.alloc HB1.out.size _ | (refine Below.setCell ?_ HB1.out.size _))
 · rw [if_neg hs] at h
   cases h
mutual
def u1q.j0:Nat → Int → Bool → Int → ByteArray → ByteArray → Option (Bool)
 | 0,_,_,_,_,_ => none
 | k + 1,x8,x9,x108000,x108001,x108002 => if x9 = true then (if x108002.toList = ([]:List UInt8) then (some true) else ((u3q.f x108002).bind fun t109 => (some t109))) else (if x8 = 3 then (u1q.j1 k (x8 == 3) x108000 x108001 x108002) else (u1q.j1 k (x8 == 4) x108000 x108001 x108002))
def u1q.j1:Nat → Bool → Int → ByteArray → ByteArray → Option (Bool)
 | 0,_,_,_,_ => none
 | k + 1,x20,x108000,x108001,x108002 => if x20 = true then ((u2a.f x108002).bind fun t110 => (if t110 = 0 then ((u2y.f x108002).bind fun t111 => (some t111)) else (some false))) else (some false)
end
def u1q.f (k:Nat) (a0_0:Int) (a0_1:ByteArray) (a0_2:ByteArray):Option (Bool):=(u1o.f k a0_1).bind fun t108 => (if t108 = true then (if a0_0 = 1 then (u1q.j0 k a0_0 (a0_0 == 1) a0_0 a0_1 a0_2) else (u1q.j0 k a0_0 (a0_0 == 2) a0_0 a0_1 a0_2)) else (some false))
set_option maxHeartbeats 8000000 in
set_option maxRecDepth 100000 in
theorem u1q.calls (k:Nat) (a0_0:Int) (a0_1:ByteArray) (a0_2:ByteArray) (r:Bool) (w:World) (h:u1q.f k a0_0 a0_1 a0_2 = some r) :
 Calls Tryz.prog 71 #[.agg #[.int .i64 a0_0,.string a0_1,.string a0_2]] w fun e w' => e = .returned (.bool r) ∧ Below w.heap.size w w':=by
 have hu79:=Tryz.underlying79
 have HB:=Aside0.mk (Below.refl w.heap.size w)
 have H:((u1o.f k a0_1).bind fun t108 => (if t108 = true then (if a0_0 = 1 then (u1q.j0 k a0_0 (a0_0 == 1) a0_0 a0_1 a0_2) else (u1q.j0 k a0_0 (a0_0 == 2) a0_0 a0_1 a0_2)) else (some false))) = some r:=h
 clear h
 replace H:=Option.bind_eq_some_iff.mp H
 obtain ⟨t108,A20,H⟩:=H
 replace H:(if t108 = true then (if a0_0 = 1 then (u1q.j0 k a0_0 (a0_0 == 1) a0_0 a0_1 a0_2) else (u1q.j0 k a0_0 (a0_0 == 2) a0_0 a0_1 a0_2)) else (some false)) = some r:=H
 have A2:=Aside0.mk A20
 clear A20
 by_cases c3:t108 = true
 · subst c3
   have H1:(if a0_0 = 1 then (u1q.j0 k a0_0 (a0_0 == 1) a0_0 a0_1 a0_2) else (u1q.j0 k a0_0 (a0_0 == 2) a0_0 a0_1 a0_2)) = some r:=by rw [if_pos rfl] at H;exact H
   clear H
   have H:=H1
   clear H1
   have HC4:=Aside0.mk H
   clear H
   go_enter Tryz.func71,Tryz.ntmps71
   go_upto_if 9 with (first | ((with_reducible refine gate_dst (N:=1) rfl ?_);refine box_event ?hg (N:=1) ?hd (cs:=#[.int .i64 a0_0,.string a0_1,.string a0_2]) (t:=79) ?hr ?_;(case hd => rfl);(case hg => rfl);(case hr => first | (go_simp;done) | (go_simp;rfl));intro gb107 hg w5 hbox hb;have n0_:=Aside0.mk (u2o (by repeat (first | (with_reducible first | exact HB.out | apply uj | apply uh | apply uu) | exact HB.out)) hb);have n1_:=Aside0.mk (hbox);have n2_:=Aside0.mk ((by rw [hg];exact (u2k (by repeat (first | (with_reducible first | exact HB.out | apply uj | apply uh | apply uu) | exact HB.out))):w.heap.size ≤ gb107));have n3_:=Aside0.mk ((by rw [hg];exact (u2k (by repeat (first | (with_reducible first | exact HB.out | apply uj | apply uh | apply uu) | exact HB.out))):w.heap.size ≤ gb107));clear HB;have HB:=n0_;have BK107:=n1_;have GW107:=n2_;have GE107:=n3_;clear n0_ n1_ n2_ n3_;clear hb hbox hg;have hcz6_0:w5.cell? ⟨gb107,0,none⟩ = some (.int .i64 a0_0):=(uk BK107.out 0).trans rfl;have hcz6_1:w5.cell? ⟨gb107,1,none⟩ = some (.string a0_1):=(uk BK107.out 1).trans rfl;have hcz6_2:w5.cell? ⟨gb107,2,none⟩ = some (.string a0_2):=(uk BK107.out 2).trans rfl;have hfz6_0:=ut BK107.out 0;have hfz6_1:=ut BK107.out 1;have hfz6_2:=ut BK107.out 2) | ((with_reducible refine u4h (f:=69) rfl ?_);refine goesL_ (some 5) rfl rfl Tryz.func69 (by kernel_rfl) rfl #[.string a0_1] rfl (by (try simp only [List.map_toArray,List.map_cons,List.map_nil]);first | done | rfl | (simp only [List.length_drop,List.length_take];rfl)) ?_;(with_reducible refine (u1o.calls k a0_1 true _ A2.out).mono ?_);rintro e w' ⟨rfl,⟨nd,rfl⟩⟩;refine ⟨_,rfl,?_⟩))
   (try simp only [Act.put,List.setIfInBounds_toArray,List.set_cons_zero,List.set_cons_succ])
   go_cut [9] (fun v9 wc => ∃ (kq:Nat) (x9_3:Bool),v9 = .bool x9_3 ∧ Aside0 (u1q.j0 kq a0_0 x9_3 a0_0 a0_1 a0_2 = some r) ∧ Aside0 (kq ≤ k) ∧ Aside0 (wc.heap[gb107]? = some (.cells #[.int .i64 a0_0,.string a0_1,.string a0_2] 79 (0,0))) ∧ Aside0 (Below w.heap.size w wc))
   case first =>
    have H:=HC4.out
    clear HC4
    by_cases c7:a0_0 = 1
    · rw [if_pos c7] at H
      have c7b0:(a0_0 == 1) = true:=beq_iff_eq.mpr c7
      have c7b1:(a0_0 != 1) = false:=bne_eq_false_iff_eq.mpr c7
      clear c7
      (first | rw [c7b0] | (simp only [i64_w,i32_w];rw [c7b0]) | skip)
      have H':=Aside0.mk H
      clear H
      go_wp2
      go_meet
      case rel => exact ⟨_,((a0_0 == 1)),(by first | rfl | (simp;done) | (simp [*];done)),H',⟨by first | omega | exact Nat.le_refl _⟩,⟨by (with_reducible repeat (first | refine u2p ?_ _ | refine u2e ?_ | refine uo ?_ _));exact BK107.out⟩,⟨by repeat (first | (with_reducible first | exact HB.out | apply uj | apply uh | apply uu | refine u2r ?_ GE107.out) | exact HB.out)⟩⟩
    · rw [if_neg c7] at H
      have c7b0:(a0_0 == 1) = false:=beq_eq_false_iff_ne.mpr c7
      have c7b1:(a0_0 != 1) = true:=bne_iff_ne.mpr c7
      (first | rw [c7b0] | (simp only [i64_w,i32_w];rw [c7b0]) | skip)
      have H':=Aside0.mk H
      clear H
      go_wp2
      go_meet
      case rel => exact ⟨_,((a0_0 == 2)),(by first | rfl | (simp;done) | (simp [*];done)),H',⟨by first | omega | exact Nat.le_refl _⟩,⟨by (with_reducible repeat (first | refine u2p ?_ _ | refine u2e ?_ | refine uo ?_ _));exact BK107.out⟩,⟨by repeat (first | (with_reducible first | exact HB.out | apply uj | apply uh | apply uu | refine u2r ?_ GE107.out) | exact HB.out)⟩⟩
   case rest =>
    clear HC4
    try clear p2
    try clear c3
    try clear c6
    try clear c7
    try clear c7b0
    try clear c7b1
    try clear hcz6_0
    try clear hcz6_1
    try clear hcz6_2
    try clear hfz6_0
    try clear hfz6_1
    try clear hfz6_2
    obtain ⟨kq,x9_3,rfl,HA,HJ3,BK107,HB⟩:=hcut
    cases kq with
    | zero => exact absurd HA.out (by simp [u1q.j0])
    | succ kj3 =>
      have H:=HA.out
      clear HA
      simp only [u1q.j0] at H
      by_cases c8:x9_3 = true
      · subst c8
        have H1:(if a0_2.toList = ([]:List UInt8) then (some true) else ((u3q.f a0_2).bind fun t109 => (some t109))) = some r:=by rw [if_pos rfl] at H;exact H
        clear H
        have H:=H1
        clear H1
        by_cases c9:a0_2.toList = ([]:List UInt8)
        · rw [if_pos c9] at H
          have c9b0:(a0_2.toList == ([]:List UInt8)) = true:=beq_iff_eq.mpr c9
          have c9b1:(a0_2.toList != ([]:List UInt8)) = false:=bne_eq_false_iff_eq.mpr c9
          clear c9
          obtain rfl:=Option.some.inj H
          have hcz10_0:wc.cell? ⟨gb107,0,none⟩ = some (.int .i64 a0_0):=(uk BK107.out 0).trans rfl
          have hcz10_1:wc.cell? ⟨gb107,1,none⟩ = some (.string a0_1):=(uk BK107.out 1).trans rfl
          have hcz10_2:wc.cell? ⟨gb107,2,none⟩ = some (.string a0_2):=(uk BK107.out 2).trans rfl
          have hfz10_0:=ut BK107.out 0
          have hfz10_1:=ut BK107.out 1
          have hfz10_2:=ut BK107.out 2
          go_wp2
          go_ret
          exact ⟨by first | rfl | (simp [u2x,u2w] <;> rfl) | (simp [*,u2x,u2w] <;> rfl),by repeat (first | (with_reducible first | exact HB.out | apply uj | apply uh | apply uu | refine u2r ?_ GE107.out) | exact HB.out)⟩
        · rw [if_neg c9] at H
          have c9b0:(a0_2.toList == ([]:List UInt8)) = false:=beq_eq_false_iff_ne.mpr c9
          have c9b1:(a0_2.toList != ([]:List UInt8)) = true:=bne_iff_ne.mpr c9
          replace H:=Option.bind_eq_some_iff.mp H
          obtain ⟨t109,A110,H⟩:=H
          replace H:(some t109) = some r:=H
          have A11:=Aside0.mk A110
          clear A110
          obtain rfl:=Option.some.inj H
          have hcz12_0:wc.cell? ⟨gb107,0,none⟩ = some (.int .i64 a0_0):=(uk BK107.out 0).trans rfl
          have hcz12_1:wc.cell? ⟨gb107,1,none⟩ = some (.string a0_1):=(uk BK107.out 1).trans rfl
          have hcz12_2:wc.cell? ⟨gb107,2,none⟩ = some (.string a0_2):=(uk BK107.out 2).trans rfl
          have hfz12_0:=ut BK107.out 0
          have hfz12_1:=ut BK107.out 1
          have hfz12_2:=ut BK107.out 2
          go_wp2_with (first | (go_at_call 70;(with_reducible refine (u3q.calls a0_2 t109 _ A11.out).mono ?_);rintro e w13 ⟨rfl,hb⟩;have n0_:=Aside0.mk (u1h (g:=gb107) (o:=.cells #[.int .i64 a0_0,.string a0_1,.string a0_2] 79 (0,0)) (by (with_reducible repeat (first | refine u2p ?_ _ | refine u2e ?_ | refine uo ?_ _));exact BK107.out) hb);have n1_:=Aside0.mk (u2o (by repeat (first | (with_reducible first | exact HB.out | apply uj | apply uh | apply uu | refine u2r ?_ GE107.out) | exact HB.out)) hb);clear BK107;clear HB;have BK107:=n0_;have HB:=n1_;clear n0_ n1_;(try clear hb);(try clear hb2);(try clear hk);(try clear hi)))
          go_ret
          exact ⟨by first | rfl | (simp [u2x,u2w] <;> rfl) | (simp [*,u2x,u2w] <;> rfl),by repeat (first | (with_reducible first | exact HB.out | apply uj | apply uh | apply uu | refine u2r ?_ GE107.out) | exact HB.out)⟩
      · replace c8:=Bool.eq_false_iff.mpr c8
        subst c8
        have H1:(if a0_0 = 3 then (u1q.j1 kj3 (a0_0 == 3) a0_0 a0_1 a0_2) else (u1q.j1 kj3 (a0_0 == 4) a0_0 a0_1 a0_2)) = some r:=by rw [if_neg (show ¬ (false = true) by decide)] at H;exact H
        clear H
        have H:=H1
        clear H1
        have HC14:=Aside0.mk H
        clear H
        go_upto_if 20 with (fail)
        go_cut [20] (fun v20 wc => ∃ (kq:Nat) (x20_13:Bool),v20 = .bool x20_13 ∧ Aside0 (u1q.j1 kq x20_13 a0_0 a0_1 a0_2 = some r) ∧ Aside0 (kq ≤ kj3) ∧ Aside0 (wc.heap[gb107]? = some (.cells #[.int .i64 a0_0,.string a0_1,.string a0_2] 79 (0,0))) ∧ Aside0 (Below w.heap.size w wc))
        case first =>
         have H:=HC14.out
         clear HC14
         by_cases c15:a0_0 = 3
         · rw [if_pos c15] at H
           have c15b0:(a0_0 == 3) = true:=beq_iff_eq.mpr c15
           have c15b1:(a0_0 != 3) = false:=bne_eq_false_iff_eq.mpr c15
           clear c15
           (first | rw [c15b0] | (simp only [i64_w,i32_w];rw [c15b0]) | skip)
           have H':=Aside0.mk H
           clear H
           go_wp2
           go_meet
           case rel => exact ⟨_,((a0_0 == 3)),(by first | rfl | (simp;done) | (simp [*];done)),H',⟨by have:=HJ3.out;first | omega | exact Nat.le_refl _⟩,⟨by (with_reducible repeat (first | refine u2p ?_ _ | refine u2e ?_ | refine uo ?_ _));exact BK107.out⟩,⟨by repeat (first | (with_reducible first | exact HB.out | apply uj | apply uh | apply uu | refine u2r ?_ GE107.out) | exact HB.out)⟩⟩
         · rw [if_neg c15] at H
           have c15b0:(a0_0 == 3) = false:=beq_eq_false_iff_ne.mpr c15
           have c15b1:(a0_0 != 3) = true:=bne_iff_ne.mpr c15
           (first | rw [c15b0] | (simp only [i64_w,i32_w];rw [c15b0]) | skip)
           have H':=Aside0.mk H
           clear H
           go_wp2
           go_meet
           case rel => exact ⟨_,((a0_0 == 4)),(by first | rfl | (simp;done) | (simp [*];done)),H',⟨by have:=HJ3.out;first | omega | exact Nat.le_refl _⟩,⟨by (with_reducible repeat (first | refine u2p ?_ _ | refine u2e ?_ | refine uo ?_ _));exact BK107.out⟩,⟨by repeat (first | (with_reducible first | exact HB.out | apply uj | apply uh | apply uu | refine u2r ?_ GE107.out) | exact HB.out)⟩⟩
        case rest =>
         clear HC14
         try clear c1
         try clear p2
         try clear c3
         try clear c6
         try clear c7
         try clear c7b0
         try clear c7b1
         try clear c8
         try clear c9
         try clear c9b0
         try clear c9b1
         try clear c15
         try clear c15b0
         try clear c15b1
         try clear hcz10_0
         try clear hcz10_1
         try clear hcz10_2
         try clear hcz12_0
         try clear hcz12_1
         try clear hcz12_2
         try clear hcz6_0
         try clear hcz6_1
         try clear hcz6_2
         try clear hfz10_0
         try clear hfz10_1
         try clear hfz10_2
         try clear hfz12_0
         try clear hfz12_1
         try clear hfz12_2
         try clear hfz6_0
         try clear hfz6_1
         try clear hfz6_2
         try clear p2
         obtain ⟨kq,x20_13,rfl,HA,HJ13,BK107,HB⟩:=hcut
         cases kq with
         | zero => exact absurd HA.out (by simp [u1q.j1])
         | succ kj13 =>
           have H:=HA.out
           clear HA
           simp only [u1q.j1] at H
           by_cases c16:x20_13 = true
           · subst c16
             have H1:((u2a.f a0_2).bind fun t110 => (if t110 = 0 then ((u2y.f a0_2).bind fun t111 => (some t111)) else (some false))) = some r:=by rw [if_pos rfl] at H;exact H
             clear H
             have H:=H1
             clear H1
             replace H:=Option.bind_eq_some_iff.mp H
             obtain ⟨t110,A170,H⟩:=H
             replace H:(if t110 = 0 then ((u2y.f a0_2).bind fun t111 => (some t111)) else (some false)) = some r:=H
             have A17:=Aside0.mk A170
             clear A170
             by_cases c18:t110 = 0
             · rw [if_pos c18] at H
               have c18b0:(t110 == 0) = true:=beq_iff_eq.mpr c18
               have c18b1:(t110 != 0) = false:=bne_eq_false_iff_eq.mpr c18
               clear c18
               replace H:=Option.bind_eq_some_iff.mp H
               obtain ⟨t111,A190,H⟩:=H
               replace H:(some t111) = some r:=H
               have A19:=Aside0.mk A190
               clear A190
               obtain rfl:=Option.some.inj H
               have hcz20_0:wc.cell? ⟨gb107,0,none⟩ = some (.int .i64 a0_0):=(uk BK107.out 0).trans rfl
               have hcz20_1:wc.cell? ⟨gb107,1,none⟩ = some (.string a0_1):=(uk BK107.out 1).trans rfl
               have hcz20_2:wc.cell? ⟨gb107,2,none⟩ = some (.string a0_2):=(uk BK107.out 2).trans rfl
               have hfz20_0:=ut BK107.out 0
               have hfz20_1:=ut BK107.out 1
               have hfz20_2:=ut BK107.out 2
               go_wp2_with (first | ((with_reducible refine u4h (f:=90) rfl ?_);refine goesL_ (some 25) rfl rfl Tryz.func90 (by kernel_rfl) rfl #[.string a0_2] rfl (by (try simp only [List.map_toArray,List.map_cons,List.map_nil]);first | done | rfl | (simp only [List.length_drop,List.length_take];rfl)) ?_;(with_reducible refine (u2a.calls a0_2 t110 _ A17.out).mono ?_);rintro e w21 ⟨rfl,hb⟩;refine ⟨_,rfl,?_⟩;have n0_:=Aside0.mk (u1h (g:=gb107) (o:=.cells #[.int .i64 a0_0,.string a0_1,.string a0_2] 79 (0,0)) (by (with_reducible repeat (first | refine u2p ?_ _ | refine u2e ?_ | refine uo ?_ _));exact BK107.out) hb);have n1_:=Aside0.mk (u2o (by repeat (first | (with_reducible first | exact HB.out | apply uj | apply uh | apply uu | refine u2r ?_ GE107.out) | exact HB.out)) hb);clear BK107;clear HB;have BK107:=n0_;have HB:=n1_;clear n0_ n1_;(try clear hb);(try clear hb2);(try clear hk);(try clear hi);have hcz22_0:w21.cell? ⟨gb107,0,none⟩ = some (.int .i64 a0_0):=(uk BK107.out 0).trans rfl;have hcz22_1:w21.cell? ⟨gb107,1,none⟩ = some (.string a0_1):=(uk BK107.out 1).trans rfl;have hcz22_2:w21.cell? ⟨gb107,2,none⟩ = some (.string a0_2):=(uk BK107.out 2).trans rfl;have hfz22_0:=ut BK107.out 0;have hfz22_1:=ut BK107.out 1;have hfz22_2:=ut BK107.out 2) | (go_at_call 89;(with_reducible refine (u2y.calls a0_2 t111 _ A19.out).mono ?_);rintro e w23 ⟨rfl,hb⟩;have n0_:=Aside0.mk (u1h (g:=gb107) (o:=.cells #[.int .i64 a0_0,.string a0_1,.string a0_2] 79 (0,0)) (by (with_reducible repeat (first | refine u2p ?_ _ | refine u2e ?_ | refine uo ?_ _));exact BK107.out) hb);have n1_:=Aside0.mk (u2o (by repeat (first | (with_reducible first | exact HB.out | apply uj | apply uh | apply uu | refine u2r ?_ GE107.out) | exact HB.out)) hb);clear BK107;clear HB;have BK107:=n0_;have HB:=n1_;clear n0_ n1_;(try clear hb);(try clear hb2);(try clear hk);(try clear hi)))
               go_ret
               exact ⟨by first | rfl | (simp [u2x,u2w] <;> rfl) | (simp [*,u2x,u2w] <;> rfl),by repeat (first | (with_reducible first | exact HB.out | apply uj | apply uh | apply uu | refine u2r ?_ GE107.out) | exact HB.out)⟩
             · rw [if_neg c18] at H
               have c18b0:(t110 == 0) = false:=beq_eq_false_iff_ne.mpr c18
               have c18b1:(t110 != 0) = true:=bne_iff_ne.mpr c18
               obtain rfl:=Option.some.inj H
               have hcz24_0:wc.cell? ⟨gb107,0,none⟩ = some (.int .i64 a0_0):=(uk BK107.out 0).trans rfl
               have hcz24_1:wc.cell? ⟨gb107,1,none⟩ = some (.string a0_1):=(uk BK107.out 1).trans rfl
               have hcz24_2:wc.cell? ⟨gb107,2,none⟩ = some (.string a0_2):=(uk BK107.out 2).trans rfl
               have hfz24_0:=ut BK107.out 0
               have hfz24_1:=ut BK107.out 1
               have hfz24_2:=ut BK107.out 2
               go_wp2_with (first | ((with_reducible refine u4h (f:=90) rfl ?_);refine goesL_ (some 25) rfl rfl Tryz.func90 (by kernel_rfl) rfl #[.string a0_2] rfl (by (try simp only [List.map_toArray,List.map_cons,List.map_nil]);first | done | rfl | (simp only [List.length_drop,List.length_take];rfl)) ?_;(with_reducible refine (u2a.calls a0_2 t110 _ A17.out).mono ?_);rintro e w25 ⟨rfl,hb⟩;refine ⟨_,rfl,?_⟩;have n0_:=Aside0.mk (u1h (g:=gb107) (o:=.cells #[.int .i64 a0_0,.string a0_1,.string a0_2] 79 (0,0)) (by (with_reducible repeat (first | refine u2p ?_ _ | refine u2e ?_ | refine uo ?_ _));exact BK107.out) hb);have n1_:=Aside0.mk (u2o (by repeat (first | (with_reducible first | exact HB.out | apply uj | apply uh | apply uu | refine u2r ?_ GE107.out) | exact HB.out)) hb);clear BK107;clear HB;have BK107:=n0_;have HB:=n1_;clear n0_ n1_;(try clear hb);(try clear hb2);(try clear hk);(try clear hi)))
               go_ret
               exact ⟨by first | rfl | (simp [u2x,u2w] <;> rfl) | (simp [*,u2x,u2w] <;> rfl),by repeat (first | (with_reducible first | exact HB.out | apply uj | apply uh | apply uu | refine u2r ?_ GE107.out) | exact HB.out)⟩
           · replace c16:=Bool.eq_false_iff.mpr c16
             subst c16
             have H1:(some false) = some r:=by rw [if_neg (show ¬ (false = true) by decide)] at H;exact H
             clear H
             have H:=H1
             clear H1
             obtain rfl:=Option.some.inj H
             go_wp2
             go_ret
             exact ⟨by first | rfl | (simp [u2x,u2w] <;> rfl) | (simp [*,u2x,u2w] <;> rfl),by repeat (first | (with_reducible first | exact HB.out | apply uj | apply uh | apply uu | refine u2r ?_ GE107.out) | exact HB.out)⟩
 · replace c3:=Bool.eq_false_iff.mpr c3
   subst c3
   have H1:(some false) = some r:=by rw [if_neg (show ¬ (false = true) by decide)] at H;exact H
   clear H
   have H:=H1
   clear H1
   obtain rfl:=Option.some.inj H
   go_enter Tryz.func71,Tryz.ntmps71
   go_wp2_with (first | ((with_reducible refine gate_dst (N:=1) rfl ?_);refine box_event ?hg (N:=1) ?hd (cs:=#[.int .i64 a0_0,.string a0_1,.string a0_2]) (t:=79) ?hr ?_;(case hd => rfl);(case hg => rfl);(case hr => first | (go_simp;done) | (go_simp;rfl));intro gb107 hg w26 hbox hb;have n0_:=Aside0.mk (u2o (by repeat (first | (with_reducible first | exact HB.out | apply uj | apply uh | apply uu) | exact HB.out)) hb);have n1_:=Aside0.mk (hbox);have n2_:=Aside0.mk ((by rw [hg];exact (u2k (by repeat (first | (with_reducible first | exact HB.out | apply uj | apply uh | apply uu) | exact HB.out))):w.heap.size ≤ gb107));have n3_:=Aside0.mk ((by rw [hg];exact (u2k (by repeat (first | (with_reducible first | exact HB.out | apply uj | apply uh | apply uu) | exact HB.out))):w.heap.size ≤ gb107));clear HB;have HB:=n0_;have BK107:=n1_;have GW107:=n2_;have GE107:=n3_;clear n0_ n1_ n2_ n3_;clear hb hbox hg;have hcz27_0:w26.cell? ⟨gb107,0,none⟩ = some (.int .i64 a0_0):=(uk BK107.out 0).trans rfl;have hcz27_1:w26.cell? ⟨gb107,1,none⟩ = some (.string a0_1):=(uk BK107.out 1).trans rfl;have hcz27_2:w26.cell? ⟨gb107,2,none⟩ = some (.string a0_2):=(uk BK107.out 2).trans rfl;have hfz27_0:=ut BK107.out 0;have hfz27_1:=ut BK107.out 1;have hfz27_2:=ut BK107.out 2) | ((with_reducible refine u4h (f:=69) rfl ?_);refine goesL_ (some 5) rfl rfl Tryz.func69 (by kernel_rfl) rfl #[.string a0_1] rfl (by (try simp only [List.map_toArray,List.map_cons,List.map_nil]);first | done | rfl | (simp only [List.length_drop,List.length_take];rfl)) ?_;(with_reducible refine (u1o.calls k a0_1 false _ A2.out).mono ?_);rintro e w' ⟨rfl,⟨nd,rfl⟩⟩;refine ⟨_,rfl,?_⟩))
   go_ret
   exact ⟨by first | rfl | (simp [u2x,u2w] <;> rfl) | (simp [*,u2x,u2w] <;> rfl),by repeat (first | (with_reducible first | exact HB.out | apply uj | apply uh | apply uu | refine u2r ?_ GE107.out) | exact HB.out)⟩
def u2m.l0:Nat → List (S79) → List (S79) → Int → Int → Option (Bool)
 | 0,_,_,_,_ => none
 | k + 1,x0,x5,x6,x7 => if x7 < x6 then (if 0 ≤ x7 then (if x7 < (x5.length:Int) then ((u1q.f k ((u1s x5 x7).f0) ((u1s x5 x7).f1) ((u1s x5 x7).f2)).bind fun t114 => (if t114 = true then (u2m.l0 k x0 x5 x6 (wrap64 (x7 + 1))) else (some false))) else (none)) else (none)) else (some (decide ((x0.length:Int) ≤ 6)))
def u2m.f (k:Nat) (l0:List (S79)):Option (Bool):=u2m.l0 k l0 l0 (l0.length:Int) 0
set_option maxHeartbeats 8000000 in
set_option maxRecDepth 100000 in
theorem u2m.calls (k:Nat) (A0:Option Addr) (c0:Nat) (l0:List (S79)) (r:Bool) (w:World) (hr0:Kd.C k79 w A0 l0.length l0) (hc0:l0.length ≤ c0) (h:u2m.f k l0 = some r) :
 Calls Tryz.prog 38 #[.slice A0 l0.length c0] w fun e w' => e = .returned (.bool r) ∧ Below w.heap.size w w':=by
 have hu79:=Tryz.underlying79
 have HR0:=Aside0.mk hr0
 have HC0:=Aside0.mk hc0
 clear hr0 hc0
 have HB:=Aside0.mk (Below.refl w.heap.size w)
 have H:(u2m.l0 k l0 l0 (l0.length:Int) 0) = some r:=h
 clear h
 have H':=Aside0.mk H
 clear H
 go_enter Tryz.func38,Tryz.ntmps38
 go_wp2
 go_loopg [7] k (fun kq v7 w' => ∃ (x7_1:Int),v7 = .int .i64 x7_1 ∧ Aside0 (u2m.l0 kq l0 l0 (l0.length:Int) x7_1 = some r) ∧ Aside0 (kq ≤ k) ∧ Aside0 (Below w.heap.size w w'))
 case atStart => exact ⟨(0),(by first | rfl | (simp;done) | (simp [*];done)),H',⟨Nat.le_refl _⟩,⟨by repeat (first | (with_reducible first | exact HB.out | apply uj | apply uh | apply uu) | exact HB.out)⟩⟩
 case round =>
  clear H'
  obtain ⟨x7_1,rfl,HA,HK1,HB⟩:=hrel
  cases gk with
  | zero => exact absurd HA.out (by simp [u2m.l0])
  | succ k1 =>
    have H:=HA.out
    clear HA
    simp only [u2m.l0] at H
    by_cases c2:x7_1 < (l0.length:Int)
    · rw [if_pos c2] at H
      have c2b0:decide (x7_1 < (l0.length:Int)) = true:=decide_eq_true c2
      clear c2
      by_cases c3:0 ≤ x7_1
      · rw [if_pos c3] at H
        have c3b0:decide (0 ≤ x7_1) = true:=decide_eq_true c3
        clear c3
        by_cases c4:x7_1 < (l0.length:Int)
        · rw [if_pos c4] at H
          have c4b0:decide (x7_1 < (l0.length:Int)) = true:=decide_eq_true c4
          clear c4
          replace H:=Option.bind_eq_some_iff.mp H
          obtain ⟨t114,A50,H⟩:=H
          replace H:(if t114 = true then (u2m.l0 k1 l0 l0 (l0.length:Int) (wrap64 (x7_1 + 1))) else (some false)) = some r:=H
          have A5:=Aside0.mk A50
          clear A50
          by_cases c6:t114 = true
          · subst c6
            have H1:(u2m.l0 k1 l0 l0 (l0.length:Int) (wrap64 (x7_1 + 1))) = some r:=by rw [if_pos rfl] at H;exact H
            clear H
            have H:=H1
            clear H1
            have H':=Aside0.mk H
            clear H
            have p112:0 ≤ (x7_1:Int):=of_decide_eq_true (by first | (with_reducible assumption) | assumption)
            have q112:x7_1 < (l0.length:Int):=of_decide_eq_true (by first | (with_reducible assumption) | assumption)
            obtain ⟨ad112,e112,hx112_0,hx112_1,hx112_2⟩:=at_T79 HR0.out x7_1 p112 q112
            cases e112
            replace hx112_0:=(HB.out.cell (World.block_lt_of_cell? w _ hx112_0)).trans hx112_0
            replace hx112_1:=(HB.out.cell (World.block_lt_of_cell? w _ hx112_1)).trans hx112_1
            replace hx112_2:=(HB.out.cell (World.block_lt_of_cell? w _ hx112_2)).trans hx112_2
            replace p112:=eq_true p112
            replace q112:=eq_true q112
            go_wp2_with (first | ((with_reducible refine gate_dst (N:=4) rfl ?_);refine box_event ?hg (N:=4) ?hd (cs:=#[.int .i64 0,.string (⟨#[]⟩:ByteArray),.string (⟨#[]⟩:ByteArray)]) (t:=79) ?hr ?_;(case hd => rfl);(case hg => rfl);(case hr => first | (go_simp;done) | (go_simp;rfl));intro gb113 hg w7 hbox hb;have n0_:=Aside0.mk (u2o (by repeat (first | (with_reducible first | exact HB.out | apply uj | apply uh | apply uu) | exact HB.out)) hb);have n1_:=Aside0.mk (hbox);have n2_:=Aside0.mk ((by rw [hg];exact (u2k (by repeat (first | (with_reducible first | exact HB.out | apply uj | apply uh | apply uu) | exact HB.out))):w.heap.size ≤ gb113));have n3_:=Aside0.mk ((by rw [hg];exact (u2k (by repeat (first | (with_reducible first | exact HB.out | apply uj | apply uh | apply uu) | exact HB.out))):w.heap.size ≤ gb113));clear HB;have HB:=n0_;have BK113:=n1_;have GW113:=n2_;have GE113:=n3_;clear n0_ n1_ n2_ n3_;clear hb hbox hg;have hcz8_0:w7.cell? ⟨gb113,0,none⟩ = some (.int .i64 0):=(uk BK113.out 0).trans rfl;have hcz8_1:w7.cell? ⟨gb113,1,none⟩ = some (.string (⟨#[]⟩:ByteArray)):=(uk BK113.out 1).trans rfl;have hcz8_2:w7.cell? ⟨gb113,2,none⟩ = some (.string (⟨#[]⟩:ByteArray)):=(uk BK113.out 2).trans rfl;have hfz8_0:=ut BK113.out 0;have hfz8_1:=ut BK113.out 1;have hfz8_2:=ut BK113.out 2) | ((with_reducible refine u4h (f:=71) rfl ?_);refine goesL_ (some 12) rfl rfl Tryz.func71 (by kernel_rfl) rfl #[.agg #[.int .i64 ((u1s l0 x7_1).f0),.string ((u1s l0 x7_1).f1),.string ((u1s l0 x7_1).f2)]] rfl (by (try simp only [List.map_toArray,List.map_cons,List.map_nil]);first | done | rfl | (simp only [List.length_drop,List.length_take];rfl)) ?_;(with_reducible refine (u1q.calls k1 ((u1s l0 x7_1).f0) ((u1s l0 x7_1).f1) ((u1s l0 x7_1).f2) true _ A5.out).mono ?_);rintro e w9 ⟨rfl,hb⟩;refine ⟨_,rfl,?_⟩;have n0_:=Aside0.mk (u1h (g:=gb113) (o:=.cells #[.int .i64 ((u1s l0 x7_1).f0),.string ((u1s l0 x7_1).f1),.string ((u1s l0 x7_1).f2)] 79 (0,0)) (by (with_reducible repeat (first | refine u2p ?_ _ | refine u2e ?_ | refine uo ?_ _));refine u4i (cs:=#[.int .i64 ((u1s l0 x7_1).f0),.string ((u1s l0 x7_1).f1),.string (⟨#[]⟩:ByteArray)]) ?_ 2 _ rfl;(with_reducible repeat (first | refine u2p ?_ _ | refine u2e ?_ | refine uo ?_ _));refine u4i (cs:=#[.int .i64 ((u1s l0 x7_1).f0),.string (⟨#[]⟩:ByteArray),.string (⟨#[]⟩:ByteArray)]) ?_ 1 _ rfl;(with_reducible repeat (first | refine u2p ?_ _ | refine u2e ?_ | refine uo ?_ _));refine u4i (cs:=#[.int .i64 0,.string (⟨#[]⟩:ByteArray),.string (⟨#[]⟩:ByteArray)]) ?_ 0 _ rfl;(with_reducible repeat (first | refine u2p ?_ _ | refine u2e ?_ | refine uo ?_ _));exact BK113.out) hb);have n1_:=Aside0.mk (u2o (by repeat (first | (with_reducible first | exact HB.out | apply uj | apply uh | apply uu | refine u2r ?_ GE113.out) | exact HB.out)) hb);clear BK113;clear HB;have BK113:=n0_;have HB:=n1_;clear n0_ n1_;(try clear hb);(try clear hb2);(try clear hk);(try clear hi)))
            go_roundg k1
            case measure => have:=HK1.out;omega
            case rel => exact ⟨(wrap64 (x7_1 + 1)),(by first | rfl | (simp;done) | (simp [*];done)),H',⟨by have:=HK1.out;omega⟩,⟨by repeat (first | (with_reducible first | exact HB.out | apply uj | apply uh | apply uu | refine u2r ?_ GE113.out) | exact HB.out)⟩⟩
          · replace c6:=Bool.eq_false_iff.mpr c6
            subst c6
            have H1:(some false) = some r:=by rw [if_neg (show ¬ (false = true) by decide)] at H;exact H
            clear H
            have H:=H1
            clear H1
            obtain rfl:=Option.some.inj H
            have p112:0 ≤ (x7_1:Int):=of_decide_eq_true (by first | (with_reducible assumption) | assumption)
            have q112:x7_1 < (l0.length:Int):=of_decide_eq_true (by first | (with_reducible assumption) | assumption)
            obtain ⟨ad112,e112,hx112_0,hx112_1,hx112_2⟩:=at_T79 HR0.out x7_1 p112 q112
            cases e112
            replace hx112_0:=(HB.out.cell (World.block_lt_of_cell? w _ hx112_0)).trans hx112_0
            replace hx112_1:=(HB.out.cell (World.block_lt_of_cell? w _ hx112_1)).trans hx112_1
            replace hx112_2:=(HB.out.cell (World.block_lt_of_cell? w _ hx112_2)).trans hx112_2
            replace p112:=eq_true p112
            replace q112:=eq_true q112
            go_wp2_with (first | ((with_reducible refine gate_dst (N:=4) rfl ?_);refine box_event ?hg (N:=4) ?hd (cs:=#[.int .i64 0,.string (⟨#[]⟩:ByteArray),.string (⟨#[]⟩:ByteArray)]) (t:=79) ?hr ?_;(case hd => rfl);(case hg => rfl);(case hr => first | (go_simp;done) | (go_simp;rfl));intro gb113 hg w10 hbox hb;have n0_:=Aside0.mk (u2o (by repeat (first | (with_reducible first | exact HB.out | apply uj | apply uh | apply uu) | exact HB.out)) hb);have n1_:=Aside0.mk (hbox);have n2_:=Aside0.mk ((by rw [hg];exact (u2k (by repeat (first | (with_reducible first | exact HB.out | apply uj | apply uh | apply uu) | exact HB.out))):w.heap.size ≤ gb113));have n3_:=Aside0.mk ((by rw [hg];exact (u2k (by repeat (first | (with_reducible first | exact HB.out | apply uj | apply uh | apply uu) | exact HB.out))):w.heap.size ≤ gb113));clear HB;have HB:=n0_;have BK113:=n1_;have GW113:=n2_;have GE113:=n3_;clear n0_ n1_ n2_ n3_;clear hb hbox hg;have hcz11_0:w10.cell? ⟨gb113,0,none⟩ = some (.int .i64 0):=(uk BK113.out 0).trans rfl;have hcz11_1:w10.cell? ⟨gb113,1,none⟩ = some (.string (⟨#[]⟩:ByteArray)):=(uk BK113.out 1).trans rfl;have hcz11_2:w10.cell? ⟨gb113,2,none⟩ = some (.string (⟨#[]⟩:ByteArray)):=(uk BK113.out 2).trans rfl;have hfz11_0:=ut BK113.out 0;have hfz11_1:=ut BK113.out 1;have hfz11_2:=ut BK113.out 2) | ((with_reducible refine u4h (f:=71) rfl ?_);refine goesL_ (some 12) rfl rfl Tryz.func71 (by kernel_rfl) rfl #[.agg #[.int .i64 ((u1s l0 x7_1).f0),.string ((u1s l0 x7_1).f1),.string ((u1s l0 x7_1).f2)]] rfl (by (try simp only [List.map_toArray,List.map_cons,List.map_nil]);first | done | rfl | (simp only [List.length_drop,List.length_take];rfl)) ?_;(with_reducible refine (u1q.calls k1 ((u1s l0 x7_1).f0) ((u1s l0 x7_1).f1) ((u1s l0 x7_1).f2) false _ A5.out).mono ?_);rintro e w12 ⟨rfl,hb⟩;refine ⟨_,rfl,?_⟩;have n0_:=Aside0.mk (u1h (g:=gb113) (o:=.cells #[.int .i64 ((u1s l0 x7_1).f0),.string ((u1s l0 x7_1).f1),.string ((u1s l0 x7_1).f2)] 79 (0,0)) (by (with_reducible repeat (first | refine u2p ?_ _ | refine u2e ?_ | refine uo ?_ _));refine u4i (cs:=#[.int .i64 ((u1s l0 x7_1).f0),.string ((u1s l0 x7_1).f1),.string (⟨#[]⟩:ByteArray)]) ?_ 2 _ rfl;(with_reducible repeat (first | refine u2p ?_ _ | refine u2e ?_ | refine uo ?_ _));refine u4i (cs:=#[.int .i64 ((u1s l0 x7_1).f0),.string (⟨#[]⟩:ByteArray),.string (⟨#[]⟩:ByteArray)]) ?_ 1 _ rfl;(with_reducible repeat (first | refine u2p ?_ _ | refine u2e ?_ | refine uo ?_ _));refine u4i (cs:=#[.int .i64 0,.string (⟨#[]⟩:ByteArray),.string (⟨#[]⟩:ByteArray)]) ?_ 0 _ rfl;(with_reducible repeat (first | refine u2p ?_ _ | refine u2e ?_ | refine uo ?_ _));exact BK113.out) hb);have n1_:=Aside0.mk (u2o (by repeat (first | (with_reducible first | exact HB.out | apply uj | apply uh | apply uu | refine u2r ?_ GE113.out) | exact HB.out)) hb);clear BK113;clear HB;have BK113:=n0_;have HB:=n1_;clear n0_ n1_;(try clear hb);(try clear hb2);(try clear hk);(try clear hi)))
            go_ret
            exact ⟨by first | rfl | (simp [u2x,u2w] <;> rfl) | (simp [*,u2x,u2w] <;> rfl),by repeat (first | (with_reducible first | exact HB.out | apply uj | apply uh | apply uu | refine u2r ?_ GE113.out) | exact HB.out)⟩
        · rw [if_neg c4] at H
          exact absurd H (by simp)
      · rw [if_neg c3] at H
        exact absurd H (by simp)
    · rw [if_neg c2] at H
      have c2b0:decide (x7_1 < (l0.length:Int)) = false:=decide_eq_false c2
      clear c2
      obtain rfl:=Option.some.inj H
      go_wp2
      go_ret
      exact ⟨by first | rfl | (simp [u2x,u2w] <;> rfl) | (simp [*,u2x,u2w] <;> rfl),by repeat (first | (with_reducible first | exact HB.out | apply uj | apply uh | apply uu) | exact HB.out)⟩
abbrev u2b.Mt:=S79
def u2b.mats:Nat → List Int → List u2b.Mt → Option (List u2b.Mt × List Int)
 | 0,b,l => some (l,b)
 | _ + 1,[],_ => none
 | n + 1,c :: r,l => (u3z.one r).bind fun x => (u3z.one x.2).bind fun y => u2b.mats n y.2 (l ++ [⟨c,x.1,y.1⟩])
def u2b.okB (l0:List Int):Bool:=decide (l0.length ≤ 140737488355328) && l0.all (fun c => decide (0 ≤ c) && decide (c < 256))
def u2b.f (k:Nat) (l0:List Int):Option (List u2b.Mt × List Int × Int):=if u2b.okB l0 = true then (match l0 with
 | [] => some ([],[],3)
 | c :: r => match u2b.mats c.toNat r [] with
   | none => some ([],[],3)
   | some (l,q) => (u2m.f k l).bind fun b => if b = true then some (l,q,0) else some ([],[],5)) else none
mutual
def u2n.j0:Nat → Bool → Int → List (S59) → List (S79) → Int → Int → Int → Option (Bool)
 | 0,_,_,_,_,_,_,_ => none
 | k + 1,x18,x116000,x116001,x116002,x116003,x116004,x116005 => if x18 = true then (some false) else (u2n.l0 k x116001 (x116001.length:Int) 0)
def u2n.l0:Nat → List (S59) → Int → Int → Option (Bool)
 | 0,_,_,_ => none
 | k + 1,x20,x21,x22 => if x22 < x21 then (if 0 ≤ x22 then (if x22 < (x20.length:Int) then ((u1v.f k ((rd_T59 x20 x22).f0)).bind fun t118 => (if t118 = true then (u2n.l0 k x20 x21 (wrap64 (x22 + 1))) else (some false))) else (none)) else (none)) else (some true)
end
def u2n.f (k:Nat) (a0_0:Int) (l0_1:List (S59)) (l0_2:List (S79)) (a0_3:Int) (a0_4:Int) (a0_5:Int):Option (Bool):=if a0_0 = 1 then (if (l0_1.length:Int) < 1 then (u2n.j0 k true a0_0 l0_1 l0_2 a0_3 a0_4 a0_5) else (u2n.j0 k (decide ((l0_1.length:Int) > 200)) a0_0 l0_1 l0_2 a0_3 a0_4 a0_5)) else (if a0_0 = 2 then ((u2m.f k l0_2).bind fun t119 => (some t119)) else (if a0_0 = 3 then (if a0_5 ≥ 0 then (some (decide (a0_5 ≤ 4611686018427387904))) else (some false)) else (some false)))
end Go.Proofs.YtgnehcgaplnfkaaGreatDoor.PAll
namespace Go.Proofs.YtgnehcgaplnfkaaGreatDoor.PAll
open Go.RowKit Go.Proofs.YtgnehcgaplnfkaaGreatDoorW.PrintWords Go.Proofs.YtgnehcgaplnfkaaGreatDoorW.PrintLast
set_option linter.unusedVariables false
set_option linter.unusedSimpArgs false
namespace R8
abbrev CS:=ud.CS
abbrev RS:=ua.RS
abbrev I:=S164
open Sim (am nx mo mem spanM loopM cls)
open regex_coder_atom (M put close qual bar aim)
def Good (l:List Int) (s:CS) (t:RS):Prop:=s.bad = false ∧ t.bad = false ∧ t.at_ ≤ l.length ∧ s.p = l.drop t.at_
def Rel (l:List Int) (s:CS) (t:RS):Prop:=(s.bad = true ∧ t.bad = true) ∨ Good l s t
theorem split_at {l:List Int} (h0:∀ r ∈ l,0 ≤ r) (a:Nat) (b:Bool) (ha:a ≤ l.length):(∃ r q,l.drop a = r :: q ∧ ua.pk l ⟨a,b⟩ = r ∧ 0 ≤ r ∧ a < l.length ∧ l.drop (a + 1) = q) ∨ (l.drop a = [] ∧ ua.pk l ⟨a,b⟩ = -1 ∧ a = l.length):=by
 rcases Nat.lt_or_ge a l.length with h | h
 · left
   refine ⟨l[a],l.drop (a + 1),List.drop_eq_getElem_cons h,?_,h0 _ (List.getElem_mem h),h,rfl⟩
   simp [ua.pk,h]
 · right
   refine ⟨List.drop_eq_nil_of_le h,?_,by omega⟩
   simp [ua.pk,List.getElem?_eq_none h]
theorem index_mem (l:List UInt8) (c:UInt8):0 ≤ Lib.indexByte l c ↔ c ∈ l:=by
 constructor
 · intro h
   obtain ⟨o,ho⟩:=Int.eq_ofNat_of_zero_le h
   exact List.mem_of_getElem? (Lib.indexByte_some ho).1
 · intro h
   refine Classical.byContradiction fun hn => ?_
   have h1:=Lib.indexByte_ge l c
   have h2:Lib.indexByte l c = -1:=by omega
   obtain ⟨i,hi,e⟩:=List.getElem_of_mem h
   exact Lib.indexByte_none h2 i (by rw [List.getElem?_eq_getElem hi,e])
theorem am_any (m:ByteArray) (hm:∀ b ∈ m.data.toList,b.toNat < 128) (r:Int) (h0:0 ≤ r) (q:List Int) (c:List I) (b:Bool):am m ⟨r :: q,c,b⟩ = m.data.toList.any fun x => decide ((x.toNat:Int) = r):=by
 have e:am m ⟨r :: q,c,b⟩ = (decide (0 ≤ Lib.indexByte m.data.toList (UInt8.ofNat (r % 256).toNat)) && decide (r < 128)):=rfl
 rw [e]
 refine Bool.eq_iff_iff.2 ?_
 rw [Bool.and_eq_true,decide_eq_true_eq,decide_eq_true_eq,index_mem,List.any_eq_true]
 constructor
 · rintro ⟨h1,h2⟩
   refine ⟨_,h1,decide_eq_true ?_⟩
   rw [UInt8.toNat_ofNat']
   omega
 · rintro ⟨x,hx,he⟩
   have he:=of_decide_eq_true he
   have h1:=hm x hx
   refine ⟨?_,by omega⟩
   have h2:UInt8.ofNat (r % 256).toNat = x:=by
    apply UInt8.toNat.inj
    rw [UInt8.toNat_ofNat']
    omega
   rw [h2]
   exact hx
theorem am_41 (r:Int) (h0:0 ≤ r) (q:List Int) (c:List I) (b:Bool):am ⟨#[124,41]⟩ ⟨r :: q,c,b⟩ = ue.mk r [124,41]:=by rw [am_any _ (by decide) r h0];rfl
theorem am_qual (r:Int) (h0:0 ≤ r) (q:List Int) (c:List I) (b:Bool):am ⟨#[42,43,63]⟩ ⟨r :: q,c,b⟩ = ue.mk r [42,43,63]:=by rw [am_any _ (by decide) r h0];rfl
theorem am_stop (r:Int) (h0:0 ≤ r) (q:List Int) (c:List I) (b:Bool):am ⟨#[42,43,63,124,41,93]⟩ ⟨r :: q,c,b⟩ = ue.mk r [42,43,63,124,41,93]:=by rw [am_any _ (by decide) r h0];rfl
theorem am_93 (r:Int) (h0:0 ≤ r) (q:List Int) (c:List I) (b:Bool):am ⟨#[93,45]⟩ ⟨r :: q,c,b⟩ = ue.mk r [93,45]:=by rw [am_any _ (by decide) r h0];rfl
theorem am_end (r:Int) (h0:0 ≤ r) (q:List Int) (c:List I) (b:Bool):am ⟨#[93]⟩ ⟨r :: q,c,b⟩ = decide (93 = r):=by
 rw [am_any _ (by decide) r h0]
 show (decide ((93:Int) = r) || false) = _
 rw [Bool.or_false]
theorem am_dash (r:Int) (h0:0 ≤ r) (q:List Int) (c:List I) (b:Bool):am ⟨#[45]⟩ ⟨r :: q,c,b⟩ = decide (45 = r):=by
 rw [am_any _ (by decide) r h0]
 show (decide ((45:Int) = r) || false) = _
 rw [Bool.or_false]
theorem mk_neg (m:List Int) (hm:∀ x ∈ m,0 ≤ x):ue.mk (-1) m = false:=by
 unfold ue.mk u1g.oneB
 rw [List.any_eq_false]
 intro x hx h
 have:=of_decide_eq_true h
 have:=hm x hx
 omega
def RV (l:List Int) (x:Int × CS) (y:Int × RS):Prop:=(x.2.bad = true ∧ y.2.bad = true) ∨ (x.1 = y.1 ∧ Good l x.2 y.2)
theorem mem_sim {l:List Int} (h0:∀ r ∈ l,0 ≤ r) {s:CS} {t:RS} (h:Good l s t):RV l (mem s) (ue.mem l t):=by
 obtain ⟨p,c,b⟩:=s
 obtain ⟨a,tb⟩:=t
 obtain ⟨h1,h2,h3,h4⟩:=h
 simp only at h1 h2 h3 h4
 subst h1
 subst h2
 rcases split_at h0 a false h3 with ⟨r,q,e,ek,hr,hlt,hq⟩ | ⟨e,ek,hal⟩
 · rw [h4,e,Sim.mem_cons,am_93 r hr]
   unfold ue.mem
   rw [ek]
   cases hm:ue.mk r [93,45] with
   | true =>
     rw [if_pos (Or.inr rfl)]
     left
     refine ⟨?_,rfl⟩
     split
     · unfold Sim.step ud.step
       split <;> rfl
     · rfl
   | false =>
     have hno:¬ (r < 0 ∨ (false:Bool) = true):=by
      rintro (h9 | h9)
      · omega
      · cases h9
     rw [if_neg hno]
     by_cases h92:r = 92
     · rw [if_pos h92,if_pos h92]
       unfold u1j.esc
       rcases split_at h0 (a + 1) false (by omega) with ⟨r2,q2,e2,ek2,hr2,hlt2,hq2⟩ | ⟨e2,ek2,hal2⟩
       · right
         rw [hq] at e2
         subst e2
         refine ⟨ek2.symm,rfl,?_,by simp only;omega,by simp only;rw [← hq2];rfl⟩
         show (false || decide (ua.pk l ⟨a + 1,false⟩ < 0)) = false
         rw [ek2,decide_eq_false (by omega)]
         rfl
       · left
         rw [hq] at e2
         subst e2
         refine ⟨rfl,?_⟩
         show (false || decide (ua.pk l ⟨a + 1,false⟩ < 0)) = true
         rw [ek2]
         rfl
     · rw [if_neg h92,if_neg h92]
       right
       exact ⟨rfl,rfl,rfl,by simp only;omega,hq.symm⟩
 · rw [h4,e]
   unfold ue.mem
   rw [ek,if_pos (Or.inl (by decide))]
   exact Or.inl ⟨Sim.mem_nil c false,rfl⟩
theorem step_good {l:List Int} (h0:∀ r ∈ l,0 ≤ r) {s:CS} {t:RS} (h:Good l s t) (hne:t.at_ < l.length):Good l (Sim.step s).2 ⟨t.at_ + 1,t.bad⟩:=by
 obtain ⟨p,c,b⟩:=s
 obtain ⟨a,tb⟩:=t
 obtain ⟨h1,h2,h3,h4⟩:=h
 simp only at h1 h2 h3 h4 hne
 rw [h4,List.drop_eq_getElem_cons hne]
 exact ⟨h1,h2,by simp only;omega,rfl⟩
theorem span_sim {l:List Int} (h0:∀ r ∈ l,0 ≤ r) {s:CS} {t:RS} (h:Good l s t):Rel l (spanM s).2 (ub.span l t):=by
 have e1:(spanM s).2 = { (if (mem s).2.bad = false ∧ am ⟨#[45]⟩ (mem s).2 = true then mem (Sim.step (mem s).2).2 else mem s).2 with bad:=(if (mem s).2.bad = false ∧ am ⟨#[45]⟩ (mem s).2 = true then mem (Sim.step (mem s).2).2 else mem s).2.bad || decide ((if (mem s).2.bad = false ∧ am ⟨#[45]⟩ (mem s).2 = true then mem (Sim.step (mem s).2).2 else mem s).1 < (mem s).1) }:=rfl
 have e2:ub.span l t = ⟨(ub.hi l (ue.mem l t).1 (ue.mem l t).2).2.at_,(ub.hi l (ue.mem l t).1 (ue.mem l t).2).2.bad || decide ((ub.hi l (ue.mem l t).1 (ue.mem l t).2).1 < (ue.mem l t).1)⟩:=rfl
 rw [e1,e2]
 rcases mem_sim h0 h with ⟨b1,b2⟩ | ⟨hx,hg⟩
 · left
   rw [if_neg (by rintro ⟨h9,_⟩;rw [b1] at h9;cases h9)]
   unfold ub.hi
   rw [if_neg (by rintro ⟨h9,_⟩;exact absurd (b2.symm.trans h9) (by decide))]
   refine ⟨?_,?_⟩
   · show ((mem s).2.bad || _) = true
     rw [b1]
     rfl
   · show ((ue.mem l t).2.bad || _) = true
     rw [b2]
     rfl
 · generalize hms:mem s = ms at hx hg ⊢
   generalize hmt:ue.mem l t = mt at hx hg ⊢
   obtain ⟨x1,⟨p1,c1,b1⟩⟩:=ms
   obtain ⟨y1,⟨a1,d1⟩⟩:=mt
   simp only at hx
   subst hx
   obtain ⟨g1,g2,g3,g4⟩:=hg
   simp only at g1 g2 g3 g4
   subst g1
   subst g2
   have hdash:(am ⟨#[45]⟩ ⟨p1,c1,false⟩ = true) ↔ ua.pk l ⟨a1,false⟩ = 45:=by
    rcases split_at h0 a1 false g3 with ⟨r,q,e,ek,hr,hlt,hq⟩ | ⟨e,ek,hal⟩
    · rw [g4,e,ek,am_dash r hr,decide_eq_true_eq]
      exact eq_comm
    · rw [g4,e,ek,Sim.am_nil]
      exact ⟨fun h9 => (by cases h9),fun h9 => absurd h9 (by decide)⟩
   unfold ub.hi
   simp only
   by_cases hd:ua.pk l ⟨a1,false⟩ = 45
   · rw [if_pos ⟨trivial,hdash.2 hd⟩,if_pos ⟨trivial,hd⟩]
     have hlt:a1 < l.length:=ub.pk_lt (s:=⟨a1,false⟩) (by rw [show ua.pk l ⟨a1,false⟩ = 45 from hd];decide)
     have hg2:Good l (Sim.step ⟨p1,c1,false⟩).2 ⟨a1 + 1,false⟩:=step_good h0 (t:=⟨a1,false⟩) ⟨rfl,rfl,g3,g4⟩ hlt
     rcases mem_sim h0 hg2 with ⟨b1,b2⟩ | ⟨hx2,hg3⟩
     · left
       refine ⟨?_,?_⟩
       · show ((mem (Sim.step ⟨p1,c1,false⟩).2).2.bad || _) = true
         rw [b1]
         rfl
       · show ((ue.mem l ⟨a1 + 1,false⟩).2.bad || _) = true
         rw [b2]
         rfl
     · obtain ⟨k1,k2,k3,k4⟩:=hg3
       rw [show ue.mem l ⟨a1 + 1,false⟩ = ue.mem l ⟨a1 + 1,false⟩ from rfl,← hx2,k1,k2]
       cases hlt2:decide ((mem (Sim.step ⟨p1,c1,false⟩).2).1 < x1) with
       | true => exact Or.inl ⟨rfl,rfl⟩
       | false => exact Or.inr ⟨rfl,rfl,k3,k4⟩
   · rw [if_neg (fun h9 => hd (hdash.1 h9.2)),if_neg (fun h9 => hd h9.2)]
     simp only [Int.lt_irrefl,decide_false,Bool.or_false]
     exact Or.inr ⟨rfl,rfl,g3,g4⟩
theorem loop_sim {l:List Int} (h0:∀ r ∈ l,0 ≤ r):∀ (n k k':Nat) (first:Bool) (s:CS) (t:RS) (l0:List S191),Good l s t → s.p.length ≤ n → n + 1 ≤ k → n + 1 ≤ k' →
 ((loopM k first s l0).2.bad = true ∧ (ub.loopM l k' first t).bad = true) ∨ (Good l (loopM k first s l0).2 (ub.loopM l k' first t) ∧ ∃ q,(loopM k first s l0).2.p = 93 :: q):=by
 intro n
 induction n with
 | zero =>
   intro k k' first s t l0 h hn hk hk'
   obtain ⟨k,rfl⟩:∃ j,k = j + 1:=⟨k - 1,by omega⟩
   obtain ⟨k',rfl⟩:∃ j,k' = j + 1:=⟨k' - 1,by omega⟩
   have hnil:s.p = []:=List.eq_nil_of_length_eq_zero (by omega)
   have hal:t.at_ = l.length:=by
    have h9:=h.2.2.2
    rw [hnil] at h9
    have h8:=List.drop_eq_nil_iff.1 h9.symm
    have:=h.2.2.1
    omega
   have hsp:=span_sim h0 h
   have hpg:=ub.span_prog l t h.2.2.1
   have hbad:(spanM s).2.bad = true ∧ (ub.span l t).bad = true:=by
    rcases hsp with h9 | h9
    · exact h9
    · exfalso
      have:=hpg.2 h9.2.1
      omega
   left
   have c1:s.bad = false ∧ (first = true ∨ am ⟨#[93]⟩ s = false):=⟨h.1,Or.inr (by
    obtain ⟨p,c,b⟩:=s
    simp only at hnil
    subst hnil
    exact Sim.am_nil _ _ _)⟩
   have c2:t.bad = false ∧ (ua.pk l t ≠ 93 ∨ first = true):=⟨h.2.1,Or.inl (by
    rcases split_at h0 t.at_ t.bad h.2.2.1 with ⟨r,q,e,ek,hr,hlt,hq⟩ | ⟨e,ek,_⟩
    · omega
    · intro h9
      have h8:=h9.symm.trans ek
      exact absurd h8 (by decide))⟩
   rw [ub.goes c2]
   have e1:loopM (k + 1) first s l0 = loopM k false (spanM s).2 (l0 ++ [(spanM s).1]):=by
    refine Eq.trans (b:=if s.bad = false ∧ (first = true ∨ am ⟨#[93]⟩ s = false) then loopM k false (spanM s).2 (l0 ++ [(spanM s).1]) else (l0,s)) rfl ?_
    rw [if_pos c1]
   rw [e1,Sim.loop_bad _ _ _ _ hbad.1,ub.stop (by rintro ⟨h9,_⟩;exact absurd (hbad.2.symm.trans h9) (by decide))]
   exact hbad
 | succ n ih =>
   intro k k' first s t l0 h hn hk hk'
   obtain ⟨k,rfl⟩:∃ j,k = j + 1:=⟨k - 1,by omega⟩
   obtain ⟨k',rfl⟩:∃ j,k' = j + 1:=⟨k' - 1,by omega⟩
   have hiff:am ⟨#[93]⟩ s = false ↔ ua.pk l t ≠ 93:=by
    obtain ⟨p,c,b⟩:=s
    obtain ⟨a,tb⟩:=t
    obtain ⟨g1,g2,g3,g4⟩:=h
    simp only at g1 g2 g3 g4
    rcases split_at h0 a tb g3 with ⟨r,q,e,ek,hr,hlt,hq⟩ | ⟨e,ek,hal⟩
    · rw [g4,e,ek,am_end r hr,decide_eq_false_iff_not]
      exact not_congr eq_comm
    · rw [g4,e,ek,Sim.am_nil]
      exact ⟨fun _ => by decide,fun _ => rfl⟩
   by_cases hc:first = true ∨ am ⟨#[93]⟩ s = false
   · have c2:t.bad = false ∧ (ua.pk l t ≠ 93 ∨ first = true):=⟨h.2.1,by
      rcases hc with h9 | h9
      · exact Or.inr h9
      · exact Or.inl (hiff.1 h9)⟩
     have e1:loopM (k + 1) first s l0 = loopM k false (spanM s).2 (l0 ++ [(spanM s).1]):=by
      refine Eq.trans (b:=if s.bad = false ∧ (first = true ∨ am ⟨#[93]⟩ s = false) then loopM k false (spanM s).2 (l0 ++ [(spanM s).1]) else (l0,s)) rfl ?_
      rw [if_pos ⟨h.1,hc⟩]
     rw [ub.goes c2,e1]
     have hpg:=ub.span_prog l t h.2.2.1
     rcases span_sim h0 h with h9 | h9
     · left
       rw [Sim.loop_bad _ _ _ _ h9.1,ub.stop (by rintro ⟨h8,_⟩;exact absurd (h9.2.symm.trans h8) (by decide))]
       exact h9
     · refine ih k k' false (spanM s).2 (ub.span l t) _ h9 ?_ (by omega) (by omega)
       have h8:=hpg.2 h9.2.1
       have h7:=congrArg List.length h9.2.2.2
       have h6:=congrArg List.length h.2.2.2
       rw [List.length_drop] at h7 h6
       omega
   · have hf:first = false:=by
      cases first with
      | true => exact absurd (Or.inl rfl) hc
      | false => rfl
     subst hf
     have h93:ua.pk l t = 93:=Classical.byContradiction fun h9 => hc (Or.inr (hiff.2 h9))
     have e1:loopM (k + 1) false s l0 = (l0,s):=by
      refine Eq.trans (b:=if s.bad = false ∧ (false = true ∨ am ⟨#[93]⟩ s = false) then loopM k false (spanM s).2 (l0 ++ [(spanM s).1]) else (l0,s)) rfl ?_
      rw [if_neg (fun h9 => hc h9.2)]
     rw [e1,ub.stop (by rintro ⟨_,h9 | h9⟩;exact h9 h93;cases h9)]
     right
     refine ⟨h,?_⟩
     rcases split_at h0 t.at_ t.bad h.2.2.1 with ⟨r,q,e,ek,hr,hlt,hq⟩ | ⟨e,ek,hal⟩
     · have:r = 93:=ek.symm.trans h93
       subst this
       exact ⟨q,h.2.2.2.trans e⟩
     · exact absurd (ek.symm.trans h93) (by decide)
theorem step_bad (s:CS) (h:s.bad = true):(Sim.step s).2.bad = true:=by
 obtain ⟨p,c,b⟩:=s
 cases p with
 | nil => rfl
 | cons r q => exact h
theorem cls_sim {l:List Int} (h0:∀ r ∈ l,0 ≤ r) {s:CS} {t:RS} (h:Good l s t):Rel l (cls s) (ub.cls l t):=by
 have hneg:Sim.neg s = ub.neg l t:=by
  obtain ⟨p,c,b⟩:=s
  obtain ⟨a,tb⟩:=t
  obtain ⟨g1,g2,g3,g4⟩:=h
  simp only at g1 g2 g3 g4
  unfold ub.neg
  rcases split_at h0 a tb g3 with ⟨r,q,e,ek,hr,hlt,hq⟩ | ⟨e,ek,hal⟩
  · rw [g4,e,show ua.pk l ⟨a,tb⟩ = r from ek]
    rfl
  · rw [g4,e,show ua.pk l ⟨a,tb⟩ = -1 from ek]
    rfl
 have hs0:Good l (Sim.cl0 s) (ub.in0 l t):=by
  unfold Sim.cl0 ub.in0
  rw [hneg]
  cases hn:ub.neg l t with
  | true =>
    rw [if_pos rfl,if_pos rfl]
    refine step_good h0 h (ub.pk_lt ?_)
    rw [of_decide_eq_true hn]
    decide
  | false =>
    rw [if_neg (by decide),if_neg (by decide)]
    exact h
 have hlen:(Sim.cl0 s).p.length ≤ l.length:=by
  rw [hs0.2.2.2,List.length_drop]
  omega
 have hl:=loop_sim h0 (Sim.cl0 s).p.length ((Sim.cl0 s).p.length + 2) (l.length + 2) true (Sim.cl0 s) (ub.in0 l t) [] hs0 (Nat.le_refl _) (by omega) (by omega)
 rw [Sim.cls_is]
 unfold ub.cls
 rcases hl with ⟨b1,b2⟩ | ⟨hg,q,hq⟩
 · exact Or.inl ⟨step_bad _ b1,b2⟩
 · right
   have hlt:(ub.loopM l (l.length + 2) true (ub.in0 l t)).at_ < l.length:=by
    have h9:=hg.2.2.2
    rw [hq] at h9
    rcases Nat.lt_or_ge (ub.loopM l (l.length + 2) true (ub.in0 l t)).at_ l.length with h8 | h8
    · exact h8
    · rw [List.drop_eq_nil_of_le h8] at h9
      cases h9
   exact step_good h0 hg hlt
theorem close_sim {l:List Int} (h0:∀ r ∈ l,0 ≤ r) {s:CS} {t:RS} (h:Rel l s t):Rel l (close s) ⟨t.at_ + 1,t.bad || decide (ua.pk l t ≠ 41)⟩:=by
 obtain ⟨p,c,b⟩:=s
 obtain ⟨a,tb⟩:=t
 have e:close ⟨p,c,b⟩ = (Sim.step ⟨p,c,b || nx ⟨p,c,b⟩ != 41⟩).2:=rfl
 rw [e]
 rcases h with ⟨h1,h2⟩ | ⟨g1,g2,g3,g4⟩
 · left
   simp only at h1 h2
   subst h1
   subst h2
   exact ⟨step_bad _ rfl,rfl⟩
 · simp only at g1 g2 g3 g4
   subst g1
   subst g2
   rcases split_at h0 a false g3 with ⟨r,q,e,ek,hr,hlt,hq⟩ | ⟨e,ek,hal⟩
   · rw [g4,e,ek]
     by_cases h41:r = 41
     · subst h41
       right
       exact ⟨rfl,rfl,by simp only;omega,hq.symm⟩
     · left
       refine ⟨?_,?_⟩
       · refine step_bad _ ?_
         show (false || (r != 41)) = true
         simp [h41]
       · simp [h41]
   · rw [g4,e,ek]
     exact Or.inl ⟨rfl,rfl⟩
theorem atom_sim {l:List Int} (h0:∀ r ∈ l,0 ≤ r) {s:CS} {t:RS} (h:Good l s t) (hlt:t.at_ < l.length) (A:Nat → CS → CS) (B:Nat → RS → RS) (hAB:∀ d s t,Rel l s t → Rel l (A d s) (B d t)) (d:Nat):Rel l (regex_coder_atom.atomM A d s) (uc.atomM l B d t):=by
 obtain ⟨p,c,b⟩:=s
 obtain ⟨a,tb⟩:=t
 obtain ⟨g1,g2,g3,g4⟩:=h
 simp only at g1 g2 g3 g4 hlt
 subst g1
 subst g2
 rcases split_at h0 a false g3 with ⟨r,q,e,ek,hr,_,hq⟩ | ⟨e,ek,hal⟩
 · rw [g4,e,Sim.atom_is,am_stop r hr]
   unfold uc.atomM
   rw [show ua.pk l ⟨a,false⟩ = r from ek]
   have hgq:Good l ⟨q,c,false⟩ ⟨a + 1,false⟩:=⟨rfl,rfl,by simp only;omega,hq.symm⟩
   by_cases hm:ue.mk r [42,43,63,124,41,93] = true
   · rw [if_pos hm]
     have hcases:r ≠ 46 ∧ r ≠ 40 ∧ r ≠ 91 ∧ r ≠ 92:=by
      unfold ue.mk u1g.oneB at hm
      simp only [List.any_cons,List.any_nil,Bool.or_eq_true,decide_eq_true_eq] at hm
      refine ⟨?_,?_,?_,?_⟩ <;> (rintro rfl;revert hm;decide)
     rw [if_neg hcases.1,if_neg hcases.2.1,if_neg hcases.2.2.1,if_neg hcases.2.2.2,show ue.mk r [42,43,63,124,41,93] = true from hm]
     exact Or.inl ⟨rfl,rfl⟩
   · rw [if_neg hm]
     by_cases h46:r = 46
     · rw [if_pos h46,if_pos h46]
       exact Or.inr ⟨rfl,rfl,by simp only;omega,hq.symm⟩
     rw [if_neg h46,if_neg h46]
     by_cases h91:r = 91
     · rw [if_pos h91,if_neg (by omega),if_pos h91]
       exact cls_sim h0 hgq
     rw [if_neg h91]
     by_cases h40:r = 40
     · rw [if_pos h40,if_pos h40]
       by_cases hd:10 ≤ d
       · rw [if_pos (Or.inr hd),if_pos hd]
         exact Or.inl ⟨rfl,rfl⟩
       · rw [if_neg (by rintro (h9 | h9);cases h9;exact hd h9),if_neg hd]
         exact close_sim h0 (hAB (d + 1) _ _ (Or.inr hgq))
     rw [if_neg h40,if_neg h40,if_neg h91]
     by_cases h92:r = 92
     · rw [if_pos h92,if_pos h92]
       unfold u1j.esc
       rcases split_at h0 (a + 1) false (by omega) with ⟨r2,q2,e2,ek2,hr2,hlt2,hq2⟩ | ⟨e2,ek2,hal2⟩
       · rw [hq] at e2
         subst e2
         rw [show ua.pk l ⟨a + 1,false⟩ = r2 from ek2,decide_eq_false (by omega)]
         exact Or.inr ⟨rfl,rfl,by simp only;omega,hq2.symm⟩
       · rw [hq] at e2
         subst e2
         rw [show ua.pk l ⟨a + 1,false⟩ = -1 from ek2]
         exact Or.inl ⟨rfl,rfl⟩
     rw [if_neg h92,if_neg h92]
     have hmf:ue.mk r [42,43,63,124,41,93] = false:=by
      cases hx:ue.mk r [42,43,63,124,41,93] with
      | true => exact absurd hx hm
      | false => rfl
     rw [hmf]
     exact Or.inr ⟨rfl,rfl,by simp only;omega,hq.symm⟩
 · omega
theorem qual_sim {l:List Int} (h0:∀ r ∈ l,0 ≤ r) (n:Nat) {s:CS} {t:RS} (h:Rel l s t):Rel l (qual n s) (uc.qual l t):=by
 rcases h with ⟨h1,h2⟩ | hg
 · left
   unfold regex_coder_atom.qual uc.qual
   rw [if_neg (by rintro ⟨h9,_⟩;rw [h1] at h9;cases h9),if_neg (by rintro ⟨h9,_⟩;rw [h2] at h9;cases h9)]
   exact ⟨h1,h2⟩
 · obtain ⟨p,c,b⟩:=s
   obtain ⟨a,tb⟩:=t
   obtain ⟨g1,g2,g3,g4⟩:=hg
   simp only at g1 g2 g3 g4
   subst g1
   subst g2
   unfold uc.qual
   rcases split_at h0 a false g3 with ⟨r,q,e,ek,hr,hlt,hq⟩ | ⟨e,ek,hal⟩
   · rw [show ua.pk l ⟨a,false⟩ = r from ek]
     rw [g4,e]
     by_cases hm:ue.mk r [42,43,63] = true
     · rw [if_pos ⟨rfl,hm⟩]
       unfold regex_coder_atom.qual
       rw [if_pos ⟨rfl,by rw [show uw.am ⟨#[42,43,63]⟩ ⟨r :: q,c,false⟩ = ue.mk r [42,43,63] from am_qual r hr q c false];exact hm⟩]
       right
       split
       · exact ⟨rfl,rfl,by simp only;omega,hq.symm⟩
       · split
         · exact ⟨rfl,rfl,by simp only;omega,hq.symm⟩
         · exact ⟨rfl,rfl,by simp only;omega,hq.symm⟩
     · rw [if_neg (fun h9 => hm h9.2)]
       unfold regex_coder_atom.qual
       rw [if_neg (fun h9 => hm (by rw [← am_qual r hr q c false];exact h9.2))]
       exact Or.inr ⟨rfl,rfl,g3,e.symm⟩
   · rw [show ua.pk l ⟨a,false⟩ = -1 from ek,g4,e,if_neg (fun h9 => by have h8:=h9.2;rw [mk_neg _ (by decide)] at h8;cases h8)]
     unfold regex_coder_atom.qual
     rw [if_neg (fun h9 => by have h8:=h9.2;rw [show uw.am ⟨#[42,43,63]⟩ ⟨[],c,false⟩ = false from rfl] at h8;cases h8)]
     exact Or.inr ⟨rfl,rfl,g3,e.symm⟩
theorem N_bad (l:List Int) (f:Nat):∀ (k d:Nat) (t:RS),k ≠ 0 → t.bad = true → (uc.N l f k d t).bad = true:=by
 induction f with
 | zero => exact fun k d t _ h => h
 | succ f ih =>
   intro k d t hk h
   match k with
   | 0 => exact absurd rfl hk
   | 1 =>
     rw [show uc.N l (f + 1) 1 d t = _ from uc.N1 l f d t,if_neg (by rintro ⟨h9,_⟩;rw [h] at h9;cases h9)]
     exact h
   | k + 2 =>
     have h1:=ih 1 d t (by decide) h
     rw [show uc.N l (f + 1) (k + 2) d t = _ from uc.N2 l f d t,if_neg (by rintro ⟨h9,_⟩;exact absurd (h1.symm.trans h9) (by decide))]
     exact h1
theorem M_sim {l:List Int} (h0:∀ r ∈ l,0 ≤ r) (f:Nat):∀ (k d:Nat) (s:CS) (t:RS),Rel l s t → (k = 0 → Good l s t ∧ t.at_ < l.length) → Rel l (M f k d s) (uc.N l f k d t):=by
 induction f with
 | zero => exact fun k d s t h _ => h
 | succ f ih =>
   intro k d s t h hk
   rcases h with ⟨hb1,hb2⟩ | hg
   · match k with
     | 0 => exact absurd ((hk rfl).1.1.symm.trans hb1) (by decide)
     | k + 1 => exact Or.inl ⟨Sim.M_bad (f + 1) (k + 1) d s (by omega) hb1,N_bad l (f + 1) (k + 1) d t (by omega) hb2⟩
   · match k with
     | 0 =>
       have hlt:=(hk rfl).2
       rw [show uc.N l (f + 1) 0 d t = _ from uc.N0 l f d t]
       exact atom_sim h0 hg hlt (fun d' s' => M f 2 d' s') (fun d' t' => uc.N l f 2 d' t') (fun d' s' t' h' => ih 2 d' s' t' h' (fun h9 => absurd h9 (by decide))) d
     | 1 =>
       rw [Sim.piece_is,show uc.N l (f + 1) 1 d t = _ from uc.N1 l f d t]
       obtain ⟨p,c,b⟩:=s
       obtain ⟨a,tb⟩:=t
       have hgg:=hg
       obtain ⟨g1,g2,g3,g4⟩:=hg
       simp only at g1 g2 g3 g4
       subst g1
       subst g2
       rcases split_at h0 a false g3 with ⟨r,q,e,ek,hr,hlt,hq⟩ | ⟨e,ek,hal⟩
       · rw [show ua.pk l ⟨a,false⟩ = r from ek]
         have hmo:mo ⟨p,c,false⟩ = true:=by rw [g4,e];rfl
         have ham:am ⟨#[124,41]⟩ ⟨p,c,false⟩ = ue.mk r [124,41]:=by rw [g4,e];exact am_41 r hr q c false
         rw [hmo,ham]
         by_cases hm:ue.mk r [124,41] = false
         · rw [if_pos ⟨rfl,hm⟩,if_pos ⟨rfl,hr,hm⟩]
           exact ih 1 d _ _ (qual_sim h0 _ (ih 0 d _ _ (Or.inr hgg) (fun _ => ⟨hgg,hlt⟩))) (fun h9 => absurd h9 (by decide))
         · rw [if_neg (fun h9 => hm h9.2),if_neg (fun h9 => hm h9.2.2)]
           exact Or.inr hgg
       · rw [show ua.pk l ⟨a,false⟩ = -1 from ek,if_neg (fun h9 => by have h8:=h9.1;rw [g4,e,Sim.mo_nil] at h8;cases h8),if_neg (fun h9 => absurd h9.2.1 (by decide))]
         exact Or.inr hgg
     | k + 2 =>
       have h1:=ih 1 d s t (Or.inr hg) (fun h9 => absurd h9 (by decide))
       have e1:M (f + 1) (k + 2) d s = M (f + 1) 2 d s:=rfl
       have e2:uc.N l (f + 1) (k + 2) d t = uc.N l (f + 1) 2 d t:=rfl
       rw [e1,e2,Sim.alts_is,show uc.N l (f + 1) 2 d t = _ from uc.N2 l f d t]
       generalize hs1:M f 1 d s = s1 at h1 ⊢
       rw [show uc.N l f 1 d t = uc.N l f 1 d t from rfl]
       generalize ht1:uc.N l f 1 d t = t1 at h1 ⊢
       rcases h1 with ⟨b1,b2⟩ | hg1
       · rw [if_neg (fun h9 => by have h8:=(regex_coder_atom.mo_ne h9.1).2;rw [b1] at h8;cases h8),if_neg (fun h9 => by rw [b2] at h9;cases h9.1)]
         exact Or.inl ⟨b1,b2⟩
       · obtain ⟨p,c,b⟩:=s1
         obtain ⟨a,tb⟩:=t1
         have hgg:=hg1
         obtain ⟨g1,g2,g3,g4⟩:=hg1
         simp only at g1 g2 g3 g4
         subst g1
         subst g2
         rcases split_at h0 a false g3 with ⟨r,q,e,ek,hr,hlt,hq⟩ | ⟨e,ek,hal⟩
         · rw [show ua.pk l ⟨a,false⟩ = r from ek]
           have hmo:mo ⟨p,c,false⟩ = true:=by rw [g4,e];rfl
           have hnx:nx ⟨p,c,false⟩ = r:=by rw [g4,e];rfl
           rw [hmo,hnx]
           by_cases h124:r = 124
           · rw [if_pos ⟨rfl,h124⟩,if_pos ⟨rfl,h124⟩]
             have hbar:Good l (bar s.code.length ⟨p,c,false⟩) ⟨a + 1,false⟩:=by
              rw [g4,e]
              exact ⟨rfl,rfl,by simp only;omega,hq.symm⟩
             have h2:=ih 2 d _ _ (Or.inr hbar) (fun h9 => absurd h9 (by decide))
             obtain ⟨_,al2,al3⟩:=regex_coder_atom.aim_len (s.code.length + 1 + ((⟨p,c,false⟩:CS).code.drop s.code.length).length) (M f 2 d (bar s.code.length ⟨p,c,false⟩))
             rcases h2 with ⟨b1,b2⟩ | ⟨k1,k2,k3,k4⟩
             · exact Or.inl ⟨al3.trans b1,b2⟩
             · exact Or.inr ⟨al3.trans k1,k2,k3,al2.trans k4⟩
           · rw [if_neg (fun h9 => h124 h9.2),if_neg (fun h9 => h124 h9.2)]
             exact Or.inr hgg
         · rw [show ua.pk l ⟨a,false⟩ = -1 from ek,if_neg (fun h9 => by have h8:=h9.1;rw [g4,e,Sim.mo_nil] at h8;cases h8),if_neg (fun h9 => absurd h9.2 (by decide))]
           exact Or.inr hgg
theorem nonneg (s:ByteArray):∀ r ∈ Base.runesOf s,0 ≤ r:=by
 intro r hr
 obtain ⟨c,rfl,_⟩:=Utf.vr_of s r hr
 omega
theorem same_check (s:ByteArray):u2a.okB s = (u1i.parseM s).isSome:=by
 have hm:=M_sim (nonneg s) (4 * (Base.runesOf s).length + 3) 2 0 ⟨Base.runesOf s,[],false⟩ ⟨0,false⟩ (Or.inr ⟨rfl,rfl,Nat.zero_le _,rfl⟩) (fun h9 => absurd h9 (by decide))
 have e1:M (4 * (Base.runesOf s).length + 3) 2 0 ⟨Base.runesOf s,[],false⟩ = u1i.runM (Base.runesOf s):=rfl
 have e2:uc.N (Base.runesOf s) (4 * (Base.runesOf s).length + 3) 2 0 ⟨0,false⟩ = uz.runN (Base.runesOf s):=rfl
 rw [e1,e2] at hm
 unfold u2a.okB u1i.parseM
 by_cases he:60 < s.size ∨ u1i.tv s = true
 · rw [if_pos he]
   have h1:uz.early s = true:=by
    unfold uz.early u1g.oneB
    rw [Bool.or_eq_true,decide_eq_true_eq,List.any_eq_true]
    rcases he with h9 | h9
    · exact Or.inl h9
    · exact Or.inr ⟨65533,(Has.tv_iff s).1 h9,by simp⟩
   rw [h1]
   rfl
 · rw [if_neg he]
   have h1:uz.early s = false:=by
    cases h9:uz.early s with
    | false => rfl
    | true =>
      exfalso
      unfold uz.early u1g.oneB at h9
      rw [Bool.or_eq_true,decide_eq_true_eq,List.any_eq_true] at h9
      rcases h9 with h9 | ⟨x,hx,h9⟩
      · exact he (Or.inl h9)
      · have h8:=of_decide_eq_true h9
        subst h8
        exact he (Or.inr ((Has.tv_iff s).2 hx))
   rw [h1]
   show (true && uz.okN (Base.runesOf s)) = _
   rw [Bool.true_and]
   unfold uz.okN
   rcases hm with ⟨b1,b2⟩ | ⟨k1,k2,k3,k4⟩
   · rw [if_pos (Or.inl b1),b2]
     rfl
   · rw [k2]
     have h7:=congrArg List.length k4
     rw [List.length_drop] at h7
     by_cases hp:0 < (u1i.runM (Base.runesOf s)).p.length
     · rw [if_pos (Or.inr hp),decide_eq_false (by omega)]
       rfl
     · rw [if_neg (by rintro (h9 | h9);rw [k1] at h9;cases h9;exact hp h9),decide_eq_true (by omega)]
       rfl
end R8
end Go.Proofs.YtgnehcgaplnfkaaGreatDoor.PAll
namespace Go.Proofs.YtgnehcgaplnfkaaGreatDoor.Laws
open Go.RowKit Go.Proofs.YtgnehcgaplnfkaaGreatDoor.PAll Go.Proofs.YtgnehcgaplnfkaaGreatDoorW.PrintWords Go.Proofs.YtgnehcgaplnfkaaGreatDoorW.PrintLast
set_option linter.unusedVariables false
set_option linter.unusedSimpArgs false
abbrev Mt:=S79
def rcanB (a0:Int) (a1 a2:ByteArray):Bool:=Base.nameB a1 && (if a0 = 1 ∨ a0 = 2 then decide (a2.size = 0) || Base.valueB a2 else if a0 = 3 ∨ a0 = 4 then u2a.okB a2 && Base.plainTextB a2 else false)
theorem no_repl {s:ByteArray} (h:u2a.okB s = true):∀ r ∈ Base.runesOf s,r ≠ 65533:=by
 intro r hr he
 subst he
 unfold u2a.okB at h
 rw [Bool.and_eq_true,Bool.not_eq_true'] at h
 have h1:=h.1
 unfold uz.early u1g.oneB at h1
 rw [Bool.or_eq_false_iff,List.any_eq_false] at h1
 exact h1.2 _ hr (by simp)
theorem rcan_is (a0:Int) (a1 a2:ByteArray):rcanB a0 a1 a2 = u3a.canB a0 a1 a2:=by
 unfold rcanB u3a.canB
 rw [Bool.and_comm]
 congr 1
 split
 · rfl
 · split
   · rw [← R8.same_check]
     cases h:u2a.okB a2 with
     | false => simp
     | true =>
       rw [Bool.true_and,Bool.and_true]
       have hn:=no_repl h
       unfold Base.plainTextB
       rw [Bool.eq_iff_iff,List.all_eq_true,List.all_eq_true]
       refine ⟨fun h1 r hr => ?_,fun h1 r hr => ?_⟩
       · have:=h1 r hr
         unfold u3a.quietB
         simp only [Bool.not_eq_true',Bool.or_eq_false_iff,decide_eq_false_iff_not] at this ⊢
         exact this.1
       · have:=h1 r hr
         have h2:=hn r hr
         unfold u3a.quietB at this
         simp only [Bool.not_eq_true',Bool.or_eq_false_iff,decide_eq_false_iff_not] at this ⊢
         exact ⟨this,h2⟩
   · rfl
theorem r9can_ev (a0:Int) (a1 a2:ByteArray) (h1:a1.size ≤ 9223372036854775807) (h2:a2.size ≤ 35184372088830):Ev (fun k => u1q.f k a0 a1 a2) (u3a.canB a0 a1 a2):=by
 rw [← rcan_is]
 unfold rcanB
 refine Ev.bind (rname_ev a1 h1) ?_
 cases Base.nameB a1 with
 | false => exact Ev.congr (fun k => by simp) (Ev.now _)
 | true =>
   rw [Bool.true_and]
   have hv:Ev (fun k => (u3q.f a2).bind fun t => some t) (Base.valueB a2):=by
    rw [rvalue_is]
    exact Ev.now _
   have hj1:∀ b:Bool,Ev (fun k => u1q.j1 k b a0 a1 a2) (if b = true then u2a.okB a2 && Base.plainTextB a2 else false):=fun b => by
    cases b with
    | false => exact Ev.step (f:=fun _ => some false) (fun k => by simp [u1q.j1]) (Ev.now _)
    | true =>
      refine Ev.step (f:=fun _ => some (u2a.okB a2 && Base.plainTextB a2)) (fun k => ?_) (Ev.now _)
      simp only [u1q.j1,u2a.f,u2y.f]
      rw [if_pos h2]
      cases u2a.okB a2 <;> simp
   have hj0:∀ b:Bool,Ev (fun k => u1q.j0 k a0 b a0 a1 a2) (if b = true then decide (a2.size = 0) || Base.valueB a2 else if a0 = 3 ∨ a0 = 4 then u2a.okB a2 && Base.plainTextB a2 else false):=fun b => by
    cases b with
    | true =>
      refine Ev.step (f:=fun _ => some (decide (a2.size = 0) || Base.valueB a2)) (fun k => ?_) (Ev.now _)
      simp only [u1q.j0]
      rw [if_pos trivial]
      by_cases h0:a2.size = 0
      · rw [if_pos ((Base.toList_nil a2).2 h0)]
        simp [h0]
      · rw [if_neg (fun h9 => h0 ((Base.toList_nil a2).1 h9)),rvalue_is]
        simp [h0]
    | false =>
      refine Ev.step (f:=fun k => if a0 = 3 then u1q.j1 k (a0 == 3) a0 a1 a2 else u1q.j1 k (a0 == 4) a0 a1 a2) (fun k => by simp only [u1q.j0];rw [if_neg (by intro h9;cases h9)]) ?_
      rw [if_neg (by intro h9;cases h9)]
      by_cases h3:a0 = 3
      · have:=hj1 (a0 == 3)
        simp only [if_pos h3]
        simpa [h3] using this
      · have:=hj1 (a0 == 4)
        simp only [if_neg h3]
        simpa [h3] using this
   refine Ev.congr (f:=fun k => if a0 = 1 then u1q.j0 k a0 (a0 == 1) a0 a1 a2 else u1q.j0 k a0 (a0 == 2) a0 a1 a2) (fun k => by rw [if_pos rfl]) ?_
   by_cases ha:a0 = 1
   · have:=hj0 (a0 == 1)
     simp only [if_pos ha]
     simpa [ha] using this
   · have:=hj0 (a0 == 2)
     simp only [if_neg ha]
     simpa [ha] using this
theorem r9_l0 (x0 l:List Mt) (hl:l.length < 4611686018427387904) (hs:∀ y ∈ l,y.f1.size ≤ 9223372036854775807 ∧ y.f2.size ≤ 35184372088830):∀ (r:List Mt) (i:Nat),l.drop i = r → i ≤ l.length → Ev (fun k => u2m.l0 k x0 l (l.length:Int) (i:Int)) (r.all u1l.okB && decide (x0.length ≤ 6))
 | [],i,h,hi => by
   have:l.length ≤ i:=List.drop_eq_nil_iff.1 h
   refine Ev.step (f:=fun _ => some (([]:List Mt).all u1l.okB && decide (x0.length ≤ 6))) (fun k => ?_) (Ev.now _)
   simp only [u2m.l0]
   rw [if_neg (by omega)]
   simp
   omega
 | x :: r,i,h,hi => by
   have hlt:i < l.length:=by
    rcases Nat.lt_or_ge i l.length with h9 | h9
    · exact h9
    · rw [List.drop_eq_nil_of_le h9] at h
      cases h
   rw [List.drop_eq_getElem_cons hlt] at h
   obtain ⟨h1,h2⟩:=List.cons.inj h
   have hx:u1s l (i:Int) = x:=by simp [u1s,hlt,h1]
   have hm:x ∈ l:=by rw [← h1];exact List.getElem_mem hlt
   have ih:=r9_l0 x0 l hl hs r (i + 1) h2 (by omega)
   refine Ev.step (f:=fun k => (u1q.f k x.f0 x.f1 x.f2).bind fun t => if t = true then u2m.l0 k x0 l (l.length:Int) ((i + 1:Nat):Int) else some false) (fun k => ?_) ?_
   · simp only [u2m.l0]
     rw [if_pos (by omega),if_pos (by omega),if_pos (by omega),hx,show wrap64 ((i:Int) + 1) = ((i + 1:Nat):Int) by unfold wrap64;omega]
   · refine Ev.bind (r9can_ev x.f0 x.f1 x.f2 (hs x hm).1 (hs x hm).2) ?_
     rw [List.all_cons]
     show Ev (fun k => if u3a.canB x.f0 x.f1 x.f2 = true then _ else some false) (u3a.canB x.f0 x.f1 x.f2 && r.all u1l.okB && decide (x0.length ≤ 6))
     cases u3a.canB x.f0 x.f1 x.f2 with
     | false => exact Ev.congr (fun k => by simp) (Ev.now _)
     | true =>
       rw [Bool.true_and]
       exact Ev.congr (fun k => by rw [if_pos rfl]) ih
theorem r9Can_ev (l:List Mt) (hl:l.length < 4611686018427387904) (hs:∀ y ∈ l,y.f1.size ≤ 9223372036854775807 ∧ y.f2.size ≤ 35184372088830):Ev (fun k => u2m.f k l) (u1l.CanB l):=by
 have h:=r9_l0 l l hl hs l 0 rfl (Nat.zero_le _)
 unfold u1l.CanB
 rw [Bool.and_comm]
 exact h
end Go.Proofs.YtgnehcgaplnfkaaGreatDoor.Laws
