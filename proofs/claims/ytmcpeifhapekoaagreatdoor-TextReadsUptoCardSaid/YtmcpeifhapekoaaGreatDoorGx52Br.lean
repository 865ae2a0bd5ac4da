/- A text of this seat. -/
import Derived.Test.YtmcpeifhapekoaaGreatDoorBr1
namespace Go.Proofs.YtmcpeifhapekoaaGreatDoor.PAll
open Go.RowKit Go.Proofs.YtmcpeifhapekoaaGreatDoorW.PrintWords Go.Proofs.YtmcpeifhapekoaaGreatDoorW.PrintLast Go.Proofs.YtmcpeifhapekoaaGreatDoorW.PrintMore
attribute [local go_sem] u3q u3r max_two min_two u3l u3k u3s u3p   -- for this text's walks alone
set_option linter.unusedVariables false
set_option linter.unusedSimpArgs false
def u1b.l0:Nat → List (S66) → Int → ByteArray → ByteArray → Option ((List (S66)) × Bool)
 | 0,_,_,_,_ => none
 | k + 1,x0,x6,x125000,x125001 => if x6 > 0 then (if 0 ≤ (wrap64 (x6 - 1)) then (if (wrap64 (x6 - 1)) < (x0.length:Int) then (if (Op.bytesLess x125000.toList (((u2g x0 (wrap64 (x6 - 1))).f0).toList)) = true then (u1b.l0 k x0 (wrap64 (x6 - 1)) x125000 x125001) else (if ((u2g x0 (wrap64 (x6 - 1))).f0).toList = x125000.toList then (some (([]:List (S66)),false)) else ((some (([]:List (S66)):List (S66))).bind fun y127 => (if 0 ≤ x6 then (if x6 ≤ (x0.length:Int) then ((some (x0.take (x6:Int).toNat:List (S66))).bind fun y130 => (if y127.length + y130.length < 4398046511104 then ((some (y127 ++ y130:List (S66))).bind fun y134 => ((some (([(⟨x125000,x125001⟩:S66)]:List (S66)):List (S66))).bind fun y137 => (if y134.length + y137.length < 4398046511104 then ((some (y134 ++ y137:List (S66))).bind fun y140 => ((some (x0.drop (x6:Int).toNat:List (S66))).bind fun y143 => (if y140.length + y143.length < 4398046511104 then (some ((y140 ++ y143),true)) else (none)))) else (none)))) else (none))) else (none)) else (none))))) else (none)) else (none)) else ((some (([]:List (S66)):List (S66))).bind fun y150 => (if 0 ≤ x6 then (if x6 ≤ (x0.length:Int) then ((some (x0.take (x6:Int).toNat:List (S66))).bind fun y153 => (if y150.length + y153.length < 4398046511104 then ((some (y150 ++ y153:List (S66))).bind fun y157 => ((some (([(⟨x125000,x125001⟩:S66)]:List (S66)):List (S66))).bind fun y160 => (if y157.length + y160.length < 4398046511104 then ((some (y157 ++ y160:List (S66))).bind fun y163 => ((some (x0.drop (x6:Int).toNat:List (S66))).bind fun y166 => (if y163.length + y166.length < 4398046511104 then (some ((y163 ++ y166),true)) else (none)))) else (none)))) else (none))) else (none)) else (none)))
def u1b.f (k:Nat) (l0:List (S66)) (a1_0:ByteArray) (a1_1:ByteArray):Option ((List (S66)) × Bool):=u1b.l0 k l0 (l0.length:Int) a1_0 a1_1
def u1b.T2:Bool × List (List Nat × List Nat):=(true,[([],[]),([0],[0]),([1],[1]),([2],[2]),([2],[2]),([4,2],[2,4]),([3,5,2],[2,3,5]),([6,2],[2,6]),([7,2],[2,7]),([2],[2]),([9,2],[2,9]),([8,10,2],[2,8,10]),([2,11],[2,11])])
def u1b.B2:List Nat:=[0,1,3,7,7,23,63,127,255,7,519,2047,4095]
theorem u1b.tab2:rtab .any (opsOf Tryz.f128 2) = u1b.T2:=by kernel_rfl
theorem u1b.bits2:waitsOk u1b.T2.2 u1b.B2 = true:=by kernel_rfl
def u1b.T4:Bool × List (List Nat × List Nat):=(true,[([],[]),([0],[0]),([1],[1]),([2],[2]),([2],[2]),([4,2],[2,4]),([3,5,2],[2,3,5]),([6,2],[2,6]),([7,2],[2,7]),([2],[2]),([9,2],[2,9]),([8,10,2],[2,8,10]),([2,11],[2,11])])
def u1b.B4:List Nat:=[0,1,3,7,7,23,63,127,255,7,519,2047,4095]
theorem u1b.tab4:rtab .any (opsOf Tryz.f128 4) = u1b.T4:=by kernel_rfl
theorem u1b.bits4:waitsOk u1b.T4.2 u1b.B4 = true:=by kernel_rfl
def u1b.T6:Bool × List (List Nat × List Nat):=(true,[([],[]),([],[]),([],[]),([1,2],[1,2]),([0,3],[0,3]),([],[]),([5],[5]),([4,6,4],[4,6]),([],[]),([],[]),([8,9],[8,9]),([7,10,7],[7,10]),([11,11,0,1,2,3,4,5,6,7,8,9,10,11],[11]),([12,0,1,2,3,4,5,6,7,8,9,10,11,12],[])])
def u1b.B6:List Nat:=[0,0,0,6,15,0,32,127,0,0,768,2047,4095,8191]
theorem u1b.tab6:rtab .any (opsOf Tryz.f128 6) = u1b.T6:=by kernel_rfl
theorem u1b.bits6:waitsOk u1b.T6.2 u1b.B6 = true:=by kernel_rfl
set_option maxHeartbeats 8000000 in
set_option maxRecDepth 100000 in
theorem u1b.calls (k:Nat) (A0:Option Addr) (c0:Nat) (l0:List (S66)) (a1_0:ByteArray) (a1_1:ByteArray) (r1:List (S66)) (r2:Bool) (w:World) (hr0:Kd.C k66 w A0 l0.length l0) (hc0:l0.length ≤ c0) (h:u1b.f k l0 a1_0 a1_1 = some (r1,r2)) :
 Calls Tryz.prog 128 #[.slice A0 l0.length c0,.agg #[.string a1_0,.string a1_1]] w fun e w' => ∃ v0_:Value,e = .returned (.tuple #[v0_,.bool r2]) ∧ Kd.R k66 66 w' w.heap.size (fun _ => True) v0_ r1 ∧ Below w.heap.size w w':=by
 have hu66:=Tryz.underlying66
 have HR0:=Aside0.mk hr0
 have HC0:=Aside0.mk hc0
 clear hr0 hc0
 have HB:=Aside0.mk (Below.refl w.heap.size w)
 have H:(u1b.l0 k l0 (l0.length:Int) a1_0 a1_1) = some (r1,r2):=h
 clear h
 have H':=Aside0.mk H
 clear H
 go_enter Tryz.func128,Tryz.ntmps128
 go_wp2_with (first | ((with_reducible refine u3f (N:=3) rfl ?_);refine u3c ?hg (N:=3) ?hd (cs:=#[.string a1_0,.string a1_1]) (t:=66) ?hr ?_;(case hd => rfl);(case hg => rfl);(case hr => first | (go_simp;done) | (go_simp;rfl));intro gb124 hg w3 hbox hb;have n0_:=Aside0.mk (u1h (by repeat (first | (with_reducible first | exact HB.out | apply uc | apply ub | apply ud) | exact HB.out)) hb);have n1_:=Aside0.mk (hbox);have n2_:=Aside0.mk ((by rw [hg];exact (u1c (by repeat (first | (with_reducible first | exact HB.out | apply uc | apply ub | apply ud) | exact HB.out))):w.heap.size ≤ gb124));have n3_:=Aside0.mk ((by rw [hg];exact (u1c (by repeat (first | (with_reducible first | exact HB.out | apply uc | apply ub | apply ud) | exact HB.out))):w.heap.size ≤ gb124));clear HB;have HB:=n0_;have BK124:=n1_;have GW124:=n2_;have GE124:=n3_;clear n0_ n1_ n2_ n3_;clear hb hbox hg))
 go_loopg [6] k (fun kq v6 w' => ∃ (x6_1:Int),v6 = .int .i64 x6_1 ∧ Aside0 (u1b.l0 kq l0 x6_1 a1_0 a1_1 = some (r1,r2)) ∧ Aside0 (kq ≤ k) ∧ Aside0 (w'.heap[gb124]? = some (.cells #[.string a1_0,.string a1_1] 66 (0,0))) ∧ Aside0 (Below w.heap.size w w'))
 case atStart => exact ⟨((l0.length:Int)),(by first | rfl | (simp;done) | (simp [*];done)),H',⟨Nat.le_refl _⟩,⟨by (with_reducible repeat (first | refine ue ?_ _ | refine ug ?_ | refine uf ?_ _));exact BK124.out⟩,⟨by repeat (first | (with_reducible first | exact HB.out | apply uc | apply ub | apply ud | refine ui ?_ GE124.out) | exact HB.out)⟩⟩
 case round =>
  clear H'
  try clear c1
  try clear p2
  obtain ⟨x6_1,rfl,HA,HK1,BK124,HB⟩:=hrel
  cases gk with
  | zero => exact absurd HA.out (by simp [u1b.l0])
  | succ k1 =>
   have H:=HA.out
   clear HA
   simp only [u1b.l0] at H
   by_cases c4:x6_1 > 0
   ·rw [if_pos c4] at H
    have c4b0:decide (0 < x6_1) = true:=decide_eq_true c4
    clear c4
    obtain ⟨ji5,hji5⟩:∃ j_:Int,(wrap64 (x6_1 - 1)) = j_:=⟨_,rfl⟩
    replace H:(if 0 ≤ (ji5) then (if (ji5) < (l0.length:Int) then (if (Op.bytesLess a1_0.toList (((u2g l0 (ji5)).f0).toList)) = true then (u1b.l0 k1 l0 ji5 a1_0 a1_1) else (if ((u2g l0 (ji5)).f0).toList = a1_0.toList then (some (([]:List (S66)),false)) else ((some (([]:List (S66)):List (S66))).bind fun y127 => (if 0 ≤ x6_1 then (if x6_1 ≤ (l0.length:Int) then ((some (l0.take (x6_1:Int).toNat:List (S66))).bind fun y130 => (if y127.length + y130.length < 4398046511104 then ((some (y127 ++ y130:List (S66))).bind fun y134 => ((some (([(⟨a1_0,a1_1⟩:S66)]:List (S66)):List (S66))).bind fun y137 => (if y134.length + y137.length < 4398046511104 then ((some (y134 ++ y137:List (S66))).bind fun y140 => ((some (l0.drop (x6_1:Int).toNat:List (S66))).bind fun y143 => (if y140.length + y143.length < 4398046511104 then (some ((y140 ++ y143),true)) else (none)))) else (none)))) else (none))) else (none)) else (none))))) else (none)) else (none)) = some (r1,r2):=by first | (rw [hji5] at H;exact H) | (simp only [hji5] at H ⊢;exact H)
    have hji5w:(IntKind.i64.wrap (x6_1 - 1)) = ji5:=(i64_w _).trans hji5
    by_cases c6:0 ≤ (ji5)
    ·rw [if_pos c6] at H
     have c6b0:decide (0 ≤ (ji5)) = true:=decide_eq_true c6
     clear c6
     by_cases c7:(ji5) < (l0.length:Int)
     ·rw [if_pos c7] at H
      have c7b0:decide ((ji5) < (l0.length:Int)) = true:=decide_eq_true c7
      clear c7
      by_cases c8:(Op.bytesLess a1_0.toList (((u2g l0 (ji5)).f0).toList)) = true
      ·rw [if_pos c8] at H
       have c8b0:(Op.bytesLess a1_0.toList (((u2g l0 (ji5)).f0).toList)) = true:=c8
       clear c8
       have H':=Aside0.mk H
       clear H
       try go_wp2
       have n0_:=Aside0.mk (ug BK124.out)
       have n1_:=Aside0.mk (ud HB.out)
       clear BK124
       clear HB
       have BK124:=n0_
       have HB:=n1_
       clear n0_ n1_
       have p125:0 ≤ ((ji5):Int):=of_decide_eq_true (by first | (with_reducible assumption) | assumption)
       have q125:(ji5) < (l0.length:Int):=of_decide_eq_true (by first | (with_reducible assumption) | assumption)
       obtain ⟨ad125,e125,hx125_0,hx125_1⟩:=at_T66 HR0.out (ji5) p125 q125
       have hw125_1:=hx125_1
       have hw125_0:=hx125_0
       cases e125
       replace hx125_0:=(HB.out.cell (World.block_lt_of_cell? w _ hx125_0)).trans hx125_0
       replace hx125_1:=(HB.out.cell (World.block_lt_of_cell? w _ hx125_1)).trans hx125_1
       replace p125:=eq_true p125
       replace q125:=eq_true q125
       refine start_ (n:=13) (S:=fun w' => w'.cell? ⟨gb124,0,none⟩ = some (.string a1_0) ∧ w'.cell? ⟨gb124,1,none⟩ = some (.string a1_1) ∧ w'.cell? (ad125.add (((ji5)).toNat * 2)) = some (.string ((u2g l0 (ji5)).f0)) ∧ w'.cell? ⟨(ad125.add (((ji5)).toNat * 2)).block,(ad125.add (((ji5)).toNat * 2)).off + 1,none⟩ = some (.string ((u2g l0 (ji5)).f1))) (ds:=[]) #[false,false,false,false,false,false,false,false,false,false,false,false,false] (by kernel_rfl) rfl rfl ⟨(uj BK124.out 0).trans rfl,(uj BK124.out 1).trans rfl,((HB.out.cell (World.block_lt_of_cell? w _ hw125_0)).trans hw125_0),((HB.out.cell (World.block_lt_of_cell? w _ hw125_1)).trans hw125_1)⟩ (fun hHeld => ?_);refine with_tabW u1b.tab2 u1b.bits2 (fun HT_ HW_ => ?_)
       generalize wr.drew = w9 at BK124 HB hx125_0 hx125_1 hHeld ⊢
       refine pure_ (i:=0) (N:=some 9) (v:=?_) (a':=?_) #[true,false,false,false,false,false,false,false,false,false,false,false,false] rfl rfl (u2j HT_.out (by kernel_rfl)) (fun _ _ _ h => h) (Or.inl ⟨by rfl,?_⟩) ?_ ?_
       rotate_left
       ·intro w'
        go_simp
        with_reducible rfl
       rotate_left
       ·simp only [Act.put,List.setIfInBounds_toArray,List.set_cons_zero,List.set_cons_succ,i64_w,i32_w]
        rfl
       refine pure_ (i:=1) (N:=some 10) (v:=?_) (a':=?_) #[true,true,false,false,false,false,false,false,false,false,false,false,false] rfl rfl (u2j HT_.out (by kernel_rfl)) (fun _ _ _ h => h) (Or.inl ⟨by rfl,?_⟩) ?_ ?_
       rotate_left
       ·intro w'
        go_simp
        with_reducible rfl
       rotate_left
       ·simp only [Act.put,List.setIfInBounds_toArray,List.set_cons_zero,List.set_cons_succ,i64_w,i32_w]
        rfl
       refine pure_ (i:=2) (N:=some 11) (v:=?_) (a':=?_) #[true,true,true,false,false,false,false,false,false,false,false,false,false] rfl rfl (u2j HT_.out (by kernel_rfl)) (fun _ _ _ h => h) (Or.inl ⟨by rfl,?_⟩) ?_ ?_
       rotate_left
       ·intro w'
        go_simp
        with_reducible rfl
       rotate_left
       ·simp only [Act.put,List.setIfInBounds_toArray,List.set_cons_zero,List.set_cons_succ,i64_w,i32_w]
        rfl
       refine pure_ (i:=3) (N:=some 12) (v:=?_) (a':=?_) #[true,true,true,true,false,false,false,false,false,false,false,false,false] rfl rfl (u2j HT_.out (by kernel_rfl)) (fun _ _ _ h => h) (Or.inl ⟨by rfl,?_⟩) ?_ ?_
       rotate_left
       ·intro w'
        go_simp
        with_reducible rfl
       rotate_left
       ·simp only [Act.put,List.setIfInBounds_toArray,List.set_cons_zero,List.set_cons_succ,i64_w,i32_w]
        rfl
       refine pure_ (i:=4) (N:=some 13) (v:=?_) (a':=?_) #[true,true,true,true,true,false,false,false,false,false,false,false,false] rfl rfl (u2j HT_.out (by kernel_rfl)) (fun _ _ _ h => h) (Or.inl ⟨by rfl,?_⟩) ?_ ?_
       rotate_left
       ·intro w'
        go_simp
        with_reducible rfl
       rotate_left
       ·simp only [Act.put,List.setIfInBounds_toArray,List.set_cons_zero,List.set_cons_succ,i64_w,i32_w]
        rfl
       refine pure_ (i:=5) (N:=some 14) (v:=?_) (a':=?_) #[true,true,true,true,true,true,false,false,false,false,false,false,false] rfl rfl (u2j HT_.out (by kernel_rfl)) (fun _ _ _ h => h) (Or.inl ⟨by rfl,?_⟩) ?_ ?_
       rotate_left
       ·intro w'
        go_simp
        with_reducible rfl
       rotate_left
       ·simp only [Act.put,List.setIfInBounds_toArray,List.set_cons_zero,List.set_cons_succ,i64_w,i32_w]
        rfl
       refine pure_ (i:=6) (N:=some 15) (v:=?_) (a':=?_) #[true,true,true,true,true,true,true,false,false,false,false,false,false] rfl rfl (u2j HT_.out (by kernel_rfl)) (fun _ _ _ h => h) (Or.inl ⟨by rfl,?_⟩) ?_ ?_
       rotate_left
       ·intro w'
        go_simp
        with_reducible rfl
       rotate_left
       ·simp only [Act.put,List.setIfInBounds_toArray,List.set_cons_zero,List.set_cons_succ,i64_w,i32_w]
        rfl
       refine pure_ (i:=7) (N:=some 16) (v:=?_) (a':=?_) #[true,true,true,true,true,true,true,true,false,false,false,false,false] rfl rfl (u2j HT_.out (by kernel_rfl)) (fun _ _ _ h => h) (Or.inl ⟨by rfl,?_⟩) ?_ ?_
       rotate_left
       ·intro w'
        go_simp
        with_reducible rfl
       rotate_left
       ·simp only [Act.put,List.setIfInBounds_toArray,List.set_cons_zero,List.set_cons_succ,i64_w,i32_w]
        rfl
       refine pure_ (i:=9) (N:=some 18) (v:=?_) (a':=?_) #[true,true,true,true,true,true,true,true,false,true,false,false,false] rfl rfl (u2j HT_.out (by kernel_rfl)) (fun _ _ _ h => h) (Or.inl ⟨by rfl,?_⟩) ?_ ?_
       rotate_left
       ·intro w'
        go_simp
        with_reducible rfl
       rotate_left
       ·simp only [Act.put,List.setIfInBounds_toArray,List.set_cons_zero,List.set_cons_succ,i64_w,i32_w]
        rfl
       refine take_ (i:=8) (N:=some 17) (v:=?_) (a':=?_) #[true,true,true,true,true,true,true,true,true,true,false,false,false] rfl rfl (take_ofW HT_.out HW_.out (by kernel_rfl)) (fun _ _ _ h => h) (Or.inl ⟨by rfl,?_⟩) hHeld ?_ ?_
       rotate_left
       ·rintro w' ⟨s0,s1,s2,s3⟩
        go_simp
        with_reducible rfl
       rotate_left
       ·simp only [Act.put,List.setIfInBounds_toArray,List.set_cons_zero,List.set_cons_succ,i64_w,i32_w]
        rfl
       refine take_ (i:=10) (N:=some 19) (v:=?_) (a':=?_) #[true,true,true,true,true,true,true,true,true,true,true,false,false] rfl rfl (take_ofW HT_.out HW_.out (by kernel_rfl)) (fun _ _ _ h => h) (Or.inl ⟨by rfl,?_⟩) hHeld ?_ ?_
       rotate_left
       ·rintro w' ⟨s0,s1,s2,s3⟩
        go_simp
        with_reducible rfl
       rotate_left
       ·simp only [Act.put,List.setIfInBounds_toArray,List.set_cons_zero,List.set_cons_succ,i64_w,i32_w]
        rfl
       refine pure_ (i:=11) (N:=some 20) (v:=?_) (a':=?_) #[true,true,true,true,true,true,true,true,true,true,true,true,false] rfl rfl (u2j HT_.out (by kernel_rfl)) (fun _ _ _ h => h) (Or.inl ⟨by rfl,?_⟩) ?_ ?_
       rotate_left
       ·intro w'
        go_simp
        with_reducible rfl
       rotate_left
       ·simp only [Act.put,List.setIfInBounds_toArray,List.set_cons_zero,List.set_cons_succ,i64_w,i32_w]
        rfl
       refine pure_ (i:=12) (N:=some 21) (v:=?_) (a':=?_) #[true,true,true,true,true,true,true,true,true,true,true,true,true] rfl rfl (u2j HT_.out (by kernel_rfl)) (fun _ _ _ h => h) (Or.inl ⟨by rfl,?_⟩) ?_ ?_
       rotate_left
       ·intro w'
        go_simp
        with_reducible rfl
       rotate_left
       ·simp only [Act.put,List.setIfInBounds_toArray,List.set_cons_zero,List.set_cons_succ,i64_w,i32_w]
        rfl
       refine done_ (done_of HT_.out (by kernel_rfl)) ?_
       try go_wp2
       go_roundg k1
       case measure => have:=HK1.out;omega
       case rel => exact ⟨(ji5),(by first | rfl | (simp;done) | (simp only [← hji5] <;> (first | rfl | simp)) | (simp [*];done)),H',⟨by have:=HK1.out;omega⟩,⟨by (with_reducible repeat (first | refine ue ?_ _ | refine ug ?_ | refine uf ?_ _));exact BK124.out⟩,⟨by repeat (first | (with_reducible first | exact HB.out | apply uc | apply ub | apply ud | refine ui ?_ GE124.out) | exact HB.out)⟩⟩
      ·rw [if_neg c8] at H
       have c8b0:(Op.bytesLess a1_0.toList (((u2g l0 (ji5)).f0).toList)) = false:=by simpa using c8
       clear c8
       by_cases c10:((u2g l0 (ji5)).f0).toList = a1_0.toList
       ·rw [if_pos c10] at H
        have c10b0:(((u2g l0 (ji5)).f0).toList == a1_0.toList) = true:=beq_iff_eq.mpr c10
        have c10b1:(((u2g l0 (ji5)).f0).toList != a1_0.toList) = false:=bne_eq_false_iff_eq.mpr c10
        clear c10
        simp only [Option.some.injEq,Prod.mk.injEq] at H
        obtain ⟨rfl,rfl⟩:=H
        try go_wp2
        have n0_:=Aside0.mk (ug BK124.out)
        have n1_:=Aside0.mk (ud HB.out)
        clear BK124
        clear HB
        have BK124:=n0_
        have HB:=n1_
        clear n0_ n1_
        have p125:0 ≤ ((ji5):Int):=of_decide_eq_true (by first | (with_reducible assumption) | assumption)
        have q125:(ji5) < (l0.length:Int):=of_decide_eq_true (by first | (with_reducible assumption) | assumption)
        obtain ⟨ad125,e125,hx125_0,hx125_1⟩:=at_T66 HR0.out (ji5) p125 q125
        have hw125_1:=hx125_1
        have hw125_0:=hx125_0
        cases e125
        replace hx125_0:=(HB.out.cell (World.block_lt_of_cell? w _ hx125_0)).trans hx125_0
        replace hx125_1:=(HB.out.cell (World.block_lt_of_cell? w _ hx125_1)).trans hx125_1
        replace p125:=eq_true p125
        replace q125:=eq_true q125
        refine start_ (n:=13) (S:=fun w' => w'.cell? ⟨gb124,0,none⟩ = some (.string a1_0) ∧ w'.cell? ⟨gb124,1,none⟩ = some (.string a1_1) ∧ w'.cell? (ad125.add (((ji5)).toNat * 2)) = some (.string ((u2g l0 (ji5)).f0)) ∧ w'.cell? ⟨(ad125.add (((ji5)).toNat * 2)).block,(ad125.add (((ji5)).toNat * 2)).off + 1,none⟩ = some (.string ((u2g l0 (ji5)).f1))) (ds:=[]) #[false,false,false,false,false,false,false,false,false,false,false,false,false] (by kernel_rfl) rfl rfl ⟨(uj BK124.out 0).trans rfl,(uj BK124.out 1).trans rfl,((HB.out.cell (World.block_lt_of_cell? w _ hw125_0)).trans hw125_0),((HB.out.cell (World.block_lt_of_cell? w _ hw125_1)).trans hw125_1)⟩ (fun hHeld => ?_);refine with_tabW u1b.tab2 u1b.bits2 (fun HT_ HW_ => ?_)
        generalize wr.drew = w11 at BK124 HB hx125_0 hx125_1 hHeld ⊢
        refine pure_ (i:=0) (N:=some 9) (v:=?_) (a':=?_) #[true,false,false,false,false,false,false,false,false,false,false,false,false] rfl rfl (u2j HT_.out (by kernel_rfl)) (fun _ _ _ h => h) (Or.inl ⟨by rfl,?_⟩) ?_ ?_
        rotate_left
        ·intro w'
         go_simp
         with_reducible rfl
        rotate_left
        ·simp only [Act.put,List.setIfInBounds_toArray,List.set_cons_zero,List.set_cons_succ,i64_w,i32_w]
         rfl
        refine pure_ (i:=1) (N:=some 10) (v:=?_) (a':=?_) #[true,true,false,false,false,false,false,false,false,false,false,false,false] rfl rfl (u2j HT_.out (by kernel_rfl)) (fun _ _ _ h => h) (Or.inl ⟨by rfl,?_⟩) ?_ ?_
        rotate_left
        ·intro w'
         go_simp
         with_reducible rfl
        rotate_left
        ·simp only [Act.put,List.setIfInBounds_toArray,List.set_cons_zero,List.set_cons_succ,i64_w,i32_w]
         rfl
        refine pure_ (i:=2) (N:=some 11) (v:=?_) (a':=?_) #[true,true,true,false,false,false,false,false,false,false,false,false,false] rfl rfl (u2j HT_.out (by kernel_rfl)) (fun _ _ _ h => h) (Or.inl ⟨by rfl,?_⟩) ?_ ?_
        rotate_left
        ·intro w'
         go_simp
         with_reducible rfl
        rotate_left
        ·simp only [Act.put,List.setIfInBounds_toArray,List.set_cons_zero,List.set_cons_succ,i64_w,i32_w]
         rfl
        refine pure_ (i:=3) (N:=some 12) (v:=?_) (a':=?_) #[true,true,true,true,false,false,false,false,false,false,false,false,false] rfl rfl (u2j HT_.out (by kernel_rfl)) (fun _ _ _ h => h) (Or.inl ⟨by rfl,?_⟩) ?_ ?_
        rotate_left
        ·intro w'
         go_simp
         with_reducible rfl
        rotate_left
        ·simp only [Act.put,List.setIfInBounds_toArray,List.set_cons_zero,List.set_cons_succ,i64_w,i32_w]
         rfl
        refine pure_ (i:=4) (N:=some 13) (v:=?_) (a':=?_) #[true,true,true,true,true,false,false,false,false,false,false,false,false] rfl rfl (u2j HT_.out (by kernel_rfl)) (fun _ _ _ h => h) (Or.inl ⟨by rfl,?_⟩) ?_ ?_
        rotate_left
        ·intro w'
         go_simp
         with_reducible rfl
        rotate_left
        ·simp only [Act.put,List.setIfInBounds_toArray,List.set_cons_zero,List.set_cons_succ,i64_w,i32_w]
         rfl
        refine pure_ (i:=5) (N:=some 14) (v:=?_) (a':=?_) #[true,true,true,true,true,true,false,false,false,false,false,false,false] rfl rfl (u2j HT_.out (by kernel_rfl)) (fun _ _ _ h => h) (Or.inl ⟨by rfl,?_⟩) ?_ ?_
        rotate_left
        ·intro w'
         go_simp
         with_reducible rfl
        rotate_left
        ·simp only [Act.put,List.setIfInBounds_toArray,List.set_cons_zero,List.set_cons_succ,i64_w,i32_w]
         rfl
        refine pure_ (i:=6) (N:=some 15) (v:=?_) (a':=?_) #[true,true,true,true,true,true,true,false,false,false,false,false,false] rfl rfl (u2j HT_.out (by kernel_rfl)) (fun _ _ _ h => h) (Or.inl ⟨by rfl,?_⟩) ?_ ?_
        rotate_left
        ·intro w'
         go_simp
         with_reducible rfl
        rotate_left
        ·simp only [Act.put,List.setIfInBounds_toArray,List.set_cons_zero,List.set_cons_succ,i64_w,i32_w]
         rfl
        refine pure_ (i:=7) (N:=some 16) (v:=?_) (a':=?_) #[true,true,true,true,true,true,true,true,false,false,false,false,false] rfl rfl (u2j HT_.out (by kernel_rfl)) (fun _ _ _ h => h) (Or.inl ⟨by rfl,?_⟩) ?_ ?_
        rotate_left
        ·intro w'
         go_simp
         with_reducible rfl
        rotate_left
        ·simp only [Act.put,List.setIfInBounds_toArray,List.set_cons_zero,List.set_cons_succ,i64_w,i32_w]
         rfl
        refine pure_ (i:=9) (N:=some 18) (v:=?_) (a':=?_) #[true,true,true,true,true,true,true,true,false,true,false,false,false] rfl rfl (u2j HT_.out (by kernel_rfl)) (fun _ _ _ h => h) (Or.inl ⟨by rfl,?_⟩) ?_ ?_
        rotate_left
        ·intro w'
         go_simp
         with_reducible rfl
        rotate_left
        ·simp only [Act.put,List.setIfInBounds_toArray,List.set_cons_zero,List.set_cons_succ,i64_w,i32_w]
         rfl
        refine take_ (i:=8) (N:=some 17) (v:=?_) (a':=?_) #[true,true,true,true,true,true,true,true,true,true,false,false,false] rfl rfl (take_ofW HT_.out HW_.out (by kernel_rfl)) (fun _ _ _ h => h) (Or.inl ⟨by rfl,?_⟩) hHeld ?_ ?_
        rotate_left
        ·rintro w' ⟨s0,s1,s2,s3⟩
         go_simp
         with_reducible rfl
        rotate_left
        ·simp only [Act.put,List.setIfInBounds_toArray,List.set_cons_zero,List.set_cons_succ,i64_w,i32_w]
         rfl
        refine take_ (i:=10) (N:=some 19) (v:=?_) (a':=?_) #[true,true,true,true,true,true,true,true,true,true,true,false,false] rfl rfl (take_ofW HT_.out HW_.out (by kernel_rfl)) (fun _ _ _ h => h) (Or.inl ⟨by rfl,?_⟩) hHeld ?_ ?_
        rotate_left
        ·rintro w' ⟨s0,s1,s2,s3⟩
         go_simp
         with_reducible rfl
        rotate_left
        ·simp only [Act.put,List.setIfInBounds_toArray,List.set_cons_zero,List.set_cons_succ,i64_w,i32_w]
         rfl
        refine pure_ (i:=11) (N:=some 20) (v:=?_) (a':=?_) #[true,true,true,true,true,true,true,true,true,true,true,true,false] rfl rfl (u2j HT_.out (by kernel_rfl)) (fun _ _ _ h => h) (Or.inl ⟨by rfl,?_⟩) ?_ ?_
        rotate_left
        ·intro w'
         go_simp
         with_reducible rfl
        rotate_left
        ·simp only [Act.put,List.setIfInBounds_toArray,List.set_cons_zero,List.set_cons_succ,i64_w,i32_w]
         rfl
        refine pure_ (i:=12) (N:=some 21) (v:=?_) (a':=?_) #[true,true,true,true,true,true,true,true,true,true,true,true,true] rfl rfl (u2j HT_.out (by kernel_rfl)) (fun _ _ _ h => h) (Or.inl ⟨by rfl,?_⟩) ?_ ?_
        rotate_left
        ·intro w'
         go_simp
         with_reducible rfl
        rotate_left
        ·simp only [Act.put,List.setIfInBounds_toArray,List.set_cons_zero,List.set_cons_succ,i64_w,i32_w]
         rfl
        refine done_ (done_of HT_.out (by kernel_rfl)) ?_
        try go_wp2
        have n0_:=Aside0.mk (ug BK124.out)
        have n1_:=Aside0.mk (ud HB.out)
        clear BK124
        clear HB
        have BK124:=n0_
        have HB:=n1_
        clear n0_ n1_
        have p126:0 ≤ ((ji5):Int):=of_decide_eq_true (by first | (with_reducible assumption) | assumption)
        have q126:(ji5) < (l0.length:Int):=of_decide_eq_true (by first | (with_reducible assumption) | assumption)
        obtain ⟨ad126,e126,hx126_0,hx126_1⟩:=at_T66 HR0.out (ji5) p126 q126
        have hw126_1:=hx126_1
        have hw126_0:=hx126_0
        obtain rfl:ad125 = ad126:=(by injection e126)
        replace hx126_0:=(HB.out.cell (World.block_lt_of_cell? w _ hx126_0)).trans hx126_0
        replace hx126_1:=(HB.out.cell (World.block_lt_of_cell? w _ hx126_1)).trans hx126_1
        replace p126:=eq_true p126
        replace q126:=eq_true q126
        refine start_ (n:=13) (S:=fun w' => w'.cell? ⟨gb124,0,none⟩ = some (.string a1_0) ∧ w'.cell? ⟨gb124,1,none⟩ = some (.string a1_1) ∧ w'.cell? (ad125.add (((ji5)).toNat * 2)) = some (.string ((u2g l0 (ji5)).f0)) ∧ w'.cell? ⟨(ad125.add (((ji5)).toNat * 2)).block,(ad125.add (((ji5)).toNat * 2)).off + 1,none⟩ = some (.string ((u2g l0 (ji5)).f1))) (ds:=[]) #[false,false,false,false,false,false,false,false,false,false,false,false,false] (by kernel_rfl) rfl rfl ⟨(uj BK124.out 0).trans rfl,(uj BK124.out 1).trans rfl,((HB.out.cell (World.block_lt_of_cell? w _ hw126_0)).trans hw126_0),((HB.out.cell (World.block_lt_of_cell? w _ hw126_1)).trans hw126_1)⟩ (fun hHeld => ?_);refine with_tabW u1b.tab4 u1b.bits4 (fun HT_ HW_ => ?_)
        generalize w11.drew = w12 at BK124 HB hx126_0 hx126_1 hHeld ⊢
        refine pure_ (i:=0) (N:=some 24) (v:=?_) (a':=?_) #[true,false,false,false,false,false,false,false,false,false,false,false,false] rfl rfl (u2j HT_.out (by kernel_rfl)) (fun _ _ _ h => h) (Or.inl ⟨by rfl,?_⟩) ?_ ?_
        rotate_left
        ·intro w'
         go_simp
         with_reducible rfl
        rotate_left
        ·simp only [Act.put,List.setIfInBounds_toArray,List.set_cons_zero,List.set_cons_succ,i64_w,i32_w]
         rfl
        refine pure_ (i:=1) (N:=some 25) (v:=?_) (a':=?_) #[true,true,false,false,false,false,false,false,false,false,false,false,false] rfl rfl (u2j HT_.out (by kernel_rfl)) (fun _ _ _ h => h) (Or.inl ⟨by rfl,?_⟩) ?_ ?_
        rotate_left
        ·intro w'
         go_simp
         with_reducible rfl
        rotate_left
        ·simp only [Act.put,List.setIfInBounds_toArray,List.set_cons_zero,List.set_cons_succ,i64_w,i32_w]
         rfl
        refine pure_ (i:=2) (N:=some 26) (v:=?_) (a':=?_) #[true,true,true,false,false,false,false,false,false,false,false,false,false] rfl rfl (u2j HT_.out (by kernel_rfl)) (fun _ _ _ h => h) (Or.inl ⟨by rfl,?_⟩) ?_ ?_
        rotate_left
        ·intro w'
         go_simp
         with_reducible rfl
        rotate_left
        ·simp only [Act.put,List.setIfInBounds_toArray,List.set_cons_zero,List.set_cons_succ,i64_w,i32_w]
         rfl
        refine pure_ (i:=3) (N:=some 27) (v:=?_) (a':=?_) #[true,true,true,true,false,false,false,false,false,false,false,false,false] rfl rfl (u2j HT_.out (by kernel_rfl)) (fun _ _ _ h => h) (Or.inl ⟨by rfl,?_⟩) ?_ ?_
        rotate_left
        ·intro w'
         go_simp
         with_reducible rfl
        rotate_left
        ·simp only [Act.put,List.setIfInBounds_toArray,List.set_cons_zero,List.set_cons_succ,i64_w,i32_w]
         rfl
        refine pure_ (i:=4) (N:=some 28) (v:=?_) (a':=?_) #[true,true,true,true,true,false,false,false,false,false,false,false,false] rfl rfl (u2j HT_.out (by kernel_rfl)) (fun _ _ _ h => h) (Or.inl ⟨by rfl,?_⟩) ?_ ?_
        rotate_left
        ·intro w'
         go_simp
         with_reducible rfl
        rotate_left
        ·simp only [Act.put,List.setIfInBounds_toArray,List.set_cons_zero,List.set_cons_succ,i64_w,i32_w]
         rfl
        refine pure_ (i:=5) (N:=some 29) (v:=?_) (a':=?_) #[true,true,true,true,true,true,false,false,false,false,false,false,false] rfl rfl (u2j HT_.out (by kernel_rfl)) (fun _ _ _ h => h) (Or.inl ⟨by rfl,?_⟩) ?_ ?_
        rotate_left
        ·intro w'
         go_simp
         with_reducible rfl
        rotate_left
        ·simp only [Act.put,List.setIfInBounds_toArray,List.set_cons_zero,List.set_cons_succ,i64_w,i32_w]
         rfl
        refine pure_ (i:=6) (N:=some 30) (v:=?_) (a':=?_) #[true,true,true,true,true,true,true,false,false,false,false,false,false] rfl rfl (u2j HT_.out (by kernel_rfl)) (fun _ _ _ h => h) (Or.inl ⟨by rfl,?_⟩) ?_ ?_
        rotate_left
        ·intro w'
         go_simp
         with_reducible rfl
        rotate_left
        ·simp only [Act.put,List.setIfInBounds_toArray,List.set_cons_zero,List.set_cons_succ,i64_w,i32_w]
         rfl
        refine pure_ (i:=7) (N:=some 31) (v:=?_) (a':=?_) #[true,true,true,true,true,true,true,true,false,false,false,false,false] rfl rfl (u2j HT_.out (by kernel_rfl)) (fun _ _ _ h => h) (Or.inl ⟨by rfl,?_⟩) ?_ ?_
        rotate_left
        ·intro w'
         go_simp
         with_reducible rfl
        rotate_left
        ·simp only [Act.put,List.setIfInBounds_toArray,List.set_cons_zero,List.set_cons_succ,i64_w,i32_w]
         rfl
        refine pure_ (i:=9) (N:=some 33) (v:=?_) (a':=?_) #[true,true,true,true,true,true,true,true,false,true,false,false,false] rfl rfl (u2j HT_.out (by kernel_rfl)) (fun _ _ _ h => h) (Or.inl ⟨by rfl,?_⟩) ?_ ?_
        rotate_left
        ·intro w'
         go_simp
         with_reducible rfl
        rotate_left
        ·simp only [Act.put,List.setIfInBounds_toArray,List.set_cons_zero,List.set_cons_succ,i64_w,i32_w]
         rfl
        refine take_ (i:=8) (N:=some 32) (v:=?_) (a':=?_) #[true,true,true,true,true,true,true,true,true,true,false,false,false] rfl rfl (take_ofW HT_.out HW_.out (by kernel_rfl)) (fun _ _ _ h => h) (Or.inl ⟨by rfl,?_⟩) hHeld ?_ ?_
        rotate_left
        ·rintro w' ⟨s0,s1,s2,s3⟩
         go_simp
         with_reducible rfl
        rotate_left
        ·simp only [Act.put,List.setIfInBounds_toArray,List.set_cons_zero,List.set_cons_succ,i64_w,i32_w]
         rfl
        refine take_ (i:=10) (N:=some 34) (v:=?_) (a':=?_) #[true,true,true,true,true,true,true,true,true,true,true,false,false] rfl rfl (take_ofW HT_.out HW_.out (by kernel_rfl)) (fun _ _ _ h => h) (Or.inl ⟨by rfl,?_⟩) hHeld ?_ ?_
        rotate_left
        ·rintro w' ⟨s0,s1,s2,s3⟩
         go_simp
         with_reducible rfl
        rotate_left
        ·simp only [Act.put,List.setIfInBounds_toArray,List.set_cons_zero,List.set_cons_succ,i64_w,i32_w]
         rfl
        refine pure_ (i:=11) (N:=some 35) (v:=?_) (a':=?_) #[true,true,true,true,true,true,true,true,true,true,true,true,false] rfl rfl (u2j HT_.out (by kernel_rfl)) (fun _ _ _ h => h) (Or.inl ⟨by rfl,?_⟩) ?_ ?_
        rotate_left
        ·intro w'
         go_simp
         with_reducible rfl
        rotate_left
        ·simp only [Act.put,List.setIfInBounds_toArray,List.set_cons_zero,List.set_cons_succ,i64_w,i32_w]
         rfl
        refine pure_ (i:=12) (N:=some 36) (v:=?_) (a':=?_) #[true,true,true,true,true,true,true,true,true,true,true,true,true] rfl rfl (u2j HT_.out (by kernel_rfl)) (fun _ _ _ h => h) (Or.inl ⟨by rfl,?_⟩) ?_ ?_
        rotate_left
        ·intro w'
         go_simp
         with_reducible rfl
        rotate_left
        ·simp only [Act.put,List.setIfInBounds_toArray,List.set_cons_zero,List.set_cons_succ,i64_w,i32_w]
         rfl
        refine done_ (done_of HT_.out (by kernel_rfl)) ?_
        try go_wp2
        go_ret2
        exact ⟨_,by first | rfl | (simp [u1k,u1l] <;> rfl) | (simp only [← hji5];first | rfl | (simp [u1k,u1l] <;> rfl)) | (simp [*,u1k,u1l] <;> rfl),by first | exact Kd.R_nil _ _ _ _ _ | exact Kd.N_nil _ _ _ _ _ | exact Kd.V_nil _ _ _ _ _ | exact Kd.Q_nil _ _ _ _ _ | exact Kd.S_nil _ _ _ _ _,by repeat (first | (with_reducible first | exact HB.out | apply uc | apply ub | apply ud | refine ui ?_ GE124.out) | exact HB.out)⟩
       ·rw [if_neg c10] at H
        have c10b0:(((u2g l0 (ji5)).f0).toList == a1_0.toList) = false:=beq_eq_false_iff_ne.mpr c10
        have c10b1:(((u2g l0 (ji5)).f0).toList != a1_0.toList) = true:=bne_iff_ne.mpr c10
        obtain ⟨y127,hy127⟩:∃ y_:List (S66),y_ = (([]:List (S66))):=⟨_,rfl⟩
        replace H:(if 0 ≤ x6_1 then (if x6_1 ≤ (l0.length:Int) then ((some (l0.take (x6_1:Int).toNat:List (S66))).bind fun y130 => (if y127.length + y130.length < 4398046511104 then ((some (y127 ++ y130:List (S66))).bind fun y134 => ((some (([(⟨a1_0,a1_1⟩:S66)]:List (S66)):List (S66))).bind fun y137 => (if y134.length + y137.length < 4398046511104 then ((some (y134 ++ y137:List (S66))).bind fun y140 => ((some (l0.drop (x6_1:Int).toNat:List (S66))).bind fun y143 => (if y140.length + y143.length < 4398046511104 then (some ((y140 ++ y143),true)) else (none)))) else (none)))) else (none))) else (none)) else (none)) = some (r1,r2):=by first | (rw [hy127];with_reducible exact H) | (have H2_:=(Option.bind_some _ _).symm.trans H;rw [hy127];with_reducible exact H2_) | (have H2_:=(Option.bind_some _ _).symm.trans H;with_reducible exact H2_) | with_reducible exact H | (rw [hy127];exact H) | exact H
        have Ny127:=Aside0.mk hy127
        clear hy127
        by_cases c13:0 ≤ x6_1
        ·rw [if_pos c13] at H
         have c13b0:=eq_true c13
         have c13b1:decide (0 ≤ x6_1) = true:=decide_eq_true c13
         clear c13
         by_cases c14:x6_1 ≤ (l0.length:Int)
         ·rw [if_pos c14] at H
          have c14b0:=eq_true c14
          have c14b1:decide (x6_1 ≤ (l0.length:Int)) = true:=decide_eq_true c14
          clear c14
          obtain ⟨y130,hy130⟩:∃ y_:List (S66),y_ = (l0.take (x6_1:Int).toNat):=⟨_,rfl⟩
          replace H:(if y127.length + y130.length < 4398046511104 then ((some (y127 ++ y130:List (S66))).bind fun y134 => ((some (([(⟨a1_0,a1_1⟩:S66)]:List (S66)):List (S66))).bind fun y137 => (if y134.length + y137.length < 4398046511104 then ((some (y134 ++ y137:List (S66))).bind fun y140 => ((some (l0.drop (x6_1:Int).toNat:List (S66))).bind fun y143 => (if y140.length + y143.length < 4398046511104 then (some ((y140 ++ y143),true)) else (none)))) else (none)))) else (none)) = some (r1,r2):=by first | (rw [hy130];with_reducible exact H) | (have H2_:=(Option.bind_some _ _).symm.trans H;rw [hy130];with_reducible exact H2_) | (have H2_:=(Option.bind_some _ _).symm.trans H;with_reducible exact H2_) | with_reducible exact H | (rw [hy130];exact H) | exact H
          have Ny130:=Aside0.mk hy130
          clear hy130
          by_cases c15:y127.length + y130.length < 4398046511104
          ·rw [if_pos c15] at H
           have LMc15:=Aside0.mk c15
           clear c15
           obtain ⟨y134,hy134⟩:∃ y_:List (S66),y_ = (y127 ++ y130):=⟨_,rfl⟩
           replace H:((some (([(⟨a1_0,a1_1⟩:S66)]:List (S66)):List (S66))).bind fun y137 => (if y134.length + y137.length < 4398046511104 then ((some (y134 ++ y137:List (S66))).bind fun y140 => ((some (l0.drop (x6_1:Int).toNat:List (S66))).bind fun y143 => (if y140.length + y143.length < 4398046511104 then (some ((y140 ++ y143),true)) else (none)))) else (none))) = some (r1,r2):=by first | (rw [hy134];with_reducible exact H) | (have H2_:=(Option.bind_some _ _).symm.trans H;rw [hy134];with_reducible exact H2_) | (have H2_:=(Option.bind_some _ _).symm.trans H;with_reducible exact H2_) | with_reducible exact H | (rw [hy134];exact H) | exact H
           have Ny134:=Aside0.mk hy134
           clear hy134
           obtain ⟨y137,hy137⟩:∃ y_:List (S66),y_ = (([(⟨a1_0,a1_1⟩:S66)]:List (S66))):=⟨_,rfl⟩
           replace H:(if y134.length + y137.length < 4398046511104 then ((some (y134 ++ y137:List (S66))).bind fun y140 => ((some (l0.drop (x6_1:Int).toNat:List (S66))).bind fun y143 => (if y140.length + y143.length < 4398046511104 then (some ((y140 ++ y143),true)) else (none)))) else (none)) = some (r1,r2):=by first | (rw [hy137];with_reducible exact H) | (have H2_:=(Option.bind_some _ _).symm.trans H;rw [hy137];with_reducible exact H2_) | (have H2_:=(Option.bind_some _ _).symm.trans H;with_reducible exact H2_) | with_reducible exact H | (rw [hy137];exact H) | exact H
           have Ny137:=Aside0.mk hy137
           clear hy137
           by_cases c16:y134.length + y137.length < 4398046511104
           ·rw [if_pos c16] at H
            have LMc16:=Aside0.mk c16
            clear c16
            obtain ⟨y140,hy140⟩:∃ y_:List (S66),y_ = (y134 ++ y137):=⟨_,rfl⟩
            replace H:((some (l0.drop (x6_1:Int).toNat:List (S66))).bind fun y143 => (if y140.length + y143.length < 4398046511104 then (some ((y140 ++ y143),true)) else (none))) = some (r1,r2):=by first | (rw [hy140];with_reducible exact H) | (have H2_:=(Option.bind_some _ _).symm.trans H;rw [hy140];with_reducible exact H2_) | (have H2_:=(Option.bind_some _ _).symm.trans H;with_reducible exact H2_) | with_reducible exact H | (rw [hy140];exact H) | exact H
            have Ny140:=Aside0.mk hy140
            clear hy140
            have c17b0:=eq_true (of_decide_eq_true (by first | (with_reducible assumption) | assumption):0 ≤ x6_1)
            have c18b0:=eq_true (of_decide_eq_true (by first | (with_reducible assumption) | assumption):x6_1 ≤ (l0.length:Int))
            obtain ⟨y143,hy143⟩:∃ y_:List (S66),y_ = (l0.drop (x6_1:Int).toNat):=⟨_,rfl⟩
            replace H:(if y140.length + y143.length < 4398046511104 then (some ((y140 ++ y143),true)) else (none)) = some (r1,r2):=by first | (rw [hy143];with_reducible exact H) | (have H2_:=(Option.bind_some _ _).symm.trans H;rw [hy143];with_reducible exact H2_) | (have H2_:=(Option.bind_some _ _).symm.trans H;with_reducible exact H2_) | with_reducible exact H | (rw [hy143];exact H) | exact H
            have Ny143:=Aside0.mk hy143
            clear hy143
            by_cases c19:y140.length + y143.length < 4398046511104
            ·rw [if_pos c19] at H
             have LMc19:=Aside0.mk c19
             clear c19
             obtain ⟨y147,hy147⟩:∃ y_:List (S66),y_ = (y140 ++ y143):=⟨_,rfl⟩
             replace H:(some (y147,true)) = some (r1,r2):=by first | (rw [hy147];with_reducible exact H) | (have H2_:=(Option.bind_some _ _).symm.trans H;rw [hy147];with_reducible exact H2_) | (have H2_:=(Option.bind_some _ _).symm.trans H;with_reducible exact H2_) | with_reducible exact H | (rw [hy147];exact H) | exact H
             have Ny147:=Aside0.mk hy147
             clear hy147
             simp only [Option.some.injEq,Prod.mk.injEq] at H
             obtain ⟨rfl,rfl⟩:=H
             try go_wp2
             have n0_:=Aside0.mk (ug BK124.out)
             have n1_:=Aside0.mk (ud HB.out)
             clear BK124
             clear HB
             have BK124:=n0_
             have HB:=n1_
             clear n0_ n1_
             have p125:0 ≤ ((ji5):Int):=of_decide_eq_true (by first | (with_reducible assumption) | assumption)
             have q125:(ji5) < (l0.length:Int):=of_decide_eq_true (by first | (with_reducible assumption) | assumption)
             obtain ⟨ad125,e125,hx125_0,hx125_1⟩:=at_T66 HR0.out (ji5) p125 q125
             have hw125_1:=hx125_1
             have hw125_0:=hx125_0
             cases e125
             replace hx125_0:=(HB.out.cell (World.block_lt_of_cell? w _ hx125_0)).trans hx125_0
             replace hx125_1:=(HB.out.cell (World.block_lt_of_cell? w _ hx125_1)).trans hx125_1
             replace p125:=eq_true p125
             replace q125:=eq_true q125
             refine start_ (n:=13) (S:=fun w' => w'.cell? ⟨gb124,0,none⟩ = some (.string a1_0) ∧ w'.cell? ⟨gb124,1,none⟩ = some (.string a1_1) ∧ w'.cell? (ad125.add (((ji5)).toNat * 2)) = some (.string ((u2g l0 (ji5)).f0)) ∧ w'.cell? ⟨(ad125.add (((ji5)).toNat * 2)).block,(ad125.add (((ji5)).toNat * 2)).off + 1,none⟩ = some (.string ((u2g l0 (ji5)).f1))) (ds:=[]) #[false,false,false,false,false,false,false,false,false,false,false,false,false] (by kernel_rfl) rfl rfl ⟨(uj BK124.out 0).trans rfl,(uj BK124.out 1).trans rfl,((HB.out.cell (World.block_lt_of_cell? w _ hw125_0)).trans hw125_0),((HB.out.cell (World.block_lt_of_cell? w _ hw125_1)).trans hw125_1)⟩ (fun hHeld => ?_);refine with_tabW u1b.tab2 u1b.bits2 (fun HT_ HW_ => ?_)
             generalize wr.drew = w20 at BK124 HB hx125_0 hx125_1 hHeld ⊢
             refine pure_ (i:=0) (N:=some 9) (v:=?_) (a':=?_) #[true,false,false,false,false,false,false,false,false,false,false,false,false] rfl rfl (u2j HT_.out (by kernel_rfl)) (fun _ _ _ h => h) (Or.inl ⟨by rfl,?_⟩) ?_ ?_
             rotate_left
             ·intro w'
              go_simp
              with_reducible rfl
             rotate_left
             ·simp only [Act.put,List.setIfInBounds_toArray,List.set_cons_zero,List.set_cons_succ,i64_w,i32_w]
              rfl
             refine pure_ (i:=1) (N:=some 10) (v:=?_) (a':=?_) #[true,true,false,false,false,false,false,false,false,false,false,false,false] rfl rfl (u2j HT_.out (by kernel_rfl)) (fun _ _ _ h => h) (Or.inl ⟨by rfl,?_⟩) ?_ ?_
             rotate_left
             ·intro w'
              go_simp
              with_reducible rfl
             rotate_left
             ·simp only [Act.put,List.setIfInBounds_toArray,List.set_cons_zero,List.set_cons_succ,i64_w,i32_w]
              rfl
             refine pure_ (i:=2) (N:=some 11) (v:=?_) (a':=?_) #[true,true,true,false,false,false,false,false,false,false,false,false,false] rfl rfl (u2j HT_.out (by kernel_rfl)) (fun _ _ _ h => h) (Or.inl ⟨by rfl,?_⟩) ?_ ?_
             rotate_left
             ·intro w'
              go_simp
              with_reducible rfl
             rotate_left
             ·simp only [Act.put,List.setIfInBounds_toArray,List.set_cons_zero,List.set_cons_succ,i64_w,i32_w]
              rfl
             refine pure_ (i:=3) (N:=some 12) (v:=?_) (a':=?_) #[true,true,true,true,false,false,false,false,false,false,false,false,false] rfl rfl (u2j HT_.out (by kernel_rfl)) (fun _ _ _ h => h) (Or.inl ⟨by rfl,?_⟩) ?_ ?_
             rotate_left
             ·intro w'
              go_simp
              with_reducible rfl
             rotate_left
             ·simp only [Act.put,List.setIfInBounds_toArray,List.set_cons_zero,List.set_cons_succ,i64_w,i32_w]
              rfl
             refine pure_ (i:=4) (N:=some 13) (v:=?_) (a':=?_) #[true,true,true,true,true,false,false,false,false,false,false,false,false] rfl rfl (u2j HT_.out (by kernel_rfl)) (fun _ _ _ h => h) (Or.inl ⟨by rfl,?_⟩) ?_ ?_
             rotate_left
             ·intro w'
              go_simp
              with_reducible rfl
             rotate_left
             ·simp only [Act.put,List.setIfInBounds_toArray,List.set_cons_zero,List.set_cons_succ,i64_w,i32_w]
              rfl
             refine pure_ (i:=5) (N:=some 14) (v:=?_) (a':=?_) #[true,true,true,true,true,true,false,false,false,false,false,false,false] rfl rfl (u2j HT_.out (by kernel_rfl)) (fun _ _ _ h => h) (Or.inl ⟨by rfl,?_⟩) ?_ ?_
             rotate_left
             ·intro w'
              go_simp
              with_reducible rfl
             rotate_left
             ·simp only [Act.put,List.setIfInBounds_toArray,List.set_cons_zero,List.set_cons_succ,i64_w,i32_w]
              rfl
             refine pure_ (i:=6) (N:=some 15) (v:=?_) (a':=?_) #[true,true,true,true,true,true,true,false,false,false,false,false,false] rfl rfl (u2j HT_.out (by kernel_rfl)) (fun _ _ _ h => h) (Or.inl ⟨by rfl,?_⟩) ?_ ?_
             rotate_left
             ·intro w'
              go_simp
              with_reducible rfl
             rotate_left
             ·simp only [Act.put,List.setIfInBounds_toArray,List.set_cons_zero,List.set_cons_succ,i64_w,i32_w]
              rfl
             refine pure_ (i:=7) (N:=some 16) (v:=?_) (a':=?_) #[true,true,true,true,true,true,true,true,false,false,false,false,false] rfl rfl (u2j HT_.out (by kernel_rfl)) (fun _ _ _ h => h) (Or.inl ⟨by rfl,?_⟩) ?_ ?_
             rotate_left
             ·intro w'
              go_simp
              with_reducible rfl
             rotate_left
             ·simp only [Act.put,List.setIfInBounds_toArray,List.set_cons_zero,List.set_cons_succ,i64_w,i32_w]
              rfl
             refine pure_ (i:=9) (N:=some 18) (v:=?_) (a':=?_) #[true,true,true,true,true,true,true,true,false,true,false,false,false] rfl rfl (u2j HT_.out (by kernel_rfl)) (fun _ _ _ h => h) (Or.inl ⟨by rfl,?_⟩) ?_ ?_
             rotate_left
             ·intro w'
              go_simp
              with_reducible rfl
             rotate_left
             ·simp only [Act.put,List.setIfInBounds_toArray,List.set_cons_zero,List.set_cons_succ,i64_w,i32_w]
              rfl
             refine take_ (i:=8) (N:=some 17) (v:=?_) (a':=?_) #[true,true,true,true,true,true,true,true,true,true,false,false,false] rfl rfl (take_ofW HT_.out HW_.out (by kernel_rfl)) (fun _ _ _ h => h) (Or.inl ⟨by rfl,?_⟩) hHeld ?_ ?_
             rotate_left
             ·rintro w' ⟨s0,s1,s2,s3⟩
              go_simp
              with_reducible rfl
             rotate_left
             ·simp only [Act.put,List.setIfInBounds_toArray,List.set_cons_zero,List.set_cons_succ,i64_w,i32_w]
              rfl
             refine take_ (i:=10) (N:=some 19) (v:=?_) (a':=?_) #[true,true,true,true,true,true,true,true,true,true,true,false,false] rfl rfl (take_ofW HT_.out HW_.out (by kernel_rfl)) (fun _ _ _ h => h) (Or.inl ⟨by rfl,?_⟩) hHeld ?_ ?_
             rotate_left
             ·rintro w' ⟨s0,s1,s2,s3⟩
              go_simp
              with_reducible rfl
             rotate_left
             ·simp only [Act.put,List.setIfInBounds_toArray,List.set_cons_zero,List.set_cons_succ,i64_w,i32_w]
              rfl
             refine pure_ (i:=11) (N:=some 20) (v:=?_) (a':=?_) #[true,true,true,true,true,true,true,true,true,true,true,true,false] rfl rfl (u2j HT_.out (by kernel_rfl)) (fun _ _ _ h => h) (Or.inl ⟨by rfl,?_⟩) ?_ ?_
             rotate_left
             ·intro w'
              go_simp
              with_reducible rfl
             rotate_left
             ·simp only [Act.put,List.setIfInBounds_toArray,List.set_cons_zero,List.set_cons_succ,i64_w,i32_w]
              rfl
             refine pure_ (i:=12) (N:=some 21) (v:=?_) (a':=?_) #[true,true,true,true,true,true,true,true,true,true,true,true,true] rfl rfl (u2j HT_.out (by kernel_rfl)) (fun _ _ _ h => h) (Or.inl ⟨by rfl,?_⟩) ?_ ?_
             rotate_left
             ·intro w'
              go_simp
              with_reducible rfl
             rotate_left
             ·simp only [Act.put,List.setIfInBounds_toArray,List.set_cons_zero,List.set_cons_succ,i64_w,i32_w]
              rfl
             refine done_ (done_of HT_.out (by kernel_rfl)) ?_
             try go_wp2
             have n0_:=Aside0.mk (ug BK124.out)
             have n1_:=Aside0.mk (ud HB.out)
             clear BK124
             clear HB
             have BK124:=n0_
             have HB:=n1_
             clear n0_ n1_
             have p126:0 ≤ ((ji5):Int):=of_decide_eq_true (by first | (with_reducible assumption) | assumption)
             have q126:(ji5) < (l0.length:Int):=of_decide_eq_true (by first | (with_reducible assumption) | assumption)
             obtain ⟨ad126,e126,hx126_0,hx126_1⟩:=at_T66 HR0.out (ji5) p126 q126
             have hw126_1:=hx126_1
             have hw126_0:=hx126_0
             obtain rfl:ad125 = ad126:=(by injection e126)
             replace hx126_0:=(HB.out.cell (World.block_lt_of_cell? w _ hx126_0)).trans hx126_0
             replace hx126_1:=(HB.out.cell (World.block_lt_of_cell? w _ hx126_1)).trans hx126_1
             replace p126:=eq_true p126
             replace q126:=eq_true q126
             refine start_ (n:=13) (S:=fun w' => w'.cell? ⟨gb124,0,none⟩ = some (.string a1_0) ∧ w'.cell? ⟨gb124,1,none⟩ = some (.string a1_1) ∧ w'.cell? (ad125.add (((ji5)).toNat * 2)) = some (.string ((u2g l0 (ji5)).f0)) ∧ w'.cell? ⟨(ad125.add (((ji5)).toNat * 2)).block,(ad125.add (((ji5)).toNat * 2)).off + 1,none⟩ = some (.string ((u2g l0 (ji5)).f1))) (ds:=[]) #[false,false,false,false,false,false,false,false,false,false,false,false,false] (by kernel_rfl) rfl rfl ⟨(uj BK124.out 0).trans rfl,(uj BK124.out 1).trans rfl,((HB.out.cell (World.block_lt_of_cell? w _ hw126_0)).trans hw126_0),((HB.out.cell (World.block_lt_of_cell? w _ hw126_1)).trans hw126_1)⟩ (fun hHeld => ?_);refine with_tabW u1b.tab4 u1b.bits4 (fun HT_ HW_ => ?_)
             generalize w20.drew = w21 at BK124 HB hx126_0 hx126_1 hHeld ⊢
             refine pure_ (i:=0) (N:=some 24) (v:=?_) (a':=?_) #[true,false,false,false,false,false,false,false,false,false,false,false,false] rfl rfl (u2j HT_.out (by kernel_rfl)) (fun _ _ _ h => h) (Or.inl ⟨by rfl,?_⟩) ?_ ?_
             rotate_left
             ·intro w'
              go_simp
              with_reducible rfl
             rotate_left
             ·simp only [Act.put,List.setIfInBounds_toArray,List.set_cons_zero,List.set_cons_succ,i64_w,i32_w]
              rfl
             refine pure_ (i:=1) (N:=some 25) (v:=?_) (a':=?_) #[true,true,false,false,false,false,false,false,false,false,false,false,false] rfl rfl (u2j HT_.out (by kernel_rfl)) (fun _ _ _ h => h) (Or.inl ⟨by rfl,?_⟩) ?_ ?_
             rotate_left
             ·intro w'
              go_simp
              with_reducible rfl
             rotate_left
             ·simp only [Act.put,List.setIfInBounds_toArray,List.set_cons_zero,List.set_cons_succ,i64_w,i32_w]
              rfl
             refine pure_ (i:=2) (N:=some 26) (v:=?_) (a':=?_) #[true,true,true,false,false,false,false,false,false,false,false,false,false] rfl rfl (u2j HT_.out (by kernel_rfl)) (fun _ _ _ h => h) (Or.inl ⟨by rfl,?_⟩) ?_ ?_
             rotate_left
             ·intro w'
              go_simp
              with_reducible rfl
             rotate_left
             ·simp only [Act.put,List.setIfInBounds_toArray,List.set_cons_zero,List.set_cons_succ,i64_w,i32_w]
              rfl
             refine pure_ (i:=3) (N:=some 27) (v:=?_) (a':=?_) #[true,true,true,true,false,false,false,false,false,false,false,false,false] rfl rfl (u2j HT_.out (by kernel_rfl)) (fun _ _ _ h => h) (Or.inl ⟨by rfl,?_⟩) ?_ ?_
             rotate_left
             ·intro w'
              go_simp
              with_reducible rfl
             rotate_left
             ·simp only [Act.put,List.setIfInBounds_toArray,List.set_cons_zero,List.set_cons_succ,i64_w,i32_w]
              rfl
             refine pure_ (i:=4) (N:=some 28) (v:=?_) (a':=?_) #[true,true,true,true,true,false,false,false,false,false,false,false,false] rfl rfl (u2j HT_.out (by kernel_rfl)) (fun _ _ _ h => h) (Or.inl ⟨by rfl,?_⟩) ?_ ?_
             rotate_left
             ·intro w'
              go_simp
              with_reducible rfl
             rotate_left
             ·simp only [Act.put,List.setIfInBounds_toArray,List.set_cons_zero,List.set_cons_succ,i64_w,i32_w]
              rfl
             refine pure_ (i:=5) (N:=some 29) (v:=?_) (a':=?_) #[true,true,true,true,true,true,false,false,false,false,false,false,false] rfl rfl (u2j HT_.out (by kernel_rfl)) (fun _ _ _ h => h) (Or.inl ⟨by rfl,?_⟩) ?_ ?_
             rotate_left
             ·intro w'
              go_simp
              with_reducible rfl
             rotate_left
             ·simp only [Act.put,List.setIfInBounds_toArray,List.set_cons_zero,List.set_cons_succ,i64_w,i32_w]
              rfl
             refine pure_ (i:=6) (N:=some 30) (v:=?_) (a':=?_) #[true,true,true,true,true,true,true,false,false,false,false,false,false] rfl rfl (u2j HT_.out (by kernel_rfl)) (fun _ _ _ h => h) (Or.inl ⟨by rfl,?_⟩) ?_ ?_
             rotate_left
             ·intro w'
              go_simp
              with_reducible rfl
             rotate_left
             ·simp only [Act.put,List.setIfInBounds_toArray,List.set_cons_zero,List.set_cons_succ,i64_w,i32_w]
              rfl
             refine pure_ (i:=7) (N:=some 31) (v:=?_) (a':=?_) #[true,true,true,true,true,true,true,true,false,false,false,false,false] rfl rfl (u2j HT_.out (by kernel_rfl)) (fun _ _ _ h => h) (Or.inl ⟨by rfl,?_⟩) ?_ ?_
             rotate_left
             ·intro w'
              go_simp
              with_reducible rfl
             rotate_left
             ·simp only [Act.put,List.setIfInBounds_toArray,List.set_cons_zero,List.set_cons_succ,i64_w,i32_w]
              rfl
             refine pure_ (i:=9) (N:=some 33) (v:=?_) (a':=?_) #[true,true,true,true,true,true,true,true,false,true,false,false,false] rfl rfl (u2j HT_.out (by kernel_rfl)) (fun _ _ _ h => h) (Or.inl ⟨by rfl,?_⟩) ?_ ?_
             rotate_left
             ·intro w'
              go_simp
              with_reducible rfl
             rotate_left
             ·simp only [Act.put,List.setIfInBounds_toArray,List.set_cons_zero,List.set_cons_succ,i64_w,i32_w]
              rfl
             refine take_ (i:=8) (N:=some 32) (v:=?_) (a':=?_) #[true,true,true,true,true,true,true,true,true,true,false,false,false] rfl rfl (take_ofW HT_.out HW_.out (by kernel_rfl)) (fun _ _ _ h => h) (Or.inl ⟨by rfl,?_⟩) hHeld ?_ ?_
             rotate_left
             ·rintro w' ⟨s0,s1,s2,s3⟩
              go_simp
              with_reducible rfl
             rotate_left
             ·simp only [Act.put,List.setIfInBounds_toArray,List.set_cons_zero,List.set_cons_succ,i64_w,i32_w]
              rfl
             refine take_ (i:=10) (N:=some 34) (v:=?_) (a':=?_) #[true,true,true,true,true,true,true,true,true,true,true,false,false] rfl rfl (take_ofW HT_.out HW_.out (by kernel_rfl)) (fun _ _ _ h => h) (Or.inl ⟨by rfl,?_⟩) hHeld ?_ ?_
             rotate_left
             ·rintro w' ⟨s0,s1,s2,s3⟩
              go_simp
              with_reducible rfl
             rotate_left
             ·simp only [Act.put,List.setIfInBounds_toArray,List.set_cons_zero,List.set_cons_succ,i64_w,i32_w]
              rfl
             refine pure_ (i:=11) (N:=some 35) (v:=?_) (a':=?_) #[true,true,true,true,true,true,true,true,true,true,true,true,false] rfl rfl (u2j HT_.out (by kernel_rfl)) (fun _ _ _ h => h) (Or.inl ⟨by rfl,?_⟩) ?_ ?_
             rotate_left
             ·intro w'
              go_simp
              with_reducible rfl
             rotate_left
             ·simp only [Act.put,List.setIfInBounds_toArray,List.set_cons_zero,List.set_cons_succ,i64_w,i32_w]
              rfl
             refine pure_ (i:=12) (N:=some 36) (v:=?_) (a':=?_) #[true,true,true,true,true,true,true,true,true,true,true,true,true] rfl rfl (u2j HT_.out (by kernel_rfl)) (fun _ _ _ h => h) (Or.inl ⟨by rfl,?_⟩) ?_ ?_
             rotate_left
             ·intro w'
              go_simp
              with_reducible rfl
             rotate_left
             ·simp only [Act.put,List.setIfInBounds_toArray,List.set_cons_zero,List.set_cons_succ,i64_w,i32_w]
              rfl
             refine done_ (done_of HT_.out (by kernel_rfl)) ?_
             try go_wp2
             have n0_:=Aside0.mk (ug BK124.out)
             have n1_:=Aside0.mk (ud HB.out)
             clear BK124
             clear HB
             have BK124:=n0_
             have HB:=n1_
             clear n0_ n1_
             have q23:(x6_1:Int) ≤ ((l0.length:Int):Int):=of_decide_eq_true (by first | (with_reducible assumption) | assumption)
             obtain ⟨i023,hi023,_,hsz23,_⟩:=info_parts info66
             have hroom23:l0.length ≤ c0:=HC0.out
             have hC23:Kd.C k66 _ (some ad125) l0.length l0:=HR0.out
             have hcut23:=cut_to (P:=Tryz.prog) 50 66 .i64 Tryz.underlying50 hi023 (some ad125) l0.length c0 x6_1 (of_decide_eq_true (by first | (with_reducible assumption) | assumption)) q23 hroom23
             have hr23:=Kd.C_take (m:=(x6_1:Int).toNat) hC23 (by omega)
             have hy23:y130.length = (x6_1:Int).toNat:=(by rw [Ny130.out,List.length_take];omega)
             rw [← Ny130.out] at hr23
             rw [← hy23] at hcut23
             have HR133:=Aside0.mk hr23
             have HC133:=Aside0.mk (show y130.length ≤ c0 from by omega)
             clear hr23 hC23 hroom23 hi023 hsz23
             have KY23:=Aside0.mk hy23
             clear hy23
             replace q23:=eq_true q23
             have q24:(x6_1:Int) ≤ ((l0.length:Int):Int):=of_decide_eq_true (by first | (with_reducible assumption) | assumption)
             obtain ⟨i024,hi024,_,hsz24,_⟩:=info_parts info66
             have hroom24:l0.length ≤ c0:=HC0.out
             have hC24:Kd.C k66 _ (some ad125) l0.length l0:=HR0.out
             have q024:(0:Int) ≤ (x6_1:Int):=of_decide_eq_true (by first | (with_reducible assumption) | assumption)
             have hcut24:=cut_from (P:=Tryz.prog) 50 66 .i64 Tryz.underlying50 hi024 2 hsz24 (some ad125) l0.length c0 x6_1 q024 q24
             have hr24:=Kd.C_drop (m:=(x6_1:Int).toNat) (c:=c0) hC24 (by omega) hroom24
             obtain ⟨A24,hA24⟩:∃ A1,A1 = (if c0 = (x6_1:Int).toNat then (some ad125) else ((some ad125):Option Addr).map (·.add ((x6_1:Int).toNat * 2))):=⟨_,rfl⟩
             obtain ⟨c24,hc24⟩:∃ c1,c1 = c0 - (x6_1:Int).toNat:=⟨_,rfl⟩
             have hy24:y143.length = l0.length - (x6_1:Int).toNat:=(by rw [Ny143.out,List.length_drop] <;> omega)
             rw [show (l0).drop (x6_1:Int).toNat = y143 from Ny143.out.symm] at hr24
             replace hr24:Kd.C k66 _ A24 y143.length y143:=(by rw [hA24];exact hr24)
             rw [← hy24,← hA24,← hc24] at hcut24
             have HR146:=Aside0.mk hr24
             have HC146:=Aside0.mk (show y143.length ≤ c24 from by rw [hy24,hc24];exact Nat.sub_le_sub_right hroom24 _)
             clear hr24 hC24 hroom24 hi024 hsz24 hc24
             have KY24:=Aside0.mk hy24
             have KA24:=Aside0.mk hA24
             clear hy24 hA24
             replace q24:=eq_true q24
             refine start_ (n:=14) (S:=fun w' => w'.cell? ⟨gb124,0,none⟩ = some (.string a1_0) ∧ w'.cell? ⟨gb124,1,none⟩ = some (.string a1_1)) (ds:=[]) #[false,false,false,false,false,false,false,false,false,false,false,false,false,false] (by kernel_rfl) rfl rfl ⟨(uj BK124.out 0).trans rfl,(uj BK124.out 1).trans rfl⟩ (fun hHeld => ?_);refine with_tabW u1b.tab6 u1b.bits6 (fun HT_ HW_ => ?_)
             generalize w21.drew = w22 at BK124 HB HR133 HR146 hHeld ⊢
             refine pure_ (i:=1) (N:=some 38) (v:=?_) (a':=?_) #[false,true,false,false,false,false,false,false,false,false,false,false,false,false] rfl rfl (u2j HT_.out (by kernel_rfl)) (fun _ _ _ h => h) (Or.inl ⟨by rfl,?_⟩) ?_ ?_
             rotate_left
             ·intro w'
              go_simp
              with_reducible rfl
             rotate_left
             ·simp only [Act.put,List.setIfInBounds_toArray,List.set_cons_zero,List.set_cons_succ,i64_w,i32_w]
              rfl
             refine pure_ (i:=2) (N:=some 39) (v:=?_) (a':=?_) #[false,true,true,false,false,false,false,false,false,false,false,false,false,false] rfl rfl (u2j HT_.out (by kernel_rfl)) (fun _ _ _ h => h) (Or.inl ⟨by rfl,?_⟩) ?_ ?_
             rotate_left
             ·intro w'
              go_simp
              with_reducible rfl
             rotate_left
             ·simp only [Act.put,List.setIfInBounds_toArray,List.set_cons_zero,List.set_cons_succ,i64_w,i32_w]
              rfl
             refine pure_ (i:=3) (N:=some 40) (v:=?_) (a':=?_) #[false,true,true,true,false,false,false,false,false,false,false,false,false,false] rfl rfl (u2j HT_.out (by kernel_rfl)) (fun _ _ _ h => h) (Or.inl ⟨by rfl,?_⟩) ?_ ?_
             rotate_left
             ·intro w'
              go_simp
              with_reducible rfl
             rotate_left
             ·simp only [Act.put,List.setIfInBounds_toArray,List.set_cons_zero,List.set_cons_succ,i64_w,i32_w]
              rfl
             refine pure_ (i:=8) (N:=some 45) (v:=?_) (a':=?_) #[false,true,true,true,false,false,false,false,true,false,false,false,false,false] rfl rfl (u2j HT_.out (by kernel_rfl)) (fun _ _ _ h => h) (Or.inl ⟨by rfl,?_⟩) ?_ ?_
             rotate_left
             ·intro w'
              go_simp
              with_reducible rfl
             rotate_left
             ·simp only [Act.put,List.setIfInBounds_toArray,List.set_cons_zero,List.set_cons_succ,i64_w,i32_w]
              rfl
             refine pure_ (i:=9) (N:=some 46) (v:=?_) (a':=?_) #[false,true,true,true,false,false,false,false,true,true,false,false,false,false] rfl rfl (u2j HT_.out (by kernel_rfl)) (fun _ _ _ h => h) (Or.inl ⟨by rfl,?_⟩) ?_ ?_
             rotate_left
             ·intro w'
              go_simp
              with_reducible rfl
             rotate_left
             ·simp only [Act.put,List.setIfInBounds_toArray,List.set_cons_zero,List.set_cons_succ,i64_w,i32_w]
              rfl
             refine pure_ (i:=10) (N:=some 47) (v:=?_) (a':=?_) #[false,true,true,true,false,false,false,false,true,true,true,false,false,false] rfl rfl (u2j HT_.out (by kernel_rfl)) (fun _ _ _ h => h) (Or.inl ⟨by rfl,?_⟩) ?_ ?_
             rotate_left
             ·intro w'
              go_simp
              with_reducible rfl
             rotate_left
             ·simp only [Act.put,List.setIfInBounds_toArray,List.set_cons_zero,List.set_cons_succ,i64_w,i32_w]
              rfl
             refine take_ (i:=5) (N:=some 42) (v:=?_) (a':=?_) #[false,true,true,true,false,true,false,false,true,true,true,false,false,false] rfl rfl (take_ofW HT_.out HW_.out (by kernel_rfl)) (fun _ _ _ h => h) (Or.inl ⟨by rfl,?_⟩) hHeld ?_ ?_
             rotate_left
             ·rintro w' ⟨s0,s1⟩
              go_simp
              with_reducible rfl
             rotate_left
             ·simp only [Act.put,List.setIfInBounds_toArray,List.set_cons_zero,List.set_cons_succ,i64_w,i32_w]
              rfl
             refine join_ (σ:=Value × Value × Value) 4 #[true,true,true,true,true,true,true,false,true,true,true,false,false,false] (fun s_ => [(37,s_.1),(41,s_.2.1),(43,s_.2.2)]) (fun s_ w' => (w'.cell? ⟨gb124,0,none⟩ = some (.string a1_0) ∧ w'.cell? ⟨gb124,1,none⟩ = some (.string a1_1)) ∧ (Kd.R k66 66 w' w.heap.size (fun k_ => some k_ ≠ (s_.2.2:Value).ownBlock ∧ k_ ≠ gb124) s_.2.1 y134) ∧ (Kd.R k66 66 w' w.heap.size (fun k_ => some k_ ≠ (s_.2.1:Value).ownBlock ∧ k_ ≠ gb124) s_.2.2 y137) ∧ (w'.heap[gb124]? = some (.cells #[.string a1_0,.string a1_1] 66 (0,0))) ∧ (Below w.heap.size w w')) ?_ ?_
             rotate_left
             ·intro hCont
              refine two_ (i:=0) (j:=6) (Ni:=some 37) (Nj:=some 43) #[true,true,true,true,false,true,false,false,true,true,true,false,false,false] #[false,true,true,true,false,true,true,false,true,true,true,false,false,false] rfl rfl rfl rfl (two_of HT_.out (by kernel_rfl)) (by decide) (by decide) (fun K hK => ?_) (fun K hK => ?_)
              ·skip
               refine Kd.R_lit_step k66 _ 66 ?hg (N:=37) ?hd (xs:=([]:List (S66))) (inner:=[]) (ok:=fun _ => True) (okp:=fun _ => True) ?hr ?hp (fun _ hk => hk) trivial (Below.refl _ _) (Nat.le_refl _) (by simp) ?_;(case hd => rfl);(case hg => rfl);(case hr => first | (go_simp;done) | (go_simp;rfl));(case hp => exact (Reps.none _ _))
               intro v128 w25 ho26 hb hg_ hnew_
               clear hg_ hnew_
               (first | rw [← Ny127.out] at ho26 | (simp only [Int.reduceToNat] at ho26;rw [← Ny127.out] at ho26))
               have n0_:=Aside0.mk (Kd.R_lower (Kd.R_newB ho26 (g:=gb124) (o:=.cells #[.string a1_0,.string a1_1] 66 (0,0)) (by (with_reducible repeat (first | refine ue ?_ _ | refine ug ?_ | refine uf ?_ _));exact BK124.out)) (u1c (by repeat (first | (with_reducible first | exact HB.out | apply uc | apply ub | apply ud | refine ui ?_ GE124.out) | exact HB.out))))
               have n1_:=Aside0.mk (u2c (g:=gb124) (o:=.cells #[.string a1_0,.string a1_1] 66 (0,0)) (by (with_reducible repeat (first | refine ue ?_ _ | refine ug ?_ | refine uf ?_ _));exact BK124.out) hb)
               have n2_:=Aside0.mk (u1h (by repeat (first | (with_reducible first | exact HB.out | apply uc | apply ub | apply ud | refine ui ?_ GE124.out) | exact HB.out)) hb)
               clear BK124
               clear HB
               have HO129:=n0_
               have BK124:=n1_
               have HB:=n2_
               clear n0_ n1_ n2_
               clear hb ho26
               refine hK.out _ _ ⟨(uj BK124.out 0).trans rfl,(uj BK124.out 1).trans rfl⟩ (fun hHeld => ?_)
               clear hK K
               refine norm_ (a':=?_) ?_ ?_
               rotate_left
               ·show Act.put _ (some 37) _ = _
                simp only [Act.put,List.setIfInBounds_toArray,List.set_cons_zero,List.set_cons_succ,i64_w,i32_w]
                rfl
               refine two_ (i:=4) (j:=6) (Ni:=some 41) (Nj:=some 43) #[true,true,true,true,true,true,false,false,true,true,true,false,false,false] #[true,true,true,true,false,true,true,false,true,true,true,false,false,false] rfl rfl rfl rfl (two_of HT_.out (by kernel_rfl)) (by decide) (by decide) (fun K hK => ?_) (fun K hK => ?_)
               ·skip
                refine Kd.R_append_rows_step k66 (w0:=w) w.heap.size (by rfl) (.tmp 37) (.tmp 40) 50 66 (.agg #[(.string ⟨#[]⟩),(.string ⟨#[]⟩)]) 32 rfl Tryz.underlying50 info66 rfl (by decide) (by omega) v128 y127 y130 _ _ _ (fun k_ => k_ ≠ gb124) (fun _ => False) rfl rfl ?aO ?aR (fun _ _ h => h) (fun _ h => h.elim) ?aF ?aB ?aS ?aL ?_
                (case aR => repeat (first | exact (Kd.C_below HR133.out HB.out) | (with_reducible refine Kd.C_alloc ?_ _) | (with_reducible refine Kd.C_drewN ?_ _) | (with_reducible refine Kd.C_drew ?_)))
                (case aB => exact (by repeat (first | (with_reducible first | exact HB.out | apply uc | apply ub | apply ud | refine ui ?_ GE124.out) | exact HB.out)))
                (case aF => exact (fun k_ hk => Kd.freshB (g:=gb124) (o:=.cells #[.string a1_0,.string a1_1] 66 (0,0)) (by (with_reducible repeat (first | refine ue ?_ _ | refine ug ?_ | refine uf ?_ _));exact BK124.out) k_ hk))
                (case aO => exact (by (with_reducible repeat (first | apply Kd.R_alloc | apply Kd.R_drewN | apply Kd.R_drew));exact Kd.R_mono HO129.out (fun _ hk => hk.2)))
                (case aS => exact (u1c (by repeat (first | (with_reducible first | exact HB.out | apply uc | apply ub | apply ud | refine ui ?_ GE124.out) | exact HB.out))))
                (case aL => have:=LMc15.out;omega)
                intro v135 w27 ho hb hg hat
                rw [← Ny134.out] at ho
                have n0_:=Aside0.mk (u3b (g:=gb124) (o:=.cells #[.string a1_0,.string a1_1] 66 (0,0)) (by (with_reducible repeat (first | refine ue ?_ _ | refine ug ?_ | refine uf ?_ _));exact BK124.out) hg (Kd.R_away HO129.out (fun _ hk => hk.2)))
                have n1_:=Aside0.mk (hb)
                have n2_:=Aside0.mk (ho)
                clear BK124
                clear HB
                clear HO129
                have BK124:=n0_
                have HB:=n1_
                have HO136:=n2_
                clear n0_ n1_ n2_
                clear ho hb hg hat
                refine hK.out _ _ ⟨(uj BK124.out 0).trans rfl,(uj BK124.out 1).trans rfl⟩ (fun hHeld => ?_)
                clear hK K
                refine norm_ (a':=?_) ?_ ?_
                rotate_left
                ·show Act.put _ (some 41) _ = _
                 simp only [Act.put,List.setIfInBounds_toArray,List.set_cons_zero,List.set_cons_succ,i64_w,i32_w]
                 rfl
                refine one_ (i:=6) (N:=some 43) #[true,true,true,true,true,true,true,false,true,true,true,false,false,false] rfl rfl (one_of HT_.out (by kernel_rfl)) (by decide) (fun K hK => ?_)
                refine Kd.R_lit_step k66 _ 66 ?hg (N:=43) ?hd (xs:=([(⟨a1_0,a1_1⟩:S66)]:List (S66))) (inner:=[.string a1_0,.string a1_1]) (ok:=fun _ => True) (okp:=fun _ => True) ?hr ?hp (fun _ hk => hk) trivial (Below.refl _ _) (Nat.le_refl _) (by simp) ?_;(case hd => rfl);(case hg => rfl);(case hr => first | (go_simp;done) | (go_simp;rfl));(case hp => exact (Reps.c2 (show Kd.M k66 _ _ _ (⟨a1_0,a1_1⟩:S66) [.string a1_0,.string a1_1] from (k66_mkM _ _ _ (⟨a1_0,a1_1⟩:S66) )) (Reps.none _ _)))
                intro v138 w28 ho29 hb hg_ hnew_
                clear hg_ hnew_
                (first | rw [← Ny137.out] at ho29 | (simp only [Int.reduceToNat] at ho29;rw [← Ny137.out] at ho29))
                have n0_:=Aside0.mk (Kd.R_elder' (by (with_reducible repeat (first | apply Kd.R_alloc | apply Kd.R_drewN | apply Kd.R_drew));exact HO136.out) (Kd.R_base ho29) hb)
                have n1_:=Aside0.mk (Kd.R_lower (Kd.R_newB (Kd.R_new' ho29 (Kd.R_lt (by (with_reducible repeat (first | apply Kd.R_alloc | apply Kd.R_drewN | apply Kd.R_drew));exact HO136.out))) (g:=gb124) (o:=.cells #[.string a1_0,.string a1_1] 66 (0,0)) (by (with_reducible repeat (first | refine ue ?_ _ | refine ug ?_ | refine uf ?_ _));exact BK124.out)) (u1c (by repeat (first | (with_reducible first | exact HB.out | apply uc | apply ub | apply ud | refine ui ?_ GE124.out) | exact HB.out))))
                have n2_:=Aside0.mk (u2c (g:=gb124) (o:=.cells #[.string a1_0,.string a1_1] 66 (0,0)) (by (with_reducible repeat (first | refine ue ?_ _ | refine ug ?_ | refine uf ?_ _));exact BK124.out) hb)
                have n3_:=Aside0.mk (u1h (by repeat (first | (with_reducible first | exact HB.out | apply uc | apply ub | apply ud | refine ui ?_ GE124.out) | exact HB.out)) hb)
                clear HO136
                clear BK124
                clear HB
                have HO136:=n0_
                have HO139:=n1_
                have BK124:=n2_
                have HB:=n3_
                clear n0_ n1_ n2_ n3_
                clear hb ho29
                refine hK.out _ _ ⟨(uj BK124.out 0).trans rfl,(uj BK124.out 1).trans rfl⟩ (fun hHeld => ?_)
                clear hK K
                refine norm_ (a':=?_) ?_ ?_
                rotate_left
                ·show Act.put _ (some 43) _ = _
                 simp only [Act.put,List.setIfInBounds_toArray,List.set_cons_zero,List.set_cons_succ,i64_w,i32_w]
                 rfl
                exact norm_ (by simp only [putAll,Act.put,List.setIfInBounds_toArray,List.set_cons_zero,List.set_cons_succ]) (hCont (v128,v135,v138) _ ⟨hHeld,(by (with_reducible repeat (first | apply Kd.R_alloc | apply Kd.R_drewN | apply Kd.R_drew));exact Kd.R_mono HO136.out (fun _ hk => ⟨hk.2,hk.1⟩)),(by (with_reducible repeat (first | apply Kd.R_alloc | apply Kd.R_drewN | apply Kd.R_drew));exact Kd.R_mono HO139.out (fun _ hk => ⟨hk.1.2,hk.2⟩)),(by (with_reducible repeat (first | refine ue ?_ _ | refine ug ?_ | refine uf ?_ _));exact BK124.out),(by repeat (first | (with_reducible first | exact HB.out | apply uc | apply ub | apply ud | refine ui ?_ GE124.out) | exact HB.out))⟩)
               ·skip
                refine Kd.R_lit_step k66 _ 66 ?hg (N:=43) ?hd (xs:=([(⟨a1_0,a1_1⟩:S66)]:List (S66))) (inner:=[.string a1_0,.string a1_1]) (ok:=fun _ => True) (okp:=fun _ => True) ?hr ?hp (fun _ hk => hk) trivial (Below.refl _ _) (Nat.le_refl _) (by simp) ?_;(case hd => rfl);(case hg => rfl);(case hr => first | (go_simp;done) | (go_simp;rfl));(case hp => exact (Reps.c2 (show Kd.M k66 _ _ _ (⟨a1_0,a1_1⟩:S66) [.string a1_0,.string a1_1] from (k66_mkM _ _ _ (⟨a1_0,a1_1⟩:S66) )) (Reps.none _ _)))
                intro v138 w27 ho28 hb hg_ hnew_
                clear hg_ hnew_
                (first | rw [← Ny137.out] at ho28 | (simp only [Int.reduceToNat] at ho28;rw [← Ny137.out] at ho28))
                have n0_:=Aside0.mk (Kd.R_elder' (by (with_reducible repeat (first | apply Kd.R_alloc | apply Kd.R_drewN | apply Kd.R_drew));exact HO129.out) (Kd.R_base ho28) hb)
                have n1_:=Aside0.mk (Kd.R_lower (Kd.R_newB (Kd.R_new' ho28 (Kd.R_lt (by (with_reducible repeat (first | apply Kd.R_alloc | apply Kd.R_drewN | apply Kd.R_drew));exact HO129.out))) (g:=gb124) (o:=.cells #[.string a1_0,.string a1_1] 66 (0,0)) (by (with_reducible repeat (first | refine ue ?_ _ | refine ug ?_ | refine uf ?_ _));exact BK124.out)) (u1c (by repeat (first | (with_reducible first | exact HB.out | apply uc | apply ub | apply ud | refine ui ?_ GE124.out) | exact HB.out))))
                have n2_:=Aside0.mk (u2c (g:=gb124) (o:=.cells #[.string a1_0,.string a1_1] 66 (0,0)) (by (with_reducible repeat (first | refine ue ?_ _ | refine ug ?_ | refine uf ?_ _));exact BK124.out) hb)
                have n3_:=Aside0.mk (u1h (by repeat (first | (with_reducible first | exact HB.out | apply uc | apply ub | apply ud | refine ui ?_ GE124.out) | exact HB.out)) hb)
                clear HO129
                clear BK124
                clear HB
                have HO129:=n0_
                have HO139:=n1_
                have BK124:=n2_
                have HB:=n3_
                clear n0_ n1_ n2_ n3_
                clear hb ho28
                refine hK.out _ _ ⟨(uj BK124.out 0).trans rfl,(uj BK124.out 1).trans rfl⟩ (fun hHeld => ?_)
                clear hK K
                refine norm_ (a':=?_) ?_ ?_
                rotate_left
                ·show Act.put _ (some 43) _ = _
                 simp only [Act.put,List.setIfInBounds_toArray,List.set_cons_zero,List.set_cons_succ,i64_w,i32_w]
                 rfl
                refine one_ (i:=4) (N:=some 41) #[true,true,true,true,true,true,true,false,true,true,true,false,false,false] rfl rfl (one_of HT_.out (by kernel_rfl)) (by decide) (fun K hK => ?_)
                refine Kd.R_append_rows_step k66 (w0:=w) w.heap.size (by rfl) (.tmp 37) (.tmp 40) 50 66 (.agg #[(.string ⟨#[]⟩),(.string ⟨#[]⟩)]) 32 rfl Tryz.underlying50 info66 rfl (by decide) (by omega) v128 y127 y130 _ _ _ (fun k_ => some k_ ≠ (v138:Value).ownBlock ∧ k_ ≠ gb124) (fun _ => False) rfl rfl ?aO ?aR (fun _ _ h => h) (fun _ h => h.elim) ?aF ?aB ?aS ?aL ?_
                (case aR => repeat (first | exact (Kd.C_below HR133.out HB.out) | (with_reducible refine Kd.C_alloc ?_ _) | (with_reducible refine Kd.C_drewN ?_ _) | (with_reducible refine Kd.C_drew ?_)))
                (case aB => exact (by repeat (first | (with_reducible first | exact HB.out | apply uc | apply ub | apply ud | refine ui ?_ GE124.out) | exact HB.out)))
                (case aF => exact (fun k_ hk => ⟨Kd.fresh' (Kd.R_lt (by (with_reducible repeat (first | apply Kd.R_alloc | apply Kd.R_drewN | apply Kd.R_drew));exact HO139.out)) k_ hk,Kd.freshB (g:=gb124) (o:=.cells #[.string a1_0,.string a1_1] 66 (0,0)) (by (with_reducible repeat (first | refine ue ?_ _ | refine ug ?_ | refine uf ?_ _));exact BK124.out) k_ hk⟩))
                (case aO => exact (by (with_reducible repeat (first | apply Kd.R_alloc | apply Kd.R_drewN | apply Kd.R_drew));exact Kd.R_mono HO129.out (fun _ hk => ⟨hk.2,hk.1.2⟩)))
                (case aS => exact (u1c (by repeat (first | (with_reducible first | exact HB.out | apply uc | apply ub | apply ud | refine ui ?_ GE124.out) | exact HB.out))))
                (case aL => have:=LMc15.out;omega)
                intro v135 w29 ho hb hg hat
                rw [← Ny134.out] at ho
                have n0_:=Aside0.mk (u3b (g:=gb124) (o:=.cells #[.string a1_0,.string a1_1] 66 (0,0)) (by (with_reducible repeat (first | refine ue ?_ _ | refine ug ?_ | refine uf ?_ _));exact BK124.out) hg (Kd.R_away HO129.out (fun _ hk => hk.1.2)))
                have n1_:=Aside0.mk (Kd.R_after (ok:=(fun k_ => k_ ≠ gb124)) (by (with_reducible repeat (first | apply Kd.R_alloc | apply Kd.R_drewN | apply Kd.R_drew));exact Kd.R_mono HO139.out (fun _ hk => ⟨hk.2,hk.1.2⟩)) hg hat)
                have n2_:=Aside0.mk (hb)
                have n3_:=Aside0.mk (ho)
                clear BK124
                clear HO139
                clear HB
                clear HO129
                have BK124:=n0_
                have HO139:=n1_
                have HB:=n2_
                have HO136:=n3_
                clear n0_ n1_ n2_ n3_
                clear ho hb hg hat
                refine hK.out _ _ ⟨(uj BK124.out 0).trans rfl,(uj BK124.out 1).trans rfl⟩ (fun hHeld => ?_)
                clear hK K
                refine norm_ (a':=?_) ?_ ?_
                rotate_left
                ·show Act.put _ (some 41) _ = _
                 simp only [Act.put,List.setIfInBounds_toArray,List.set_cons_zero,List.set_cons_succ,i64_w,i32_w]
                 rfl
                exact norm_ (by simp only [putAll,Act.put,List.setIfInBounds_toArray,List.set_cons_zero,List.set_cons_succ]) (hCont (v128,v135,v138) _ ⟨hHeld,(by (with_reducible repeat (first | apply Kd.R_alloc | apply Kd.R_drewN | apply Kd.R_drew));exact HO136.out),(by (with_reducible repeat (first | apply Kd.R_alloc | apply Kd.R_drewN | apply Kd.R_drew));exact Kd.R_mono HO139.out (fun _ hk => ⟨hk.2,hk.1⟩)),(by (with_reducible repeat (first | refine ue ?_ _ | refine ug ?_ | refine uf ?_ _));exact BK124.out),(by repeat (first | (with_reducible first | exact HB.out | apply uc | apply ub | apply ud | refine ui ?_ GE124.out) | exact HB.out))⟩)
              ·skip
               refine Kd.R_lit_step k66 _ 66 ?hg (N:=43) ?hd (xs:=([(⟨a1_0,a1_1⟩:S66)]:List (S66))) (inner:=[.string a1_0,.string a1_1]) (ok:=fun _ => True) (okp:=fun _ => True) ?hr ?hp (fun _ hk => hk) trivial (Below.refl _ _) (Nat.le_refl _) (by simp) ?_;(case hd => rfl);(case hg => rfl);(case hr => first | (go_simp;done) | (go_simp;rfl));(case hp => exact (Reps.c2 (show Kd.M k66 _ _ _ (⟨a1_0,a1_1⟩:S66) [.string a1_0,.string a1_1] from (k66_mkM _ _ _ (⟨a1_0,a1_1⟩:S66) )) (Reps.none _ _)))
               intro v138 w25 ho26 hb hg_ hnew_
               clear hg_ hnew_
               (first | rw [← Ny137.out] at ho26 | (simp only [Int.reduceToNat] at ho26;rw [← Ny137.out] at ho26))
               have n0_:=Aside0.mk (Kd.R_lower (Kd.R_newB ho26 (g:=gb124) (o:=.cells #[.string a1_0,.string a1_1] 66 (0,0)) (by (with_reducible repeat (first | refine ue ?_ _ | refine ug ?_ | refine uf ?_ _));exact BK124.out)) (u1c (by repeat (first | (with_reducible first | exact HB.out | apply uc | apply ub | apply ud | refine ui ?_ GE124.out) | exact HB.out))))
               have n1_:=Aside0.mk (u2c (g:=gb124) (o:=.cells #[.string a1_0,.string a1_1] 66 (0,0)) (by (with_reducible repeat (first | refine ue ?_ _ | refine ug ?_ | refine uf ?_ _));exact BK124.out) hb)
               have n2_:=Aside0.mk (u1h (by repeat (first | (with_reducible first | exact HB.out | apply uc | apply ub | apply ud | refine ui ?_ GE124.out) | exact HB.out)) hb)
               clear BK124
               clear HB
               have HO139:=n0_
               have BK124:=n1_
               have HB:=n2_
               clear n0_ n1_ n2_
               clear hb ho26
               refine hK.out _ _ ⟨(uj BK124.out 0).trans rfl,(uj BK124.out 1).trans rfl⟩ (fun hHeld => ?_)
               clear hK K
               refine norm_ (a':=?_) ?_ ?_
               rotate_left
               ·show Act.put _ (some 43) _ = _
                simp only [Act.put,List.setIfInBounds_toArray,List.set_cons_zero,List.set_cons_succ,i64_w,i32_w]
                rfl
               refine one_ (i:=0) (N:=some 37) #[true,true,true,true,false,true,true,false,true,true,true,false,false,false] rfl rfl (one_of HT_.out (by kernel_rfl)) (by decide) (fun K hK => ?_)
               refine Kd.R_lit_step k66 _ 66 ?hg (N:=37) ?hd (xs:=([]:List (S66))) (inner:=[]) (ok:=fun _ => True) (okp:=fun _ => True) ?hr ?hp (fun _ hk => hk) trivial (Below.refl _ _) (Nat.le_refl _) (by simp) ?_;(case hd => rfl);(case hg => rfl);(case hr => first | (go_simp;done) | (go_simp;rfl));(case hp => exact (Reps.none _ _))
               intro v128 w27 ho28 hb hg_ hnew_
               clear hg_ hnew_
               (first | rw [← Ny127.out] at ho28 | (simp only [Int.reduceToNat] at ho28;rw [← Ny127.out] at ho28))
               have n0_:=Aside0.mk (Kd.R_elder' (by (with_reducible repeat (first | apply Kd.R_alloc | apply Kd.R_drewN | apply Kd.R_drew));exact HO139.out) (Kd.R_base ho28) hb)
               have n1_:=Aside0.mk (Kd.R_lower (Kd.R_newB (Kd.R_new' ho28 (Kd.R_lt (by (with_reducible repeat (first | apply Kd.R_alloc | apply Kd.R_drewN | apply Kd.R_drew));exact HO139.out))) (g:=gb124) (o:=.cells #[.string a1_0,.string a1_1] 66 (0,0)) (by (with_reducible repeat (first | refine ue ?_ _ | refine ug ?_ | refine uf ?_ _));exact BK124.out)) (u1c (by repeat (first | (with_reducible first | exact HB.out | apply uc | apply ub | apply ud | refine ui ?_ GE124.out) | exact HB.out))))
               have n2_:=Aside0.mk (u2c (g:=gb124) (o:=.cells #[.string a1_0,.string a1_1] 66 (0,0)) (by (with_reducible repeat (first | refine ue ?_ _ | refine ug ?_ | refine uf ?_ _));exact BK124.out) hb)
               have n3_:=Aside0.mk (u1h (by repeat (first | (with_reducible first | exact HB.out | apply uc | apply ub | apply ud | refine ui ?_ GE124.out) | exact HB.out)) hb)
               clear HO139
               clear BK124
               clear HB
               have HO139:=n0_
               have HO129:=n1_
               have BK124:=n2_
               have HB:=n3_
               clear n0_ n1_ n2_ n3_
               clear hb ho28
               refine hK.out _ _ ⟨(uj BK124.out 0).trans rfl,(uj BK124.out 1).trans rfl⟩ (fun hHeld => ?_)
               clear hK K
               refine norm_ (a':=?_) ?_ ?_
               rotate_left
               ·show Act.put _ (some 37) _ = _
                simp only [Act.put,List.setIfInBounds_toArray,List.set_cons_zero,List.set_cons_succ,i64_w,i32_w]
                rfl
               refine one_ (i:=4) (N:=some 41) #[true,true,true,true,true,true,true,false,true,true,true,false,false,false] rfl rfl (one_of HT_.out (by kernel_rfl)) (by decide) (fun K hK => ?_)
               refine Kd.R_append_rows_step k66 (w0:=w) w.heap.size (by rfl) (.tmp 37) (.tmp 40) 50 66 (.agg #[(.string ⟨#[]⟩),(.string ⟨#[]⟩)]) 32 rfl Tryz.underlying50 info66 rfl (by decide) (by omega) v128 y127 y130 _ _ _ (fun k_ => some k_ ≠ (v138:Value).ownBlock ∧ k_ ≠ gb124) (fun _ => False) rfl rfl ?aO ?aR (fun _ _ h => h) (fun _ h => h.elim) ?aF ?aB ?aS ?aL ?_
               (case aR => repeat (first | exact (Kd.C_below HR133.out HB.out) | (with_reducible refine Kd.C_alloc ?_ _) | (with_reducible refine Kd.C_drewN ?_ _) | (with_reducible refine Kd.C_drew ?_)))
               (case aB => exact (by repeat (first | (with_reducible first | exact HB.out | apply uc | apply ub | apply ud | refine ui ?_ GE124.out) | exact HB.out)))
               (case aF => exact (fun k_ hk => ⟨Kd.fresh' (Kd.R_lt (by (with_reducible repeat (first | apply Kd.R_alloc | apply Kd.R_drewN | apply Kd.R_drew));exact HO139.out)) k_ hk,Kd.freshB (g:=gb124) (o:=.cells #[.string a1_0,.string a1_1] 66 (0,0)) (by (with_reducible repeat (first | refine ue ?_ _ | refine ug ?_ | refine uf ?_ _));exact BK124.out) k_ hk⟩))
               (case aO => exact (by (with_reducible repeat (first | apply Kd.R_alloc | apply Kd.R_drewN | apply Kd.R_drew));exact Kd.R_mono HO129.out (fun _ hk => ⟨hk.1.2,hk.2⟩)))
               (case aS => exact (u1c (by repeat (first | (with_reducible first | exact HB.out | apply uc | apply ub | apply ud | refine ui ?_ GE124.out) | exact HB.out))))
               (case aL => have:=LMc15.out;omega)
               intro v135 w29 ho hb hg hat
               rw [← Ny134.out] at ho
               have n0_:=Aside0.mk (u3b (g:=gb124) (o:=.cells #[.string a1_0,.string a1_1] 66 (0,0)) (by (with_reducible repeat (first | refine ue ?_ _ | refine ug ?_ | refine uf ?_ _));exact BK124.out) hg (Kd.R_away HO129.out (fun _ hk => hk.2)))
               have n1_:=Aside0.mk (Kd.R_after (ok:=(fun k_ => k_ ≠ gb124)) (by (with_reducible repeat (first | apply Kd.R_alloc | apply Kd.R_drewN | apply Kd.R_drew));exact Kd.R_mono HO139.out (fun _ hk => ⟨hk.1.2,hk.2⟩)) hg hat)
               have n2_:=Aside0.mk (hb)
               have n3_:=Aside0.mk (ho)
               clear BK124
               clear HO139
               clear HB
               clear HO129
               have BK124:=n0_
               have HO139:=n1_
               have HB:=n2_
               have HO136:=n3_
               clear n0_ n1_ n2_ n3_
               clear ho hb hg hat
               refine hK.out _ _ ⟨(uj BK124.out 0).trans rfl,(uj BK124.out 1).trans rfl⟩ (fun hHeld => ?_)
               clear hK K
               refine norm_ (a':=?_) ?_ ?_
               rotate_left
               ·show Act.put _ (some 41) _ = _
                simp only [Act.put,List.setIfInBounds_toArray,List.set_cons_zero,List.set_cons_succ,i64_w,i32_w]
                rfl
               exact norm_ (by simp only [putAll,Act.put,List.setIfInBounds_toArray,List.set_cons_zero,List.set_cons_succ]) (hCont (v128,v135,v138) _ ⟨hHeld,(by (with_reducible repeat (first | apply Kd.R_alloc | apply Kd.R_drewN | apply Kd.R_drew));exact HO136.out),(by (with_reducible repeat (first | apply Kd.R_alloc | apply Kd.R_drewN | apply Kd.R_drew));exact Kd.R_mono HO139.out (fun _ hk => ⟨hk.2,hk.1⟩)),(by (with_reducible repeat (first | refine ue ?_ _ | refine ug ?_ | refine uf ?_ _));exact BK124.out),(by repeat (first | (with_reducible first | exact HB.out | apply uc | apply ub | apply ud | refine ui ?_ GE124.out) | exact HB.out))⟩)
             rintro ⟨v128,v135,v138⟩ w30 ⟨hS_,h0_,h1_,h2_,h3_⟩
             have n0_:Aside0 (Kd.R k66 66 w30 w.heap.size (fun k_ => some k_ ≠ (v138:Value).ownBlock ∧ k_ ≠ gb124) v135 y134):=⟨h0_⟩
             have n1_:Aside0 (Kd.R k66 66 w30 w.heap.size (fun k_ => some k_ ≠ (v135:Value).ownBlock ∧ k_ ≠ gb124) v138 y137):=⟨h1_⟩
             have n2_:Aside0 (w30.heap[gb124]? = some (.cells #[.string a1_0,.string a1_1] 66 (0,0))):=⟨h2_⟩
             have n3_:Aside0 (Below w.heap.size w w30):=⟨h3_⟩
             clear BK124
             clear HB
             clear h0_ h1_ h2_ h3_
             have HO136:=n0_
             have HO139:=n1_
             have BK124:=n2_
             have HB:=n3_
             clear n0_ n1_ n2_ n3_
             have hHeld:w30.cell? ⟨gb124,0,none⟩ = some (.string a1_0) ∧ w30.cell? ⟨gb124,1,none⟩ = some (.string a1_1):=hS_
             obtain ⟨Ao32,co32,eo32⟩:=Kd.R_slice HO139.out
             (first | subst eo32 | (injection eo32 with f1_ f2_ f3_;have f4_:=f1_.symm;have f5_:=f3_.symm;clear f1_ f2_ f3_;subst f4_;subst f5_))
             refine norm_ (a':=?_) ?_ ?_
             rotate_left
             ·simp only [putAll,Act.put,List.setIfInBounds_toArray,List.set_cons_zero,List.set_cons_succ]
              rfl
             refine one_ (i:=7) (N:=some 44) #[true,true,true,true,true,true,true,true,true,true,true,false,false,false] rfl rfl (one_of HT_.out (by kernel_rfl)) (by decide) (fun K hK => ?_)
             refine Kd.R_append_rows_step k66 (w0:=w) w.heap.size (by rfl) (.tmp 41) (.tmp 43) 50 66 (.agg #[(.string ⟨#[]⟩),(.string ⟨#[]⟩)]) 32 rfl Tryz.underlying50 info66 rfl (by decide) (by omega) v135 y134 y137 _ _ _ (fun k_ => some k_ ≠ (.slice Ao32 y137.length co32:Value).ownBlock ∧ k_ ≠ gb124) (fun _ => False) rfl rfl ?aO ?aR (fun _ _ h => h) (fun _ h => h.elim) ?aF ?aB ?aS ?aL ?_
             (case aR => repeat (first | exact (Kd.R_reads' HO139.out).2.2 | (with_reducible refine Kd.C_alloc ?_ _) | (with_reducible refine Kd.C_drewN ?_ _) | (with_reducible refine Kd.C_drew ?_)))
             (case aB => exact (by repeat (first | (with_reducible first | exact HB.out | apply uc | apply ub | apply ud | refine ui ?_ GE124.out) | exact HB.out)))
             (case aF => exact (fun k_ hk => ⟨Kd.fresh' (Kd.R_lt (by (with_reducible repeat (first | apply Kd.R_alloc | apply Kd.R_drewN | apply Kd.R_drew));exact HO139.out)) k_ hk,Kd.freshB (g:=gb124) (o:=.cells #[.string a1_0,.string a1_1] 66 (0,0)) (by (with_reducible repeat (first | refine ue ?_ _ | refine ug ?_ | refine uf ?_ _));exact BK124.out) k_ hk⟩))
             (case aO => exact (by (with_reducible repeat (first | apply Kd.R_alloc | apply Kd.R_drewN | apply Kd.R_drew));exact HO136.out))
             (case aS => exact (u1c (by repeat (first | (with_reducible first | exact HB.out | apply uc | apply ub | apply ud | refine ui ?_ GE124.out) | exact HB.out))))
             (case aL => have:=LMc16.out;omega)
             intro v141 w31 ho hb hg hat
             rw [← Ny140.out] at ho
             have n0_:=Aside0.mk (u3b (g:=gb124) (o:=.cells #[.string a1_0,.string a1_1] 66 (0,0)) (by (with_reducible repeat (first | refine ue ?_ _ | refine ug ?_ | refine uf ?_ _));exact BK124.out) hg (Kd.R_away HO136.out (fun _ hk => hk.2)))
             have n1_:=Aside0.mk (Kd.R_after (ok:=(fun k_ => k_ ≠ gb124)) (by (with_reducible repeat (first | apply Kd.R_alloc | apply Kd.R_drewN | apply Kd.R_drew));exact Kd.R_mono HO139.out (fun _ hk => ⟨hk.2,hk.1⟩)) hg hat)
             have n2_:=Aside0.mk (hb)
             have n3_:=Aside0.mk (ho)
             clear BK124
             clear HO139
             clear HB
             clear HO136
             have BK124:=n0_
             have HO139:=n1_
             have HB:=n2_
             have HO142:=n3_
             clear n0_ n1_ n2_ n3_
             clear ho hb hg hat
             refine hK.out _ _ ⟨(uj BK124.out 0).trans rfl,(uj BK124.out 1).trans rfl⟩ (fun hHeld => ?_)
             clear hK K
             refine norm_ (a':=?_) ?_ ?_
             rotate_left
             ·show Act.put _ (some 44) _ = _
              simp only [Act.put,List.setIfInBounds_toArray,List.set_cons_zero,List.set_cons_succ,i64_w,i32_w]
              rfl
             refine one_ (i:=11) (N:=some 48) #[true,true,true,true,true,true,true,true,true,true,true,true,false,false] rfl rfl (one_of HT_.out (by kernel_rfl)) (by decide) (fun K hK => ?_)
             refine Kd.R_append_rows_step k66 (w0:=w) w.heap.size (by rfl) (.tmp 44) (.tmp 47) 50 66 (.agg #[(.string ⟨#[]⟩),(.string ⟨#[]⟩)]) 32 rfl Tryz.underlying50 info66 rfl (by decide) (by omega) v141 y140 y143 _ _ _ (fun k_ => some k_ ≠ (.slice Ao32 y137.length co32:Value).ownBlock ∧ k_ ≠ gb124) (fun _ => False) rfl rfl ?aO ?aR (fun _ _ h => h) (fun _ h => h.elim) ?aF ?aB ?aS ?aL ?_
             (case aR => repeat (first | exact (Kd.C_below HR146.out HB.out) | (with_reducible refine Kd.C_alloc ?_ _) | (with_reducible refine Kd.C_drewN ?_ _) | (with_reducible refine Kd.C_drew ?_)))
             (case aB => exact (by repeat (first | (with_reducible first | exact HB.out | apply uc | apply ub | apply ud | refine ui ?_ GE124.out) | exact HB.out)))
             (case aF => exact (fun k_ hk => ⟨Kd.fresh' (Kd.R_lt (by (with_reducible repeat (first | apply Kd.R_alloc | apply Kd.R_drewN | apply Kd.R_drew));exact HO139.out)) k_ hk,Kd.freshB (g:=gb124) (o:=.cells #[.string a1_0,.string a1_1] 66 (0,0)) (by (with_reducible repeat (first | refine ue ?_ _ | refine ug ?_ | refine uf ?_ _));exact BK124.out) k_ hk⟩))
             (case aO => exact (by (with_reducible repeat (first | apply Kd.R_alloc | apply Kd.R_drewN | apply Kd.R_drew));exact HO142.out))
             (case aS => exact (u1c (by repeat (first | (with_reducible first | exact HB.out | apply uc | apply ub | apply ud | refine ui ?_ GE124.out) | exact HB.out))))
             (case aL => have:=LMc19.out;omega)
             intro v148 w33 ho hb hg hat
             rw [← Ny147.out] at ho
             have n0_:=Aside0.mk (u3b (g:=gb124) (o:=.cells #[.string a1_0,.string a1_1] 66 (0,0)) (by (with_reducible repeat (first | refine ue ?_ _ | refine ug ?_ | refine uf ?_ _));exact BK124.out) hg (Kd.R_away HO142.out (fun _ hk => hk.2)))
             have n1_:=Aside0.mk (Kd.R_after (ok:=(fun k_ => k_ ≠ gb124)) (by (with_reducible repeat (first | apply Kd.R_alloc | apply Kd.R_drewN | apply Kd.R_drew));exact HO139.out) hg hat)
             have n2_:=Aside0.mk (hb)
             have n3_:=Aside0.mk (ho)
             clear BK124
             clear HO139
             clear HB
             clear HO142
             have BK124:=n0_
             have HO139:=n1_
             have HB:=n2_
             have HO149:=n3_
             clear n0_ n1_ n2_ n3_
             clear ho hb hg hat
             refine hK.out _ _ ⟨(uj BK124.out 0).trans rfl,(uj BK124.out 1).trans rfl⟩ (fun hHeld => ?_)
             clear hK K
             refine norm_ (a':=?_) ?_ ?_
             rotate_left
             ·show Act.put _ (some 48) _ = _
              simp only [Act.put,List.setIfInBounds_toArray,List.set_cons_zero,List.set_cons_succ,i64_w,i32_w]
              rfl
             refine pure_ (i:=12) (N:=some 4) (v:=?_) (a':=?_) #[true,true,true,true,true,true,true,true,true,true,true,true,true,false] rfl rfl (u2j HT_.out (by kernel_rfl)) (fun _ _ _ h => h) (Or.inl ⟨by rfl,?_⟩) ?_ ?_
             rotate_left
             ·intro w'
              go_simp
              with_reducible rfl
             rotate_left
             ·simp only [Act.put,List.setIfInBounds_toArray,List.set_cons_zero,List.set_cons_succ,i64_w,i32_w]
              rfl
             refine pure_ (i:=13) (N:=some 5) (v:=?_) (a':=?_) #[true,true,true,true,true,true,true,true,true,true,true,true,true,true] rfl rfl (u2j HT_.out (by kernel_rfl)) (fun _ _ _ h => h) (Or.inl ⟨by rfl,?_⟩) ?_ ?_
             rotate_left
             ·intro w'
              go_simp
              with_reducible rfl
             rotate_left
             ·simp only [Act.put,List.setIfInBounds_toArray,List.set_cons_zero,List.set_cons_succ,i64_w,i32_w]
              rfl
             refine done_ (done_of HT_.out (by kernel_rfl)) ?_
             try go_wp2
             go_ret2
             exact ⟨_,by first | rfl | (simp [u1k,u1l] <;> rfl) | (simp only [← hji5];first | rfl | (simp [u1k,u1l] <;> rfl)) | (simp [*,u1k,u1l] <;> rfl),by (with_reducible repeat (first | apply Kd.R_alloc | apply Kd.R_drewN | apply Kd.R_drew));exact Kd.R_mono HO149.out (fun _ hk => trivial),by repeat (first | (with_reducible first | exact HB.out | apply uc | apply ub | apply ud | refine ui ?_ GE124.out) | exact HB.out)⟩
            ·rw [if_neg c19] at H
             exact absurd H (by simp)
           ·rw [if_neg c16] at H
            exact absurd H (by simp)
          ·rw [if_neg c15] at H
           exact absurd H (by simp)
         ·rw [if_neg c14] at H
          exact absurd H (by simp)
        ·rw [if_neg c13] at H
         exact absurd H (by simp)
     ·rw [if_neg c7] at H
      exact absurd H (by simp)
    ·rw [if_neg c6] at H
     exact absurd H (by simp)
   ·rw [if_neg c4] at H
    have c4b0:decide (0 < x6_1) = false:=decide_eq_false c4
    clear c4
    obtain ⟨y150,hy150⟩:∃ y_:List (S66),y_ = (([]:List (S66))):=⟨_,rfl⟩
    replace H:(if 0 ≤ x6_1 then (if x6_1 ≤ (l0.length:Int) then ((some (l0.take (x6_1:Int).toNat:List (S66))).bind fun y153 => (if y150.length + y153.length < 4398046511104 then ((some (y150 ++ y153:List (S66))).bind fun y157 => ((some (([(⟨a1_0,a1_1⟩:S66)]:List (S66)):List (S66))).bind fun y160 => (if y157.length + y160.length < 4398046511104 then ((some (y157 ++ y160:List (S66))).bind fun y163 => ((some (l0.drop (x6_1:Int).toNat:List (S66))).bind fun y166 => (if y163.length + y166.length < 4398046511104 then (some ((y163 ++ y166),true)) else (none)))) else (none)))) else (none))) else (none)) else (none)) = some (r1,r2):=by first | (rw [hy150];with_reducible exact H) | (have H2_:=(Option.bind_some _ _).symm.trans H;rw [hy150];with_reducible exact H2_) | (have H2_:=(Option.bind_some _ _).symm.trans H;with_reducible exact H2_) | with_reducible exact H | (rw [hy150];exact H) | exact H
    have Ny150:=Aside0.mk hy150
    clear hy150
    by_cases c34:0 ≤ x6_1
    ·rw [if_pos c34] at H
     have c34b0:=eq_true c34
     have c34b1:decide (0 ≤ x6_1) = true:=decide_eq_true c34
     clear c34
     by_cases c35:x6_1 ≤ (l0.length:Int)
     ·rw [if_pos c35] at H
      have c35b0:=eq_true c35
      have c35b1:decide (x6_1 ≤ (l0.length:Int)) = true:=decide_eq_true c35
      clear c35
      obtain ⟨y153,hy153⟩:∃ y_:List (S66),y_ = (l0.take (x6_1:Int).toNat):=⟨_,rfl⟩
      replace H:(if y150.length + y153.length < 4398046511104 then ((some (y150 ++ y153:List (S66))).bind fun y157 => ((some (([(⟨a1_0,a1_1⟩:S66)]:List (S66)):List (S66))).bind fun y160 => (if y157.length + y160.length < 4398046511104 then ((some (y157 ++ y160:List (S66))).bind fun y163 => ((some (l0.drop (x6_1:Int).toNat:List (S66))).bind fun y166 => (if y163.length + y166.length < 4398046511104 then (some ((y163 ++ y166),true)) else (none)))) else (none)))) else (none)) = some (r1,r2):=by first | (rw [hy153];with_reducible exact H) | (have H2_:=(Option.bind_some _ _).symm.trans H;rw [hy153];with_reducible exact H2_) | (have H2_:=(Option.bind_some _ _).symm.trans H;with_reducible exact H2_) | with_reducible exact H | (rw [hy153];exact H) | exact H
      have Ny153:=Aside0.mk hy153
      clear hy153
      by_cases c36:y150.length + y153.length < 4398046511104
      ·rw [if_pos c36] at H
       have LMc36:=Aside0.mk c36
       clear c36
       obtain ⟨y157,hy157⟩:∃ y_:List (S66),y_ = (y150 ++ y153):=⟨_,rfl⟩
       replace H:((some (([(⟨a1_0,a1_1⟩:S66)]:List (S66)):List (S66))).bind fun y160 => (if y157.length + y160.length < 4398046511104 then ((some (y157 ++ y160:List (S66))).bind fun y163 => ((some (l0.drop (x6_1:Int).toNat:List (S66))).bind fun y166 => (if y163.length + y166.length < 4398046511104 then (some ((y163 ++ y166),true)) else (none)))) else (none))) = some (r1,r2):=by first | (rw [hy157];with_reducible exact H) | (have H2_:=(Option.bind_some _ _).symm.trans H;rw [hy157];with_reducible exact H2_) | (have H2_:=(Option.bind_some _ _).symm.trans H;with_reducible exact H2_) | with_reducible exact H | (rw [hy157];exact H) | exact H
       have Ny157:=Aside0.mk hy157
       clear hy157
       obtain ⟨y160,hy160⟩:∃ y_:List (S66),y_ = (([(⟨a1_0,a1_1⟩:S66)]:List (S66))):=⟨_,rfl⟩
       replace H:(if y157.length + y160.length < 4398046511104 then ((some (y157 ++ y160:List (S66))).bind fun y163 => ((some (l0.drop (x6_1:Int).toNat:List (S66))).bind fun y166 => (if y163.length + y166.length < 4398046511104 then (some ((y163 ++ y166),true)) else (none)))) else (none)) = some (r1,r2):=by first | (rw [hy160];with_reducible exact H) | (have H2_:=(Option.bind_some _ _).symm.trans H;rw [hy160];with_reducible exact H2_) | (have H2_:=(Option.bind_some _ _).symm.trans H;with_reducible exact H2_) | with_reducible exact H | (rw [hy160];exact H) | exact H
       have Ny160:=Aside0.mk hy160
       clear hy160
       by_cases c37:y157.length + y160.length < 4398046511104
       ·rw [if_pos c37] at H
        have LMc37:=Aside0.mk c37
        clear c37
        obtain ⟨y163,hy163⟩:∃ y_:List (S66),y_ = (y157 ++ y160):=⟨_,rfl⟩
        replace H:((some (l0.drop (x6_1:Int).toNat:List (S66))).bind fun y166 => (if y163.length + y166.length < 4398046511104 then (some ((y163 ++ y166),true)) else (none))) = some (r1,r2):=by first | (rw [hy163];with_reducible exact H) | (have H2_:=(Option.bind_some _ _).symm.trans H;rw [hy163];with_reducible exact H2_) | (have H2_:=(Option.bind_some _ _).symm.trans H;with_reducible exact H2_) | with_reducible exact H | (rw [hy163];exact H) | exact H
        have Ny163:=Aside0.mk hy163
        clear hy163
        have c38b0:=eq_true (of_decide_eq_true (by first | (with_reducible assumption) | assumption):0 ≤ x6_1)
        have c39b0:=eq_true (of_decide_eq_true (by first | (with_reducible assumption) | assumption):x6_1 ≤ (l0.length:Int))
        obtain ⟨y166,hy166⟩:∃ y_:List (S66),y_ = (l0.drop (x6_1:Int).toNat):=⟨_,rfl⟩
        replace H:(if y163.length + y166.length < 4398046511104 then (some ((y163 ++ y166),true)) else (none)) = some (r1,r2):=by first | (rw [hy166];with_reducible exact H) | (have H2_:=(Option.bind_some _ _).symm.trans H;rw [hy166];with_reducible exact H2_) | (have H2_:=(Option.bind_some _ _).symm.trans H;with_reducible exact H2_) | with_reducible exact H | (rw [hy166];exact H) | exact H
        have Ny166:=Aside0.mk hy166
        clear hy166
        by_cases c40:y163.length + y166.length < 4398046511104
        ·rw [if_pos c40] at H
         have LMc40:=Aside0.mk c40
         clear c40
         obtain ⟨y170,hy170⟩:∃ y_:List (S66),y_ = (y163 ++ y166):=⟨_,rfl⟩
         replace H:(some (y170,true)) = some (r1,r2):=by first | (rw [hy170];with_reducible exact H) | (have H2_:=(Option.bind_some _ _).symm.trans H;rw [hy170];with_reducible exact H2_) | (have H2_:=(Option.bind_some _ _).symm.trans H;with_reducible exact H2_) | with_reducible exact H | (rw [hy170];exact H) | exact H
         have Ny170:=Aside0.mk hy170
         clear hy170
         simp only [Option.some.injEq,Prod.mk.injEq] at H
         obtain ⟨rfl,rfl⟩:=H
         try go_wp2
         have n0_:=Aside0.mk (ug BK124.out)
         have n1_:=Aside0.mk (ud HB.out)
         clear BK124
         clear HB
         have BK124:=n0_
         have HB:=n1_
         clear n0_ n1_
         refine start_ (n:=13) (S:=fun w' => True) (ds:=[]) #[false,false,false,false,false,false,false,false,false,false,false,false,false] (by kernel_rfl) rfl rfl trivial (fun hHeld => ?_);refine with_tabW u1b.tab2 u1b.bits2 (fun HT_ HW_ => ?_)
         generalize wr.drew = w41 at BK124 HB hHeld ⊢
         refine pure_ (i:=0) (N:=some 9) (v:=?_) (a':=?_) #[true,false,false,false,false,false,false,false,false,false,false,false,false] rfl rfl (u2j HT_.out (by kernel_rfl)) (fun _ _ _ h => h) (Or.inl ⟨by rfl,?_⟩) ?_ ?_
         rotate_left
         ·intro w'
          go_simp
          with_reducible rfl
         rotate_left
         ·simp only [Act.put,List.setIfInBounds_toArray,List.set_cons_zero,List.set_cons_succ,i64_w,i32_w]
          rfl
         refine pure_ (i:=1) (N:=some 10) (v:=?_) (a':=?_) #[true,true,false,false,false,false,false,false,false,false,false,false,false] rfl rfl (u2j HT_.out (by kernel_rfl)) (fun _ _ _ h => h) (Or.inl ⟨by rfl,?_⟩) ?_ ?_
         rotate_left
         ·intro w'
          go_simp
          with_reducible rfl
         rotate_left
         ·simp only [Act.put,List.setIfInBounds_toArray,List.set_cons_zero,List.set_cons_succ,i64_w,i32_w]
          rfl
         refine pure_ (i:=2) (N:=some 11) (v:=?_) (a':=?_) #[true,true,true,false,false,false,false,false,false,false,false,false,false] rfl rfl (u2j HT_.out (by kernel_rfl)) (fun _ _ _ h => h) (Or.inl ⟨by rfl,?_⟩) ?_ ?_
         rotate_left
         ·intro w'
          go_simp
          with_reducible rfl
         rotate_left
         ·simp only [Act.put,List.setIfInBounds_toArray,List.set_cons_zero,List.set_cons_succ,i64_w,i32_w]
          rfl
         refine pure_ (i:=3) (N:=some 12) (v:=undef) (a':=?_) #[true,true,true,true,false,false,false,false,false,false,false,false,false] rfl rfl (u2j HT_.out (by kernel_rfl)) (fun _ _ _ h => h) (Or.inr ⟨by rfl,rfl⟩) ?_ ?_
         rotate_left
         ·simp only [Act.put,List.setIfInBounds_toArray,List.set_cons_zero,List.set_cons_succ,i64_w,i32_w]
          rfl
         refine pure_ (i:=4) (N:=some 13) (v:=undef) (a':=?_) #[true,true,true,true,true,false,false,false,false,false,false,false,false] rfl rfl (u2j HT_.out (by kernel_rfl)) (fun _ _ _ h => h) (Or.inr ⟨by rfl,rfl⟩) ?_ ?_
         rotate_left
         ·simp only [Act.put,List.setIfInBounds_toArray,List.set_cons_zero,List.set_cons_succ,i64_w,i32_w]
          rfl
         refine pure_ (i:=5) (N:=some 14) (v:=undef) (a':=?_) #[true,true,true,true,true,true,false,false,false,false,false,false,false] rfl rfl (u2j HT_.out (by kernel_rfl)) (fun _ _ _ h => h) (Or.inr ⟨by rfl,rfl⟩) ?_ ?_
         rotate_left
         ·simp only [Act.put,List.setIfInBounds_toArray,List.set_cons_zero,List.set_cons_succ,i64_w,i32_w]
          rfl
         refine pure_ (i:=6) (N:=some 15) (v:=undef) (a':=?_) #[true,true,true,true,true,true,true,false,false,false,false,false,false] rfl rfl (u2j HT_.out (by kernel_rfl)) (fun _ _ _ h => h) (Or.inr ⟨by rfl,rfl⟩) ?_ ?_
         rotate_left
         ·simp only [Act.put,List.setIfInBounds_toArray,List.set_cons_zero,List.set_cons_succ,i64_w,i32_w]
          rfl
         refine pure_ (i:=7) (N:=some 16) (v:=undef) (a':=?_) #[true,true,true,true,true,true,true,true,false,false,false,false,false] rfl rfl (u2j HT_.out (by kernel_rfl)) (fun _ _ _ h => h) (Or.inr ⟨by rfl,rfl⟩) ?_ ?_
         rotate_left
         ·simp only [Act.put,List.setIfInBounds_toArray,List.set_cons_zero,List.set_cons_succ,i64_w,i32_w]
          rfl
         refine pure_ (i:=8) (N:=some 17) (v:=undef) (a':=?_) #[true,true,true,true,true,true,true,true,true,false,false,false,false] rfl rfl (u2j HT_.out (by kernel_rfl)) (fun _ _ _ h => h) (Or.inr ⟨by rfl,rfl⟩) ?_ ?_
         rotate_left
         ·simp only [Act.put,List.setIfInBounds_toArray,List.set_cons_zero,List.set_cons_succ,i64_w,i32_w]
          rfl
         refine pure_ (i:=9) (N:=some 18) (v:=undef) (a':=?_) #[true,true,true,true,true,true,true,true,true,true,false,false,false] rfl rfl (u2j HT_.out (by kernel_rfl)) (fun _ _ _ h => h) (Or.inr ⟨by rfl,rfl⟩) ?_ ?_
         rotate_left
         ·simp only [Act.put,List.setIfInBounds_toArray,List.set_cons_zero,List.set_cons_succ,i64_w,i32_w]
          rfl
         refine pure_ (i:=10) (N:=some 19) (v:=undef) (a':=?_) #[true,true,true,true,true,true,true,true,true,true,true,false,false] rfl rfl (u2j HT_.out (by kernel_rfl)) (fun _ _ _ h => h) (Or.inr ⟨by rfl,rfl⟩) ?_ ?_
         rotate_left
         ·simp only [Act.put,List.setIfInBounds_toArray,List.set_cons_zero,List.set_cons_succ,i64_w,i32_w]
          rfl
         refine pure_ (i:=11) (N:=some 20) (v:=undef) (a':=?_) #[true,true,true,true,true,true,true,true,true,true,true,true,false] rfl rfl (u2j HT_.out (by kernel_rfl)) (fun _ _ _ h => h) (Or.inr ⟨by rfl,rfl⟩) ?_ ?_
         rotate_left
         ·simp only [Act.put,List.setIfInBounds_toArray,List.set_cons_zero,List.set_cons_succ,i64_w,i32_w]
          rfl
         refine pure_ (i:=12) (N:=some 21) (v:=?_) (a':=?_) #[true,true,true,true,true,true,true,true,true,true,true,true,true] rfl rfl (u2j HT_.out (by kernel_rfl)) (fun _ _ _ h => h) (Or.inl ⟨by rfl,?_⟩) ?_ ?_
         rotate_left
         ·intro w'
          go_simp
          with_reducible rfl
         rotate_left
         ·simp only [Act.put,List.setIfInBounds_toArray,List.set_cons_zero,List.set_cons_succ,i64_w,i32_w]
          rfl
         refine done_ (done_of HT_.out (by kernel_rfl)) ?_
         try go_wp2
         have n0_:=Aside0.mk (ug BK124.out)
         have n1_:=Aside0.mk (ud HB.out)
         clear BK124
         clear HB
         have BK124:=n0_
         have HB:=n1_
         clear n0_ n1_
         refine start_ (n:=13) (S:=fun w' => True) (ds:=[]) #[false,false,false,false,false,false,false,false,false,false,false,false,false] (by kernel_rfl) rfl rfl trivial (fun hHeld => ?_);refine with_tabW u1b.tab4 u1b.bits4 (fun HT_ HW_ => ?_)
         generalize w41.drew = w42 at BK124 HB hHeld ⊢
         refine pure_ (i:=0) (N:=some 24) (v:=?_) (a':=?_) #[true,false,false,false,false,false,false,false,false,false,false,false,false] rfl rfl (u2j HT_.out (by kernel_rfl)) (fun _ _ _ h => h) (Or.inl ⟨by rfl,?_⟩) ?_ ?_
         rotate_left
         ·intro w'
          go_simp
          with_reducible rfl
         rotate_left
         ·simp only [Act.put,List.setIfInBounds_toArray,List.set_cons_zero,List.set_cons_succ,i64_w,i32_w]
          rfl
         refine pure_ (i:=1) (N:=some 25) (v:=?_) (a':=?_) #[true,true,false,false,false,false,false,false,false,false,false,false,false] rfl rfl (u2j HT_.out (by kernel_rfl)) (fun _ _ _ h => h) (Or.inl ⟨by rfl,?_⟩) ?_ ?_
         rotate_left
         ·intro w'
          go_simp
          with_reducible rfl
         rotate_left
         ·simp only [Act.put,List.setIfInBounds_toArray,List.set_cons_zero,List.set_cons_succ,i64_w,i32_w]
          rfl
         refine pure_ (i:=2) (N:=some 26) (v:=?_) (a':=?_) #[true,true,true,false,false,false,false,false,false,false,false,false,false] rfl rfl (u2j HT_.out (by kernel_rfl)) (fun _ _ _ h => h) (Or.inl ⟨by rfl,?_⟩) ?_ ?_
         rotate_left
         ·intro w'
          go_simp
          with_reducible rfl
         rotate_left
         ·simp only [Act.put,List.setIfInBounds_toArray,List.set_cons_zero,List.set_cons_succ,i64_w,i32_w]
          rfl
         refine pure_ (i:=3) (N:=some 27) (v:=undef) (a':=?_) #[true,true,true,true,false,false,false,false,false,false,false,false,false] rfl rfl (u2j HT_.out (by kernel_rfl)) (fun _ _ _ h => h) (Or.inr ⟨by rfl,rfl⟩) ?_ ?_
         rotate_left
         ·simp only [Act.put,List.setIfInBounds_toArray,List.set_cons_zero,List.set_cons_succ,i64_w,i32_w]
          rfl
         refine pure_ (i:=4) (N:=some 28) (v:=undef) (a':=?_) #[true,true,true,true,true,false,false,false,false,false,false,false,false] rfl rfl (u2j HT_.out (by kernel_rfl)) (fun _ _ _ h => h) (Or.inr ⟨by rfl,rfl⟩) ?_ ?_
         rotate_left
         ·simp only [Act.put,List.setIfInBounds_toArray,List.set_cons_zero,List.set_cons_succ,i64_w,i32_w]
          rfl
         refine pure_ (i:=5) (N:=some 29) (v:=undef) (a':=?_) #[true,true,true,true,true,true,false,false,false,false,false,false,false] rfl rfl (u2j HT_.out (by kernel_rfl)) (fun _ _ _ h => h) (Or.inr ⟨by rfl,rfl⟩) ?_ ?_
         rotate_left
         ·simp only [Act.put,List.setIfInBounds_toArray,List.set_cons_zero,List.set_cons_succ,i64_w,i32_w]
          rfl
         refine pure_ (i:=6) (N:=some 30) (v:=undef) (a':=?_) #[true,true,true,true,true,true,true,false,false,false,false,false,false] rfl rfl (u2j HT_.out (by kernel_rfl)) (fun _ _ _ h => h) (Or.inr ⟨by rfl,rfl⟩) ?_ ?_
         rotate_left
         ·simp only [Act.put,List.setIfInBounds_toArray,List.set_cons_zero,List.set_cons_succ,i64_w,i32_w]
          rfl
         refine pure_ (i:=7) (N:=some 31) (v:=undef) (a':=?_) #[true,true,true,true,true,true,true,true,false,false,false,false,false] rfl rfl (u2j HT_.out (by kernel_rfl)) (fun _ _ _ h => h) (Or.inr ⟨by rfl,rfl⟩) ?_ ?_
         rotate_left
         ·simp only [Act.put,List.setIfInBounds_toArray,List.set_cons_zero,List.set_cons_succ,i64_w,i32_w]
          rfl
         refine pure_ (i:=8) (N:=some 32) (v:=undef) (a':=?_) #[true,true,true,true,true,true,true,true,true,false,false,false,false] rfl rfl (u2j HT_.out (by kernel_rfl)) (fun _ _ _ h => h) (Or.inr ⟨by rfl,rfl⟩) ?_ ?_
         rotate_left
         ·simp only [Act.put,List.setIfInBounds_toArray,List.set_cons_zero,List.set_cons_succ,i64_w,i32_w]
          rfl
         refine pure_ (i:=9) (N:=some 33) (v:=undef) (a':=?_) #[true,true,true,true,true,true,true,true,true,true,false,false,false] rfl rfl (u2j HT_.out (by kernel_rfl)) (fun _ _ _ h => h) (Or.inr ⟨by rfl,rfl⟩) ?_ ?_
         rotate_left
         ·simp only [Act.put,List.setIfInBounds_toArray,List.set_cons_zero,List.set_cons_succ,i64_w,i32_w]
          rfl
         refine pure_ (i:=10) (N:=some 34) (v:=undef) (a':=?_) #[true,true,true,true,true,true,true,true,true,true,true,false,false] rfl rfl (u2j HT_.out (by kernel_rfl)) (fun _ _ _ h => h) (Or.inr ⟨by rfl,rfl⟩) ?_ ?_
         rotate_left
         ·simp only [Act.put,List.setIfInBounds_toArray,List.set_cons_zero,List.set_cons_succ,i64_w,i32_w]
          rfl
         refine pure_ (i:=11) (N:=some 35) (v:=undef) (a':=?_) #[true,true,true,true,true,true,true,true,true,true,true,true,false] rfl rfl (u2j HT_.out (by kernel_rfl)) (fun _ _ _ h => h) (Or.inr ⟨by rfl,rfl⟩) ?_ ?_
         rotate_left
         ·simp only [Act.put,List.setIfInBounds_toArray,List.set_cons_zero,List.set_cons_succ,i64_w,i32_w]
          rfl
         refine pure_ (i:=12) (N:=some 36) (v:=?_) (a':=?_) #[true,true,true,true,true,true,true,true,true,true,true,true,true] rfl rfl (u2j HT_.out (by kernel_rfl)) (fun _ _ _ h => h) (Or.inl ⟨by rfl,?_⟩) ?_ ?_
         rotate_left
         ·intro w'
          go_simp
          with_reducible rfl
         rotate_left
         ·simp only [Act.put,List.setIfInBounds_toArray,List.set_cons_zero,List.set_cons_succ,i64_w,i32_w]
          rfl
         refine done_ (done_of HT_.out (by kernel_rfl)) ?_
         try go_wp2
         have n0_:=Aside0.mk (ug BK124.out)
         have n1_:=Aside0.mk (ud HB.out)
         clear BK124
         clear HB
         have BK124:=n0_
         have HB:=n1_
         clear n0_ n1_
         have q44:(x6_1:Int) ≤ ((l0.length:Int):Int):=of_decide_eq_true (by first | (with_reducible assumption) | assumption)
         obtain ⟨i044,hi044,_,hsz44,_⟩:=info_parts info66
         have hroom44:l0.length ≤ c0:=HC0.out
         have hC44:Kd.C k66 _ A0 l0.length l0:=HR0.out
         have hcut44:=cut_to (P:=Tryz.prog) 50 66 .i64 Tryz.underlying50 hi044 A0 l0.length c0 x6_1 (of_decide_eq_true (by first | (with_reducible assumption) | assumption)) q44 hroom44
         have hr44:=Kd.C_take (m:=(x6_1:Int).toNat) hC44 (by omega)
         have hy44:y153.length = (x6_1:Int).toNat:=(by rw [Ny153.out,List.length_take];omega)
         rw [← Ny153.out] at hr44
         rw [← hy44] at hcut44
         have HR156:=Aside0.mk hr44
         have HC156:=Aside0.mk (show y153.length ≤ c0 from by omega)
         clear hr44 hC44 hroom44 hi044 hsz44
         have KY44:=Aside0.mk hy44
         clear hy44
         replace q44:=eq_true q44
         have q45:(x6_1:Int) ≤ ((l0.length:Int):Int):=of_decide_eq_true (by first | (with_reducible assumption) | assumption)
         obtain ⟨i045,hi045,_,hsz45,_⟩:=info_parts info66
         have hroom45:l0.length ≤ c0:=HC0.out
         have hC45:Kd.C k66 _ A0 l0.length l0:=HR0.out
         have q045:(0:Int) ≤ (x6_1:Int):=of_decide_eq_true (by first | (with_reducible assumption) | assumption)
         have hcut45:=cut_from (P:=Tryz.prog) 50 66 .i64 Tryz.underlying50 hi045 2 hsz45 A0 l0.length c0 x6_1 q045 q45
         have hr45:=Kd.C_drop (m:=(x6_1:Int).toNat) (c:=c0) hC45 (by omega) hroom45
         obtain ⟨A45,hA45⟩:∃ A1,A1 = (if c0 = (x6_1:Int).toNat then A0 else (A0:Option Addr).map (·.add ((x6_1:Int).toNat * 2))):=⟨_,rfl⟩
         obtain ⟨c45,hc45⟩:∃ c1,c1 = c0 - (x6_1:Int).toNat:=⟨_,rfl⟩
         have hy45:y166.length = l0.length - (x6_1:Int).toNat:=(by rw [Ny166.out,List.length_drop] <;> omega)
         rw [show (l0).drop (x6_1:Int).toNat = y166 from Ny166.out.symm] at hr45
         replace hr45:Kd.C k66 _ A45 y166.length y166:=(by rw [hA45];exact hr45)
         rw [← hy45,← hA45,← hc45] at hcut45
         have HR169:=Aside0.mk hr45
         have HC169:=Aside0.mk (show y166.length ≤ c45 from by rw [hy45,hc45];exact Nat.sub_le_sub_right hroom45 _)
         clear hr45 hC45 hroom45 hi045 hsz45 hc45
         have KY45:=Aside0.mk hy45
         have KA45:=Aside0.mk hA45
         clear hy45 hA45
         replace q45:=eq_true q45
         refine start_ (n:=14) (S:=fun w' => w'.cell? ⟨gb124,0,none⟩ = some (.string a1_0) ∧ w'.cell? ⟨gb124,1,none⟩ = some (.string a1_1)) (ds:=[]) #[false,false,false,false,false,false,false,false,false,false,false,false,false,false] (by kernel_rfl) rfl rfl ⟨(uj BK124.out 0).trans rfl,(uj BK124.out 1).trans rfl⟩ (fun hHeld => ?_);refine with_tabW u1b.tab6 u1b.bits6 (fun HT_ HW_ => ?_)
         generalize w42.drew = w43 at BK124 HB HR156 HR169 hHeld ⊢
         refine pure_ (i:=1) (N:=some 38) (v:=?_) (a':=?_) #[false,true,false,false,false,false,false,false,false,false,false,false,false,false] rfl rfl (u2j HT_.out (by kernel_rfl)) (fun _ _ _ h => h) (Or.inl ⟨by rfl,?_⟩) ?_ ?_
         rotate_left
         ·intro w'
          go_simp
          with_reducible rfl
         rotate_left
         ·simp only [Act.put,List.setIfInBounds_toArray,List.set_cons_zero,List.set_cons_succ,i64_w,i32_w]
          rfl
         refine pure_ (i:=2) (N:=some 39) (v:=?_) (a':=?_) #[false,true,true,false,false,false,false,false,false,false,false,false,false,false] rfl rfl (u2j HT_.out (by kernel_rfl)) (fun _ _ _ h => h) (Or.inl ⟨by rfl,?_⟩) ?_ ?_
         rotate_left
         ·intro w'
          go_simp
          with_reducible rfl
         rotate_left
         ·simp only [Act.put,List.setIfInBounds_toArray,List.set_cons_zero,List.set_cons_succ,i64_w,i32_w]
          rfl
         refine pure_ (i:=3) (N:=some 40) (v:=?_) (a':=?_) #[false,true,true,true,false,false,false,false,false,false,false,false,false,false] rfl rfl (u2j HT_.out (by kernel_rfl)) (fun _ _ _ h => h) (Or.inl ⟨by rfl,?_⟩) ?_ ?_
         rotate_left
         ·intro w'
          go_simp
          with_reducible rfl
         rotate_left
         ·simp only [Act.put,List.setIfInBounds_toArray,List.set_cons_zero,List.set_cons_succ,i64_w,i32_w]
          rfl
         refine pure_ (i:=8) (N:=some 45) (v:=?_) (a':=?_) #[false,true,true,true,false,false,false,false,true,false,false,false,false,false] rfl rfl (u2j HT_.out (by kernel_rfl)) (fun _ _ _ h => h) (Or.inl ⟨by rfl,?_⟩) ?_ ?_
         rotate_left
         ·intro w'
          go_simp
          with_reducible rfl
         rotate_left
         ·simp only [Act.put,List.setIfInBounds_toArray,List.set_cons_zero,List.set_cons_succ,i64_w,i32_w]
          rfl
         refine pure_ (i:=9) (N:=some 46) (v:=?_) (a':=?_) #[false,true,true,true,false,false,false,false,true,true,false,false,false,false] rfl rfl (u2j HT_.out (by kernel_rfl)) (fun _ _ _ h => h) (Or.inl ⟨by rfl,?_⟩) ?_ ?_
         rotate_left
         ·intro w'
          go_simp
          with_reducible rfl
         rotate_left
         ·simp only [Act.put,List.setIfInBounds_toArray,List.set_cons_zero,List.set_cons_succ,i64_w,i32_w]
          rfl
         refine pure_ (i:=10) (N:=some 47) (v:=?_) (a':=?_) #[false,true,true,true,false,false,false,false,true,true,true,false,false,false] rfl rfl (u2j HT_.out (by kernel_rfl)) (fun _ _ _ h => h) (Or.inl ⟨by rfl,?_⟩) ?_ ?_
         rotate_left
         ·intro w'
          go_simp
          with_reducible rfl
         rotate_left
         ·simp only [Act.put,List.setIfInBounds_toArray,List.set_cons_zero,List.set_cons_succ,i64_w,i32_w]
          rfl
         refine take_ (i:=5) (N:=some 42) (v:=?_) (a':=?_) #[false,true,true,true,false,true,false,false,true,true,true,false,false,false] rfl rfl (take_ofW HT_.out HW_.out (by kernel_rfl)) (fun _ _ _ h => h) (Or.inl ⟨by rfl,?_⟩) hHeld ?_ ?_
         rotate_left
         ·rintro w' ⟨s0,s1⟩
          go_simp
          with_reducible rfl
         rotate_left
         ·simp only [Act.put,List.setIfInBounds_toArray,List.set_cons_zero,List.set_cons_succ,i64_w,i32_w]
          rfl
         refine join_ (σ:=Value × Value × Value) 4 #[true,true,true,true,true,true,true,false,true,true,true,false,false,false] (fun s_ => [(37,s_.1),(41,s_.2.1),(43,s_.2.2)]) (fun s_ w' => (w'.cell? ⟨gb124,0,none⟩ = some (.string a1_0) ∧ w'.cell? ⟨gb124,1,none⟩ = some (.string a1_1)) ∧ (Kd.R k66 66 w' w.heap.size (fun k_ => some k_ ≠ (s_.2.2:Value).ownBlock ∧ k_ ≠ gb124) s_.2.1 y157) ∧ (Kd.R k66 66 w' w.heap.size (fun k_ => some k_ ≠ (s_.2.1:Value).ownBlock ∧ k_ ≠ gb124) s_.2.2 y160) ∧ (w'.heap[gb124]? = some (.cells #[.string a1_0,.string a1_1] 66 (0,0))) ∧ (Below w.heap.size w w')) ?_ ?_
         rotate_left
         ·intro hCont
          refine two_ (i:=0) (j:=6) (Ni:=some 37) (Nj:=some 43) #[true,true,true,true,false,true,false,false,true,true,true,false,false,false] #[false,true,true,true,false,true,true,false,true,true,true,false,false,false] rfl rfl rfl rfl (two_of HT_.out (by kernel_rfl)) (by decide) (by decide) (fun K hK => ?_) (fun K hK => ?_)
          ·skip
           refine Kd.R_lit_step k66 _ 66 ?hg (N:=37) ?hd (xs:=([]:List (S66))) (inner:=[]) (ok:=fun _ => True) (okp:=fun _ => True) ?hr ?hp (fun _ hk => hk) trivial (Below.refl _ _) (Nat.le_refl _) (by simp) ?_;(case hd => rfl);(case hg => rfl);(case hr => first | (go_simp;done) | (go_simp;rfl));(case hp => exact (Reps.none _ _))
           intro v151 w46 ho47 hb hg_ hnew_
           clear hg_ hnew_
           (first | rw [← Ny150.out] at ho47 | (simp only [Int.reduceToNat] at ho47;rw [← Ny150.out] at ho47))
           have n0_:=Aside0.mk (Kd.R_lower (Kd.R_newB ho47 (g:=gb124) (o:=.cells #[.string a1_0,.string a1_1] 66 (0,0)) (by (with_reducible repeat (first | refine ue ?_ _ | refine ug ?_ | refine uf ?_ _));exact BK124.out)) (u1c (by repeat (first | (with_reducible first | exact HB.out | apply uc | apply ub | apply ud | refine ui ?_ GE124.out) | exact HB.out))))
           have n1_:=Aside0.mk (u2c (g:=gb124) (o:=.cells #[.string a1_0,.string a1_1] 66 (0,0)) (by (with_reducible repeat (first | refine ue ?_ _ | refine ug ?_ | refine uf ?_ _));exact BK124.out) hb)
           have n2_:=Aside0.mk (u1h (by repeat (first | (with_reducible first | exact HB.out | apply uc | apply ub | apply ud | refine ui ?_ GE124.out) | exact HB.out)) hb)
           clear BK124
           clear HB
           have HO152:=n0_
           have BK124:=n1_
           have HB:=n2_
           clear n0_ n1_ n2_
           clear hb ho47
           refine hK.out _ _ ⟨(uj BK124.out 0).trans rfl,(uj BK124.out 1).trans rfl⟩ (fun hHeld => ?_)
           clear hK K
           refine norm_ (a':=?_) ?_ ?_
           rotate_left
           ·show Act.put _ (some 37) _ = _
            simp only [Act.put,List.setIfInBounds_toArray,List.set_cons_zero,List.set_cons_succ,i64_w,i32_w]
            rfl
           refine two_ (i:=4) (j:=6) (Ni:=some 41) (Nj:=some 43) #[true,true,true,true,true,true,false,false,true,true,true,false,false,false] #[true,true,true,true,false,true,true,false,true,true,true,false,false,false] rfl rfl rfl rfl (two_of HT_.out (by kernel_rfl)) (by decide) (by decide) (fun K hK => ?_) (fun K hK => ?_)
           ·skip
            refine Kd.R_append_rows_step k66 (w0:=w) w.heap.size (by rfl) (.tmp 37) (.tmp 40) 50 66 (.agg #[(.string ⟨#[]⟩),(.string ⟨#[]⟩)]) 32 rfl Tryz.underlying50 info66 rfl (by decide) (by omega) v151 y150 y153 _ _ _ (fun k_ => k_ ≠ gb124) (fun _ => False) rfl rfl ?aO ?aR (fun _ _ h => h) (fun _ h => h.elim) ?aF ?aB ?aS ?aL ?_
            (case aR => repeat (first | exact (Kd.C_below HR156.out HB.out) | (with_reducible refine Kd.C_alloc ?_ _) | (with_reducible refine Kd.C_drewN ?_ _) | (with_reducible refine Kd.C_drew ?_)))
            (case aB => exact (by repeat (first | (with_reducible first | exact HB.out | apply uc | apply ub | apply ud | refine ui ?_ GE124.out) | exact HB.out)))
            (case aF => exact (fun k_ hk => Kd.freshB (g:=gb124) (o:=.cells #[.string a1_0,.string a1_1] 66 (0,0)) (by (with_reducible repeat (first | refine ue ?_ _ | refine ug ?_ | refine uf ?_ _));exact BK124.out) k_ hk))
            (case aO => exact (by (with_reducible repeat (first | apply Kd.R_alloc | apply Kd.R_drewN | apply Kd.R_drew));exact Kd.R_mono HO152.out (fun _ hk => hk.2)))
            (case aS => exact (u1c (by repeat (first | (with_reducible first | exact HB.out | apply uc | apply ub | apply ud | refine ui ?_ GE124.out) | exact HB.out))))
            (case aL => have:=LMc36.out;omega)
            intro v158 w48 ho hb hg hat
            rw [← Ny157.out] at ho
            have n0_:=Aside0.mk (u3b (g:=gb124) (o:=.cells #[.string a1_0,.string a1_1] 66 (0,0)) (by (with_reducible repeat (first | refine ue ?_ _ | refine ug ?_ | refine uf ?_ _));exact BK124.out) hg (Kd.R_away HO152.out (fun _ hk => hk.2)))
            have n1_:=Aside0.mk (hb)
            have n2_:=Aside0.mk (ho)
            clear BK124
            clear HB
            clear HO152
            have BK124:=n0_
            have HB:=n1_
            have HO159:=n2_
            clear n0_ n1_ n2_
            clear ho hb hg hat
            refine hK.out _ _ ⟨(uj BK124.out 0).trans rfl,(uj BK124.out 1).trans rfl⟩ (fun hHeld => ?_)
            clear hK K
            refine norm_ (a':=?_) ?_ ?_
            rotate_left
            ·show Act.put _ (some 41) _ = _
             simp only [Act.put,List.setIfInBounds_toArray,List.set_cons_zero,List.set_cons_succ,i64_w,i32_w]
             rfl
            refine one_ (i:=6) (N:=some 43) #[true,true,true,true,true,true,true,false,true,true,true,false,false,false] rfl rfl (one_of HT_.out (by kernel_rfl)) (by decide) (fun K hK => ?_)
            refine Kd.R_lit_step k66 _ 66 ?hg (N:=43) ?hd (xs:=([(⟨a1_0,a1_1⟩:S66)]:List (S66))) (inner:=[.string a1_0,.string a1_1]) (ok:=fun _ => True) (okp:=fun _ => True) ?hr ?hp (fun _ hk => hk) trivial (Below.refl _ _) (Nat.le_refl _) (by simp) ?_;(case hd => rfl);(case hg => rfl);(case hr => first | (go_simp;done) | (go_simp;rfl));(case hp => exact (Reps.c2 (show Kd.M k66 _ _ _ (⟨a1_0,a1_1⟩:S66) [.string a1_0,.string a1_1] from (k66_mkM _ _ _ (⟨a1_0,a1_1⟩:S66) )) (Reps.none _ _)))
            intro v161 w49 ho50 hb hg_ hnew_
            clear hg_ hnew_
            (first | rw [← Ny160.out] at ho50 | (simp only [Int.reduceToNat] at ho50;rw [← Ny160.out] at ho50))
            have n0_:=Aside0.mk (Kd.R_elder' (by (with_reducible repeat (first | apply Kd.R_alloc | apply Kd.R_drewN | apply Kd.R_drew));exact HO159.out) (Kd.R_base ho50) hb)
            have n1_:=Aside0.mk (Kd.R_lower (Kd.R_newB (Kd.R_new' ho50 (Kd.R_lt (by (with_reducible repeat (first | apply Kd.R_alloc | apply Kd.R_drewN | apply Kd.R_drew));exact HO159.out))) (g:=gb124) (o:=.cells #[.string a1_0,.string a1_1] 66 (0,0)) (by (with_reducible repeat (first | refine ue ?_ _ | refine ug ?_ | refine uf ?_ _));exact BK124.out)) (u1c (by repeat (first | (with_reducible first | exact HB.out | apply uc | apply ub | apply ud | refine ui ?_ GE124.out) | exact HB.out))))
            have n2_:=Aside0.mk (u2c (g:=gb124) (o:=.cells #[.string a1_0,.string a1_1] 66 (0,0)) (by (with_reducible repeat (first | refine ue ?_ _ | refine ug ?_ | refine uf ?_ _));exact BK124.out) hb)
            have n3_:=Aside0.mk (u1h (by repeat (first | (with_reducible first | exact HB.out | apply uc | apply ub | apply ud | refine ui ?_ GE124.out) | exact HB.out)) hb)
            clear HO159
            clear BK124
            clear HB
            have HO159:=n0_
            have HO162:=n1_
            have BK124:=n2_
            have HB:=n3_
            clear n0_ n1_ n2_ n3_
            clear hb ho50
            refine hK.out _ _ ⟨(uj BK124.out 0).trans rfl,(uj BK124.out 1).trans rfl⟩ (fun hHeld => ?_)
            clear hK K
            refine norm_ (a':=?_) ?_ ?_
            rotate_left
            ·show Act.put _ (some 43) _ = _
             simp only [Act.put,List.setIfInBounds_toArray,List.set_cons_zero,List.set_cons_succ,i64_w,i32_w]
             rfl
            exact norm_ (by simp only [putAll,Act.put,List.setIfInBounds_toArray,List.set_cons_zero,List.set_cons_succ]) (hCont (v151,v158,v161) _ ⟨hHeld,(by (with_reducible repeat (first | apply Kd.R_alloc | apply Kd.R_drewN | apply Kd.R_drew));exact Kd.R_mono HO159.out (fun _ hk => ⟨hk.2,hk.1⟩)),(by (with_reducible repeat (first | apply Kd.R_alloc | apply Kd.R_drewN | apply Kd.R_drew));exact Kd.R_mono HO162.out (fun _ hk => ⟨hk.1.2,hk.2⟩)),(by (with_reducible repeat (first | refine ue ?_ _ | refine ug ?_ | refine uf ?_ _));exact BK124.out),(by repeat (first | (with_reducible first | exact HB.out | apply uc | apply ub | apply ud | refine ui ?_ GE124.out) | exact HB.out))⟩)
           ·skip
            refine Kd.R_lit_step k66 _ 66 ?hg (N:=43) ?hd (xs:=([(⟨a1_0,a1_1⟩:S66)]:List (S66))) (inner:=[.string a1_0,.string a1_1]) (ok:=fun _ => True) (okp:=fun _ => True) ?hr ?hp (fun _ hk => hk) trivial (Below.refl _ _) (Nat.le_refl _) (by simp) ?_;(case hd => rfl);(case hg => rfl);(case hr => first | (go_simp;done) | (go_simp;rfl));(case hp => exact (Reps.c2 (show Kd.M k66 _ _ _ (⟨a1_0,a1_1⟩:S66) [.string a1_0,.string a1_1] from (k66_mkM _ _ _ (⟨a1_0,a1_1⟩:S66) )) (Reps.none _ _)))
            intro v161 w48 ho49 hb hg_ hnew_
            clear hg_ hnew_
            (first | rw [← Ny160.out] at ho49 | (simp only [Int.reduceToNat] at ho49;rw [← Ny160.out] at ho49))
            have n0_:=Aside0.mk (Kd.R_elder' (by (with_reducible repeat (first | apply Kd.R_alloc | apply Kd.R_drewN | apply Kd.R_drew));exact HO152.out) (Kd.R_base ho49) hb)
            have n1_:=Aside0.mk (Kd.R_lower (Kd.R_newB (Kd.R_new' ho49 (Kd.R_lt (by (with_reducible repeat (first | apply Kd.R_alloc | apply Kd.R_drewN | apply Kd.R_drew));exact HO152.out))) (g:=gb124) (o:=.cells #[.string a1_0,.string a1_1] 66 (0,0)) (by (with_reducible repeat (first | refine ue ?_ _ | refine ug ?_ | refine uf ?_ _));exact BK124.out)) (u1c (by repeat (first | (with_reducible first | exact HB.out | apply uc | apply ub | apply ud | refine ui ?_ GE124.out) | exact HB.out))))
            have n2_:=Aside0.mk (u2c (g:=gb124) (o:=.cells #[.string a1_0,.string a1_1] 66 (0,0)) (by (with_reducible repeat (first | refine ue ?_ _ | refine ug ?_ | refine uf ?_ _));exact BK124.out) hb)
            have n3_:=Aside0.mk (u1h (by repeat (first | (with_reducible first | exact HB.out | apply uc | apply ub | apply ud | refine ui ?_ GE124.out) | exact HB.out)) hb)
            clear HO152
            clear BK124
            clear HB
            have HO152:=n0_
            have HO162:=n1_
            have BK124:=n2_
            have HB:=n3_
            clear n0_ n1_ n2_ n3_
            clear hb ho49
            refine hK.out _ _ ⟨(uj BK124.out 0).trans rfl,(uj BK124.out 1).trans rfl⟩ (fun hHeld => ?_)
            clear hK K
            refine norm_ (a':=?_) ?_ ?_
            rotate_left
            ·show Act.put _ (some 43) _ = _
             simp only [Act.put,List.setIfInBounds_toArray,List.set_cons_zero,List.set_cons_succ,i64_w,i32_w]
             rfl
            refine one_ (i:=4) (N:=some 41) #[true,true,true,true,true,true,true,false,true,true,true,false,false,false] rfl rfl (one_of HT_.out (by kernel_rfl)) (by decide) (fun K hK => ?_)
            refine Kd.R_append_rows_step k66 (w0:=w) w.heap.size (by rfl) (.tmp 37) (.tmp 40) 50 66 (.agg #[(.string ⟨#[]⟩),(.string ⟨#[]⟩)]) 32 rfl Tryz.underlying50 info66 rfl (by decide) (by omega) v151 y150 y153 _ _ _ (fun k_ => some k_ ≠ (v161:Value).ownBlock ∧ k_ ≠ gb124) (fun _ => False) rfl rfl ?aO ?aR (fun _ _ h => h) (fun _ h => h.elim) ?aF ?aB ?aS ?aL ?_
            (case aR => repeat (first | exact (Kd.C_below HR156.out HB.out) | (with_reducible refine Kd.C_alloc ?_ _) | (with_reducible refine Kd.C_drewN ?_ _) | (with_reducible refine Kd.C_drew ?_)))
            (case aB => exact (by repeat (first | (with_reducible first | exact HB.out | apply uc | apply ub | apply ud | refine ui ?_ GE124.out) | exact HB.out)))
            (case aF => exact (fun k_ hk => ⟨Kd.fresh' (Kd.R_lt (by (with_reducible repeat (first | apply Kd.R_alloc | apply Kd.R_drewN | apply Kd.R_drew));exact HO162.out)) k_ hk,Kd.freshB (g:=gb124) (o:=.cells #[.string a1_0,.string a1_1] 66 (0,0)) (by (with_reducible repeat (first | refine ue ?_ _ | refine ug ?_ | refine uf ?_ _));exact BK124.out) k_ hk⟩))
            (case aO => exact (by (with_reducible repeat (first | apply Kd.R_alloc | apply Kd.R_drewN | apply Kd.R_drew));exact Kd.R_mono HO152.out (fun _ hk => ⟨hk.2,hk.1.2⟩)))
            (case aS => exact (u1c (by repeat (first | (with_reducible first | exact HB.out | apply uc | apply ub | apply ud | refine ui ?_ GE124.out) | exact HB.out))))
            (case aL => have:=LMc36.out;omega)
            intro v158 w50 ho hb hg hat
            rw [← Ny157.out] at ho
            have n0_:=Aside0.mk (u3b (g:=gb124) (o:=.cells #[.string a1_0,.string a1_1] 66 (0,0)) (by (with_reducible repeat (first | refine ue ?_ _ | refine ug ?_ | refine uf ?_ _));exact BK124.out) hg (Kd.R_away HO152.out (fun _ hk => hk.1.2)))
            have n1_:=Aside0.mk (Kd.R_after (ok:=(fun k_ => k_ ≠ gb124)) (by (with_reducible repeat (first | apply Kd.R_alloc | apply Kd.R_drewN | apply Kd.R_drew));exact Kd.R_mono HO162.out (fun _ hk => ⟨hk.2,hk.1.2⟩)) hg hat)
            have n2_:=Aside0.mk (hb)
            have n3_:=Aside0.mk (ho)
            clear BK124
            clear HO162
            clear HB
            clear HO152
            have BK124:=n0_
            have HO162:=n1_
            have HB:=n2_
            have HO159:=n3_
            clear n0_ n1_ n2_ n3_
            clear ho hb hg hat
            refine hK.out _ _ ⟨(uj BK124.out 0).trans rfl,(uj BK124.out 1).trans rfl⟩ (fun hHeld => ?_)
            clear hK K
            refine norm_ (a':=?_) ?_ ?_
            rotate_left
            ·show Act.put _ (some 41) _ = _
             simp only [Act.put,List.setIfInBounds_toArray,List.set_cons_zero,List.set_cons_succ,i64_w,i32_w]
             rfl
            exact norm_ (by simp only [putAll,Act.put,List.setIfInBounds_toArray,List.set_cons_zero,List.set_cons_succ]) (hCont (v151,v158,v161) _ ⟨hHeld,(by (with_reducible repeat (first | apply Kd.R_alloc | apply Kd.R_drewN | apply Kd.R_drew));exact HO159.out),(by (with_reducible repeat (first | apply Kd.R_alloc | apply Kd.R_drewN | apply Kd.R_drew));exact Kd.R_mono HO162.out (fun _ hk => ⟨hk.2,hk.1⟩)),(by (with_reducible repeat (first | refine ue ?_ _ | refine ug ?_ | refine uf ?_ _));exact BK124.out),(by repeat (first | (with_reducible first | exact HB.out | apply uc | apply ub | apply ud | refine ui ?_ GE124.out) | exact HB.out))⟩)
          ·skip
           refine Kd.R_lit_step k66 _ 66 ?hg (N:=43) ?hd (xs:=([(⟨a1_0,a1_1⟩:S66)]:List (S66))) (inner:=[.string a1_0,.string a1_1]) (ok:=fun _ => True) (okp:=fun _ => True) ?hr ?hp (fun _ hk => hk) trivial (Below.refl _ _) (Nat.le_refl _) (by simp) ?_;(case hd => rfl);(case hg => rfl);(case hr => first | (go_simp;done) | (go_simp;rfl));(case hp => exact (Reps.c2 (show Kd.M k66 _ _ _ (⟨a1_0,a1_1⟩:S66) [.string a1_0,.string a1_1] from (k66_mkM _ _ _ (⟨a1_0,a1_1⟩:S66) )) (Reps.none _ _)))
           intro v161 w46 ho47 hb hg_ hnew_
           clear hg_ hnew_
           (first | rw [← Ny160.out] at ho47 | (simp only [Int.reduceToNat] at ho47;rw [← Ny160.out] at ho47))
           have n0_:=Aside0.mk (Kd.R_lower (Kd.R_newB ho47 (g:=gb124) (o:=.cells #[.string a1_0,.string a1_1] 66 (0,0)) (by (with_reducible repeat (first | refine ue ?_ _ | refine ug ?_ | refine uf ?_ _));exact BK124.out)) (u1c (by repeat (first | (with_reducible first | exact HB.out | apply uc | apply ub | apply ud | refine ui ?_ GE124.out) | exact HB.out))))
           have n1_:=Aside0.mk (u2c (g:=gb124) (o:=.cells #[.string a1_0,.string a1_1] 66 (0,0)) (by (with_reducible repeat (first | refine ue ?_ _ | refine ug ?_ | refine uf ?_ _));exact BK124.out) hb)
           have n2_:=Aside0.mk (u1h (by repeat (first | (with_reducible first | exact HB.out | apply uc | apply ub | apply ud | refine ui ?_ GE124.out) | exact HB.out)) hb)
           clear BK124
           clear HB
           have HO162:=n0_
           have BK124:=n1_
           have HB:=n2_
           clear n0_ n1_ n2_
           clear hb ho47
           refine hK.out _ _ ⟨(uj BK124.out 0).trans rfl,(uj BK124.out 1).trans rfl⟩ (fun hHeld => ?_)
           clear hK K
           refine norm_ (a':=?_) ?_ ?_
           rotate_left
           ·show Act.put _ (some 43) _ = _
            simp only [Act.put,List.setIfInBounds_toArray,List.set_cons_zero,List.set_cons_succ,i64_w,i32_w]
            rfl
           refine one_ (i:=0) (N:=some 37) #[true,true,true,true,false,true,true,false,true,true,true,false,false,false] rfl rfl (one_of HT_.out (by kernel_rfl)) (by decide) (fun K hK => ?_)
           refine Kd.R_lit_step k66 _ 66 ?hg (N:=37) ?hd (xs:=([]:List (S66))) (inner:=[]) (ok:=fun _ => True) (okp:=fun _ => True) ?hr ?hp (fun _ hk => hk) trivial (Below.refl _ _) (Nat.le_refl _) (by simp) ?_;(case hd => rfl);(case hg => rfl);(case hr => first | (go_simp;done) | (go_simp;rfl));(case hp => exact (Reps.none _ _))
           intro v151 w48 ho49 hb hg_ hnew_
           clear hg_ hnew_
           (first | rw [← Ny150.out] at ho49 | (simp only [Int.reduceToNat] at ho49;rw [← Ny150.out] at ho49))
           have n0_:=Aside0.mk (Kd.R_elder' (by (with_reducible repeat (first | apply Kd.R_alloc | apply Kd.R_drewN | apply Kd.R_drew));exact HO162.out) (Kd.R_base ho49) hb)
           have n1_:=Aside0.mk (Kd.R_lower (Kd.R_newB (Kd.R_new' ho49 (Kd.R_lt (by (with_reducible repeat (first | apply Kd.R_alloc | apply Kd.R_drewN | apply Kd.R_drew));exact HO162.out))) (g:=gb124) (o:=.cells #[.string a1_0,.string a1_1] 66 (0,0)) (by (with_reducible repeat (first | refine ue ?_ _ | refine ug ?_ | refine uf ?_ _));exact BK124.out)) (u1c (by repeat (first | (with_reducible first | exact HB.out | apply uc | apply ub | apply ud | refine ui ?_ GE124.out) | exact HB.out))))
           have n2_:=Aside0.mk (u2c (g:=gb124) (o:=.cells #[.string a1_0,.string a1_1] 66 (0,0)) (by (with_reducible repeat (first | refine ue ?_ _ | refine ug ?_ | refine uf ?_ _));exact BK124.out) hb)
           have n3_:=Aside0.mk (u1h (by repeat (first | (with_reducible first | exact HB.out | apply uc | apply ub | apply ud | refine ui ?_ GE124.out) | exact HB.out)) hb)
           clear HO162
           clear BK124
           clear HB
           have HO162:=n0_
           have HO152:=n1_
           have BK124:=n2_
           have HB:=n3_
           clear n0_ n1_ n2_ n3_
           clear hb ho49
           refine hK.out _ _ ⟨(uj BK124.out 0).trans rfl,(uj BK124.out 1).trans rfl⟩ (fun hHeld => ?_)
           clear hK K
           refine norm_ (a':=?_) ?_ ?_
           rotate_left
           ·show Act.put _ (some 37) _ = _
            simp only [Act.put,List.setIfInBounds_toArray,List.set_cons_zero,List.set_cons_succ,i64_w,i32_w]
            rfl
           refine one_ (i:=4) (N:=some 41) #[true,true,true,true,true,true,true,false,true,true,true,false,false,false] rfl rfl (one_of HT_.out (by kernel_rfl)) (by decide) (fun K hK => ?_)
           refine Kd.R_append_rows_step k66 (w0:=w) w.heap.size (by rfl) (.tmp 37) (.tmp 40) 50 66 (.agg #[(.string ⟨#[]⟩),(.string ⟨#[]⟩)]) 32 rfl Tryz.underlying50 info66 rfl (by decide) (by omega) v151 y150 y153 _ _ _ (fun k_ => some k_ ≠ (v161:Value).ownBlock ∧ k_ ≠ gb124) (fun _ => False) rfl rfl ?aO ?aR (fun _ _ h => h) (fun _ h => h.elim) ?aF ?aB ?aS ?aL ?_
           (case aR => repeat (first | exact (Kd.C_below HR156.out HB.out) | (with_reducible refine Kd.C_alloc ?_ _) | (with_reducible refine Kd.C_drewN ?_ _) | (with_reducible refine Kd.C_drew ?_)))
           (case aB => exact (by repeat (first | (with_reducible first | exact HB.out | apply uc | apply ub | apply ud | refine ui ?_ GE124.out) | exact HB.out)))
           (case aF => exact (fun k_ hk => ⟨Kd.fresh' (Kd.R_lt (by (with_reducible repeat (first | apply Kd.R_alloc | apply Kd.R_drewN | apply Kd.R_drew));exact HO162.out)) k_ hk,Kd.freshB (g:=gb124) (o:=.cells #[.string a1_0,.string a1_1] 66 (0,0)) (by (with_reducible repeat (first | refine ue ?_ _ | refine ug ?_ | refine uf ?_ _));exact BK124.out) k_ hk⟩))
           (case aO => exact (by (with_reducible repeat (first | apply Kd.R_alloc | apply Kd.R_drewN | apply Kd.R_drew));exact Kd.R_mono HO152.out (fun _ hk => ⟨hk.1.2,hk.2⟩)))
           (case aS => exact (u1c (by repeat (first | (with_reducible first | exact HB.out | apply uc | apply ub | apply ud | refine ui ?_ GE124.out) | exact HB.out))))
           (case aL => have:=LMc36.out;omega)
           intro v158 w50 ho hb hg hat
           rw [← Ny157.out] at ho
           have n0_:=Aside0.mk (u3b (g:=gb124) (o:=.cells #[.string a1_0,.string a1_1] 66 (0,0)) (by (with_reducible repeat (first | refine ue ?_ _ | refine ug ?_ | refine uf ?_ _));exact BK124.out) hg (Kd.R_away HO152.out (fun _ hk => hk.2)))
           have n1_:=Aside0.mk (Kd.R_after (ok:=(fun k_ => k_ ≠ gb124)) (by (with_reducible repeat (first | apply Kd.R_alloc | apply Kd.R_drewN | apply Kd.R_drew));exact Kd.R_mono HO162.out (fun _ hk => ⟨hk.1.2,hk.2⟩)) hg hat)
           have n2_:=Aside0.mk (hb)
           have n3_:=Aside0.mk (ho)
           clear BK124
           clear HO162
           clear HB
           clear HO152
           have BK124:=n0_
           have HO162:=n1_
           have HB:=n2_
           have HO159:=n3_
           clear n0_ n1_ n2_ n3_
           clear ho hb hg hat
           refine hK.out _ _ ⟨(uj BK124.out 0).trans rfl,(uj BK124.out 1).trans rfl⟩ (fun hHeld => ?_)
           clear hK K
           refine norm_ (a':=?_) ?_ ?_
           rotate_left
           ·show Act.put _ (some 41) _ = _
            simp only [Act.put,List.setIfInBounds_toArray,List.set_cons_zero,List.set_cons_succ,i64_w,i32_w]
            rfl
           exact norm_ (by simp only [putAll,Act.put,List.setIfInBounds_toArray,List.set_cons_zero,List.set_cons_succ]) (hCont (v151,v158,v161) _ ⟨hHeld,(by (with_reducible repeat (first | apply Kd.R_alloc | apply Kd.R_drewN | apply Kd.R_drew));exact HO159.out),(by (with_reducible repeat (first | apply Kd.R_alloc | apply Kd.R_drewN | apply Kd.R_drew));exact Kd.R_mono HO162.out (fun _ hk => ⟨hk.2,hk.1⟩)),(by (with_reducible repeat (first | refine ue ?_ _ | refine ug ?_ | refine uf ?_ _));exact BK124.out),(by repeat (first | (with_reducible first | exact HB.out | apply uc | apply ub | apply ud | refine ui ?_ GE124.out) | exact HB.out))⟩)
         rintro ⟨v151,v158,v161⟩ w51 ⟨hS_,h0_,h1_,h2_,h3_⟩
         have n0_:Aside0 (Kd.R k66 66 w51 w.heap.size (fun k_ => some k_ ≠ (v161:Value).ownBlock ∧ k_ ≠ gb124) v158 y157):=⟨h0_⟩
         have n1_:Aside0 (Kd.R k66 66 w51 w.heap.size (fun k_ => some k_ ≠ (v158:Value).ownBlock ∧ k_ ≠ gb124) v161 y160):=⟨h1_⟩
         have n2_:Aside0 (w51.heap[gb124]? = some (.cells #[.string a1_0,.string a1_1] 66 (0,0))):=⟨h2_⟩
         have n3_:Aside0 (Below w.heap.size w w51):=⟨h3_⟩
         clear BK124
         clear HB
         clear h0_ h1_ h2_ h3_
         have HO159:=n0_
         have HO162:=n1_
         have BK124:=n2_
         have HB:=n3_
         clear n0_ n1_ n2_ n3_
         have hHeld:w51.cell? ⟨gb124,0,none⟩ = some (.string a1_0) ∧ w51.cell? ⟨gb124,1,none⟩ = some (.string a1_1):=hS_
         obtain ⟨Ao53,co53,eo53⟩:=Kd.R_slice HO162.out
         (first | subst eo53 | (injection eo53 with f1_ f2_ f3_;have f4_:=f1_.symm;have f5_:=f3_.symm;clear f1_ f2_ f3_;subst f4_;subst f5_))
         refine norm_ (a':=?_) ?_ ?_
         rotate_left
         ·simp only [putAll,Act.put,List.setIfInBounds_toArray,List.set_cons_zero,List.set_cons_succ]
          rfl
         refine one_ (i:=7) (N:=some 44) #[true,true,true,true,true,true,true,true,true,true,true,false,false,false] rfl rfl (one_of HT_.out (by kernel_rfl)) (by decide) (fun K hK => ?_)
         refine Kd.R_append_rows_step k66 (w0:=w) w.heap.size (by rfl) (.tmp 41) (.tmp 43) 50 66 (.agg #[(.string ⟨#[]⟩),(.string ⟨#[]⟩)]) 32 rfl Tryz.underlying50 info66 rfl (by decide) (by omega) v158 y157 y160 _ _ _ (fun k_ => some k_ ≠ (.slice Ao53 y160.length co53:Value).ownBlock ∧ k_ ≠ gb124) (fun _ => False) rfl rfl ?aO ?aR (fun _ _ h => h) (fun _ h => h.elim) ?aF ?aB ?aS ?aL ?_
         (case aR => repeat (first | exact (Kd.R_reads' HO162.out).2.2 | (with_reducible refine Kd.C_alloc ?_ _) | (with_reducible refine Kd.C_drewN ?_ _) | (with_reducible refine Kd.C_drew ?_)))
         (case aB => exact (by repeat (first | (with_reducible first | exact HB.out | apply uc | apply ub | apply ud | refine ui ?_ GE124.out) | exact HB.out)))
         (case aF => exact (fun k_ hk => ⟨Kd.fresh' (Kd.R_lt (by (with_reducible repeat (first | apply Kd.R_alloc | apply Kd.R_drewN | apply Kd.R_drew));exact HO162.out)) k_ hk,Kd.freshB (g:=gb124) (o:=.cells #[.string a1_0,.string a1_1] 66 (0,0)) (by (with_reducible repeat (first | refine ue ?_ _ | refine ug ?_ | refine uf ?_ _));exact BK124.out) k_ hk⟩))
         (case aO => exact (by (with_reducible repeat (first | apply Kd.R_alloc | apply Kd.R_drewN | apply Kd.R_drew));exact HO159.out))
         (case aS => exact (u1c (by repeat (first | (with_reducible first | exact HB.out | apply uc | apply ub | apply ud | refine ui ?_ GE124.out) | exact HB.out))))
         (case aL => have:=LMc37.out;omega)
         intro v164 w52 ho hb hg hat
         rw [← Ny163.out] at ho
         have n0_:=Aside0.mk (u3b (g:=gb124) (o:=.cells #[.string a1_0,.string a1_1] 66 (0,0)) (by (with_reducible repeat (first | refine ue ?_ _ | refine ug ?_ | refine uf ?_ _));exact BK124.out) hg (Kd.R_away HO159.out (fun _ hk => hk.2)))
         have n1_:=Aside0.mk (Kd.R_after (ok:=(fun k_ => k_ ≠ gb124)) (by (with_reducible repeat (first | apply Kd.R_alloc | apply Kd.R_drewN | apply Kd.R_drew));exact Kd.R_mono HO162.out (fun _ hk => ⟨hk.2,hk.1⟩)) hg hat)
         have n2_:=Aside0.mk (hb)
         have n3_:=Aside0.mk (ho)
         clear BK124
         clear HO162
         clear HB
         clear HO159
         have BK124:=n0_
         have HO162:=n1_
         have HB:=n2_
         have HO165:=n3_
         clear n0_ n1_ n2_ n3_
         clear ho hb hg hat
         refine hK.out _ _ ⟨(uj BK124.out 0).trans rfl,(uj BK124.out 1).trans rfl⟩ (fun hHeld => ?_)
         clear hK K
         refine norm_ (a':=?_) ?_ ?_
         rotate_left
         ·show Act.put _ (some 44) _ = _
          simp only [Act.put,List.setIfInBounds_toArray,List.set_cons_zero,List.set_cons_succ,i64_w,i32_w]
          rfl
         refine one_ (i:=11) (N:=some 48) #[true,true,true,true,true,true,true,true,true,true,true,true,false,false] rfl rfl (one_of HT_.out (by kernel_rfl)) (by decide) (fun K hK => ?_)
         refine Kd.R_append_rows_step k66 (w0:=w) w.heap.size (by rfl) (.tmp 44) (.tmp 47) 50 66 (.agg #[(.string ⟨#[]⟩),(.string ⟨#[]⟩)]) 32 rfl Tryz.underlying50 info66 rfl (by decide) (by omega) v164 y163 y166 _ _ _ (fun k_ => some k_ ≠ (.slice Ao53 y160.length co53:Value).ownBlock ∧ k_ ≠ gb124) (fun _ => False) rfl rfl ?aO ?aR (fun _ _ h => h) (fun _ h => h.elim) ?aF ?aB ?aS ?aL ?_
         (case aR => repeat (first | exact (Kd.C_below HR169.out HB.out) | (with_reducible refine Kd.C_alloc ?_ _) | (with_reducible refine Kd.C_drewN ?_ _) | (with_reducible refine Kd.C_drew ?_)))
         (case aB => exact (by repeat (first | (with_reducible first | exact HB.out | apply uc | apply ub | apply ud | refine ui ?_ GE124.out) | exact HB.out)))
         (case aF => exact (fun k_ hk => ⟨Kd.fresh' (Kd.R_lt (by (with_reducible repeat (first | apply Kd.R_alloc | apply Kd.R_drewN | apply Kd.R_drew));exact HO162.out)) k_ hk,Kd.freshB (g:=gb124) (o:=.cells #[.string a1_0,.string a1_1] 66 (0,0)) (by (with_reducible repeat (first | refine ue ?_ _ | refine ug ?_ | refine uf ?_ _));exact BK124.out) k_ hk⟩))
         (case aO => exact (by (with_reducible repeat (first | apply Kd.R_alloc | apply Kd.R_drewN | apply Kd.R_drew));exact HO165.out))
         (case aS => exact (u1c (by repeat (first | (with_reducible first | exact HB.out | apply uc | apply ub | apply ud | refine ui ?_ GE124.out) | exact HB.out))))
         (case aL => have:=LMc40.out;omega)
         intro v171 w54 ho hb hg hat
         rw [← Ny170.out] at ho
         have n0_:=Aside0.mk (u3b (g:=gb124) (o:=.cells #[.string a1_0,.string a1_1] 66 (0,0)) (by (with_reducible repeat (first | refine ue ?_ _ | refine ug ?_ | refine uf ?_ _));exact BK124.out) hg (Kd.R_away HO165.out (fun _ hk => hk.2)))
         have n1_:=Aside0.mk (Kd.R_after (ok:=(fun k_ => k_ ≠ gb124)) (by (with_reducible repeat (first | apply Kd.R_alloc | apply Kd.R_drewN | apply Kd.R_drew));exact HO162.out) hg hat)
         have n2_:=Aside0.mk (hb)
         have n3_:=Aside0.mk (ho)
         clear BK124
         clear HO162
         clear HB
         clear HO165
         have BK124:=n0_
         have HO162:=n1_
         have HB:=n2_
         have HO172:=n3_
         clear n0_ n1_ n2_ n3_
         clear ho hb hg hat
         refine hK.out _ _ ⟨(uj BK124.out 0).trans rfl,(uj BK124.out 1).trans rfl⟩ (fun hHeld => ?_)
         clear hK K
         refine norm_ (a':=?_) ?_ ?_
         rotate_left
         ·show Act.put _ (some 48) _ = _
          simp only [Act.put,List.setIfInBounds_toArray,List.set_cons_zero,List.set_cons_succ,i64_w,i32_w]
          rfl
         refine pure_ (i:=12) (N:=some 4) (v:=?_) (a':=?_) #[true,true,true,true,true,true,true,true,true,true,true,true,true,false] rfl rfl (u2j HT_.out (by kernel_rfl)) (fun _ _ _ h => h) (Or.inl ⟨by rfl,?_⟩) ?_ ?_
         rotate_left
         ·intro w'
          go_simp
          with_reducible rfl
         rotate_left
         ·simp only [Act.put,List.setIfInBounds_toArray,List.set_cons_zero,List.set_cons_succ,i64_w,i32_w]
          rfl
         refine pure_ (i:=13) (N:=some 5) (v:=?_) (a':=?_) #[true,true,true,true,true,true,true,true,true,true,true,true,true,true] rfl rfl (u2j HT_.out (by kernel_rfl)) (fun _ _ _ h => h) (Or.inl ⟨by rfl,?_⟩) ?_ ?_
         rotate_left
         ·intro w'
          go_simp
          with_reducible rfl
         rotate_left
         ·simp only [Act.put,List.setIfInBounds_toArray,List.set_cons_zero,List.set_cons_succ,i64_w,i32_w]
          rfl
         refine done_ (done_of HT_.out (by kernel_rfl)) ?_
         try go_wp2
         go_ret2
         exact ⟨_,by first | rfl | (simp [u1k,u1l] <;> rfl) | (simp [*,u1k,u1l] <;> rfl),by (with_reducible repeat (first | apply Kd.R_alloc | apply Kd.R_drewN | apply Kd.R_drew));exact Kd.R_mono HO172.out (fun _ hk => trivial),by repeat (first | (with_reducible first | exact HB.out | apply uc | apply ub | apply ud | refine ui ?_ GE124.out) | exact HB.out)⟩
        ·rw [if_neg c40] at H
         exact absurd H (by simp)
       ·rw [if_neg c37] at H
        exact absurd H (by simp)
      ·rw [if_neg c36] at H
       exact absurd H (by simp)
     ·rw [if_neg c35] at H
      exact absurd H (by simp)
    ·rw [if_neg c34] at H
     exact absurd H (by simp)
end Go.Proofs.YtmcpeifhapekoaaGreatDoor.PAll
