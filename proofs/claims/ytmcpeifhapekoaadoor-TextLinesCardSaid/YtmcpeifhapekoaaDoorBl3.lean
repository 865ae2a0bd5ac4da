/- Texts of this seat, joined in the order in which they build. -/
import Derived.Test.YtmcpeifhapekoaaDoorBl1
import Derived.Test.YtmcpeifhapekoaaDoorBl2
import Derived.Sort.Walk0
namespace Go.Proofs.YtmcpeifhapekoaaDoor.PAll
open Go.RowKit Go.Proofs.YtmcpeifhapekoaaDoorW.PrintWords Go.Proofs.YtmcpeifhapekoaaDoorW.PrintLast Go.Proofs.YtmcpeifhapekoaaDoorW.PrintMore
attribute [local go_sem] max2_int min2_int max_two min_two max_three min_three max_four min_four
set_option linter.unusedVariables false
set_option linter.unusedSimpArgs false
mutual
def u1g.j0:Nat → ByteArray → Bool → Option (Int × ByteArray × Bool)
 | 0,_,_ => none
 | k + 1,x0,x5 => (u1n.f k x0 10).bind fun t190 => (if t190 < 1 then (u1g.j1 k x0 x5 t190 true) else (u1g.j1 k x0 x5 t190 (decide (t190 > 19))))
def u1g.j1:Nat → ByteArray → Bool → Int → Bool → Option (Int × ByteArray × Bool)
 | 0,_,_,_,_ => none
 | k + 1,x0,x5,x6,x21 => if x21 = true then (some (0,(⟨#[]⟩:ByteArray),false)) else (if 0 ≤ x6 then (if x6 ≤ (x0.size:Int) then ((u1f.f k (x0.extract 0 (x6:Int).toNat) 10).bind fun bt191 => (if x5 = true then (if bt191.2 = true then (some (wrap64 (IntKind.u64.wrap (-bt191.1)),x0.extract (x6:Int).toNat x0.size,decide (bt191.1 ≤ 9223372036854775808))) else (some (wrap64 (IntKind.u64.wrap (-bt191.1)),x0.extract (x6:Int).toNat x0.size,false))) else (if bt191.2 = true then (some (wrap64 (bt191.1),x0.extract (x6:Int).toNat x0.size,decide (bt191.1 < 9223372036854775808))) else (some (wrap64 (bt191.1),x0.extract (x6:Int).toNat x0.size,false))))) else (none)) else (none))
end
def u1g.f (k:Nat) (a0:ByteArray):Option (Int × ByteArray × Bool):=(ut.f a0 (⟨#[45]⟩:ByteArray)).bind fun t189 => (if t189 = true then (if 1 ≤ (a0.size:Int) then (u1g.j0 k (a0.extract 1 a0.size) t189) else (none)) else (u1g.j0 k a0 t189))
set_option maxHeartbeats 8000000 in
set_option maxRecDepth 100000 in
theorem u1g.calls (k:Nat) (a0:ByteArray) (r1:Int) (r2:ByteArray) (r3:Bool) (w:World) (h:u1g.f k a0 = some (r1,r2,r3)) :
 Calls Tryd.prog 70 #[.string a0] w fun e w' => e = .returned (.tuple #[.int .i64 r1,.string r2,.bool r3]) ∧ us w w':=by
 have H:((ut.f a0 (⟨#[45]⟩:ByteArray)).bind fun t189 => (if t189 = true then (if 1 ≤ (a0.size:Int) then (u1g.j0 k (a0.extract 1 a0.size) t189) else (none)) else (u1g.j0 k a0 t189))) = some (r1,r2,r3):=h
 clear h
 replace H:=Option.bind_eq_some_iff.mp H
 obtain ⟨t189,A20,H⟩:=H
 replace H:(if t189 = true then (if 1 ≤ (a0.size:Int) then (u1g.j0 k (a0.extract 1 a0.size) t189) else (none)) else (u1g.j0 k a0 t189)) = some (r1,r2,r3):=H
 have A2:=Aside0.mk A20
 clear A20
 have HC3:=Aside0.mk H
 clear H
 go_enter Tryd.func70,Tryd.ntmps70
 go_upto_if 11 with (first | (go_at_call 35;(with_reducible refine (ut.calls a0 (⟨#[45]⟩:ByteArray) t189 _ A2.out).mono ?_);rintro e w' ⟨rfl,⟨nd,rfl⟩⟩;(try first | exact ⟨rfl,_,World.drewN_drewN _ _ _⟩ | exact ⟨rfl,_,Eq.trans (World.drewN_drewN _ _ _) (congrArg (World.drewN _) (Nat.add_assoc _ _ _))⟩)))
 repeat (go_quiet (first | (go_at_call 35;(with_reducible refine (ut.calls a0 (⟨#[45]⟩:ByteArray) t189 _ A2.out).mono ?_);rintro e w' ⟨rfl,⟨nd,rfl⟩⟩;(try first | exact ⟨rfl,_,World.drewN_drewN _ _ _⟩ | exact ⟨rfl,_,Eq.trans (World.drewN_drewN _ _ _) (congrArg (World.drewN _) (Nat.add_assoc _ _ _))⟩)));go_upto_if 11 with (first | (go_at_call 35;(with_reducible refine (ut.calls a0 (⟨#[45]⟩:ByteArray) t189 _ A2.out).mono ?_);rintro e w' ⟨rfl,⟨nd,rfl⟩⟩;(try first | exact ⟨rfl,_,World.drewN_drewN _ _ _⟩ | exact ⟨rfl,_,Eq.trans (World.drewN_drewN _ _ _) (congrArg (World.drewN _) (Nat.add_assoc _ _ _))⟩))))
 (try simp only [Act.put,List.setIfInBounds_toArray,List.set_cons_zero,List.set_cons_succ])
 go_cut [0] (fun v0 wc => ∃ (kq:Nat) (x0_2:ByteArray),v0 = .string x0_2 ∧ Aside0 (u1g.j0 kq x0_2 t189 = some (r1,r2,r3)) ∧ Aside0 (kq ≤ k) ∧ us w wc)
 case first =>
  have H:=HC3.out
  clear HC3
  by_cases c4:t189 = true
  · subst c4
    have H1:(if 1 ≤ (a0.size:Int) then (u1g.j0 k (a0.extract 1 a0.size) true) else (none)) = some (r1,r2,r3):=by rw [if_pos rfl] at H;exact H
    clear H
    have H:=H1
    clear H1
    by_cases c5:1 ≤ (a0.size:Int)
    · rw [if_pos c5] at H
      have c5b0:=eq_true c5
      have c5b1:decide (1 ≤ (a0.size:Int)) = true:=decide_eq_true c5
      clear c5
      have H':=Aside0.mk H
      clear H
      go_wp2
      repeat (go_quiet (fail);try go_wp2)
      go_meet
      case rel => exact ⟨_,(a0.extract 1 a0.size),(by first | rfl | (simp;done) | (simp [*];done)),H',⟨by first | omega | exact Nat.le_refl _⟩,by repeat (first | exact us.refl _ | apply us.step)⟩
    · rw [if_neg c5] at H
      exact absurd H (by simp)
  · replace c4:=Bool.eq_false_iff.mpr c4
    subst c4
    have H1:(u1g.j0 k a0 false) = some (r1,r2,r3):=by rw [if_neg (show ¬ (false = true) by decide)] at H;exact H
    clear H
    have H:=H1
    clear H1
    have H':=Aside0.mk H
    clear H
    go_wp2
    repeat (go_quiet (fail);try go_wp2)
    go_meet
    case rel => exact ⟨_,(a0),(by first | rfl | (simp;done) | (simp [*];done)),H',⟨by first | omega | exact Nat.le_refl _⟩,by repeat (first | exact us.refl _ | apply us.step)⟩
 case rest =>
  clear HC3
  try clear p2
  try clear c4
  try clear c5
  try clear c5b0
  try clear c5b1
  obtain ⟨kq,x0_2,rfl,HA,HJ2,⟨mc2,rfl⟩⟩:=hcut
  cases kq with
  | zero => exact absurd HA.out (by simp [u1g.j0])
  | succ kj2 =>
    have H:=HA.out
    clear HA
    simp only [u1g.j0] at H
    replace H:=Option.bind_eq_some_iff.mp H
    obtain ⟨t190,A60,H⟩:=H
    replace H:(if t190 < 1 then (u1g.j1 kj2 x0_2 t189 t190 true) else (u1g.j1 kj2 x0_2 t189 t190 (decide (t190 > 19)))) = some (r1,r2,r3):=H
    have A6:=Aside0.mk A60
    clear A60
    have HC7:=Aside0.mk H
    clear H
    go_upto_region 5 with (first | (go_at_call 93;(with_reducible refine (u1n.calls kj2 x0_2 10 t190 _ A6.out).mono ?_);rintro e w' ⟨rfl,⟨nd,rfl⟩⟩;(try first | exact ⟨rfl,_,World.drewN_drewN _ _ _⟩ | exact ⟨rfl,_,Eq.trans (World.drewN_drewN _ _ _) (congrArg (World.drewN _) (Nat.add_assoc _ _ _))⟩)))
    repeat (go_quiet (first | (go_at_call 93;(with_reducible refine (u1n.calls kj2 x0_2 10 t190 _ A6.out).mono ?_);rintro e w' ⟨rfl,⟨nd,rfl⟩⟩;(try first | exact ⟨rfl,_,World.drewN_drewN _ _ _⟩ | exact ⟨rfl,_,Eq.trans (World.drewN_drewN _ _ _) (congrArg (World.drewN _) (Nat.add_assoc _ _ _))⟩)));go_upto_region 5 with (first | (go_at_call 93;(with_reducible refine (u1n.calls kj2 x0_2 10 t190 _ A6.out).mono ?_);rintro e w' ⟨rfl,⟨nd,rfl⟩⟩;(try first | exact ⟨rfl,_,World.drewN_drewN _ _ _⟩ | exact ⟨rfl,_,Eq.trans (World.drewN_drewN _ _ _) (congrArg (World.drewN _) (Nat.add_assoc _ _ _))⟩))))
    (try simp only [Act.put,List.setIfInBounds_toArray,List.set_cons_zero,List.set_cons_succ])
    go_cut [21] (fun v21 wc => ∃ (kq:Nat) (x21_6:Bool),v21 = .bool x21_6 ∧ Aside0 (u1g.j1 kq x0_2 t189 t190 x21_6 = some (r1,r2,r3)) ∧ Aside0 (kq ≤ kj2) ∧ us w wc)
    case first =>
     have H:=HC7.out
     clear HC7
     by_cases c8:t190 < 1
     · rw [if_pos c8] at H
       have c8b0:decide (t190 < 1) = true:=decide_eq_true c8
       clear c8
       (first | rw [c8b0] | (simp only [i64_w,i32_w];rw [c8b0]) | skip)
       have H':=Aside0.mk H
       clear H
       go_wp2
       repeat (go_quiet (fail);try go_wp2)
       go_meet
       case rel => exact ⟨_,(true),(by first | rfl | (simp;done) | (simp [*];done)),H',⟨by have:=HJ2.out;first | omega | exact Nat.le_refl _⟩,by repeat (first | exact us.refl _ | apply us.step)⟩
     · rw [if_neg c8] at H
       have c8b0:decide (t190 < 1) = false:=decide_eq_false c8
       clear c8
       (first | rw [c8b0] | (simp only [i64_w,i32_w];rw [c8b0]) | skip)
       have H':=Aside0.mk H
       clear H
       go_wp2
       repeat (go_quiet (fail);try go_wp2)
       go_meet
       case rel => exact ⟨_,(decide (t190 > 19)),(by first | rfl | (simp;done) | (simp [*];done)),H',⟨by have:=HJ2.out;first | omega | exact Nat.le_refl _⟩,by repeat (first | exact us.refl _ | apply us.step)⟩
    case rest =>
     clear HC7
     try clear c2
     try clear p2
     try clear c4
     try clear c5
     try clear c5b0
     try clear c5b1
     try clear c7
     try clear c8
     try clear c8b0
     try clear p2
     obtain ⟨kq,x21_6,rfl,HA,HJ6,⟨mc6,rfl⟩⟩:=hcut
     cases kq with
     | zero => exact absurd HA.out (by simp [u1g.j1])
     | succ kj6 =>
       have H:=HA.out
       clear HA
       simp only [u1g.j1] at H
       by_cases c9:x21_6 = true
       · subst c9
         have H1:(some (0,(⟨#[]⟩:ByteArray),false)) = some (r1,r2,r3):=by rw [if_pos rfl] at H;exact H
         clear H
         have H:=H1
         clear H1
         simp only [Option.some.injEq,Prod.mk.injEq] at H
         obtain ⟨rfl,rfl,rfl⟩:=H
         go_wp2
         repeat (go_quiet (fail);try go_wp2)
         go_ret3
         exact ⟨by first | rfl | (simp;done) | (simp [*];done),by repeat (first | exact us.refl _ | apply us.step)⟩
       · replace c9:=Bool.eq_false_iff.mpr c9
         subst c9
         have H1:(if 0 ≤ t190 then (if t190 ≤ (x0_2.size:Int) then ((u1f.f kj6 (x0_2.extract 0 (t190:Int).toNat) 10).bind fun bt191 => (if t189 = true then (if bt191.2 = true then (some (wrap64 (IntKind.u64.wrap (-bt191.1)),x0_2.extract (t190:Int).toNat x0_2.size,decide (bt191.1 ≤ 9223372036854775808))) else (some (wrap64 (IntKind.u64.wrap (-bt191.1)),x0_2.extract (t190:Int).toNat x0_2.size,false))) else (if bt191.2 = true then (some (wrap64 (bt191.1),x0_2.extract (t190:Int).toNat x0_2.size,decide (bt191.1 < 9223372036854775808))) else (some (wrap64 (bt191.1),x0_2.extract (t190:Int).toNat x0_2.size,false))))) else (none)) else (none)) = some (r1,r2,r3):=by rw [if_neg (show ¬ (false = true) by decide)] at H;exact H
         clear H
         have H:=H1
         clear H1
         by_cases c10:0 ≤ t190
         · rw [if_pos c10] at H
           have c10b0:=eq_true c10
           have c10b1:decide (0 ≤ t190) = true:=decide_eq_true c10
           clear c10
           by_cases c11:t190 ≤ (x0_2.size:Int)
           · rw [if_pos c11] at H
             have c11b0:=eq_true c11
             have c11b1:decide (t190 ≤ (x0_2.size:Int)) = true:=decide_eq_true c11
             clear c11
             replace H:=Option.bind_eq_some_iff.mp H
             obtain ⟨⟨t191,t192⟩,A120,H⟩:=H
             replace H:(if t189 = true then (if t192 = true then (some (wrap64 (IntKind.u64.wrap (-t191)),x0_2.extract (t190:Int).toNat x0_2.size,decide (t191 ≤ 9223372036854775808))) else (some (wrap64 (IntKind.u64.wrap (-t191)),x0_2.extract (t190:Int).toNat x0_2.size,false))) else (if t192 = true then (some (wrap64 (t191),x0_2.extract (t190:Int).toNat x0_2.size,decide (t191 < 9223372036854775808))) else (some (wrap64 (t191),x0_2.extract (t190:Int).toNat x0_2.size,false)))) = some (r1,r2,r3):=H
             have A12:=Aside0.mk A120
             clear A120
             by_cases c13:t189 = true
             · subst c13
               have H1:(if t192 = true then (some (wrap64 (IntKind.u64.wrap (-t191)),x0_2.extract (t190:Int).toNat x0_2.size,decide (t191 ≤ 9223372036854775808))) else (some (wrap64 (IntKind.u64.wrap (-t191)),x0_2.extract (t190:Int).toNat x0_2.size,false))) = some (r1,r2,r3):=by rw [if_pos rfl] at H;exact H
               clear H
               have H:=H1
               clear H1
               have c14b0:=eq_true (of_decide_eq_true (by first | (with_reducible assumption) | assumption):0 ≤ t190)
               have c15b0:=eq_true (of_decide_eq_true (by first | (with_reducible assumption) | assumption):t190 ≤ (x0_2.size:Int))
               by_cases c16:t192 = true
               · subst c16
                 have H1:(some (wrap64 (IntKind.u64.wrap (-t191)),x0_2.extract (t190:Int).toNat x0_2.size,decide (t191 ≤ 9223372036854775808))) = some (r1,r2,r3):=by rw [if_pos rfl] at H;exact H
                 clear H
                 have H:=H1
                 clear H1
                 simp only [Option.some.injEq,Prod.mk.injEq] at H
                 obtain ⟨rfl,rfl,rfl⟩:=H
                 go_wp2_with (first | (go_at_call 94;(with_reducible refine (u1f.calls kj6 (x0_2.extract 0 (t190:Int).toNat) 10 t191 true _ A12.out).mono ?_);rintro e w' ⟨rfl,⟨nd,rfl⟩⟩;(try first | exact ⟨rfl,_,World.drewN_drewN _ _ _⟩ | exact ⟨rfl,_,Eq.trans (World.drewN_drewN _ _ _) (congrArg (World.drewN _) (Nat.add_assoc _ _ _))⟩)))
                 repeat (go_quiet (first | (go_at_call 94;(with_reducible refine (u1f.calls kj6 (x0_2.extract 0 (t190:Int).toNat) 10 t191 true _ A12.out).mono ?_);rintro e w' ⟨rfl,⟨nd,rfl⟩⟩;(try first | exact ⟨rfl,_,World.drewN_drewN _ _ _⟩ | exact ⟨rfl,_,Eq.trans (World.drewN_drewN _ _ _) (congrArg (World.drewN _) (Nat.add_assoc _ _ _))⟩)));try go_wp2_with (first | (go_at_call 94;(with_reducible refine (u1f.calls kj6 (x0_2.extract 0 (t190:Int).toNat) 10 t191 true _ A12.out).mono ?_);rintro e w' ⟨rfl,⟨nd,rfl⟩⟩;(try first | exact ⟨rfl,_,World.drewN_drewN _ _ _⟩ | exact ⟨rfl,_,Eq.trans (World.drewN_drewN _ _ _) (congrArg (World.drewN _) (Nat.add_assoc _ _ _))⟩))))
                 go_ret3
                 exact ⟨by first | rfl | (simp;done) | (simp [*];done),by repeat (first | exact us.refl _ | apply us.step)⟩
               · replace c16:=Bool.eq_false_iff.mpr c16
                 subst c16
                 have H1:(some (wrap64 (IntKind.u64.wrap (-t191)),x0_2.extract (t190:Int).toNat x0_2.size,false)) = some (r1,r2,r3):=by rw [if_neg (show ¬ (false = true) by decide)] at H;exact H
                 clear H
                 have H:=H1
                 clear H1
                 simp only [Option.some.injEq,Prod.mk.injEq] at H
                 obtain ⟨rfl,rfl,rfl⟩:=H
                 go_wp2_with (first | (go_at_call 94;(with_reducible refine (u1f.calls kj6 (x0_2.extract 0 (t190:Int).toNat) 10 t191 false _ A12.out).mono ?_);rintro e w' ⟨rfl,⟨nd,rfl⟩⟩;(try first | exact ⟨rfl,_,World.drewN_drewN _ _ _⟩ | exact ⟨rfl,_,Eq.trans (World.drewN_drewN _ _ _) (congrArg (World.drewN _) (Nat.add_assoc _ _ _))⟩)))
                 repeat (go_quiet (first | (go_at_call 94;(with_reducible refine (u1f.calls kj6 (x0_2.extract 0 (t190:Int).toNat) 10 t191 false _ A12.out).mono ?_);rintro e w' ⟨rfl,⟨nd,rfl⟩⟩;(try first | exact ⟨rfl,_,World.drewN_drewN _ _ _⟩ | exact ⟨rfl,_,Eq.trans (World.drewN_drewN _ _ _) (congrArg (World.drewN _) (Nat.add_assoc _ _ _))⟩)));try go_wp2_with (first | (go_at_call 94;(with_reducible refine (u1f.calls kj6 (x0_2.extract 0 (t190:Int).toNat) 10 t191 false _ A12.out).mono ?_);rintro e w' ⟨rfl,⟨nd,rfl⟩⟩;(try first | exact ⟨rfl,_,World.drewN_drewN _ _ _⟩ | exact ⟨rfl,_,Eq.trans (World.drewN_drewN _ _ _) (congrArg (World.drewN _) (Nat.add_assoc _ _ _))⟩))))
                 go_ret3
                 exact ⟨by first | rfl | (simp;done) | (simp [*];done),by repeat (first | exact us.refl _ | apply us.step)⟩
             · replace c13:=Bool.eq_false_iff.mpr c13
               subst c13
               have H1:(if t192 = true then (some (wrap64 (t191),x0_2.extract (t190:Int).toNat x0_2.size,decide (t191 < 9223372036854775808))) else (some (wrap64 (t191),x0_2.extract (t190:Int).toNat x0_2.size,false))) = some (r1,r2,r3):=by rw [if_neg (show ¬ (false = true) by decide)] at H;exact H
               clear H
               have H:=H1
               clear H1
               have c17b0:=eq_true (of_decide_eq_true (by first | (with_reducible assumption) | assumption):0 ≤ t190)
               have c18b0:=eq_true (of_decide_eq_true (by first | (with_reducible assumption) | assumption):t190 ≤ (x0_2.size:Int))
               by_cases c19:t192 = true
               · subst c19
                 have H1:(some (wrap64 (t191),x0_2.extract (t190:Int).toNat x0_2.size,decide (t191 < 9223372036854775808))) = some (r1,r2,r3):=by rw [if_pos rfl] at H;exact H
                 clear H
                 have H:=H1
                 clear H1
                 simp only [Option.some.injEq,Prod.mk.injEq] at H
                 obtain ⟨rfl,rfl,rfl⟩:=H
                 go_wp2_with (first | (go_at_call 94;(with_reducible refine (u1f.calls kj6 (x0_2.extract 0 (t190:Int).toNat) 10 t191 true _ A12.out).mono ?_);rintro e w' ⟨rfl,⟨nd,rfl⟩⟩;(try first | exact ⟨rfl,_,World.drewN_drewN _ _ _⟩ | exact ⟨rfl,_,Eq.trans (World.drewN_drewN _ _ _) (congrArg (World.drewN _) (Nat.add_assoc _ _ _))⟩)))
                 repeat (go_quiet (first | (go_at_call 94;(with_reducible refine (u1f.calls kj6 (x0_2.extract 0 (t190:Int).toNat) 10 t191 true _ A12.out).mono ?_);rintro e w' ⟨rfl,⟨nd,rfl⟩⟩;(try first | exact ⟨rfl,_,World.drewN_drewN _ _ _⟩ | exact ⟨rfl,_,Eq.trans (World.drewN_drewN _ _ _) (congrArg (World.drewN _) (Nat.add_assoc _ _ _))⟩)));try go_wp2_with (first | (go_at_call 94;(with_reducible refine (u1f.calls kj6 (x0_2.extract 0 (t190:Int).toNat) 10 t191 true _ A12.out).mono ?_);rintro e w' ⟨rfl,⟨nd,rfl⟩⟩;(try first | exact ⟨rfl,_,World.drewN_drewN _ _ _⟩ | exact ⟨rfl,_,Eq.trans (World.drewN_drewN _ _ _) (congrArg (World.drewN _) (Nat.add_assoc _ _ _))⟩))))
                 go_ret3
                 exact ⟨by first | rfl | (simp;done) | (simp [*];done),by repeat (first | exact us.refl _ | apply us.step)⟩
               · replace c19:=Bool.eq_false_iff.mpr c19
                 subst c19
                 have H1:(some (wrap64 (t191),x0_2.extract (t190:Int).toNat x0_2.size,false)) = some (r1,r2,r3):=by rw [if_neg (show ¬ (false = true) by decide)] at H;exact H
                 clear H
                 have H:=H1
                 clear H1
                 simp only [Option.some.injEq,Prod.mk.injEq] at H
                 obtain ⟨rfl,rfl,rfl⟩:=H
                 go_wp2_with (first | (go_at_call 94;(with_reducible refine (u1f.calls kj6 (x0_2.extract 0 (t190:Int).toNat) 10 t191 false _ A12.out).mono ?_);rintro e w' ⟨rfl,⟨nd,rfl⟩⟩;(try first | exact ⟨rfl,_,World.drewN_drewN _ _ _⟩ | exact ⟨rfl,_,Eq.trans (World.drewN_drewN _ _ _) (congrArg (World.drewN _) (Nat.add_assoc _ _ _))⟩)))
                 repeat (go_quiet (first | (go_at_call 94;(with_reducible refine (u1f.calls kj6 (x0_2.extract 0 (t190:Int).toNat) 10 t191 false _ A12.out).mono ?_);rintro e w' ⟨rfl,⟨nd,rfl⟩⟩;(try first | exact ⟨rfl,_,World.drewN_drewN _ _ _⟩ | exact ⟨rfl,_,Eq.trans (World.drewN_drewN _ _ _) (congrArg (World.drewN _) (Nat.add_assoc _ _ _))⟩)));try go_wp2_with (first | (go_at_call 94;(with_reducible refine (u1f.calls kj6 (x0_2.extract 0 (t190:Int).toNat) 10 t191 false _ A12.out).mono ?_);rintro e w' ⟨rfl,⟨nd,rfl⟩⟩;(try first | exact ⟨rfl,_,World.drewN_drewN _ _ _⟩ | exact ⟨rfl,_,Eq.trans (World.drewN_drewN _ _ _) (congrArg (World.drewN _) (Nat.add_assoc _ _ _))⟩))))
                 go_ret3
                 exact ⟨by first | rfl | (simp;done) | (simp [*];done),by repeat (first | exact us.refl _ | apply us.step)⟩
           · rw [if_neg c11] at H
             exact absurd H (by simp)
         · rw [if_neg c10] at H
           exact absurd H (by simp)
def uy.l0:Nat → ByteArray → Int → Option (Bool)
 | 0,_,_ => none
 | k + 1,x0,x3 => if x3 < (x0.size:Int) then (if 0 ≤ x3 then (if (bt x0 x3) ≥ 97 then (if (bt x0 x3) ≤ 122 then (uy.l0 k x0 (wrap64 (x3 + 1))) else (if (bt x0 x3) ≥ 65 then (if (bt x0 x3) ≤ 90 then (uy.l0 k x0 (wrap64 (x3 + 1))) else (if ((bt x0 x3) = 95) then (uy.l0 k x0 (wrap64 (x3 + 1))) else (if x3 = 0 then (some false) else (if (bt x0 x3) < 48 then (some false) else (if (bt x0 x3) > 57 then (some false) else (uy.l0 k x0 (wrap64 (x3 + 1)))))))) else (if ((bt x0 x3) = 95) then (uy.l0 k x0 (wrap64 (x3 + 1))) else (if x3 = 0 then (some false) else (if (bt x0 x3) < 48 then (some false) else (if (bt x0 x3) > 57 then (some false) else (uy.l0 k x0 (wrap64 (x3 + 1))))))))) else (if (bt x0 x3) ≥ 65 then (if (bt x0 x3) ≤ 90 then (uy.l0 k x0 (wrap64 (x3 + 1))) else (if ((bt x0 x3) = 95) then (uy.l0 k x0 (wrap64 (x3 + 1))) else (if x3 = 0 then (some false) else (if (bt x0 x3) < 48 then (some false) else (if (bt x0 x3) > 57 then (some false) else (uy.l0 k x0 (wrap64 (x3 + 1)))))))) else (if ((bt x0 x3) = 95) then (uy.l0 k x0 (wrap64 (x3 + 1))) else (if x3 = 0 then (some false) else (if (bt x0 x3) < 48 then (some false) else (if (bt x0 x3) > 57 then (some false) else (uy.l0 k x0 (wrap64 (x3 + 1))))))))) else (none)) else (if (x0.size:Int) ≥ 1 then (some (decide ((x0.size:Int) ≤ 24))) else (some false))
def uy.f (k:Nat) (a0:ByteArray):Option (Bool):=uy.l0 k a0 0
set_option maxHeartbeats 8000000 in
set_option maxRecDepth 100000 in
theorem uy.calls (k:Nat) (a0:ByteArray) (r:Bool) (w:World) (h:uy.f k a0 = some r) :
 Calls Tryd.prog 18 #[.string a0] w fun e w' => e = .returned (.bool r) ∧ us w w':=by
 have H:(uy.l0 k a0 0) = some r:=h
 clear h
 have H':=Aside0.mk H
 clear H
 go_enter Tryd.func18,Tryd.ntmps18
 go_wp2
 go_loopg [3] k (fun kq v3 w' => ∃ (x3_1:Int),v3 = .int .i64 x3_1 ∧ Aside0 (uy.l0 kq a0 x3_1 = some r) ∧ Aside0 (kq ≤ k) ∧ us w w')
 case atStart => exact ⟨(0),(by first | rfl | (simp;done) | (simp [*];done)),H',⟨Nat.le_refl _⟩,by repeat (first | exact us.refl _ | apply us.step)⟩
 case round =>
  clear H'
  try clear c1
  obtain ⟨x3_1,rfl,HA,HK1,⟨m1,rfl⟩⟩:=hrel
  cases gk with
  | zero => exact absurd HA.out (by simp [uy.l0])
  | succ k1 =>
    have H:=HA.out
    clear HA
    simp only [uy.l0] at H
    by_cases c2:x3_1 < (a0.size:Int)
    · rw [if_pos c2] at H
      have c2b0:decide (x3_1 < (a0.size:Int)) = true:=decide_eq_true c2
      clear c2
      by_cases c3:0 ≤ x3_1
      · rw [if_pos c3] at H
        have c3b0:decide (0 ≤ x3_1) = true:=decide_eq_true c3
        clear c3
        by_cases c5:(bt a0 x3_1) ≥ 97
        · rw [if_pos c5] at H
          have c5b0:decide (97 ≤ (bt a0 x3_1)) = true:=decide_eq_true c5
          clear c5
          by_cases c6:(bt a0 x3_1) ≤ 122
          · rw [if_pos c6] at H
            have c6b0:decide ((bt a0 x3_1) ≤ 122) = true:=decide_eq_true c6
            clear c6
            have H':=Aside0.mk H
            clear H
            have p4:0 ≤ (x3_1:Int):=of_decide_eq_true (by first | (with_reducible assumption) | assumption)
            have q4:x3_1 < (a0.size:Int):=of_decide_eq_true (by first | (with_reducible assumption) | assumption)
            have hx4:=bt_at a0 x3_1
            replace p4:=eq_true p4
            replace q4:=eq_true q4
            go_wp2
            go_roundg k1
            case measure => have:=HK1.out;omega
            case rel => exact ⟨(wrap64 (x3_1 + 1)),(by first | rfl | (simp;done) | (simp [*];done)),H',⟨by have:=HK1.out;omega⟩,by repeat (first | exact us.refl _ | apply us.step)⟩
          · rw [if_neg c6] at H
            have c6b0:decide ((bt a0 x3_1) ≤ 122) = false:=decide_eq_false c6
            clear c6
            by_cases c7:(bt a0 x3_1) ≥ 65
            · rw [if_pos c7] at H
              have c7b0:decide (65 ≤ (bt a0 x3_1)) = true:=decide_eq_true c7
              clear c7
              by_cases c8:(bt a0 x3_1) ≤ 90
              · rw [if_pos c8] at H
                have c8b0:decide ((bt a0 x3_1) ≤ 90) = true:=decide_eq_true c8
                clear c8
                have H':=Aside0.mk H
                clear H
                have p4:0 ≤ (x3_1:Int):=of_decide_eq_true (by first | (with_reducible assumption) | assumption)
                have q4:x3_1 < (a0.size:Int):=of_decide_eq_true (by first | (with_reducible assumption) | assumption)
                have hx4:=bt_at a0 x3_1
                replace p4:=eq_true p4
                replace q4:=eq_true q4
                go_wp2
                go_roundg k1
                case measure => have:=HK1.out;omega
                case rel => exact ⟨(wrap64 (x3_1 + 1)),(by first | rfl | (simp;done) | (simp [*];done)),H',⟨by have:=HK1.out;omega⟩,by repeat (first | exact us.refl _ | apply us.step)⟩
              · rw [if_neg c8] at H
                have c8b0:decide ((bt a0 x3_1) ≤ 90) = false:=decide_eq_false c8
                clear c8
                by_cases c9:((bt a0 x3_1) = 95)
                · rw [if_pos c9] at H
                  have c9b0:((bt a0 x3_1) == 95) = true:=beq_iff_eq.mpr c9
                  have c9b1:((bt a0 x3_1) != 95) = false:=bne_eq_false_iff_eq.mpr c9
                  clear c9
                  have H':=Aside0.mk H
                  clear H
                  have p4:0 ≤ (x3_1:Int):=of_decide_eq_true (by first | (with_reducible assumption) | assumption)
                  have q4:x3_1 < (a0.size:Int):=of_decide_eq_true (by first | (with_reducible assumption) | assumption)
                  have hx4:=bt_at a0 x3_1
                  replace p4:=eq_true p4
                  replace q4:=eq_true q4
                  go_wp2
                  go_roundg k1
                  case measure => have:=HK1.out;omega
                  case rel => exact ⟨(wrap64 (x3_1 + 1)),(by first | rfl | (simp;done) | (simp [*];done)),H',⟨by have:=HK1.out;omega⟩,by repeat (first | exact us.refl _ | apply us.step)⟩
                · rw [if_neg c9] at H
                  have c9b0:((bt a0 x3_1) == 95) = false:=beq_eq_false_iff_ne.mpr c9
                  have c9b1:((bt a0 x3_1) != 95) = true:=bne_iff_ne.mpr c9
                  by_cases c10:x3_1 = 0
                  · rw [if_pos c10] at H
                    have c10b0:(x3_1 == 0) = true:=beq_iff_eq.mpr c10
                    have c10b1:(x3_1 != 0) = false:=bne_eq_false_iff_eq.mpr c10
                    clear c10
                    obtain rfl:=Option.some.inj H
                    have p4:0 ≤ (x3_1:Int):=of_decide_eq_true (by first | (with_reducible assumption) | assumption)
                    have q4:x3_1 < (a0.size:Int):=of_decide_eq_true (by first | (with_reducible assumption) | assumption)
                    have hx4:=bt_at a0 x3_1
                    replace p4:=eq_true p4
                    replace q4:=eq_true q4
                    go_wp2
                    go_ret
                    exact ⟨by first | rfl | (simp;done) | (simp [*];done),by repeat (first | exact us.refl _ | apply us.step)⟩
                  · rw [if_neg c10] at H
                    have c10b0:(x3_1 == 0) = false:=beq_eq_false_iff_ne.mpr c10
                    have c10b1:(x3_1 != 0) = true:=bne_iff_ne.mpr c10
                    by_cases c11:(bt a0 x3_1) < 48
                    · rw [if_pos c11] at H
                      have c11b0:decide ((bt a0 x3_1) < 48) = true:=decide_eq_true c11
                      clear c11
                      obtain rfl:=Option.some.inj H
                      have p4:0 ≤ (x3_1:Int):=of_decide_eq_true (by first | (with_reducible assumption) | assumption)
                      have q4:x3_1 < (a0.size:Int):=of_decide_eq_true (by first | (with_reducible assumption) | assumption)
                      have hx4:=bt_at a0 x3_1
                      replace p4:=eq_true p4
                      replace q4:=eq_true q4
                      go_wp2
                      go_ret
                      exact ⟨by first | rfl | (simp;done) | (simp [*];done),by repeat (first | exact us.refl _ | apply us.step)⟩
                    · rw [if_neg c11] at H
                      have c11b0:decide ((bt a0 x3_1) < 48) = false:=decide_eq_false c11
                      clear c11
                      by_cases c12:(bt a0 x3_1) > 57
                      · rw [if_pos c12] at H
                        have c12b0:decide (57 < (bt a0 x3_1)) = true:=decide_eq_true c12
                        clear c12
                        obtain rfl:=Option.some.inj H
                        have p4:0 ≤ (x3_1:Int):=of_decide_eq_true (by first | (with_reducible assumption) | assumption)
                        have q4:x3_1 < (a0.size:Int):=of_decide_eq_true (by first | (with_reducible assumption) | assumption)
                        have hx4:=bt_at a0 x3_1
                        replace p4:=eq_true p4
                        replace q4:=eq_true q4
                        go_wp2
                        go_ret
                        exact ⟨by first | rfl | (simp;done) | (simp [*];done),by repeat (first | exact us.refl _ | apply us.step)⟩
                      · rw [if_neg c12] at H
                        have c12b0:decide (57 < (bt a0 x3_1)) = false:=decide_eq_false c12
                        clear c12
                        have H':=Aside0.mk H
                        clear H
                        have p4:0 ≤ (x3_1:Int):=of_decide_eq_true (by first | (with_reducible assumption) | assumption)
                        have q4:x3_1 < (a0.size:Int):=of_decide_eq_true (by first | (with_reducible assumption) | assumption)
                        have hx4:=bt_at a0 x3_1
                        replace p4:=eq_true p4
                        replace q4:=eq_true q4
                        go_wp2
                        go_roundg k1
                        case measure => have:=HK1.out;omega
                        case rel => exact ⟨(wrap64 (x3_1 + 1)),(by first | rfl | (simp;done) | (simp [*];done)),H',⟨by have:=HK1.out;omega⟩,by repeat (first | exact us.refl _ | apply us.step)⟩
            · rw [if_neg c7] at H
              have c7b0:decide (65 ≤ (bt a0 x3_1)) = false:=decide_eq_false c7
              clear c7
              by_cases c13:((bt a0 x3_1) = 95)
              · rw [if_pos c13] at H
                have c13b0:((bt a0 x3_1) == 95) = true:=beq_iff_eq.mpr c13
                have c13b1:((bt a0 x3_1) != 95) = false:=bne_eq_false_iff_eq.mpr c13
                clear c13
                have H':=Aside0.mk H
                clear H
                have p4:0 ≤ (x3_1:Int):=of_decide_eq_true (by first | (with_reducible assumption) | assumption)
                have q4:x3_1 < (a0.size:Int):=of_decide_eq_true (by first | (with_reducible assumption) | assumption)
                have hx4:=bt_at a0 x3_1
                replace p4:=eq_true p4
                replace q4:=eq_true q4
                go_wp2
                go_roundg k1
                case measure => have:=HK1.out;omega
                case rel => exact ⟨(wrap64 (x3_1 + 1)),(by first | rfl | (simp;done) | (simp [*];done)),H',⟨by have:=HK1.out;omega⟩,by repeat (first | exact us.refl _ | apply us.step)⟩
              · rw [if_neg c13] at H
                have c13b0:((bt a0 x3_1) == 95) = false:=beq_eq_false_iff_ne.mpr c13
                have c13b1:((bt a0 x3_1) != 95) = true:=bne_iff_ne.mpr c13
                by_cases c14:x3_1 = 0
                · rw [if_pos c14] at H
                  have c14b0:(x3_1 == 0) = true:=beq_iff_eq.mpr c14
                  have c14b1:(x3_1 != 0) = false:=bne_eq_false_iff_eq.mpr c14
                  clear c14
                  obtain rfl:=Option.some.inj H
                  have p4:0 ≤ (x3_1:Int):=of_decide_eq_true (by first | (with_reducible assumption) | assumption)
                  have q4:x3_1 < (a0.size:Int):=of_decide_eq_true (by first | (with_reducible assumption) | assumption)
                  have hx4:=bt_at a0 x3_1
                  replace p4:=eq_true p4
                  replace q4:=eq_true q4
                  go_wp2
                  go_ret
                  exact ⟨by first | rfl | (simp;done) | (simp [*];done),by repeat (first | exact us.refl _ | apply us.step)⟩
                · rw [if_neg c14] at H
                  have c14b0:(x3_1 == 0) = false:=beq_eq_false_iff_ne.mpr c14
                  have c14b1:(x3_1 != 0) = true:=bne_iff_ne.mpr c14
                  by_cases c15:(bt a0 x3_1) < 48
                  · rw [if_pos c15] at H
                    have c15b0:decide ((bt a0 x3_1) < 48) = true:=decide_eq_true c15
                    clear c15
                    obtain rfl:=Option.some.inj H
                    have p4:0 ≤ (x3_1:Int):=of_decide_eq_true (by first | (with_reducible assumption) | assumption)
                    have q4:x3_1 < (a0.size:Int):=of_decide_eq_true (by first | (with_reducible assumption) | assumption)
                    have hx4:=bt_at a0 x3_1
                    replace p4:=eq_true p4
                    replace q4:=eq_true q4
                    go_wp2
                    go_ret
                    exact ⟨by first | rfl | (simp;done) | (simp [*];done),by repeat (first | exact us.refl _ | apply us.step)⟩
                  · rw [if_neg c15] at H
                    have c15b0:decide ((bt a0 x3_1) < 48) = false:=decide_eq_false c15
                    clear c15
                    by_cases c16:(bt a0 x3_1) > 57
                    · rw [if_pos c16] at H
                      have c16b0:decide (57 < (bt a0 x3_1)) = true:=decide_eq_true c16
                      clear c16
                      obtain rfl:=Option.some.inj H
                      have p4:0 ≤ (x3_1:Int):=of_decide_eq_true (by first | (with_reducible assumption) | assumption)
                      have q4:x3_1 < (a0.size:Int):=of_decide_eq_true (by first | (with_reducible assumption) | assumption)
                      have hx4:=bt_at a0 x3_1
                      replace p4:=eq_true p4
                      replace q4:=eq_true q4
                      go_wp2
                      go_ret
                      exact ⟨by first | rfl | (simp;done) | (simp [*];done),by repeat (first | exact us.refl _ | apply us.step)⟩
                    · rw [if_neg c16] at H
                      have c16b0:decide (57 < (bt a0 x3_1)) = false:=decide_eq_false c16
                      clear c16
                      have H':=Aside0.mk H
                      clear H
                      have p4:0 ≤ (x3_1:Int):=of_decide_eq_true (by first | (with_reducible assumption) | assumption)
                      have q4:x3_1 < (a0.size:Int):=of_decide_eq_true (by first | (with_reducible assumption) | assumption)
                      have hx4:=bt_at a0 x3_1
                      replace p4:=eq_true p4
                      replace q4:=eq_true q4
                      go_wp2
                      go_roundg k1
                      case measure => have:=HK1.out;omega
                      case rel => exact ⟨(wrap64 (x3_1 + 1)),(by first | rfl | (simp;done) | (simp [*];done)),H',⟨by have:=HK1.out;omega⟩,by repeat (first | exact us.refl _ | apply us.step)⟩
        · rw [if_neg c5] at H
          have c5b0:decide (97 ≤ (bt a0 x3_1)) = false:=decide_eq_false c5
          clear c5
          by_cases c17:(bt a0 x3_1) ≥ 65
          · rw [if_pos c17] at H
            have c17b0:decide (65 ≤ (bt a0 x3_1)) = true:=decide_eq_true c17
            clear c17
            by_cases c18:(bt a0 x3_1) ≤ 90
            · rw [if_pos c18] at H
              have c18b0:decide ((bt a0 x3_1) ≤ 90) = true:=decide_eq_true c18
              clear c18
              have H':=Aside0.mk H
              clear H
              have p4:0 ≤ (x3_1:Int):=of_decide_eq_true (by first | (with_reducible assumption) | assumption)
              have q4:x3_1 < (a0.size:Int):=of_decide_eq_true (by first | (with_reducible assumption) | assumption)
              have hx4:=bt_at a0 x3_1
              replace p4:=eq_true p4
              replace q4:=eq_true q4
              go_wp2
              go_roundg k1
              case measure => have:=HK1.out;omega
              case rel => exact ⟨(wrap64 (x3_1 + 1)),(by first | rfl | (simp;done) | (simp [*];done)),H',⟨by have:=HK1.out;omega⟩,by repeat (first | exact us.refl _ | apply us.step)⟩
            · rw [if_neg c18] at H
              have c18b0:decide ((bt a0 x3_1) ≤ 90) = false:=decide_eq_false c18
              clear c18
              by_cases c19:((bt a0 x3_1) = 95)
              · rw [if_pos c19] at H
                have c19b0:((bt a0 x3_1) == 95) = true:=beq_iff_eq.mpr c19
                have c19b1:((bt a0 x3_1) != 95) = false:=bne_eq_false_iff_eq.mpr c19
                clear c19
                have H':=Aside0.mk H
                clear H
                have p4:0 ≤ (x3_1:Int):=of_decide_eq_true (by first | (with_reducible assumption) | assumption)
                have q4:x3_1 < (a0.size:Int):=of_decide_eq_true (by first | (with_reducible assumption) | assumption)
                have hx4:=bt_at a0 x3_1
                replace p4:=eq_true p4
                replace q4:=eq_true q4
                go_wp2
                go_roundg k1
                case measure => have:=HK1.out;omega
                case rel => exact ⟨(wrap64 (x3_1 + 1)),(by first | rfl | (simp;done) | (simp [*];done)),H',⟨by have:=HK1.out;omega⟩,by repeat (first | exact us.refl _ | apply us.step)⟩
              · rw [if_neg c19] at H
                have c19b0:((bt a0 x3_1) == 95) = false:=beq_eq_false_iff_ne.mpr c19
                have c19b1:((bt a0 x3_1) != 95) = true:=bne_iff_ne.mpr c19
                by_cases c20:x3_1 = 0
                · rw [if_pos c20] at H
                  have c20b0:(x3_1 == 0) = true:=beq_iff_eq.mpr c20
                  have c20b1:(x3_1 != 0) = false:=bne_eq_false_iff_eq.mpr c20
                  clear c20
                  obtain rfl:=Option.some.inj H
                  have p4:0 ≤ (x3_1:Int):=of_decide_eq_true (by first | (with_reducible assumption) | assumption)
                  have q4:x3_1 < (a0.size:Int):=of_decide_eq_true (by first | (with_reducible assumption) | assumption)
                  have hx4:=bt_at a0 x3_1
                  replace p4:=eq_true p4
                  replace q4:=eq_true q4
                  go_wp2
                  go_ret
                  exact ⟨by first | rfl | (simp;done) | (simp [*];done),by repeat (first | exact us.refl _ | apply us.step)⟩
                · rw [if_neg c20] at H
                  have c20b0:(x3_1 == 0) = false:=beq_eq_false_iff_ne.mpr c20
                  have c20b1:(x3_1 != 0) = true:=bne_iff_ne.mpr c20
                  by_cases c21:(bt a0 x3_1) < 48
                  · rw [if_pos c21] at H
                    have c21b0:decide ((bt a0 x3_1) < 48) = true:=decide_eq_true c21
                    clear c21
                    obtain rfl:=Option.some.inj H
                    have p4:0 ≤ (x3_1:Int):=of_decide_eq_true (by first | (with_reducible assumption) | assumption)
                    have q4:x3_1 < (a0.size:Int):=of_decide_eq_true (by first | (with_reducible assumption) | assumption)
                    have hx4:=bt_at a0 x3_1
                    replace p4:=eq_true p4
                    replace q4:=eq_true q4
                    go_wp2
                    go_ret
                    exact ⟨by first | rfl | (simp;done) | (simp [*];done),by repeat (first | exact us.refl _ | apply us.step)⟩
                  · rw [if_neg c21] at H
                    have c21b0:decide ((bt a0 x3_1) < 48) = false:=decide_eq_false c21
                    clear c21
                    by_cases c22:(bt a0 x3_1) > 57
                    · rw [if_pos c22] at H
                      have c22b0:decide (57 < (bt a0 x3_1)) = true:=decide_eq_true c22
                      clear c22
                      obtain rfl:=Option.some.inj H
                      have p4:0 ≤ (x3_1:Int):=of_decide_eq_true (by first | (with_reducible assumption) | assumption)
                      have q4:x3_1 < (a0.size:Int):=of_decide_eq_true (by first | (with_reducible assumption) | assumption)
                      have hx4:=bt_at a0 x3_1
                      replace p4:=eq_true p4
                      replace q4:=eq_true q4
                      go_wp2
                      go_ret
                      exact ⟨by first | rfl | (simp;done) | (simp [*];done),by repeat (first | exact us.refl _ | apply us.step)⟩
                    · rw [if_neg c22] at H
                      have c22b0:decide (57 < (bt a0 x3_1)) = false:=decide_eq_false c22
                      clear c22
                      have H':=Aside0.mk H
                      clear H
                      have p4:0 ≤ (x3_1:Int):=of_decide_eq_true (by first | (with_reducible assumption) | assumption)
                      have q4:x3_1 < (a0.size:Int):=of_decide_eq_true (by first | (with_reducible assumption) | assumption)
                      have hx4:=bt_at a0 x3_1
                      replace p4:=eq_true p4
                      replace q4:=eq_true q4
                      go_wp2
                      go_roundg k1
                      case measure => have:=HK1.out;omega
                      case rel => exact ⟨(wrap64 (x3_1 + 1)),(by first | rfl | (simp;done) | (simp [*];done)),H',⟨by have:=HK1.out;omega⟩,by repeat (first | exact us.refl _ | apply us.step)⟩
          · rw [if_neg c17] at H
            have c17b0:decide (65 ≤ (bt a0 x3_1)) = false:=decide_eq_false c17
            clear c17
            by_cases c23:((bt a0 x3_1) = 95)
            · rw [if_pos c23] at H
              have c23b0:((bt a0 x3_1) == 95) = true:=beq_iff_eq.mpr c23
              have c23b1:((bt a0 x3_1) != 95) = false:=bne_eq_false_iff_eq.mpr c23
              clear c23
              have H':=Aside0.mk H
              clear H
              have p4:0 ≤ (x3_1:Int):=of_decide_eq_true (by first | (with_reducible assumption) | assumption)
              have q4:x3_1 < (a0.size:Int):=of_decide_eq_true (by first | (with_reducible assumption) | assumption)
              have hx4:=bt_at a0 x3_1
              replace p4:=eq_true p4
              replace q4:=eq_true q4
              go_wp2
              go_roundg k1
              case measure => have:=HK1.out;omega
              case rel => exact ⟨(wrap64 (x3_1 + 1)),(by first | rfl | (simp;done) | (simp [*];done)),H',⟨by have:=HK1.out;omega⟩,by repeat (first | exact us.refl _ | apply us.step)⟩
            · rw [if_neg c23] at H
              have c23b0:((bt a0 x3_1) == 95) = false:=beq_eq_false_iff_ne.mpr c23
              have c23b1:((bt a0 x3_1) != 95) = true:=bne_iff_ne.mpr c23
              by_cases c24:x3_1 = 0
              · rw [if_pos c24] at H
                have c24b0:(x3_1 == 0) = true:=beq_iff_eq.mpr c24
                have c24b1:(x3_1 != 0) = false:=bne_eq_false_iff_eq.mpr c24
                clear c24
                obtain rfl:=Option.some.inj H
                have p4:0 ≤ (x3_1:Int):=of_decide_eq_true (by first | (with_reducible assumption) | assumption)
                have q4:x3_1 < (a0.size:Int):=of_decide_eq_true (by first | (with_reducible assumption) | assumption)
                have hx4:=bt_at a0 x3_1
                replace p4:=eq_true p4
                replace q4:=eq_true q4
                go_wp2
                go_ret
                exact ⟨by first | rfl | (simp;done) | (simp [*];done),by repeat (first | exact us.refl _ | apply us.step)⟩
              · rw [if_neg c24] at H
                have c24b0:(x3_1 == 0) = false:=beq_eq_false_iff_ne.mpr c24
                have c24b1:(x3_1 != 0) = true:=bne_iff_ne.mpr c24
                by_cases c25:(bt a0 x3_1) < 48
                · rw [if_pos c25] at H
                  have c25b0:decide ((bt a0 x3_1) < 48) = true:=decide_eq_true c25
                  clear c25
                  obtain rfl:=Option.some.inj H
                  have p4:0 ≤ (x3_1:Int):=of_decide_eq_true (by first | (with_reducible assumption) | assumption)
                  have q4:x3_1 < (a0.size:Int):=of_decide_eq_true (by first | (with_reducible assumption) | assumption)
                  have hx4:=bt_at a0 x3_1
                  replace p4:=eq_true p4
                  replace q4:=eq_true q4
                  go_wp2
                  go_ret
                  exact ⟨by first | rfl | (simp;done) | (simp [*];done),by repeat (first | exact us.refl _ | apply us.step)⟩
                · rw [if_neg c25] at H
                  have c25b0:decide ((bt a0 x3_1) < 48) = false:=decide_eq_false c25
                  clear c25
                  by_cases c26:(bt a0 x3_1) > 57
                  · rw [if_pos c26] at H
                    have c26b0:decide (57 < (bt a0 x3_1)) = true:=decide_eq_true c26
                    clear c26
                    obtain rfl:=Option.some.inj H
                    have p4:0 ≤ (x3_1:Int):=of_decide_eq_true (by first | (with_reducible assumption) | assumption)
                    have q4:x3_1 < (a0.size:Int):=of_decide_eq_true (by first | (with_reducible assumption) | assumption)
                    have hx4:=bt_at a0 x3_1
                    replace p4:=eq_true p4
                    replace q4:=eq_true q4
                    go_wp2
                    go_ret
                    exact ⟨by first | rfl | (simp;done) | (simp [*];done),by repeat (first | exact us.refl _ | apply us.step)⟩
                  · rw [if_neg c26] at H
                    have c26b0:decide (57 < (bt a0 x3_1)) = false:=decide_eq_false c26
                    clear c26
                    have H':=Aside0.mk H
                    clear H
                    have p4:0 ≤ (x3_1:Int):=of_decide_eq_true (by first | (with_reducible assumption) | assumption)
                    have q4:x3_1 < (a0.size:Int):=of_decide_eq_true (by first | (with_reducible assumption) | assumption)
                    have hx4:=bt_at a0 x3_1
                    replace p4:=eq_true p4
                    replace q4:=eq_true q4
                    go_wp2
                    go_roundg k1
                    case measure => have:=HK1.out;omega
                    case rel => exact ⟨(wrap64 (x3_1 + 1)),(by first | rfl | (simp;done) | (simp [*];done)),H',⟨by have:=HK1.out;omega⟩,by repeat (first | exact us.refl _ | apply us.step)⟩
      · rw [if_neg c3] at H
        exact absurd H (by simp)
    · rw [if_neg c2] at H
      have c2b0:decide (x3_1 < (a0.size:Int)) = false:=decide_eq_false c2
      clear c2
      by_cases c27:(a0.size:Int) ≥ 1
      · rw [if_pos c27] at H
        have c27b0:decide (1 ≤ (a0.size:Int)) = true:=decide_eq_true c27
        have c27b1:decide (1 ≤ a0.size) = true:=decide_eq_true (by omega)
        clear c27
        obtain rfl:=Option.some.inj H
        go_wp2
        go_ret
        exact ⟨by first | rfl | (simp;done) | (simp [*];done),by repeat (first | exact us.refl _ | apply us.step)⟩
      · rw [if_neg c27] at H
        have c27b0:decide (1 ≤ (a0.size:Int)) = false:=decide_eq_false c27
        have c27b1:decide (1 ≤ a0.size) = false:=decide_eq_false (by omega)
        clear c27
        obtain rfl:=Option.some.inj H
        go_wp2
        go_ret
        exact ⟨by first | rfl | (simp;done) | (simp [*];done),by repeat (first | exact us.refl _ | apply us.step)⟩
def u1t.l0:Nat → ByteArray → Int → Option (ByteArray × ByteArray)
 | 0,_,_ => none
 | k + 1,x0,x4 => if x4 < (x0.size:Int) then (if 0 ≤ x4 then (if x4 ≤ (wrap64 (x4 + 1)) then (if (wrap64 (x4 + 1)) ≤ (x0.size:Int) then (if 1 + (x0.extract (x4:Int).toNat ((wrap64 (x4 + 1)):Int).toNat).size ≤ 9223372036854775807 then ((uy.f k ((⟨#[97]⟩:ByteArray) ++ (x0.extract (x4:Int).toNat ((wrap64 (x4 + 1)):Int).toNat))).bind fun t109 => (if t109 = true then (u1t.l0 k x0 (wrap64 (x4 + 1))) else (if x4 ≤ (x0.size:Int) then (some (x0.extract 0 (x4:Int).toNat,x0.extract (x4:Int).toNat x0.size)) else (none)))) else (none)) else (none)) else (none)) else (none)) else (if 0 ≤ x4 then (if x4 ≤ (x0.size:Int) then (some (x0.extract 0 (x4:Int).toNat,x0.extract (x4:Int).toNat x0.size)) else (none)) else (none))
def u1t.f (k:Nat) (a0:ByteArray):Option (ByteArray × ByteArray):=u1t.l0 k a0 0
set_option maxHeartbeats 8000000 in
set_option maxRecDepth 100000 in
theorem u1t.calls (k:Nat) (a0:ByteArray) (r1:ByteArray) (r2:ByteArray) (w:World) (h:u1t.f k a0 = some (r1,r2)) :
 Calls Tryd.prog 65 #[.string a0] w fun e w' => e = .returned (.tuple #[.string r1,.string r2]) ∧ us w w':=by
 have H:(u1t.l0 k a0 0) = some (r1,r2):=h
 clear h
 have H':=Aside0.mk H
 clear H
 go_enter Tryd.func65,Tryd.ntmps65
 go_wp2
 repeat (go_quiet (fail);try go_wp2)
 go_loopg [4] k (fun kq v4 w' => ∃ (x4_1:Int),v4 = .int .i64 x4_1 ∧ Aside0 (u1t.l0 kq a0 x4_1 = some (r1,r2)) ∧ Aside0 (kq ≤ k) ∧ us w w')
 case atStart => exact ⟨(0),(by first | rfl | (simp;done) | (simp [*];done)),H',⟨Nat.le_refl _⟩,by repeat (first | exact us.refl _ | apply us.step)⟩
 case round =>
  clear H'
  obtain ⟨x4_1,rfl,HA,HK1,⟨m1,rfl⟩⟩:=hrel
  cases gk with
  | zero => exact absurd HA.out (by simp [u1t.l0])
  | succ k1 =>
    have H:=HA.out
    clear HA
    simp only [u1t.l0] at H
    by_cases c2:x4_1 < (a0.size:Int)
    · rw [if_pos c2] at H
      have c2b0:decide (x4_1 < (a0.size:Int)) = true:=decide_eq_true c2
      clear c2
      by_cases c3:0 ≤ x4_1
      · rw [if_pos c3] at H
        have c3b0:=eq_true c3
        have c3b1:decide (0 ≤ x4_1) = true:=decide_eq_true c3
        clear c3
        by_cases c4:x4_1 ≤ (wrap64 (x4_1 + 1))
        · rw [if_pos c4] at H
          have c4b0:=eq_true c4
          have c4b1:decide (x4_1 ≤ (wrap64 (x4_1 + 1))) = true:=decide_eq_true c4
          by_cases c5:(wrap64 (x4_1 + 1)) ≤ (a0.size:Int)
          · rw [if_pos c5] at H
            have c5b0:=eq_true c5
            have c5b1:decide ((wrap64 (x4_1 + 1)) ≤ (a0.size:Int)) = true:=decide_eq_true c5
            by_cases c6:1 + (a0.extract (x4_1:Int).toNat ((wrap64 (x4_1 + 1)):Int).toNat).size ≤ 9223372036854775807
            · rw [if_pos c6] at H
              have c6b0:=eq_true c6
              have c6b1:decide (1 + (a0.extract (x4_1:Int).toNat ((wrap64 (x4_1 + 1)):Int).toNat).size ≤ 9223372036854775807) = true:=decide_eq_true c6
              try have c6b2:(9223372036854775807 < 1 + (a0.extract (x4_1:Int).toNat ((wrap64 (x4_1 + 1)):Int).toNat).size) = False:=eq_false (Nat.not_lt.2 c6)
              try (have c6b3:=c6b2;simp only [ByteArray.size_append,Base.size1] at c6b3)
              try (have c6b4:(9223372036854775807 < 1 + (((wrap64 (x4_1 + 1))).toNat - (x4_1).toNat)) = False:=eq_false (by have h4_:=c6;simp only [ByteArray.size_extract,ByteArray.size_append,Base.size1] at h4_;omega))
              replace H:=Option.bind_eq_some_iff.mp H
              obtain ⟨t109,A70,H⟩:=H
              replace H:(if t109 = true then (u1t.l0 k1 a0 (wrap64 (x4_1 + 1))) else (if x4_1 ≤ (a0.size:Int) then (some (a0.extract 0 (x4_1:Int).toNat,a0.extract (x4_1:Int).toNat a0.size)) else (none))) = some (r1,r2):=H
              have A7:=Aside0.mk A70
              clear A70
              by_cases c8:t109 = true
              · subst c8
                have H1:(u1t.l0 k1 a0 (wrap64 (x4_1 + 1))) = some (r1,r2):=by rw [if_pos rfl] at H;exact H
                clear H
                have H:=H1
                clear H1
                have H':=Aside0.mk H
                clear H
                go_wp2_with (first | (go_at_call 18;(with_reducible refine (uy.calls k1 ((⟨#[97]⟩:ByteArray) ++ (a0.extract (x4_1:Int).toNat ((wrap64 (x4_1 + 1)):Int).toNat)) true _ A7.out).mono ?_);rintro e w' ⟨rfl,⟨nd,rfl⟩⟩;(try first | exact ⟨rfl,_,World.drewN_drewN _ _ _⟩ | exact ⟨rfl,_,Eq.trans (World.drewN_drewN _ _ _) (congrArg (World.drewN _) (Nat.add_assoc _ _ _))⟩)))
                repeat (go_quiet (first | (go_at_call 18;(with_reducible refine (uy.calls k1 ((⟨#[97]⟩:ByteArray) ++ (a0.extract (x4_1:Int).toNat ((wrap64 (x4_1 + 1)):Int).toNat)) true _ A7.out).mono ?_);rintro e w' ⟨rfl,⟨nd,rfl⟩⟩;(try first | exact ⟨rfl,_,World.drewN_drewN _ _ _⟩ | exact ⟨rfl,_,Eq.trans (World.drewN_drewN _ _ _) (congrArg (World.drewN _) (Nat.add_assoc _ _ _))⟩)));try go_wp2_with (first | (go_at_call 18;(with_reducible refine (uy.calls k1 ((⟨#[97]⟩:ByteArray) ++ (a0.extract (x4_1:Int).toNat ((wrap64 (x4_1 + 1)):Int).toNat)) true _ A7.out).mono ?_);rintro e w' ⟨rfl,⟨nd,rfl⟩⟩;(try first | exact ⟨rfl,_,World.drewN_drewN _ _ _⟩ | exact ⟨rfl,_,Eq.trans (World.drewN_drewN _ _ _) (congrArg (World.drewN _) (Nat.add_assoc _ _ _))⟩))))
                go_roundg k1
                case measure => have:=HK1.out;omega
                case rel => exact ⟨(wrap64 (x4_1 + 1)),(by first | rfl | (simp;done) | (simp [*];done)),H',⟨by have:=HK1.out;omega⟩,by repeat (first | exact us.refl _ | apply us.step)⟩
              · replace c8:=Bool.eq_false_iff.mpr c8
                subst c8
                have H1:(if x4_1 ≤ (a0.size:Int) then (some (a0.extract 0 (x4_1:Int).toNat,a0.extract (x4_1:Int).toNat a0.size)) else (none)) = some (r1,r2):=by rw [if_neg (show ¬ (false = true) by decide)] at H;exact H
                clear H
                have H:=H1
                clear H1
                have c9b0:=eq_true (of_decide_eq_true (by first | (with_reducible assumption) | assumption):0 ≤ x4_1)
                by_cases c10:x4_1 ≤ (a0.size:Int)
                · rw [if_pos c10] at H
                  have c10b0:=eq_true c10
                  have c10b1:decide (x4_1 ≤ (a0.size:Int)) = true:=decide_eq_true c10
                  clear c10
                  have c11b0:=eq_true (of_decide_eq_true (by first | (with_reducible assumption) | assumption):0 ≤ x4_1)
                  have c12b0:=eq_true (of_decide_eq_true (by first | (with_reducible assumption) | assumption):x4_1 ≤ (a0.size:Int))
                  simp only [Option.some.injEq,Prod.mk.injEq] at H
                  obtain ⟨rfl,rfl⟩:=H
                  go_wp2_with (first | (go_at_call 18;(with_reducible refine (uy.calls k1 ((⟨#[97]⟩:ByteArray) ++ (a0.extract (x4_1:Int).toNat ((wrap64 (x4_1 + 1)):Int).toNat)) false _ A7.out).mono ?_);rintro e w' ⟨rfl,⟨nd,rfl⟩⟩;(try first | exact ⟨rfl,_,World.drewN_drewN _ _ _⟩ | exact ⟨rfl,_,Eq.trans (World.drewN_drewN _ _ _) (congrArg (World.drewN _) (Nat.add_assoc _ _ _))⟩)))
                  repeat (go_quiet (first | (go_at_call 18;(with_reducible refine (uy.calls k1 ((⟨#[97]⟩:ByteArray) ++ (a0.extract (x4_1:Int).toNat ((wrap64 (x4_1 + 1)):Int).toNat)) false _ A7.out).mono ?_);rintro e w' ⟨rfl,⟨nd,rfl⟩⟩;(try first | exact ⟨rfl,_,World.drewN_drewN _ _ _⟩ | exact ⟨rfl,_,Eq.trans (World.drewN_drewN _ _ _) (congrArg (World.drewN _) (Nat.add_assoc _ _ _))⟩)));try go_wp2_with (first | (go_at_call 18;(with_reducible refine (uy.calls k1 ((⟨#[97]⟩:ByteArray) ++ (a0.extract (x4_1:Int).toNat ((wrap64 (x4_1 + 1)):Int).toNat)) false _ A7.out).mono ?_);rintro e w' ⟨rfl,⟨nd,rfl⟩⟩;(try first | exact ⟨rfl,_,World.drewN_drewN _ _ _⟩ | exact ⟨rfl,_,Eq.trans (World.drewN_drewN _ _ _) (congrArg (World.drewN _) (Nat.add_assoc _ _ _))⟩))))
                  go_ret2
                  exact ⟨by first | rfl | (simp;done) | (simp [*];done),by repeat (first | exact us.refl _ | apply us.step)⟩
                · rw [if_neg c10] at H
                  exact absurd H (by simp)
            · rw [if_neg c6] at H
              exact absurd H (by simp)
          · rw [if_neg c5] at H
            exact absurd H (by simp)
        · rw [if_neg c4] at H
          exact absurd H (by simp)
      · rw [if_neg c3] at H
        exact absurd H (by simp)
    · rw [if_neg c2] at H
      have c2b0:decide (x4_1 < (a0.size:Int)) = false:=decide_eq_false c2
      clear c2
      by_cases c13:0 ≤ x4_1
      · rw [if_pos c13] at H
        have c13b0:=eq_true c13
        have c13b1:decide (0 ≤ x4_1) = true:=decide_eq_true c13
        clear c13
        by_cases c14:x4_1 ≤ (a0.size:Int)
        · rw [if_pos c14] at H
          have c14b0:=eq_true c14
          have c14b1:decide (x4_1 ≤ (a0.size:Int)) = true:=decide_eq_true c14
          clear c14
          have c15b0:=eq_true (of_decide_eq_true (by first | (with_reducible assumption) | assumption):0 ≤ x4_1)
          have c16b0:=eq_true (of_decide_eq_true (by first | (with_reducible assumption) | assumption):x4_1 ≤ (a0.size:Int))
          simp only [Option.some.injEq,Prod.mk.injEq] at H
          obtain ⟨rfl,rfl⟩:=H
          go_wp2
          repeat (go_quiet (fail);try go_wp2)
          go_ret2
          exact ⟨by first | rfl | (simp;done) | (simp [*];done),by repeat (first | exact us.refl _ | apply us.step)⟩
        · rw [if_neg c14] at H
          exact absurd H (by simp)
      · rw [if_neg c13] at H
        exact absurd H (by simp)
mutual
def u2e.j0:Nat → List (S37) → Bool → Option (Bool)
 | 0,_,_ => none
 | k + 1,x0,x13 => if x13 = true then (some false) else (u2e.l0 k (⟨#[]⟩:ByteArray) x0 (x0.length:Int) 0)
def u2e.l0:Nat → ByteArray → List (S37) → Int → Int → Option (Bool)
 | 0,_,_,_,_ => none
 | k + 1,x3,x14,x15,x16 => if x16 < x15 then (if 0 ≤ x16 then (if x16 < (x14.length:Int) then ((u1z.f ((u2b x14 x16).f0)).bind fun t107 => (if t107 = true then ((u3a.f ((u2b x14 x16).f1)).bind fun t108 => (if t108 = true then (if ((Op.bytesLess x3.toList (((u2b x14 x16).f0).toList)) = true) then (u2e.l0 k ((u2b x14 x16).f0) x14 x15 (wrap64 (x16 + 1))) else (some false)) else (some false))) else (some false))) else (none)) else (none)) else (some true)
end
def u2e.f (k:Nat) (l0:List (S37)):Option (Bool):=if (l0.length:Int) = 0 then (u2e.j0 k l0 true) else (u2e.j0 k l0 (decide ((l0.length:Int) > 8)))
set_option maxHeartbeats 8000000 in
set_option maxRecDepth 100000 in
theorem u2e.calls (k:Nat) (A0:Option Addr) (c0:Nat) (l0:List (S37)) (r:Bool) (w:World) (hr0:Kd.C k37 w A0 l0.length l0) (hc0:l0.length ≤ c0) (h:u2e.f k l0 = some r) :
 Calls Tryd.prog 60 #[.slice A0 l0.length c0] w fun e w' => e = .returned (.bool r) ∧ Below w.heap.size w w':=by
 have hu37:=Tryd.underlying37
 have HR0:=Aside0.mk hr0
 have HC0:=Aside0.mk hc0
 clear hr0 hc0
 have HB:=Aside0.mk (Below.refl w.heap.size w)
 have H:(if (l0.length:Int) = 0 then (u2e.j0 k l0 true) else (u2e.j0 k l0 (decide ((l0.length:Int) > 8)))) = some r:=h
 clear h
 have HC2:=Aside0.mk H
 clear H
 go_enter Tryd.func60,Tryd.ntmps60
 go_upto_region 1 with (fail)
 go_cut [13] (fun v13 wc => ∃ (kq:Nat) (x13_1:Bool),v13 = .bool x13_1 ∧ Aside0 (u2e.j0 kq l0 x13_1 = some r) ∧ Aside0 (kq ≤ k) ∧ Aside0 (Below w.heap.size w wc))
 case first =>
  have H:=HC2.out
  clear HC2
  by_cases c3:(l0.length:Int) = 0
  · rw [if_pos c3] at H
    have c3b0:((l0.length:Int) == 0) = true:=beq_iff_eq.mpr c3
    have c3b1:((l0.length:Int) != 0) = false:=bne_eq_false_iff_eq.mpr c3
    clear c3
    (first | rw [c3b0] | (simp only [i64_w,i32_w];rw [c3b0]) | skip)
    have H':=Aside0.mk H
    clear H
    go_wp2
    go_meet
    case rel => exact ⟨_,(true),(by first | rfl | (simp;done) | (simp [*];done)),H',⟨by first | omega | exact Nat.le_refl _⟩,⟨by repeat (first | (with_reducible first | exact HB.out | apply uf | apply ua | apply ug) | exact HB.out)⟩⟩
  · rw [if_neg c3] at H
    have c3b0:((l0.length:Int) == 0) = false:=beq_eq_false_iff_ne.mpr c3
    have c3b1:((l0.length:Int) != 0) = true:=bne_iff_ne.mpr c3
    have c3b2:¬ (l0 = []):=fun h_ => c3 (by rw [h_];rfl)
    (first | rw [c3b0] | (simp only [i64_w,i32_w];rw [c3b0]) | skip)
    have H':=Aside0.mk H
    clear H
    go_wp2
    go_meet
    case rel => exact ⟨_,(decide ((l0.length:Int) > 8)),(by first | rfl | (simp;done) | (simp [*];done)),H',⟨by first | omega | exact Nat.le_refl _⟩,⟨by repeat (first | (with_reducible first | exact HB.out | apply uf | apply ua | apply ug) | exact HB.out)⟩⟩
 case rest =>
  clear HC2
  try clear p2
  try clear c3
  try clear c3b0
  try clear c3b1
  try clear c3b2
  obtain ⟨kq,x13_1,rfl,HA,HJ1,HB⟩:=hcut
  cases kq with
  | zero => exact absurd HA.out (by simp [u2e.j0])
  | succ kj1 =>
    have H:=HA.out
    clear HA
    simp only [u2e.j0] at H
    by_cases c4:x13_1 = true
    · subst c4
      have H1:(some false) = some r:=by rw [if_pos rfl] at H;exact H
      clear H
      have H:=H1
      clear H1
      obtain rfl:=Option.some.inj H
      go_wp2
      go_ret
      exact ⟨by first | rfl | (simp [u1j,u1i] <;> rfl) | (simp [*,u1j,u1i] <;> rfl),by repeat (first | (with_reducible first | exact HB.out | apply uf | apply ua | apply ug) | exact HB.out)⟩
    · replace c4:=Bool.eq_false_iff.mpr c4
      subst c4
      have H1:(u2e.l0 kj1 (⟨#[]⟩:ByteArray) l0 (l0.length:Int) 0) = some r:=by rw [if_neg (show ¬ (false = true) by decide)] at H;exact H
      clear H
      have H:=H1
      clear H1
      have H':=Aside0.mk H
      clear H
      go_wp2
      go_loopg [3,16] kj1 (fun kq v3 v16 w' => ∃ (x3_2:ByteArray) (x16_2:Int),v3 = .string x3_2 ∧ v16 = .int .i64 x16_2 ∧ Aside0 (u2e.l0 kq x3_2 l0 (l0.length:Int) x16_2 = some r) ∧ Aside0 (kq ≤ kj1) ∧ Aside0 (Below w.heap.size w w'))
      case atStart => exact ⟨((⟨#[]⟩:ByteArray)),(0),(by first | rfl | (simp;done) | (simp [*];done)),(by first | rfl | (simp;done) | (simp [*];done)),H',⟨Nat.le_refl _⟩,⟨by repeat (first | (with_reducible first | exact HB.out | apply uf | apply ua | apply ug) | exact HB.out)⟩⟩
      case round =>
       clear H'
       try clear p2
       try clear c3
       try clear c3b0
       try clear c3b1
       try clear c3b2
       try clear c4
       try clear p2
       obtain ⟨x3_2,x16_2,rfl,rfl,HA,HK2,HB⟩:=hrel
       cases gk with
       | zero => exact absurd HA.out (by simp [u2e.l0])
       | succ k2 =>
         have H:=HA.out
         clear HA
         simp only [u2e.l0] at H
         by_cases c5:x16_2 < (l0.length:Int)
         · rw [if_pos c5] at H
           have c5b0:decide (x16_2 < (l0.length:Int)) = true:=decide_eq_true c5
           clear c5
           by_cases c6:0 ≤ x16_2
           · rw [if_pos c6] at H
             have c6b0:decide (0 ≤ x16_2) = true:=decide_eq_true c6
             clear c6
             by_cases c7:x16_2 < (l0.length:Int)
             · rw [if_pos c7] at H
               have c7b0:decide (x16_2 < (l0.length:Int)) = true:=decide_eq_true c7
               clear c7
               replace H:=Option.bind_eq_some_iff.mp H
               obtain ⟨t107,A80,H⟩:=H
               replace H:(if t107 = true then ((u3a.f ((u2b l0 x16_2).f1)).bind fun t108 => (if t108 = true then (if ((Op.bytesLess x3_2.toList (((u2b l0 x16_2).f0).toList)) = true) then (u2e.l0 k2 ((u2b l0 x16_2).f0) l0 (l0.length:Int) (wrap64 (x16_2 + 1))) else (some false)) else (some false))) else (some false)) = some r:=H
               have A8:=Aside0.mk A80
               clear A80
               by_cases c9:t107 = true
               · subst c9
                 have H1:((u3a.f ((u2b l0 x16_2).f1)).bind fun t108 => (if t108 = true then (if ((Op.bytesLess x3_2.toList (((u2b l0 x16_2).f0).toList)) = true) then (u2e.l0 k2 ((u2b l0 x16_2).f0) l0 (l0.length:Int) (wrap64 (x16_2 + 1))) else (some false)) else (some false))) = some r:=by rw [if_pos rfl] at H;exact H
                 clear H
                 have H:=H1
                 clear H1
                 replace H:=Option.bind_eq_some_iff.mp H
                 obtain ⟨t108,A100,H⟩:=H
                 replace H:(if t108 = true then (if ((Op.bytesLess x3_2.toList (((u2b l0 x16_2).f0).toList)) = true) then (u2e.l0 k2 ((u2b l0 x16_2).f0) l0 (l0.length:Int) (wrap64 (x16_2 + 1))) else (some false)) else (some false)) = some r:=H
                 have A10:=Aside0.mk A100
                 clear A100
                 by_cases c11:t108 = true
                 · subst c11
                   have H1:(if ((Op.bytesLess x3_2.toList (((u2b l0 x16_2).f0).toList)) = true) then (u2e.l0 k2 ((u2b l0 x16_2).f0) l0 (l0.length:Int) (wrap64 (x16_2 + 1))) else (some false)) = some r:=by rw [if_pos rfl] at H;exact H
                   clear H
                   have H:=H1
                   clear H1
                   by_cases c12:((Op.bytesLess x3_2.toList (((u2b l0 x16_2).f0).toList)) = true)
                   · rw [if_pos c12] at H
                     have c12b0:(Op.bytesLess x3_2.toList (((u2b l0 x16_2).f0).toList)) = true:=c12
                     clear c12
                     have H':=Aside0.mk H
                     clear H
                     have p105:0 ≤ (x16_2:Int):=of_decide_eq_true (by first | (with_reducible assumption) | assumption)
                     have q105:x16_2 < (l0.length:Int):=of_decide_eq_true (by first | (with_reducible assumption) | assumption)
                     obtain ⟨ad105,e105,hx105_0,hx105_1⟩:=at_T37 HR0.out x16_2 p105 q105
                     cases e105
                     replace hx105_0:=(HB.out.cell (World.block_lt_of_cell? w _ hx105_0)).trans hx105_0
                     replace hx105_1:=(HB.out.cell (World.block_lt_of_cell? w _ hx105_1)).trans hx105_1
                     replace p105:=eq_true p105
                     replace q105:=eq_true q105
                     go_wp2_with (first | ((with_reducible refine u2k (N:=5) rfl ?_);(try (refine u3e (by rfl) ?_;dsimp only));refine u2h ?hg (N:=5) ?hd (cs:=#[.string (⟨#[]⟩:ByteArray),.string (⟨#[]⟩:ByteArray)]) (t:=37) ?hr ?_;(case hd => rfl);(case hg => rfl);(case hr => first | (go_simp;done) | (go_simp;rfl));intro gb106 hg w13 hbox hb;have n0_:=Aside0.mk (ux (by repeat (first | (with_reducible first | exact HB.out | apply uf | apply ua | apply ug) | exact HB.out)) hb);have n1_:=Aside0.mk (hbox);have n2_:=Aside0.mk ((by rw [hg];exact (uq (by repeat (first | (with_reducible first | exact HB.out | apply uf | apply ua | apply ug) | exact HB.out))):w.heap.size ≤ gb106));have n3_:=Aside0.mk ((by rw [hg];exact (uq (by repeat (first | (with_reducible first | exact HB.out | apply uf | apply ua | apply ug) | exact HB.out))):w.heap.size ≤ gb106));clear HB;have HB:=n0_;have BK106:=n1_;have GW106:=n2_;have GE106:=n3_;clear n0_ n1_ n2_ n3_;clear hb hbox hg;have hcz14_0:w13.cell? ⟨gb106,0,none⟩ = some (.string (⟨#[]⟩:ByteArray)):=(uj BK106.out 0).trans rfl;have hcz14_1:w13.cell? ⟨gb106,1,none⟩ = some (.string (⟨#[]⟩:ByteArray)):=(uj BK106.out 1).trans rfl;have hfz14_0:=ui BK106.out 0;have hfz14_1:=ui BK106.out 1) | ((with_reducible refine u1k (f:=77) rfl ?_);refine u2r (some 22) rfl rfl Tryd.func77 (by kernel_rfl) rfl #[.string ((u2b l0 x16_2).f0)] rfl (by (try simp only [List.map_toArray,List.map_cons,List.map_nil]);first | done | rfl | (simp only [List.length_drop,List.length_take];rfl)) ?_;(with_reducible refine (u1z.calls ((u2b l0 x16_2).f0) true _ A8.out).mono ?_);rintro e w15 ⟨rfl,hb⟩;refine ⟨_,rfl,?_⟩;have n0_:=Aside0.mk (u1a (g:=gb106) (o:=.cells #[.string ((u2b l0 x16_2).f0),.string ((u2b l0 x16_2).f1)] 37 (0,0)) (by (with_reducible repeat (first | refine uc ?_ _ | refine ue ?_ | refine ub ?_ _));refine u1m (cs:=#[.string ((u2b l0 x16_2).f0),.string (⟨#[]⟩:ByteArray)]) ?_ 1 _ rfl;(with_reducible repeat (first | refine uc ?_ _ | refine ue ?_ | refine ub ?_ _));refine u1m (cs:=#[.string (⟨#[]⟩:ByteArray),.string (⟨#[]⟩:ByteArray)]) ?_ 0 _ rfl;(with_reducible repeat (first | refine uc ?_ _ | refine ue ?_ | refine ub ?_ _));exact BK106.out) hb);have n1_:=Aside0.mk (ux (by repeat (first | (with_reducible first | exact HB.out | apply uf | apply ua | apply ug | refine uh ?_ GE106.out) | exact HB.out)) hb);clear BK106;clear HB;have BK106:=n0_;have HB:=n1_;clear n0_ n1_;(try clear hb);(try clear hb2);(try clear hk);(try clear hi);have hcz16_0:w15.cell? ⟨gb106,0,none⟩ = some (.string ((u2b l0 x16_2).f0)):=(uj BK106.out 0).trans rfl;have hcz16_1:w15.cell? ⟨gb106,1,none⟩ = some (.string ((u2b l0 x16_2).f1)):=(uj BK106.out 1).trans rfl;have hfz16_0:=ui BK106.out 0;have hfz16_1:=ui BK106.out 1) | (go_at_call 88;(with_reducible refine (u3a.calls ((u2b l0 x16_2).f1) true _ A10.out).mono ?_);rintro e w17 ⟨rfl,hb⟩;have n0_:=Aside0.mk (u1a (g:=gb106) (o:=.cells #[.string ((u2b l0 x16_2).f0),.string ((u2b l0 x16_2).f1)] 37 (0,0)) (by (with_reducible repeat (first | refine uc ?_ _ | refine ue ?_ | refine ub ?_ _));exact BK106.out) hb);have n1_:=Aside0.mk (ux (by repeat (first | (with_reducible first | exact HB.out | apply uf | apply ua | apply ug | refine uh ?_ GE106.out) | exact HB.out)) hb);clear BK106;clear HB;have BK106:=n0_;have HB:=n1_;clear n0_ n1_;(try clear hb);(try clear hb2);(try clear hk);(try clear hi);have hcz18_0:w17.cell? ⟨gb106,0,none⟩ = some (.string ((u2b l0 x16_2).f0)):=(uj BK106.out 0).trans rfl;have hcz18_1:w17.cell? ⟨gb106,1,none⟩ = some (.string ((u2b l0 x16_2).f1)):=(uj BK106.out 1).trans rfl;have hfz18_0:=ui BK106.out 0;have hfz18_1:=ui BK106.out 1))
                     go_roundg k2
                     case measure => have:=HJ1.out;have:=HK2.out;omega
                     case rel => exact ⟨((u2b l0 x16_2).f0),(wrap64 (x16_2 + 1)),(by first | rfl | (simp;done) | (simp [*];done)),(by first | rfl | (simp;done) | (simp [*];done)),H',⟨by have:=HJ1.out;have:=HK2.out;omega⟩,⟨by repeat (first | (with_reducible first | exact HB.out | apply uf | apply ua | apply ug | refine uh ?_ GE106.out) | exact HB.out)⟩⟩
                   · rw [if_neg c12] at H
                     have c12b0:(Op.bytesLess x3_2.toList (((u2b l0 x16_2).f0).toList)) = false:=by simpa using c12
                     clear c12
                     obtain rfl:=Option.some.inj H
                     have p105:0 ≤ (x16_2:Int):=of_decide_eq_true (by first | (with_reducible assumption) | assumption)
                     have q105:x16_2 < (l0.length:Int):=of_decide_eq_true (by first | (with_reducible assumption) | assumption)
                     obtain ⟨ad105,e105,hx105_0,hx105_1⟩:=at_T37 HR0.out x16_2 p105 q105
                     cases e105
                     replace hx105_0:=(HB.out.cell (World.block_lt_of_cell? w _ hx105_0)).trans hx105_0
                     replace hx105_1:=(HB.out.cell (World.block_lt_of_cell? w _ hx105_1)).trans hx105_1
                     replace p105:=eq_true p105
                     replace q105:=eq_true q105
                     go_wp2_with (first | ((with_reducible refine u2k (N:=5) rfl ?_);(try (refine u3e (by rfl) ?_;dsimp only));refine u2h ?hg (N:=5) ?hd (cs:=#[.string (⟨#[]⟩:ByteArray),.string (⟨#[]⟩:ByteArray)]) (t:=37) ?hr ?_;(case hd => rfl);(case hg => rfl);(case hr => first | (go_simp;done) | (go_simp;rfl));intro gb106 hg w19 hbox hb;have n0_:=Aside0.mk (ux (by repeat (first | (with_reducible first | exact HB.out | apply uf | apply ua | apply ug) | exact HB.out)) hb);have n1_:=Aside0.mk (hbox);have n2_:=Aside0.mk ((by rw [hg];exact (uq (by repeat (first | (with_reducible first | exact HB.out | apply uf | apply ua | apply ug) | exact HB.out))):w.heap.size ≤ gb106));have n3_:=Aside0.mk ((by rw [hg];exact (uq (by repeat (first | (with_reducible first | exact HB.out | apply uf | apply ua | apply ug) | exact HB.out))):w.heap.size ≤ gb106));clear HB;have HB:=n0_;have BK106:=n1_;have GW106:=n2_;have GE106:=n3_;clear n0_ n1_ n2_ n3_;clear hb hbox hg;have hcz20_0:w19.cell? ⟨gb106,0,none⟩ = some (.string (⟨#[]⟩:ByteArray)):=(uj BK106.out 0).trans rfl;have hcz20_1:w19.cell? ⟨gb106,1,none⟩ = some (.string (⟨#[]⟩:ByteArray)):=(uj BK106.out 1).trans rfl;have hfz20_0:=ui BK106.out 0;have hfz20_1:=ui BK106.out 1) | ((with_reducible refine u1k (f:=77) rfl ?_);refine u2r (some 22) rfl rfl Tryd.func77 (by kernel_rfl) rfl #[.string ((u2b l0 x16_2).f0)] rfl (by (try simp only [List.map_toArray,List.map_cons,List.map_nil]);first | done | rfl | (simp only [List.length_drop,List.length_take];rfl)) ?_;(with_reducible refine (u1z.calls ((u2b l0 x16_2).f0) true _ A8.out).mono ?_);rintro e w21 ⟨rfl,hb⟩;refine ⟨_,rfl,?_⟩;have n0_:=Aside0.mk (u1a (g:=gb106) (o:=.cells #[.string ((u2b l0 x16_2).f0),.string ((u2b l0 x16_2).f1)] 37 (0,0)) (by (with_reducible repeat (first | refine uc ?_ _ | refine ue ?_ | refine ub ?_ _));refine u1m (cs:=#[.string ((u2b l0 x16_2).f0),.string (⟨#[]⟩:ByteArray)]) ?_ 1 _ rfl;(with_reducible repeat (first | refine uc ?_ _ | refine ue ?_ | refine ub ?_ _));refine u1m (cs:=#[.string (⟨#[]⟩:ByteArray),.string (⟨#[]⟩:ByteArray)]) ?_ 0 _ rfl;(with_reducible repeat (first | refine uc ?_ _ | refine ue ?_ | refine ub ?_ _));exact BK106.out) hb);have n1_:=Aside0.mk (ux (by repeat (first | (with_reducible first | exact HB.out | apply uf | apply ua | apply ug | refine uh ?_ GE106.out) | exact HB.out)) hb);clear BK106;clear HB;have BK106:=n0_;have HB:=n1_;clear n0_ n1_;(try clear hb);(try clear hb2);(try clear hk);(try clear hi);have hcz22_0:w21.cell? ⟨gb106,0,none⟩ = some (.string ((u2b l0 x16_2).f0)):=(uj BK106.out 0).trans rfl;have hcz22_1:w21.cell? ⟨gb106,1,none⟩ = some (.string ((u2b l0 x16_2).f1)):=(uj BK106.out 1).trans rfl;have hfz22_0:=ui BK106.out 0;have hfz22_1:=ui BK106.out 1) | (go_at_call 88;(with_reducible refine (u3a.calls ((u2b l0 x16_2).f1) true _ A10.out).mono ?_);rintro e w23 ⟨rfl,hb⟩;have n0_:=Aside0.mk (u1a (g:=gb106) (o:=.cells #[.string ((u2b l0 x16_2).f0),.string ((u2b l0 x16_2).f1)] 37 (0,0)) (by (with_reducible repeat (first | refine uc ?_ _ | refine ue ?_ | refine ub ?_ _));exact BK106.out) hb);have n1_:=Aside0.mk (ux (by repeat (first | (with_reducible first | exact HB.out | apply uf | apply ua | apply ug | refine uh ?_ GE106.out) | exact HB.out)) hb);clear BK106;clear HB;have BK106:=n0_;have HB:=n1_;clear n0_ n1_;(try clear hb);(try clear hb2);(try clear hk);(try clear hi);have hcz24_0:w23.cell? ⟨gb106,0,none⟩ = some (.string ((u2b l0 x16_2).f0)):=(uj BK106.out 0).trans rfl;have hcz24_1:w23.cell? ⟨gb106,1,none⟩ = some (.string ((u2b l0 x16_2).f1)):=(uj BK106.out 1).trans rfl;have hfz24_0:=ui BK106.out 0;have hfz24_1:=ui BK106.out 1))
                     go_ret
                     exact ⟨by first | rfl | (simp [u1j,u1i] <;> rfl) | (simp [*,u1j,u1i] <;> rfl),by repeat (first | (with_reducible first | exact HB.out | apply uf | apply ua | apply ug | refine uh ?_ GE106.out) | exact HB.out)⟩
                 · replace c11:=Bool.eq_false_iff.mpr c11
                   subst c11
                   have H1:(some false) = some r:=by rw [if_neg (show ¬ (false = true) by decide)] at H;exact H
                   clear H
                   have H:=H1
                   clear H1
                   obtain rfl:=Option.some.inj H
                   have p105:0 ≤ (x16_2:Int):=of_decide_eq_true (by first | (with_reducible assumption) | assumption)
                   have q105:x16_2 < (l0.length:Int):=of_decide_eq_true (by first | (with_reducible assumption) | assumption)
                   obtain ⟨ad105,e105,hx105_0,hx105_1⟩:=at_T37 HR0.out x16_2 p105 q105
                   cases e105
                   replace hx105_0:=(HB.out.cell (World.block_lt_of_cell? w _ hx105_0)).trans hx105_0
                   replace hx105_1:=(HB.out.cell (World.block_lt_of_cell? w _ hx105_1)).trans hx105_1
                   replace p105:=eq_true p105
                   replace q105:=eq_true q105
                   go_wp2_with (first | ((with_reducible refine u2k (N:=5) rfl ?_);(try (refine u3e (by rfl) ?_;dsimp only));refine u2h ?hg (N:=5) ?hd (cs:=#[.string (⟨#[]⟩:ByteArray),.string (⟨#[]⟩:ByteArray)]) (t:=37) ?hr ?_;(case hd => rfl);(case hg => rfl);(case hr => first | (go_simp;done) | (go_simp;rfl));intro gb106 hg w25 hbox hb;have n0_:=Aside0.mk (ux (by repeat (first | (with_reducible first | exact HB.out | apply uf | apply ua | apply ug) | exact HB.out)) hb);have n1_:=Aside0.mk (hbox);have n2_:=Aside0.mk ((by rw [hg];exact (uq (by repeat (first | (with_reducible first | exact HB.out | apply uf | apply ua | apply ug) | exact HB.out))):w.heap.size ≤ gb106));have n3_:=Aside0.mk ((by rw [hg];exact (uq (by repeat (first | (with_reducible first | exact HB.out | apply uf | apply ua | apply ug) | exact HB.out))):w.heap.size ≤ gb106));clear HB;have HB:=n0_;have BK106:=n1_;have GW106:=n2_;have GE106:=n3_;clear n0_ n1_ n2_ n3_;clear hb hbox hg;have hcz26_0:w25.cell? ⟨gb106,0,none⟩ = some (.string (⟨#[]⟩:ByteArray)):=(uj BK106.out 0).trans rfl;have hcz26_1:w25.cell? ⟨gb106,1,none⟩ = some (.string (⟨#[]⟩:ByteArray)):=(uj BK106.out 1).trans rfl;have hfz26_0:=ui BK106.out 0;have hfz26_1:=ui BK106.out 1) | ((with_reducible refine u1k (f:=77) rfl ?_);refine u2r (some 22) rfl rfl Tryd.func77 (by kernel_rfl) rfl #[.string ((u2b l0 x16_2).f0)] rfl (by (try simp only [List.map_toArray,List.map_cons,List.map_nil]);first | done | rfl | (simp only [List.length_drop,List.length_take];rfl)) ?_;(with_reducible refine (u1z.calls ((u2b l0 x16_2).f0) true _ A8.out).mono ?_);rintro e w27 ⟨rfl,hb⟩;refine ⟨_,rfl,?_⟩;have n0_:=Aside0.mk (u1a (g:=gb106) (o:=.cells #[.string ((u2b l0 x16_2).f0),.string ((u2b l0 x16_2).f1)] 37 (0,0)) (by (with_reducible repeat (first | refine uc ?_ _ | refine ue ?_ | refine ub ?_ _));refine u1m (cs:=#[.string ((u2b l0 x16_2).f0),.string (⟨#[]⟩:ByteArray)]) ?_ 1 _ rfl;(with_reducible repeat (first | refine uc ?_ _ | refine ue ?_ | refine ub ?_ _));refine u1m (cs:=#[.string (⟨#[]⟩:ByteArray),.string (⟨#[]⟩:ByteArray)]) ?_ 0 _ rfl;(with_reducible repeat (first | refine uc ?_ _ | refine ue ?_ | refine ub ?_ _));exact BK106.out) hb);have n1_:=Aside0.mk (ux (by repeat (first | (with_reducible first | exact HB.out | apply uf | apply ua | apply ug | refine uh ?_ GE106.out) | exact HB.out)) hb);clear BK106;clear HB;have BK106:=n0_;have HB:=n1_;clear n0_ n1_;(try clear hb);(try clear hb2);(try clear hk);(try clear hi);have hcz28_0:w27.cell? ⟨gb106,0,none⟩ = some (.string ((u2b l0 x16_2).f0)):=(uj BK106.out 0).trans rfl;have hcz28_1:w27.cell? ⟨gb106,1,none⟩ = some (.string ((u2b l0 x16_2).f1)):=(uj BK106.out 1).trans rfl;have hfz28_0:=ui BK106.out 0;have hfz28_1:=ui BK106.out 1) | (go_at_call 88;(with_reducible refine (u3a.calls ((u2b l0 x16_2).f1) false _ A10.out).mono ?_);rintro e w29 ⟨rfl,hb⟩;have n0_:=Aside0.mk (u1a (g:=gb106) (o:=.cells #[.string ((u2b l0 x16_2).f0),.string ((u2b l0 x16_2).f1)] 37 (0,0)) (by (with_reducible repeat (first | refine uc ?_ _ | refine ue ?_ | refine ub ?_ _));exact BK106.out) hb);have n1_:=Aside0.mk (ux (by repeat (first | (with_reducible first | exact HB.out | apply uf | apply ua | apply ug | refine uh ?_ GE106.out) | exact HB.out)) hb);clear BK106;clear HB;have BK106:=n0_;have HB:=n1_;clear n0_ n1_;(try clear hb);(try clear hb2);(try clear hk);(try clear hi)))
                   go_ret
                   exact ⟨by first | rfl | (simp [u1j,u1i] <;> rfl) | (simp [*,u1j,u1i] <;> rfl),by repeat (first | (with_reducible first | exact HB.out | apply uf | apply ua | apply ug | refine uh ?_ GE106.out) | exact HB.out)⟩
               · replace c9:=Bool.eq_false_iff.mpr c9
                 subst c9
                 have H1:(some false) = some r:=by rw [if_neg (show ¬ (false = true) by decide)] at H;exact H
                 clear H
                 have H:=H1
                 clear H1
                 obtain rfl:=Option.some.inj H
                 have p105:0 ≤ (x16_2:Int):=of_decide_eq_true (by first | (with_reducible assumption) | assumption)
                 have q105:x16_2 < (l0.length:Int):=of_decide_eq_true (by first | (with_reducible assumption) | assumption)
                 obtain ⟨ad105,e105,hx105_0,hx105_1⟩:=at_T37 HR0.out x16_2 p105 q105
                 cases e105
                 replace hx105_0:=(HB.out.cell (World.block_lt_of_cell? w _ hx105_0)).trans hx105_0
                 replace hx105_1:=(HB.out.cell (World.block_lt_of_cell? w _ hx105_1)).trans hx105_1
                 replace p105:=eq_true p105
                 replace q105:=eq_true q105
                 go_wp2_with (first | ((with_reducible refine u2k (N:=5) rfl ?_);(try (refine u3e (by rfl) ?_;dsimp only));refine u2h ?hg (N:=5) ?hd (cs:=#[.string (⟨#[]⟩:ByteArray),.string (⟨#[]⟩:ByteArray)]) (t:=37) ?hr ?_;(case hd => rfl);(case hg => rfl);(case hr => first | (go_simp;done) | (go_simp;rfl));intro gb106 hg w30 hbox hb;have n0_:=Aside0.mk (ux (by repeat (first | (with_reducible first | exact HB.out | apply uf | apply ua | apply ug) | exact HB.out)) hb);have n1_:=Aside0.mk (hbox);have n2_:=Aside0.mk ((by rw [hg];exact (uq (by repeat (first | (with_reducible first | exact HB.out | apply uf | apply ua | apply ug) | exact HB.out))):w.heap.size ≤ gb106));have n3_:=Aside0.mk ((by rw [hg];exact (uq (by repeat (first | (with_reducible first | exact HB.out | apply uf | apply ua | apply ug) | exact HB.out))):w.heap.size ≤ gb106));clear HB;have HB:=n0_;have BK106:=n1_;have GW106:=n2_;have GE106:=n3_;clear n0_ n1_ n2_ n3_;clear hb hbox hg;have hcz31_0:w30.cell? ⟨gb106,0,none⟩ = some (.string (⟨#[]⟩:ByteArray)):=(uj BK106.out 0).trans rfl;have hcz31_1:w30.cell? ⟨gb106,1,none⟩ = some (.string (⟨#[]⟩:ByteArray)):=(uj BK106.out 1).trans rfl;have hfz31_0:=ui BK106.out 0;have hfz31_1:=ui BK106.out 1) | ((with_reducible refine u1k (f:=77) rfl ?_);refine u2r (some 22) rfl rfl Tryd.func77 (by kernel_rfl) rfl #[.string ((u2b l0 x16_2).f0)] rfl (by (try simp only [List.map_toArray,List.map_cons,List.map_nil]);first | done | rfl | (simp only [List.length_drop,List.length_take];rfl)) ?_;(with_reducible refine (u1z.calls ((u2b l0 x16_2).f0) false _ A8.out).mono ?_);rintro e w32 ⟨rfl,hb⟩;refine ⟨_,rfl,?_⟩;have n0_:=Aside0.mk (u1a (g:=gb106) (o:=.cells #[.string ((u2b l0 x16_2).f0),.string ((u2b l0 x16_2).f1)] 37 (0,0)) (by (with_reducible repeat (first | refine uc ?_ _ | refine ue ?_ | refine ub ?_ _));refine u1m (cs:=#[.string ((u2b l0 x16_2).f0),.string (⟨#[]⟩:ByteArray)]) ?_ 1 _ rfl;(with_reducible repeat (first | refine uc ?_ _ | refine ue ?_ | refine ub ?_ _));refine u1m (cs:=#[.string (⟨#[]⟩:ByteArray),.string (⟨#[]⟩:ByteArray)]) ?_ 0 _ rfl;(with_reducible repeat (first | refine uc ?_ _ | refine ue ?_ | refine ub ?_ _));exact BK106.out) hb);have n1_:=Aside0.mk (ux (by repeat (first | (with_reducible first | exact HB.out | apply uf | apply ua | apply ug | refine uh ?_ GE106.out) | exact HB.out)) hb);clear BK106;clear HB;have BK106:=n0_;have HB:=n1_;clear n0_ n1_;(try clear hb);(try clear hb2);(try clear hk);(try clear hi)))
                 go_ret
                 exact ⟨by first | rfl | (simp [u1j,u1i] <;> rfl) | (simp [*,u1j,u1i] <;> rfl),by repeat (first | (with_reducible first | exact HB.out | apply uf | apply ua | apply ug | refine uh ?_ GE106.out) | exact HB.out)⟩
             · rw [if_neg c7] at H
               exact absurd H (by simp)
           · rw [if_neg c6] at H
             exact absurd H (by simp)
         · rw [if_neg c5] at H
           have c5b0:decide (x16_2 < (l0.length:Int)) = false:=decide_eq_false c5
           clear c5
           obtain rfl:=Option.some.inj H
           go_wp2
           go_ret
           exact ⟨by first | rfl | (simp [u1j,u1i] <;> rfl) | (simp [*,u1j,u1i] <;> rfl),by repeat (first | (with_reducible first | exact HB.out | apply uf | apply ua | apply ug) | exact HB.out)⟩
end Go.Proofs.YtmcpeifhapekoaaDoor.PAll
namespace Go.Proofs.YtmcpeifhapekoaaDoor.Laws
open Go.RowKit Go.Proofs.YtmcpeifhapekoaaDoor.PAll Go.Proofs.YtmcpeifhapekoaaDoorW.PrintWords Go.Proofs.YtmcpeifhapekoaaDoorW.PrintLast
set_option linter.unusedVariables false
set_option linter.unusedSimpArgs false
def okFrom:List UInt8 → List S37 → Bool
 | _,[] => true
 | last,x :: r => Base.nameB x.f0 && Base.valueB x.f1 && Op.bytesLess last x.f0.data.toList && okFrom x.f0.data.toList r
def canB (l:List S37):Bool:=decide (1 ≤ l.length) && decide (l.length ≤ 8) && okFrom [] l
theorem rd_drop (l:List S37) (i:Nat) (x:S37) (r:List S37) (h:l.drop i = x :: r):u2b l (i:Int) = x ∧ i < l.length ∧ l.drop (i + 1) = r:=by
 have hlt:i < l.length:=by
  rcases Nat.lt_or_ge i l.length with h1 | h1
  · exact h1
  · rw [List.drop_eq_nil_of_le h1] at h
    cases h
 rw [List.drop_eq_getElem_cons hlt] at h
 obtain ⟨h1,h2⟩:=List.cons.inj h
 refine ⟨?_,hlt,h2⟩
 rw [← h1]
 simp [u2b,List.getD_eq_getElem?_getD,hlt]
theorem can_l0 (l:List S37) (hl:l.length ≤ 8):∀ (r:List S37) (i:Nat) (last:ByteArray),l.drop i = r →
 Ev (fun k => u2e.l0 k last l (l.length:Int) (i:Int)) (okFrom last.data.toList r):=by
 intro r
 induction r with
 | nil =>
   intro i last h
   have hi:l.length ≤ i:=by
    rcases Nat.lt_or_ge i l.length with h1 | h1
    · rw [List.drop_eq_getElem_cons h1] at h
      cases h
    · exact h1
   refine Ev.step (f:=fun _ => some true) (fun k => ?_) (Ev.now _)
   simp only [u2e.l0]
   rw [if_neg (by omega)]
 | cons x r ih =>
   intro i last h
   obtain ⟨hx,hi,hr⟩:=rd_drop l i x r h
   have hw:wrap64 ((i:Int) + 1) = ((i + 1:Nat):Int):=Base.wrap_nat i (by omega)
   have h1:((i:Int) < (l.length:Int)):=by omega
   have h0:((0:Int) ≤ (i:Int)):=by omega
   cases hn:Base.nameB x.f0 with
   | false =>
     refine Ev.step (f:=fun _ => some false) (fun k => ?_) ?_
     · simp only [u2e.l0]
       rw [if_pos h1,if_pos h0,if_pos h1,hx]
       simp [u1z.f,hn]
     · have:okFrom last.data.toList (x :: r) = false:=by simp [okFrom,hn]
       rw [this]
       exact Ev.now _
   | true =>
     cases hv:Base.valueB x.f1 with
     | false =>
       refine Ev.step (f:=fun _ => some false) (fun k => ?_) ?_
       · simp only [u2e.l0]
         rw [if_pos h1,if_pos h0,if_pos h1,hx]
         simp [u1z.f,u3a.f,hn,hv]
       · have:okFrom last.data.toList (x :: r) = false:=by simp [okFrom,hn,hv]
         rw [this]
         exact Ev.now _
     | true =>
       cases hb:Op.bytesLess last.data.toList x.f0.data.toList with
       | false =>
         refine Ev.step (f:=fun _ => some false) (fun k => ?_) ?_
         · simp only [u2e.l0]
           rw [if_pos h1,if_pos h0,if_pos h1,hx]
           simp [u1z.f,u3a.f,hn,hv,ByteArray.toList_eq,hb]
         · have:okFrom last.data.toList (x :: r) = false:=by simp [okFrom,hn,hv,hb]
           rw [this]
           exact Ev.now _
       | true =>
         have ih2:=ih (i + 1) x.f0 hr
         refine Ev.step (f:=fun k => u2e.l0 k x.f0 l (l.length:Int) ((i + 1:Nat):Int)) (fun k => ?_) ?_
         · simp only [u2e.l0]
           rw [if_pos h1,if_pos h0,if_pos h1,hx,hw]
           simp [u1z.f,u3a.f,hn,hv,ByteArray.toList_eq,hb]
         · have:okFrom last.data.toList (x :: r) = okFrom x.f0.data.toList r:=by simp [okFrom,hn,hv,hb]
           rw [this]
           exact ih2
theorem can_ev (l:List S37):Ev (fun k => u2e.f k l) (canB l):=by
 by_cases h0:l.length = 0
 · have hc:canB l = false:=by simp [canB,h0]
   rw [hc]
   refine Ev.congr (f:=fun k => u2e.j0 k l true) (fun k => ?_) ?_
   · simp only [u2e.f]
     rw [if_pos (by omega)]
   · refine Ev.step (f:=fun _ => some false) (fun k => ?_) (Ev.now _)
     simp only [u2e.j0]
     simp
 · refine Ev.congr (f:=fun k => u2e.j0 k l (decide ((l.length:Int) > 8))) (fun k => ?_) ?_
   · simp only [u2e.f]
     rw [if_neg (by omega)]
   · by_cases h8:l.length ≤ 8
     · have hc:canB l = okFrom [] l:=by
        have h1:1 ≤ l.length:=by omega
        simp [canB,h1,h8]
       rw [hc]
       refine Ev.step (f:=fun k => u2e.l0 k (⟨#[]⟩:ByteArray) l (l.length:Int) 0) (fun k => ?_) (can_l0 l h8 l 0 ⟨#[]⟩ rfl)
       simp only [u2e.j0]
       rw [if_neg (by simp;omega)]
     · have hc:canB l = false:=by simp [canB,h8]
       rw [hc]
       refine Ev.step (f:=fun _ => some false) (fun k => ?_) (Ev.now _)
       simp only [u2e.j0]
       rw [if_pos (by simp;omega)]
theorem nameB_size {s:ByteArray} (h:Base.nameB s = true):1 ≤ s.size ∧ s.size ≤ 24:=by
 simp only [Base.nameB,Bool.and_eq_true,decide_eq_true_eq] at h
 omega
end Go.Proofs.YtmcpeifhapekoaaDoor.Laws
namespace Go.Proofs.YtmcpeifhapekoaaDoor.Tx
open Go.RowKit Go.Proofs.YtmcpeifhapekoaaDoor.PAll Go.Proofs.YtmcpeifhapekoaaDoorW.PrintWords Go.Proofs.YtmcpeifhapekoaaDoorW.PrintLast
open Go.Proofs.YtmcpeifhapekoaaDoor.Laws (okFrom canB)
set_option linter.unusedVariables false
set_option linter.unusedSimpArgs false
theorem expect_cons (c d:UInt8) (t:B8):expectP [c] (d :: t) = if d = c then some t else none:=by
 unfold expectP
 by_cases h:d = c
 · subst h
   simp [List.isPrefixOf]
 · rw [if_neg h,if_neg]
   simp [List.isPrefixOf]
   exact fun e => h e.symm
theorem expect_nil (c:UInt8):expectP [c] [] = none:=by
 unfold expectP
 simp [List.isPrefixOf]
def okN (l:List Lb):Bool:=l.all fun x => Base.nameB x.f0
theorem label_is (s:B8):labelP s = if Base.nameB (Base.ofL (s.takeWhile wordC)) = true then (valP (s.dropWhile wordC)).map fun q => (⟨Base.ofL (s.takeWhile wordC),q.1⟩,q.2) else none:=by
 unfold labelP nameP
 split <;> rfl
theorem raw_some:∀ (n:Nat) (s:B8) (p:List Lb × B8),rawP n s = some p → 1 ≤ p.1.length
 | 0,s,p,h => by cases h
 | n + 1,s,p,h => by
   unfold rawP at h
   cases hv:valP (s.dropWhile wordC) with
   | none => rw [hv] at h;cases h
   | some q =>
     rw [hv] at h
     obtain ⟨v,t0⟩:=q
     cases t0 with
     | nil => cases h
     | cons c t =>
       simp only [Option.bind_some] at h
       by_cases hc:c = 44
       · rw [if_pos hc] at h
         cases hr:rawP n t with
         | none => rw [hr] at h;cases h
         | some p' =>
           rw [hr] at h
           cases Option.some.inj h
           simp
       · rw [if_neg hc] at h
         by_cases hd:c = 125
         · rw [if_pos hd] at h
           cases Option.some.inj h
           simp
         · rw [if_neg hd] at h
           cases h
theorem labels_raw:∀ (n:Nat) (acc:List Lb) (s:B8),acc.length ≤ 8 → ((labelP s).bind fun p => (labelsP n (acc ++ [p.1]) p.2).bind fun q => (expectP [125] q.2).map fun t => (q.1,t)) =
 (rawP n s).bind fun p => if okN p.1 = true ∧ acc.length + p.1.length ≤ 9 then some (acc ++ p.1,p.2) else none
 | 0,acc,s,ha => by
   unfold rawP
   cases labelP s <;> rfl
 | n + 1,acc,s,ha => by
   rw [label_is]
   unfold rawP
   cases hv:valP (s.dropWhile wordC) with
   | none =>
     simp only [Option.map_none,Option.bind_none]
     split <;> rfl
   | some q =>
     obtain ⟨v,t0⟩:=q
     simp only [Option.map_some,Option.bind_some]
     by_cases hn:Base.nameB (Base.ofL (s.takeWhile wordC)) = true
     · rw [if_pos hn]
       simp only [Option.bind_some]
       cases t0 with
       | nil => simp [labelsP,expect_nil]
       | cons c t =>
         simp only
         by_cases hc:c = 44
         · subst hc
           rw [if_pos rfl]
           have ih:=labels_raw n (acc ++ [⟨Base.ofL (s.takeWhile wordC),v⟩]) t
           simp only [labelsP,List.length_append,List.length_singleton] at ih ⊢
           by_cases h8:acc.length + 1 ≤ 8
           · rw [if_pos h8]
             have e:∀ (o:Option (Lb × B8)) (f:Lb × B8 → Option (List Lb × B8)) (g:List Lb × B8 → Option (List Lb × B8)),(o.bind f).bind g = o.bind fun p => (f p).bind g:=fun o f g => by cases o <;> rfl
             rw [e,ih h8]
             cases rawP n t with
             | none => rfl
             | some p' =>
               simp only [Option.bind_some,Option.map_some,okN,List.all_cons,hn,Bool.true_and,List.length_cons,List.append_assoc,List.singleton_append]
               rw [show acc.length + 1 + p'.1.length = acc.length + (p'.1.length + 1) by omega]
           · rw [if_neg h8]
             cases hr:rawP n t with
             | none => rfl
             | some p' =>
               have:=raw_some n t p' hr
               simp only [Option.bind_some,Option.map_some,Option.bind_none,List.length_cons]
               rw [if_neg (by rintro ⟨_,h9⟩;omega)]
         · rw [if_neg hc]
           have e:labelsP (n + 1) (acc ++ [⟨Base.ofL (s.takeWhile wordC),v⟩]) (c :: t) = some (acc ++ [⟨Base.ofL (s.takeWhile wordC),v⟩],c :: t):=by
            unfold labelsP
            split
            · rename_i h9
              injection h9 with h9
              exact absurd h9 hc
            · rfl
           rw [e]
           simp only [Option.bind_some,expect_cons]
           by_cases hd:c = 125
           · rw [if_pos hd,if_pos hd]
             simp only [Option.map_some,Option.bind_some,okN,List.all_cons,List.all_nil,hn,Bool.true_and,List.length_singleton]
             rw [if_pos ⟨trivial,by omega⟩]
           · rw [if_neg hd,if_neg hd]
             rfl
     · rw [if_neg hn]
       simp only [Option.bind_none]
       cases t0 with
       | nil => rfl
       | cons c t =>
         simp only
         have hf:∀ l:List Lb,okN (⟨Base.ofL (s.takeWhile wordC),v⟩ :: l) = false:=fun l => by
          have h0:Base.nameB (Base.ofL (s.takeWhile wordC)) = false:=by simpa using hn
          simp only [okN,List.all_cons,h0,Bool.false_and]
         by_cases hc:c = 44
         · rw [if_pos hc]
           cases rawP n t with
           | none => rfl
           | some p' => simp [hf]
         · rw [if_neg hc]
           by_cases hd:c = 125
           · rw [if_pos hd]
             simp [hf]
           · rw [if_neg hd]
             rfl
theorem insR_perm (x:Lb):∀ r:List Lb,(insR x r).Perm (x :: r)
 | [] => List.Perm.refl _
 | y :: r => by
   unfold insR
   split
   · exact ((insR_perm x r).cons y).trans (List.Perm.swap x y r)
   · exact List.Perm.refl _
theorem ins_fold_perm:∀ (l acc:List Lb),(l.foldl (fun r x => insR x r) acc).Perm (acc ++ l)
 | [],acc => by simp
 | x :: l,acc => by
   rw [List.foldl_cons]
   refine (ins_fold_perm l (insR x acc)).trans ?_
   refine ((insR_perm x acc).append_right l).trans ?_
   exact List.perm_middle.symm
theorem addR_some (x:Lb):∀ (r:List Lb),(addR x r = some (insR x r)) ∨ (addR x r = none ∧ ∃ y ∈ r,y.f0 = x.f0)
 | [] => Or.inl rfl
 | y :: r => by
   unfold addR insR
   by_cases h:less x.f0 y.f0 = true
   · rw [if_pos h,if_pos h]
     rcases addR_some x r with h1 | ⟨h1,z,hz,hz2⟩
     · rw [h1]
       exact Or.inl rfl
     · rw [h1]
       exact Or.inr ⟨rfl,z,List.mem_cons_of_mem _ hz,hz2⟩
   · rw [if_neg h,if_neg h]
     by_cases h1:y.f0 = x.f0
     · rw [if_pos h1]
       exact Or.inr ⟨rfl,y,List.mem_cons_self ..,h1⟩
     · rw [if_neg h1]
       exact Or.inl rfl
theorem addsR_some:∀ (l acc:List Lb),addsR acc l = some (l.foldl (fun r x => insR x r) acc) ∨ (addsR acc l = none ∧ ¬ ((acc ++ l).map (·.f0)).Nodup)
 | [],acc => Or.inl rfl
 | x :: l,acc => by
   unfold addsR
   rw [List.foldl_cons]
   rcases addR_some x acc with h | ⟨h,y,hy,hy2⟩
   · rw [h]
     rcases addsR_some l (insR x acc) with h1 | ⟨h1,h2⟩
     · exact Or.inl h1
     · refine Or.inr ⟨h1,fun hd => h2 ?_⟩
       have hp:(insR x acc ++ l).Perm (acc ++ x :: l):=((insR_perm x acc).append_right l).trans List.perm_middle.symm
       exact (hp.map _).nodup_iff.2 hd
   · rw [h]
     refine Or.inr ⟨rfl,fun hd => ?_⟩
     rw [List.map_append,List.nodup_append] at hd
     exact hd.2.2 y.f0 (List.mem_map_of_mem hy) x.f0 (by simp) hy2
theorem less_iff (a b:List UInt8):Op.bytesLess a b = true ↔ a < b:=by rw [Go.Proofs.bytesLess_eq];exact decide_eq_true_iff
theorem less_tr {a b c:List UInt8} (h1:Op.bytesLess a b = true) (h2:Op.bytesLess b c = true):Op.bytesLess a c = true:=by
 rw [less_iff] at *
 exact List.lt_trans h1 h2
theorem ok_above:∀ (l:List Lb) (last:List UInt8),okFrom last l = true → ∀ x ∈ l,Op.bytesLess last x.f0.data.toList = true
 | y :: l,last,h,x,hx => by
   unfold okFrom at h
   rw [Bool.and_eq_true,Bool.and_eq_true] at h
   rcases List.mem_cons.1 hx with rfl | hx
   · exact h.1.2
   · exact less_tr h.1.2 (ok_above l _ h.2 x hx)
theorem ok_nodup:∀ (l:List Lb) (last:List UInt8),okFrom last l = true → (l.map (·.f0)).Nodup
 | [],last,h => List.nodup_nil
 | y :: l,last,h => by
   unfold okFrom at h
   rw [Bool.and_eq_true] at h
   rw [List.map_cons,List.nodup_cons]
   refine ⟨fun hm => ?_,ok_nodup l _ h.2⟩
   obtain ⟨x,hx,e⟩:=List.mem_map.1 hm
   have:=ok_above l _ h.2 x hx
   rw [e,Base.less_irrefl] at this
   cases this
theorem can_names {l:List Lb} (h:canB l = true):l.length ≤ 8 ∧ okN l = true ∧ (l.map (·.f0)).Nodup:=by
 unfold canB at h
 rw [Bool.and_eq_true,Bool.and_eq_true] at h
 refine ⟨of_decide_eq_true h.1.2,?_,ok_nodup _ _ h.2⟩
 have:∀ (l:List Lb) (last:List UInt8),okFrom last l = true → okN l = true:=fun l => by
  induction l with
  | nil => exact fun _ _ => rfl
  | cons y l ih =>
    intro last h
    unfold okFrom at h
    rw [Bool.and_eq_true,Bool.and_eq_true,Bool.and_eq_true] at h
    unfold okN
    rw [List.all_cons,h.1.1.1,Bool.true_and]
    exact ih _ h.2
 exact this _ _ h.2
theorem okN_perm {a b:List Lb} (h:a.Perm b):okN a = okN b:=by
 unfold okN
 rw [Bool.eq_iff_iff,List.all_eq_true,List.all_eq_true]
 exact ⟨fun g x hx => g x (h.mem_iff.2 hx),fun g x hx => g x (h.mem_iff.1 hx)⟩
def labsR (s:B8):Option (List Lb × B8) :=
 if s.takeWhile wordC ≠ [] ∧ Base.nameB (Base.ofL (s.takeWhile wordC)) = false then none else
  match s.dropWhile wordC with
  | 123 :: t => bracesR (t.length + 1) (if s.takeWhile wordC ≠ [] then [⟨metric,Base.ofL (s.takeWhile wordC)⟩] else []) t
  | _ => some (if s.takeWhile wordC ≠ [] then [⟨metric,Base.ofL (s.takeWhile wordC)⟩] else [],s.dropWhile wordC)
theorem rest_same {α:Type} (E:List Lb → B8 → Option α) (l0:List Lb) (h0:l0.length ≤ 1) (s:B8) :
 ((restP l0 s).bind fun p => if canB (sortP p.1) = true then E (sortP p.1) p.2 else none) =
   (match s with | 123 :: t => bracesR (t.length + 1) l0 t | _ => some (l0,s)).bind fun p => if canB p.1.reverse = true then E p.1.reverse p.2 else none:=by
 have hs0:∀ l:List Lb,sortP (l0 ++ l) = (l.foldl (fun r x => insR x r) l0).reverse:=fun l => by
  unfold sortP
  rw [List.foldl_append]
  match l0,h0 with
  | [],_ => rfl
  | [x],_ => rfl
 have hs1:sortP l0 = l0.reverse:=by
  have:=hs0 []
  simpa using this
 unfold restP
 split
 · rename_i t
   unfold bracesP
   rw [expect_cons,if_pos rfl]
   simp only [Option.bind_some]
   have e:=labels_raw (t.length + 1) [] t (by simp)
   simp only [List.nil_append] at e
   rw [show (123 :: t:B8).length = t.length + 1 from rfl,e,bracesR_raw]
   cases hr:rawP (t.length + 1) t with
   | none => rfl
   | some p =>
     obtain ⟨ls,r⟩:=p
     simp only [Option.bind_some,List.length_nil,Nat.zero_add]
     have hp:=ins_fold_perm ls l0
     rcases addsR_some ls l0 with ha | ⟨ha,hd⟩
     · rw [ha]
       by_cases hc:canB (ls.foldl (fun r x => insR x r) l0).reverse = true
       · obtain ⟨g1,g2,g3⟩:=can_names hc
         have hl:l0.length + ls.length ≤ 8:=by
          rw [List.length_reverse,hp.length_eq,List.length_append] at g1
          exact g1
         have hk:okN ls = true:=by
          rw [okN_perm (List.reverse_perm _),okN_perm hp] at g2
          unfold okN at g2 ⊢
          rw [List.all_append,Bool.and_eq_true] at g2
          exact g2.2
         rw [if_pos ⟨hk,by omega⟩,if_pos (by omega)]
         simp only [Option.map_some,Option.bind_some,hs0,hc,if_true]
       · split
         · simp only [Option.map_some,Option.bind_some,hs0]
           rw [if_neg hc]
           split
           · simp only [Option.map_some,Option.bind_some]
             rw [if_neg hc]
           · rfl
         · split
           · simp only [Option.map_some,Option.map_none,Option.bind_some,Option.bind_none]
             rw [if_neg hc]
           · rfl
     · rw [ha]
       have hn:¬ canB (sortP (l0 ++ ls)) = true:=fun hc => by
        obtain ⟨_,_,g3⟩:=can_names hc
        rw [hs0] at g3
        exact hd ((((List.reverse_perm _).trans hp).map (·.f0)).nodup_iff.1 g3)
       split
       · simp only [Option.map_some,Option.bind_some]
         rw [if_neg hn]
         split <;> rfl
       · split <;> rfl
 · rename_i h9
   simp only [Option.bind_some,hs1]
theorem labs_same {α:Type} (E:List Lb → B8 → Option α) (s:B8) :
 ((labsP s).bind fun p => if canB (sortP p.1) = true then E (sortP p.1) p.2 else none) = (labsR s).bind fun p => if canB p.1.reverse = true then E p.1.reverse p.2 else none:=by
 unfold labsP labsR headP
 cases s with
 | nil => simpa using rest_same E [] (by simp) []
 | cons c r =>
   simp only
   by_cases hw:wordC c = true
   · have ht:(c :: r).takeWhile wordC = c :: r.takeWhile wordC:=by simp [hw]
     rw [if_pos hw]
     unfold nameP
     by_cases hn:Base.nameB (Base.ofL ((c :: r).takeWhile wordC)) = true
     · rw [if_pos hn,if_neg (by rw [hn];rintro ⟨_,h9⟩;cases h9),if_pos (by rw [ht];simp)]
       simp only [Option.map_some,Option.bind_some]
       exact rest_same E [⟨metric,Base.ofL ((c :: r).takeWhile wordC)⟩] (by simp) _
     · rw [if_neg hn,if_pos ⟨by rw [ht];simp,by simpa using hn⟩]
       rfl
   · have ht:(c :: r).takeWhile wordC = []:=by simp [hw]
     have hd:(c :: r).dropWhile wordC = c :: r:=by simp [hw]
     rw [if_neg hw,ht,if_neg (by simp),hd,if_neg (by simp)]
     simp only [Option.bind_some]
     exact rest_same E [] (by simp) (c :: r)
end Go.Proofs.YtmcpeifhapekoaaDoor.Tx
namespace Go.Proofs.YtmcpeifhapekoaaDoor.Tx
open Go.RowKit Go.Proofs.YtmcpeifhapekoaaDoor.PAll Go.Proofs.YtmcpeifhapekoaaDoorW.PrintWords Go.Proofs.YtmcpeifhapekoaaDoorW.PrintLast
open Go.Proofs.YtmcpeifhapekoaaDoor.Laws (okFrom canB)
theorem awake_read:readP canB [117,112,123,106,111,98,61,34,120,34,125,32,48,120,49,102,32,55] 0 = (some ⟨[⟨metric,Base.ofL [117,112]⟩,⟨Base.ofL [106,111,98],Base.ofL [120]⟩],7,31⟩,me0,0):=by kernel_rfl
end Go.Proofs.YtmcpeifhapekoaaDoor.Tx
namespace Go.Proofs.YtmcpeifhapekoaaDoor.PAll
open Go.RowKit Go.Proofs.YtmcpeifhapekoaaDoorW.PrintWords Go.Proofs.YtmcpeifhapekoaaDoorW.PrintLast Go.Proofs.YtmcpeifhapekoaaDoorW.PrintMore
attribute [local go_sem] max2_int min2_int max_two min_two max_three min_three max_four min_four
set_option linter.unusedVariables false
set_option linter.unusedSimpArgs false
mutual
def uw.j0:Nat → ByteArray → Bool → Option (ByteArray × ByteArray × Int)
 | 0,_,_ => none
 | k + 1,x0,x14 => if x14 = true then (some ((⟨#[]⟩:ByteArray),(⟨#[]⟩:ByteArray),5)) else (uw.l0 k x0 (⟨#[]⟩:ByteArray) 1)
def uw.l0:Nat → ByteArray → ByteArray → Int → Option (ByteArray × ByteArray × Int)
 | 0,_,_,_ => none
 | k + 1,x0,x5,x6 => if x6 < (x0.size:Int) then (if 0 ≤ x6 then (if (bt x0 x6) = 34 then (if 0 ≤ (wrap64 (x6 + 1)) then (if (wrap64 (x6 + 1)) ≤ (x0.size:Int) then (some (x5,x0.extract ((wrap64 (x6 + 1)):Int).toNat x0.size,0)) else (none)) else (none)) else (if (bt x0 x6) = 92 then (if (wrap64 (x6 + 1)) ≥ (x0.size:Int) then (some ((⟨#[]⟩:ByteArray),(⟨#[]⟩:ByteArray),5)) else (if 0 ≤ (wrap64 (x6 + 1)) then (if (wrap64 (x6 + 1)) < (x0.size:Int) then (if (bt x0 (wrap64 (x6 + 1))) = 34 then (if (wrap64 (x6 + 1)) ≤ (wrap64 ((wrap64 (x6 + 1)) + 1)) then (if (wrap64 ((wrap64 (x6 + 1)) + 1)) ≤ (x0.size:Int) then (if x5.size + (x0.extract ((wrap64 (x6 + 1)):Int).toNat ((wrap64 ((wrap64 (x6 + 1)) + 1)):Int).toNat).size ≤ 9223372036854775807 then (uw.l0 k x0 (x5 ++ (x0.extract ((wrap64 (x6 + 1)):Int).toNat ((wrap64 ((wrap64 (x6 + 1)) + 1)):Int).toNat)) (wrap64 ((wrap64 (x6 + 1)) + 1))) else (none)) else (none)) else (none)) else (if (bt x0 (wrap64 (x6 + 1))) = 92 then (if (wrap64 (x6 + 1)) ≤ (wrap64 ((wrap64 (x6 + 1)) + 1)) then (if (wrap64 ((wrap64 (x6 + 1)) + 1)) ≤ (x0.size:Int) then (if x5.size + (x0.extract ((wrap64 (x6 + 1)):Int).toNat ((wrap64 ((wrap64 (x6 + 1)) + 1)):Int).toNat).size ≤ 9223372036854775807 then (uw.l0 k x0 (x5 ++ (x0.extract ((wrap64 (x6 + 1)):Int).toNat ((wrap64 ((wrap64 (x6 + 1)) + 1)):Int).toNat)) (wrap64 ((wrap64 (x6 + 1)) + 1))) else (none)) else (none)) else (none)) else (some ((⟨#[]⟩:ByteArray),(⟨#[]⟩:ByteArray),5)))) else (none)) else (none))) else (if x6 ≤ (wrap64 (x6 + 1)) then (if (wrap64 (x6 + 1)) ≤ (x0.size:Int) then (if x5.size + (x0.extract (x6:Int).toNat ((wrap64 (x6 + 1)):Int).toNat).size ≤ 9223372036854775807 then (uw.l0 k x0 (x5 ++ (x0.extract (x6:Int).toNat ((wrap64 (x6 + 1)):Int).toNat)) (wrap64 (x6 + 1))) else (none)) else (none)) else (none)))) else (none)) else (some ((⟨#[]⟩:ByteArray),(⟨#[]⟩:ByteArray),5))
end
def uw.f (k:Nat) (a0:ByteArray):Option (ByteArray × ByteArray × Int):=if (a0.size:Int) = 0 then (uw.j0 k a0 true) else (if 0 < (a0.size:Int) then (uw.j0 k a0 ((bt a0 0) != 34)) else (none))
set_option maxHeartbeats 8000000 in
set_option maxRecDepth 100000 in
theorem uw.calls (k:Nat) (a0:ByteArray) (r1:ByteArray) (r2:ByteArray) (r3:Int) (w:World) (h:uw.f k a0 = some (r1,r2,r3)) :
 Calls Tryd.prog 91 #[.string a0] w fun e w' => e = .returned (.tuple #[.string r1,.string r2,.int .i64 r3]) ∧ us w w':=by
 have H:(if (a0.size:Int) = 0 then (uw.j0 k a0 true) else (if 0 < (a0.size:Int) then (uw.j0 k a0 ((bt a0 0) != 34)) else (none))) = some (r1,r2,r3):=h
 clear h
 have HC2:=Aside0.mk H
 clear H
 go_enter Tryd.func91,Tryd.ntmps91
 go_upto_region 1 with (fail)
 repeat (go_quiet (fail);go_upto_region 1 with (fail))
 go_cut [14] (fun v14 wc => ∃ (kq:Nat) (x14_1:Bool),v14 = .bool x14_1 ∧ Aside0 (uw.j0 kq a0 x14_1 = some (r1,r2,r3)) ∧ Aside0 (kq ≤ k) ∧ us w wc)
 case first =>
  have H:=HC2.out
  clear HC2
  by_cases c3:(a0.size:Int) = 0
  · rw [if_pos c3] at H
    have c3b0:((a0.size:Int) == 0) = true:=beq_iff_eq.mpr c3
    have c3b1:((a0.size:Int) != 0) = false:=bne_eq_false_iff_eq.mpr c3
    clear c3
    (first | rw [c3b0] | (simp only [i64_w,i32_w];rw [c3b0]) | skip)
    have H':=Aside0.mk H
    clear H
    go_wp2
    repeat (go_quiet (fail);try go_wp2)
    go_meet
    case rel => exact ⟨_,(true),(by first | rfl | (simp;done) | (simp [*];done)),H',⟨by first | omega | exact Nat.le_refl _⟩,by repeat (first | exact us.refl _ | apply us.step)⟩
  · rw [if_neg c3] at H
    have c3b0:((a0.size:Int) == 0) = false:=beq_eq_false_iff_ne.mpr c3
    have c3b1:((a0.size:Int) != 0) = true:=bne_iff_ne.mpr c3
    (first | rw [c3b0] | (simp only [i64_w,i32_w];rw [c3b0]) | skip)
    by_cases c4:0 < (a0.size:Int)
    · rw [if_pos c4] at H
      have c4b0:decide (0 < (a0.size:Int)) = true:=decide_eq_true c4
      have c4b1:decide (0 < a0.size) = true:=decide_eq_true (by omega)
      clear c4
      have H':=Aside0.mk H
      clear H
      have p5:0 ≤ (0:Int):=(by omega)
      have q5:0 < a0.size:=(by have:(0:Int) < (a0.size:Int):=of_decide_eq_true (by first | (with_reducible assumption) | assumption);omega)
      have hx5:∀ h:0 < a0.size,((a0[0]'h).toNat:Int) = bt a0 0:=bt_at a0 0
      clear p5
      have qi5:(0 < (a0.size:Int)) = True:=eq_true (of_decide_eq_true (by first | (with_reducible assumption) | assumption))
      replace q5:=eq_true q5
      go_wp2
      repeat (go_quiet (fail);try go_wp2)
      go_meet
      case rel => exact ⟨_,(((bt a0 0) != 34)),(by first | rfl | (simp;done) | (simp [*];done)),H',⟨by first | omega | exact Nat.le_refl _⟩,by repeat (first | exact us.refl _ | apply us.step)⟩
    · rw [if_neg c4] at H
      exact absurd H (by simp)
 case rest =>
  clear HC2
  try clear p2
  try clear c3
  try clear c3b0
  try clear c3b1
  try clear c4
  try clear c4b0
  try clear c4b1
  try clear p5
  try clear q5
  try clear hx5
  try clear qi5
  try clear p5
  try clear q5
  obtain ⟨kq,x14_1,rfl,HA,HJ1,⟨mc1,rfl⟩⟩:=hcut
  cases kq with
  | zero => exact absurd HA.out (by simp [uw.j0])
  | succ kj1 =>
    have H:=HA.out
    clear HA
    simp only [uw.j0] at H
    by_cases c6:x14_1 = true
    · subst c6
      have H1:(some ((⟨#[]⟩:ByteArray),(⟨#[]⟩:ByteArray),5)) = some (r1,r2,r3):=by rw [if_pos rfl] at H;exact H
      clear H
      have H:=H1
      clear H1
      simp only [Option.some.injEq,Prod.mk.injEq] at H
      obtain ⟨rfl,rfl,rfl⟩:=H
      go_wp2
      repeat (go_quiet (fail);try go_wp2)
      go_ret3
      exact ⟨by first | rfl | (simp;done) | (simp [*];done),by repeat (first | exact us.refl _ | apply us.step)⟩
    · replace c6:=Bool.eq_false_iff.mpr c6
      subst c6
      have H1:(uw.l0 kj1 a0 (⟨#[]⟩:ByteArray) 1) = some (r1,r2,r3):=by rw [if_neg (show ¬ (false = true) by decide)] at H;exact H
      clear H
      have H:=H1
      clear H1
      have H':=Aside0.mk H
      clear H
      go_wp2
      repeat (go_quiet (fail);try go_wp2)
      go_loopg [5,6] kj1 (fun kq v5 v6 w' => ∃ (x5_2:ByteArray) (x6_2:Int),v5 = .string x5_2 ∧ v6 = .int .i64 x6_2 ∧ Aside0 (uw.l0 kq a0 x5_2 x6_2 = some (r1,r2,r3)) ∧ Aside0 (kq ≤ kj1) ∧ us w w')
      case atStart => exact ⟨((⟨#[]⟩:ByteArray)),(1),(by first | rfl | (simp;done) | (simp [*];done)),(by first | rfl | (simp;done) | (simp [*];done)),H',⟨Nat.le_refl _⟩,by repeat (first | exact us.refl _ | apply us.step)⟩
      case round =>
       clear H'
       try clear c1
       try clear p2
       try clear c3
       try clear c3b0
       try clear c3b1
       try clear c4
       try clear c4b0
       try clear c4b1
       try clear p5
       try clear q5
       try clear hx5
       try clear qi5
       try clear c6
       try clear p2
       try clear p5
       try clear q5
       obtain ⟨x5_2,x6_2,rfl,rfl,HA,HK2,⟨m2,rfl⟩⟩:=hrel
       cases gk with
       | zero => exact absurd HA.out (by simp [uw.l0])
       | succ k2 =>
         have H:=HA.out
         clear HA
         simp only [uw.l0] at H
         by_cases c7:x6_2 < (a0.size:Int)
         · rw [if_pos c7] at H
           have c7b0:decide (x6_2 < (a0.size:Int)) = true:=decide_eq_true c7
           clear c7
           by_cases c8:0 ≤ x6_2
           · rw [if_pos c8] at H
             have c8b0:decide (0 ≤ x6_2) = true:=decide_eq_true c8
             clear c8
             by_cases c10:(bt a0 x6_2) = 34
             · rw [if_pos c10] at H
               have c10b0:((bt a0 x6_2) == 34) = true:=beq_iff_eq.mpr c10
               have c10b1:((bt a0 x6_2) != 34) = false:=bne_eq_false_iff_eq.mpr c10
               clear c10
               obtain ⟨ji11,hji11⟩:∃ j_:Int,(wrap64 (x6_2 + 1)) = j_:=⟨_,rfl⟩
               replace H:(if 0 ≤ (ji11) then (if (ji11) ≤ (a0.size:Int) then (some (x5_2,a0.extract ((ji11):Int).toNat a0.size,0)) else (none)) else (none)) = some (r1,r2,r3):=by first | (rw [hji11] at H;exact H) | (simp only [hji11] at H ⊢;exact H)
               have hji11w:(IntKind.i64.wrap (x6_2 + 1)) = ji11:=(i64_w _).trans hji11
               by_cases c12:0 ≤ (ji11)
               · rw [if_pos c12] at H
                 have c12b0:=eq_true c12
                 have c12b1:decide (0 ≤ (ji11)) = true:=decide_eq_true c12
                 clear c12
                 by_cases c13:(ji11) ≤ (a0.size:Int)
                 · rw [if_pos c13] at H
                   have c13b0:=eq_true c13
                   have c13b1:decide ((ji11) ≤ (a0.size:Int)) = true:=decide_eq_true c13
                   clear c13
                   simp only [Option.some.injEq,Prod.mk.injEq] at H
                   obtain ⟨rfl,rfl,rfl⟩:=H
                   have p9:0 ≤ (x6_2:Int):=of_decide_eq_true (by first | (with_reducible assumption) | assumption)
                   have q9:x6_2 < (a0.size:Int):=of_decide_eq_true (by first | (with_reducible assumption) | assumption)
                   have hx9:=bt_at a0 x6_2
                   replace p9:=eq_true p9
                   replace q9:=eq_true q9
                   go_wp2
                   repeat (go_quiet (fail);try go_wp2)
                   go_ret3
                   exact ⟨by first | rfl | (simp;done) | (simp only [← hji11] <;> (first | rfl | simp)) | (simp [*];done),by repeat (first | exact us.refl _ | apply us.step)⟩
                 · rw [if_neg c13] at H
                   exact absurd H (by simp)
               · rw [if_neg c12] at H
                 exact absurd H (by simp)
             · rw [if_neg c10] at H
               have c10b0:((bt a0 x6_2) == 34) = false:=beq_eq_false_iff_ne.mpr c10
               have c10b1:((bt a0 x6_2) != 34) = true:=bne_iff_ne.mpr c10
               by_cases c15:(bt a0 x6_2) = 92
               · rw [if_pos c15] at H
                 have c15b0:((bt a0 x6_2) == 92) = true:=beq_iff_eq.mpr c15
                 have c15b1:((bt a0 x6_2) != 92) = false:=bne_eq_false_iff_eq.mpr c15
                 clear c15
                 by_cases c16:(wrap64 (x6_2 + 1)) ≥ (a0.size:Int)
                 · rw [if_pos c16] at H
                   have c16b0:decide ((a0.size:Int) ≤ (wrap64 (x6_2 + 1))) = true:=decide_eq_true c16
                   clear c16
                   simp only [Option.some.injEq,Prod.mk.injEq] at H
                   obtain ⟨rfl,rfl,rfl⟩:=H
                   have p9:0 ≤ (x6_2:Int):=of_decide_eq_true (by first | (with_reducible assumption) | assumption)
                   have q9:x6_2 < (a0.size:Int):=of_decide_eq_true (by first | (with_reducible assumption) | assumption)
                   have hx9:=bt_at a0 x6_2
                   replace p9:=eq_true p9
                   replace q9:=eq_true q9
                   have p14:0 ≤ (x6_2:Int):=of_decide_eq_true (by first | (with_reducible assumption) | assumption)
                   have q14:x6_2 < (a0.size:Int):=of_decide_eq_true (by first | (with_reducible assumption) | assumption)
                   have hx14:=bt_at a0 x6_2
                   replace p14:=eq_true p14
                   replace q14:=eq_true q14
                   go_wp2
                   repeat (go_quiet (fail);try go_wp2)
                   go_ret3
                   exact ⟨by first | rfl | (simp;done) | (simp [*];done),by repeat (first | exact us.refl _ | apply us.step)⟩
                 · rw [if_neg c16] at H
                   have c16b0:decide ((a0.size:Int) ≤ (wrap64 (x6_2 + 1))) = false:=decide_eq_false c16
                   clear c16
                   obtain ⟨ji17,hji17⟩:∃ j_:Int,(wrap64 (x6_2 + 1)) = j_:=⟨_,rfl⟩
                   replace H:(if 0 ≤ (ji17) then (if (ji17) < (a0.size:Int) then (if (bt a0 (ji17)) = 34 then (if (ji17) ≤ (wrap64 ((ji17) + 1)) then (if (wrap64 ((ji17) + 1)) ≤ (a0.size:Int) then (if x5_2.size + (a0.extract ((ji17):Int).toNat ((wrap64 ((ji17) + 1)):Int).toNat).size ≤ 9223372036854775807 then (uw.l0 k2 a0 (x5_2 ++ (a0.extract ((ji17):Int).toNat ((wrap64 ((ji17) + 1)):Int).toNat)) (wrap64 ((ji17) + 1))) else (none)) else (none)) else (none)) else (if (bt a0 (ji17)) = 92 then (if (ji17) ≤ (wrap64 ((ji17) + 1)) then (if (wrap64 ((ji17) + 1)) ≤ (a0.size:Int) then (if x5_2.size + (a0.extract ((ji17):Int).toNat ((wrap64 ((ji17) + 1)):Int).toNat).size ≤ 9223372036854775807 then (uw.l0 k2 a0 (x5_2 ++ (a0.extract ((ji17):Int).toNat ((wrap64 ((ji17) + 1)):Int).toNat)) (wrap64 ((ji17) + 1))) else (none)) else (none)) else (none)) else (some ((⟨#[]⟩:ByteArray),(⟨#[]⟩:ByteArray),5)))) else (none)) else (none)) = some (r1,r2,r3):=by first | (rw [hji17] at H;exact H) | (simp only [hji17] at H ⊢;exact H)
                   (try rw [hji17] at c16b0)
                   have hji17w:(IntKind.i64.wrap (x6_2 + 1)) = ji17:=(i64_w _).trans hji17
                   by_cases c18:0 ≤ (ji17)
                   · rw [if_pos c18] at H
                     have c18b0:decide (0 ≤ (ji17)) = true:=decide_eq_true c18
                     clear c18
                     by_cases c19:(ji17) < (a0.size:Int)
                     · rw [if_pos c19] at H
                       have c19b0:decide ((ji17) < (a0.size:Int)) = true:=decide_eq_true c19
                       clear c19
                       by_cases c21:(bt a0 (ji17)) = 34
                       · rw [if_pos c21] at H
                         have c21b0:((bt a0 (ji17)) == 34) = true:=beq_iff_eq.mpr c21
                         have c21b1:((bt a0 (ji17)) != 34) = false:=bne_eq_false_iff_eq.mpr c21
                         clear c21
                         have c22b0:=eq_true (of_decide_eq_true (by first | (with_reducible assumption) | assumption):0 ≤ (ji17))
                         by_cases c23:(ji17) ≤ (wrap64 ((ji17) + 1))
                         · rw [if_pos c23] at H
                           have c23b0:=eq_true c23
                           have c23b1:decide ((ji17) ≤ (wrap64 ((ji17) + 1))) = true:=decide_eq_true c23
                           by_cases c24:(wrap64 ((ji17) + 1)) ≤ (a0.size:Int)
                           · rw [if_pos c24] at H
                             have c24b0:=eq_true c24
                             have c24b1:decide ((wrap64 ((ji17) + 1)) ≤ (a0.size:Int)) = true:=decide_eq_true c24
                             by_cases c25:x5_2.size + (a0.extract ((ji17):Int).toNat ((wrap64 ((ji17) + 1)):Int).toNat).size ≤ 9223372036854775807
                             · rw [if_pos c25] at H
                               have c25b0:=eq_true c25
                               have c25b1:decide (x5_2.size + (a0.extract ((ji17):Int).toNat ((wrap64 ((ji17) + 1)):Int).toNat).size ≤ 9223372036854775807) = true:=decide_eq_true c25
                               try have c25b2:(9223372036854775807 < x5_2.size + (a0.extract ((ji17):Int).toNat ((wrap64 ((ji17) + 1)):Int).toNat).size) = False:=eq_false (Nat.not_lt.2 c25)
                               try (have c25b3:=c25b2;simp only [ByteArray.size_append,Base.size1] at c25b3)
                               have H':=Aside0.mk H
                               clear H
                               have p9:0 ≤ (x6_2:Int):=of_decide_eq_true (by first | (with_reducible assumption) | assumption)
                               have q9:x6_2 < (a0.size:Int):=of_decide_eq_true (by first | (with_reducible assumption) | assumption)
                               have hx9:=bt_at a0 x6_2
                               replace p9:=eq_true p9
                               replace q9:=eq_true q9
                               have p14:0 ≤ (x6_2:Int):=of_decide_eq_true (by first | (with_reducible assumption) | assumption)
                               have q14:x6_2 < (a0.size:Int):=of_decide_eq_true (by first | (with_reducible assumption) | assumption)
                               have hx14:=bt_at a0 x6_2
                               replace p14:=eq_true p14
                               replace q14:=eq_true q14
                               have p20:0 ≤ ((ji17):Int):=of_decide_eq_true (by first | (with_reducible assumption) | assumption)
                               have q20:(ji17) < (a0.size:Int):=of_decide_eq_true (by first | (with_reducible assumption) | assumption)
                               have hx20:=bt_at a0 (ji17)
                               replace p20:=eq_true p20
                               replace q20:=eq_true q20
                               go_wp2
                               repeat (go_quiet (fail);try go_wp2)
                               go_roundg k2
                               case measure => have:=HJ1.out;have:=HK2.out;omega
                               case rel => exact ⟨(x5_2 ++ (a0.extract ((ji17):Int).toNat ((wrap64 ((ji17) + 1)):Int).toNat)),(wrap64 ((ji17) + 1)),(by first | rfl | (simp;done) | (simp only [← hji17] <;> (first | rfl | simp)) | (simp [*];done)),(by first | rfl | (simp;done) | (simp only [← hji17] <;> (first | rfl | simp)) | (simp [*];done)),H',⟨by have:=HJ1.out;have:=HK2.out;omega⟩,by repeat (first | exact us.refl _ | apply us.step)⟩
                             · rw [if_neg c25] at H
                               exact absurd H (by simp)
                           · rw [if_neg c24] at H
                             exact absurd H (by simp)
                         · rw [if_neg c23] at H
                           exact absurd H (by simp)
                       · rw [if_neg c21] at H
                         have c21b0:((bt a0 (ji17)) == 34) = false:=beq_eq_false_iff_ne.mpr c21
                         have c21b1:((bt a0 (ji17)) != 34) = true:=bne_iff_ne.mpr c21
                         by_cases c27:(bt a0 (ji17)) = 92
                         · rw [if_pos c27] at H
                           have c27b0:((bt a0 (ji17)) == 92) = true:=beq_iff_eq.mpr c27
                           have c27b1:((bt a0 (ji17)) != 92) = false:=bne_eq_false_iff_eq.mpr c27
                           clear c27
                           have c28b0:=eq_true (of_decide_eq_true (by first | (with_reducible assumption) | assumption):0 ≤ (ji17))
                           by_cases c29:(ji17) ≤ (wrap64 ((ji17) + 1))
                           · rw [if_pos c29] at H
                             have c29b0:=eq_true c29
                             have c29b1:decide ((ji17) ≤ (wrap64 ((ji17) + 1))) = true:=decide_eq_true c29
                             by_cases c30:(wrap64 ((ji17) + 1)) ≤ (a0.size:Int)
                             · rw [if_pos c30] at H
                               have c30b0:=eq_true c30
                               have c30b1:decide ((wrap64 ((ji17) + 1)) ≤ (a0.size:Int)) = true:=decide_eq_true c30
                               by_cases c31:x5_2.size + (a0.extract ((ji17):Int).toNat ((wrap64 ((ji17) + 1)):Int).toNat).size ≤ 9223372036854775807
                               · rw [if_pos c31] at H
                                 have c31b0:=eq_true c31
                                 have c31b1:decide (x5_2.size + (a0.extract ((ji17):Int).toNat ((wrap64 ((ji17) + 1)):Int).toNat).size ≤ 9223372036854775807) = true:=decide_eq_true c31
                                 try have c31b2:(9223372036854775807 < x5_2.size + (a0.extract ((ji17):Int).toNat ((wrap64 ((ji17) + 1)):Int).toNat).size) = False:=eq_false (Nat.not_lt.2 c31)
                                 try (have c31b3:=c31b2;simp only [ByteArray.size_append,Base.size1] at c31b3)
                                 have H':=Aside0.mk H
                                 clear H
                                 have p9:0 ≤ (x6_2:Int):=of_decide_eq_true (by first | (with_reducible assumption) | assumption)
                                 have q9:x6_2 < (a0.size:Int):=of_decide_eq_true (by first | (with_reducible assumption) | assumption)
                                 have hx9:=bt_at a0 x6_2
                                 replace p9:=eq_true p9
                                 replace q9:=eq_true q9
                                 have p14:0 ≤ (x6_2:Int):=of_decide_eq_true (by first | (with_reducible assumption) | assumption)
                                 have q14:x6_2 < (a0.size:Int):=of_decide_eq_true (by first | (with_reducible assumption) | assumption)
                                 have hx14:=bt_at a0 x6_2
                                 replace p14:=eq_true p14
                                 replace q14:=eq_true q14
                                 have p20:0 ≤ ((ji17):Int):=of_decide_eq_true (by first | (with_reducible assumption) | assumption)
                                 have q20:(ji17) < (a0.size:Int):=of_decide_eq_true (by first | (with_reducible assumption) | assumption)
                                 have hx20:=bt_at a0 (ji17)
                                 replace p20:=eq_true p20
                                 replace q20:=eq_true q20
                                 have p26:0 ≤ ((ji17):Int):=of_decide_eq_true (by first | (with_reducible assumption) | assumption)
                                 have q26:(ji17) < (a0.size:Int):=of_decide_eq_true (by first | (with_reducible assumption) | assumption)
                                 have hx26:=bt_at a0 (ji17)
                                 replace p26:=eq_true p26
                                 replace q26:=eq_true q26
                                 go_wp2
                                 repeat (go_quiet (fail);try go_wp2)
                                 go_roundg k2
                                 case measure => have:=HJ1.out;have:=HK2.out;omega
                                 case rel => exact ⟨(x5_2 ++ (a0.extract ((ji17):Int).toNat ((wrap64 ((ji17) + 1)):Int).toNat)),(wrap64 ((ji17) + 1)),(by first | rfl | (simp;done) | (simp only [← hji17] <;> (first | rfl | simp)) | (simp [*];done)),(by first | rfl | (simp;done) | (simp only [← hji17] <;> (first | rfl | simp)) | (simp [*];done)),H',⟨by have:=HJ1.out;have:=HK2.out;omega⟩,by repeat (first | exact us.refl _ | apply us.step)⟩
                               · rw [if_neg c31] at H
                                 exact absurd H (by simp)
                             · rw [if_neg c30] at H
                               exact absurd H (by simp)
                           · rw [if_neg c29] at H
                             exact absurd H (by simp)
                         · rw [if_neg c27] at H
                           have c27b0:((bt a0 (ji17)) == 92) = false:=beq_eq_false_iff_ne.mpr c27
                           have c27b1:((bt a0 (ji17)) != 92) = true:=bne_iff_ne.mpr c27
                           simp only [Option.some.injEq,Prod.mk.injEq] at H
                           obtain ⟨rfl,rfl,rfl⟩:=H
                           have p9:0 ≤ (x6_2:Int):=of_decide_eq_true (by first | (with_reducible assumption) | assumption)
                           have q9:x6_2 < (a0.size:Int):=of_decide_eq_true (by first | (with_reducible assumption) | assumption)
                           have hx9:=bt_at a0 x6_2
                           replace p9:=eq_true p9
                           replace q9:=eq_true q9
                           have p14:0 ≤ (x6_2:Int):=of_decide_eq_true (by first | (with_reducible assumption) | assumption)
                           have q14:x6_2 < (a0.size:Int):=of_decide_eq_true (by first | (with_reducible assumption) | assumption)
                           have hx14:=bt_at a0 x6_2
                           replace p14:=eq_true p14
                           replace q14:=eq_true q14
                           have p20:0 ≤ ((ji17):Int):=of_decide_eq_true (by first | (with_reducible assumption) | assumption)
                           have q20:(ji17) < (a0.size:Int):=of_decide_eq_true (by first | (with_reducible assumption) | assumption)
                           have hx20:=bt_at a0 (ji17)
                           replace p20:=eq_true p20
                           replace q20:=eq_true q20
                           have p26:0 ≤ ((ji17):Int):=of_decide_eq_true (by first | (with_reducible assumption) | assumption)
                           have q26:(ji17) < (a0.size:Int):=of_decide_eq_true (by first | (with_reducible assumption) | assumption)
                           have hx26:=bt_at a0 (ji17)
                           replace p26:=eq_true p26
                           replace q26:=eq_true q26
                           go_wp2
                           repeat (go_quiet (fail);try go_wp2)
                           go_ret3
                           exact ⟨by first | rfl | (simp;done) | (simp only [← hji17] <;> (first | rfl | simp)) | (simp [*];done),by repeat (first | exact us.refl _ | apply us.step)⟩
                     · rw [if_neg c19] at H
                       exact absurd H (by simp)
                   · rw [if_neg c18] at H
                     exact absurd H (by simp)
               · rw [if_neg c15] at H
                 have c15b0:((bt a0 x6_2) == 92) = false:=beq_eq_false_iff_ne.mpr c15
                 have c15b1:((bt a0 x6_2) != 92) = true:=bne_iff_ne.mpr c15
                 have c32b0:=eq_true (of_decide_eq_true (by first | (with_reducible assumption) | assumption):0 ≤ x6_2)
                 by_cases c33:x6_2 ≤ (wrap64 (x6_2 + 1))
                 · rw [if_pos c33] at H
                   have c33b0:=eq_true c33
                   have c33b1:decide (x6_2 ≤ (wrap64 (x6_2 + 1))) = true:=decide_eq_true c33
                   by_cases c34:(wrap64 (x6_2 + 1)) ≤ (a0.size:Int)
                   · rw [if_pos c34] at H
                     have c34b0:=eq_true c34
                     have c34b1:decide ((wrap64 (x6_2 + 1)) ≤ (a0.size:Int)) = true:=decide_eq_true c34
                     by_cases c35:x5_2.size + (a0.extract (x6_2:Int).toNat ((wrap64 (x6_2 + 1)):Int).toNat).size ≤ 9223372036854775807
                     · rw [if_pos c35] at H
                       have c35b0:=eq_true c35
                       have c35b1:decide (x5_2.size + (a0.extract (x6_2:Int).toNat ((wrap64 (x6_2 + 1)):Int).toNat).size ≤ 9223372036854775807) = true:=decide_eq_true c35
                       try have c35b2:(9223372036854775807 < x5_2.size + (a0.extract (x6_2:Int).toNat ((wrap64 (x6_2 + 1)):Int).toNat).size) = False:=eq_false (Nat.not_lt.2 c35)
                       try (have c35b3:=c35b2;simp only [ByteArray.size_append,Base.size1] at c35b3)
                       try (have c35b4:(9223372036854775807 < x5_2.size + (((wrap64 (x6_2 + 1))).toNat - (x6_2).toNat)) = False:=eq_false (by have h4_:=c35;simp only [ByteArray.size_extract,ByteArray.size_append,Base.size1] at h4_;omega))
                       have H':=Aside0.mk H
                       clear H
                       have p9:0 ≤ (x6_2:Int):=of_decide_eq_true (by first | (with_reducible assumption) | assumption)
                       have q9:x6_2 < (a0.size:Int):=of_decide_eq_true (by first | (with_reducible assumption) | assumption)
                       have hx9:=bt_at a0 x6_2
                       replace p9:=eq_true p9
                       replace q9:=eq_true q9
                       have p14:0 ≤ (x6_2:Int):=of_decide_eq_true (by first | (with_reducible assumption) | assumption)
                       have q14:x6_2 < (a0.size:Int):=of_decide_eq_true (by first | (with_reducible assumption) | assumption)
                       have hx14:=bt_at a0 x6_2
                       replace p14:=eq_true p14
                       replace q14:=eq_true q14
                       go_wp2
                       repeat (go_quiet (fail);try go_wp2)
                       go_roundg k2
                       case measure => have:=HJ1.out;have:=HK2.out;omega
                       case rel => exact ⟨(x5_2 ++ (a0.extract (x6_2:Int).toNat ((wrap64 (x6_2 + 1)):Int).toNat)),(wrap64 (x6_2 + 1)),(by first | rfl | (simp;done) | (simp [*];done)),(by first | rfl | (simp;done) | (simp [*];done)),H',⟨by have:=HJ1.out;have:=HK2.out;omega⟩,by repeat (first | exact us.refl _ | apply us.step)⟩
                     · rw [if_neg c35] at H
                       exact absurd H (by simp)
                   · rw [if_neg c34] at H
                     exact absurd H (by simp)
                 · rw [if_neg c33] at H
                   exact absurd H (by simp)
           · rw [if_neg c8] at H
             exact absurd H (by simp)
         · rw [if_neg c7] at H
           have c7b0:decide (x6_2 < (a0.size:Int)) = false:=decide_eq_false c7
           clear c7
           simp only [Option.some.injEq,Prod.mk.injEq] at H
           obtain ⟨rfl,rfl,rfl⟩:=H
           go_wp2
           repeat (go_quiet (fail);try go_wp2)
           go_ret3
           exact ⟨by first | rfl | (simp;done) | (simp [*];done),by repeat (first | exact us.refl _ | apply us.step)⟩
end Go.Proofs.YtmcpeifhapekoaaDoor.PAll
namespace Go.Proofs.YtmcpeifhapekoaaDoor.Laws
open Go.RowKit Go.Proofs.YtmcpeifhapekoaaDoor.PAll Go.Proofs.YtmcpeifhapekoaaDoorW.PrintWords Go.Proofs.YtmcpeifhapekoaaDoorW.PrintLast
set_option linter.unusedVariables false
set_option linter.unusedSimpArgs false
theorem head_drop (s:ByteArray) (i:Nat) (c:UInt8) (r:List UInt8) (h:s.data.toList.drop i = c :: r):i < s.size ∧ bt s (i:Int) = (c.toNat:Int) ∧ s.data.toList.drop (i + 1) = r ∧ (s.extract i (i + 1)) = Base.ofL [c] ∧ r.length + i + 1 = s.size:=by
 have hlt:i < s.data.toList.length:=by
  rcases Nat.lt_or_ge i s.data.toList.length with h1 | h1
  · exact h1
  · rw [List.drop_eq_nil_of_le h1] at h
    cases h
 have hs:s.size = s.data.toList.length:=Base.size_list s
 have hlen:(s.data.toList.drop i).length = s.data.toList.length - i:=List.length_drop
 rw [h] at hlen
 simp only [List.length_cons] at hlen
 have h':=h
 rw [List.drop_eq_getElem_cons hlt] at h
 obtain ⟨h1,h2⟩:=List.cons.inj h
 refine ⟨by omega,?_,h2,?_,by omega⟩
 · rw [Base.bt_list s i (by omega),List.getD_eq_getElem?_getD,List.getElem?_eq_getElem hlt,h1]
   rfl
 · refine Base.ext_data ?_
   rw [Base.extract_list,Base.ofL_data,h']
   have:i + 1 - i = 1:=by omega
   rw [this]
   rfl
theorem byte_is (c:UInt8):((c.toNat:Int) = 34 ↔ c = 34) ∧ ((c.toNat:Int) = 92 ↔ c = 92):=by
 refine ⟨⟨fun e => UInt8.toNat_inj.1 (by simpa using (by omega:c.toNat = 34)),fun e => by rw [e];rfl⟩,⟨fun e => UInt8.toNat_inj.1 (by simpa using (by omega:c.toNat = 92)),fun e => by rw [e];rfl⟩⟩
theorem drop_end (s:ByteArray) (i:Nat) (h:s.data.toList.drop i = []):s.size ≤ i:=by
 have hs:s.size = s.data.toList.length:=Base.size_list s
 rcases Nat.lt_or_ge i s.data.toList.length with h1 | h1
 · rw [List.drop_eq_getElem_cons h1] at h
   cases h
 · omega
def outU (o:Option (List UInt8 × List UInt8)):ByteArray × ByteArray × Int:=match o with
 | some (a,q) => (Base.ofL a,Base.ofL q,0)
 | none => (⟨#[]⟩,⟨#[]⟩,5)
theorem unq_cons (s:ByteArray) (r:List UInt8) (h:s.data.toList = 34 :: r):Base.unq s = outU (Base.unqL r []):=by
 unfold Base.unq
 rw [h]
 simp only [outU,if_true]
 cases Base.unqL r [] with
 | none => rfl
 | some y => rfl
theorem unq_else (s:ByteArray) (h:∀ r,s.data.toList ≠ 34 :: r):Base.unq s = ((⟨#[]⟩:ByteArray),(⟨#[]⟩:ByteArray),5):=by
 unfold Base.unq
 cases hl:s.data.toList with
 | nil => rfl
 | cons c r =>
   have hc:¬ c = 34:=fun e => h r (by rw [hl,e])
   simp only [hc,if_false]
theorem runq_l0 (s:ByteArray) (hs:s.size ≤ 1000000000000000):∀ (n:Nat) (r:List UInt8) (i:Nat) (acc:ByteArray),r.length ≤ n → s.data.toList.drop i = r → i ≤ s.size → acc.size ≤ i →
 Ev (fun k => uw.l0 k s acc (i:Int)) (outU (Base.unqL r acc.data.toList)):=by
 intro n
 induction n with
 | zero =>
   intro r i acc hn h hi ha
   have hr:r = []:=List.eq_nil_of_length_eq_zero (by omega)
   subst hr
   have hi2:=drop_end s i h
   rw [Base.unqL_nil]
   refine Ev.step (f:=fun _ => some (outU none)) (fun k => ?_) (Ev.now _)
   simp only [uw.l0]
   rw [if_neg (by omega)]
   rfl
 | succ n ih =>
   intro r i acc hn h hi ha
   cases r with
   | nil =>
     have hi2:=drop_end s i h
     rw [Base.unqL_nil]
     refine Ev.step (f:=fun _ => some (outU none)) (fun k => ?_) (Ev.now _)
     simp only [uw.l0]
     rw [if_neg (by omega)]
     rfl
   | cons c r =>
     obtain ⟨hlt,hbt',hr,hex,hlen⟩:=head_drop s i c r h
     have hbt:=Aside0.mk hbt'
     clear hbt'
     have hw:wrap64 ((i:Int) + 1) = ((i + 1:Nat):Int):=Base.wrap_nat i (by omega)
     have h1:((i:Int) < (s.size:Int)):=by omega
     have h0:((0:Int) ≤ (i:Int)):=by omega
     have hb:=Aside0.mk (byte_is c)
     have hsz1:∀ d:UInt8,(Base.ofL [d]).size = 1:=fun d => by rw [Base.size_list,Base.ofL_data];rfl
     by_cases h34:c = 34
     · rw [h34,Base.unqL_end]
       refine Ev.step (f:=fun _ => some (outU (some (acc.data.toList,r)))) (fun k => ?_) (Ev.now _)
       simp only [uw.l0]
       rw [if_pos h1,if_pos h0,hbt.out,if_pos (hb.out.1.2 h34),hw,if_pos (by omega),if_pos (by omega)]
       have e1:s.extract ((i + 1:Nat):Int).toNat s.size = Base.ofL r:=Base.ext_data (by rw [Base.extract_rest,Base.ofL_data];exact hr)
       rw [e1]
       simp only [outU,Base.ofL_of]
     · have hn34:Aside0 (¬ (c.toNat:Int) = 34):=⟨fun e => h34 (hb.out.1.1 e)⟩
       by_cases h92:c = 92
       · cases r with
         | nil =>
           rw [h92,Base.unqL_open]
           have hi3:=drop_end s (i + 1) hr
           refine Ev.step (f:=fun _ => some (outU none)) (fun k => ?_) (Ev.now _)
           simp only [uw.l0]
           rw [if_pos h1,if_pos h0,hbt.out,if_neg hn34.out,if_pos (hb.out.2.2 h92),hw,if_pos (by omega)]
           rfl
         | cons d q =>
           obtain ⟨hlt2,hbt2',hr2,hex2,hlen2⟩:=head_drop s (i + 1) d q hr
           have hbt2:=Aside0.mk hbt2'
           clear hbt2'
           have hb2:=Aside0.mk (byte_is d)
           have hw2:wrap64 (((i + 1:Nat):Int) + 1) = ((i + 1 + 1:Nat):Int):=Base.wrap_nat (i + 1) (by omega)
           have h5:((0:Int) ≤ ((i + 1:Nat):Int)):=Int.natCast_nonneg _
           have h6:(((i + 1:Nat):Int) < (s.size:Int)):=by omega
           have h7:¬ (((i + 1:Nat):Int) ≥ (s.size:Int)):=by omega
           have h8:(((i + 1:Nat):Int) ≤ ((i + 1 + 1:Nat):Int)):=by omega
           have h9:(((i + 1 + 1:Nat):Int) ≤ (s.size:Int)):=by omega
           have hexd:s.extract ((i + 1:Nat):Int).toNat ((i + 1 + 1:Nat):Int).toNat = Base.ofL [d]:=hex2
           by_cases hd:d = 34 ∨ d = 92
           · have ih2:=ih q (i + 1 + 1) (acc ++ Base.ofL [d]) (by simp at hn;omega) hr2 (by omega) (by rw [Base.size_list,Base.append_data,List.length_append,← Base.size_list,Base.ofL_data];simp;omega)
             rw [h92,Base.unqL_esc d q _ hd]
             rw [Base.append_data,Base.ofL_data] at ih2
             refine Ev.step (fun k => ?_) ih2
             simp only [uw.l0]
             rw [if_pos h1,if_pos h0,hbt.out,if_neg hn34.out,if_pos (hb.out.2.2 h92),hw,if_neg h7,if_pos h5,if_pos h6,hbt2.out,hw2]
             rcases hd with hd | hd
             · rw [if_pos (hb2.out.1.2 hd),if_pos h8,if_pos h9,hexd,if_pos (by rw [hsz1];omega)]
             · rw [if_neg (fun e => by have:=hb2.out.1.1 e;rw [hd] at this;exact absurd this (by decide)),if_pos (hb2.out.2.2 hd),if_pos h8,if_pos h9,hexd,if_pos (by rw [hsz1];omega)]
           · rw [h92,Base.unqL_bad d q _ hd]
             refine Ev.step (f:=fun _ => some (outU none)) (fun k => ?_) (Ev.now _)
             simp only [uw.l0]
             rw [if_pos h1,if_pos h0,hbt.out,if_neg hn34.out,if_pos (hb.out.2.2 h92),hw,if_neg h7,if_pos h5,if_pos h6,hbt2.out,if_neg (fun e => hd (.inl (hb2.out.1.1 e))),if_neg (fun e => hd (.inr (hb2.out.2.1 e)))]
             rfl
       · have ih2:=ih r (i + 1) (acc ++ Base.ofL [c]) (by simp at hn;omega) hr (by omega) (by rw [Base.size_list,Base.append_data,List.length_append,← Base.size_list,Base.ofL_data];simp;omega)
         have hexc:s.extract (i:Int).toNat ((i + 1:Nat):Int).toNat = Base.ofL [c]:=hex
         rw [Base.unqL_plain c r _ h34 h92]
         rw [Base.append_data,Base.ofL_data] at ih2
         refine Ev.step (fun k => ?_) ih2
         simp only [uw.l0]
         rw [if_pos h1,if_pos h0,hbt.out,if_neg hn34.out,if_neg (fun e => h92 (hb.out.2.1 e)),hw,if_pos (by omega),if_pos (by omega),hexc,if_pos (by rw [hsz1];omega)]
theorem runq_ev (s:ByteArray) (hs:s.size ≤ 1000000000000000):Ev (fun k => uw.f k s) (Base.unq s):=by
 by_cases h0:s.size = 0
 · have hu:Base.unq s = ((⟨#[]⟩:ByteArray),(⟨#[]⟩:ByteArray),5):=unq_else s (fun r hr => by
    have:=Base.size_list s
    rw [hr] at this
    simp at this
    omega)
   rw [hu]
   refine Ev.congr (f:=fun k => uw.j0 k s true) (fun k => ?_) ?_
   · simp only [uw.f]
     rw [if_pos (by omega)]
   · refine Ev.step (f:=fun _ => some ((⟨#[]⟩:ByteArray),(⟨#[]⟩:ByteArray),5)) (fun k => ?_) (Ev.now _)
     simp [uw.j0]
 · refine Ev.congr (f:=fun k => uw.j0 k s ((bt s 0) != 34)) (fun k => ?_) ?_
   · simp only [uw.f]
     rw [if_neg (by omega),if_pos (by omega)]
   · cases hl:s.data.toList with
     | nil =>
       have h9:=Base.size_list s
       rw [hl] at h9
       exact absurd h9 h0
     | cons c r =>
       obtain ⟨hlt,hbt,hr,hex,hlen⟩:=head_drop s 0 c r (by simpa using hl)
       have hbt0:bt s 0 = (c.toNat:Int):=hbt
       by_cases h34:c = 34
       · rw [unq_cons s r (by rw [hl,h34])]
         have h2:=runq_l0 s hs r.length r 1 ⟨#[]⟩ (Nat.le_refl _) (by simpa using hr) (by omega) (by decide)
         refine Ev.step (fun k => ?_) h2
         simp only [uw.j0]
         rw [hbt0,if_neg (by simp [(byte_is c).1.2 h34])]
         rfl
       · rw [unq_else s (fun r' hr' => h34 (by rw [hl] at hr';exact (List.cons.inj hr').1))]
         refine Ev.step (f:=fun _ => some ((⟨#[]⟩:ByteArray),(⟨#[]⟩:ByteArray),5)) (fun k => ?_) (Ev.now _)
         simp only [uw.j0]
         rw [hbt0,if_pos (by simpa using fun e => h34 ((byte_is c).1.1 e))]
end Go.Proofs.YtmcpeifhapekoaaDoor.Laws
namespace Go.Proofs.YtmcpeifhapekoaaDoor.PAll
open Go.RowKit Go.Proofs.YtmcpeifhapekoaaDoorW.PrintWords Go.Proofs.YtmcpeifhapekoaaDoorW.PrintLast Go.Proofs.YtmcpeifhapekoaaDoorW.PrintMore
attribute [local go_sem] max2_int min2_int max_two min_two max_three min_three max_four min_four
set_option linter.unusedVariables false
set_option linter.unusedSimpArgs false
structure uk.Mid (w0 W wx:World) (g:Nat) (v:Value) (l:List Tx.Lb) (s:List UInt8):Prop where
 row:Kd.R k37 37 wx W.heap.size (fun k => k ≠ g ∧ k ≠ W.heap.size) v l
 st:ud.St w0 wx g s
 keep:u1y W wx g none
 res:wx.heap[W.heap.size]? = some (.cells #[.slice none 0 0,.int .i64 0,.int .u64 0] 25 (0,0))
 lt:g < W.heap.size
theorem uk.Mid.scan {w0 W wx w':World} {g:Nat} {v:Value} {l:List Tx.Lb} {s s':List UInt8} (h:uk.Mid w0 W wx g v l s) (hs:ud.St w0 w' g s') (hk:u1y wx w' g none):uk.Mid w0 W w' g v l s' :=
 ⟨Kd.R_keep h.row hk (fun _ hk => hk.1),hs,ud.keep_then h.keep hk,ud.kept_at hk (by have:=h.lt;omega) h.res,h.lt⟩
theorem uk.Mid.more {w0 W wx w':World} {g:Nat} {v:Value} {l:List Tx.Lb} {s:List UInt8} (h:uk.Mid w0 W wx g v l s) (hb:Below wx.heap.size wx w'):uk.Mid w0 W w' g v l s:=h.scan (h.st.more hb) (u1y.of_below hb g none)
theorem uk.Mid.drew {w0 W wx:World} {g:Nat} {v:Value} {l:List Tx.Lb} {s:List UInt8} (h:uk.Mid w0 W wx g v l s) (n:Nat):uk.Mid w0 W (wx.drewN n) g v l s:=h.more (ua (Below.refl _ _) n)
theorem uk.Mid.own {w0 W wx:World} {g:Nat} {v:Value} {l:List Tx.Lb} {s:List UInt8} (h:uk.Mid w0 W wx g v l s):∀ b,v.ownBlock = some b → b ≠ g ∧ b ≠ W.heap.size ∧ W.heap.size ≤ b ∧ w0.heap.size ≤ b:=fun b hb =>
 ⟨(h.row.1 b hb).1,(h.row.1 b hb).2,Kd.R_base h.row b hb,Nat.le_trans (Nat.le_trans h.st.base (Nat.le_of_lt h.lt)) (Kd.R_base h.row b hb)⟩
theorem uk.Mid.app {w0 W wx w1:World} {g:Nat} {v v1:Value} {l l1:List Tx.Lb} {s:List UInt8} (h:uk.Mid w0 W wx g v l s) (hg:wx.grownBy w1 v.ownBlock) (hr:Kd.R k37 37 w1 W.heap.size (fun k => k ≠ g ∧ k ≠ W.heap.size) v1 l1):uk.Mid w0 W w1 g v1 l1 s :=
 ⟨hr,ur.grown_st h.st (fun b hb => ⟨(h.own b hb).1,(h.own b hb).2.2.2⟩) hg,ur.grown_keep h.keep (fun b hb => (h.own b hb).2.2.1) hg,blk_grown h.res hg (fun e => (h.own _ e.symm).2.1 rfl),h.lt⟩
theorem uk.Mid.start {w0 W:World} {g:Nat} {s:List UInt8} (h:ud.St w0 W g s):uk.Mid w0 W (W.alloc (.cells #[.slice none 0 0,.int .i64 0,.int .u64 0] 25)) g (.slice none 0 0) [] s :=
 ⟨Kd.R_nil _ _ _ _ _,h.one_more _,keep_alloc (u1y.refl _ _ _) _,ud.new_at W _,h.lt⟩
def uk.hd (s:List UInt8):Bool:=match s with
 | [] => false
 | c :: _ => Tx.wordC c
theorem uk.named_at (s:List UInt8) (z:Int) (hz:ud.pk s = z) (W:World):Calls Tryd.prog 55 #[.int .u8 z] W fun e W' => e = .returned (.bool (uk.hd s)) ∧ us W W':=by
 subst hz
 cases s with
 | nil => exact text_named.calls _ _ _ (by decide)
 | cons c r => exact u1l.test_named c _ rfl W
theorem uk.head_is (s:List UInt8):Tx.headP s = if uk.hd s = true then (Tx.nameP s).map fun p => ([⟨Tx.metric,p.1⟩],p.2) else some ([],s):=by
 cases s with
 | nil => rfl
 | cons c r => rfl
theorem uk.rest_is (l:List Tx.Lb) (s:List UInt8):((∃ u,s = 123 :: u) ∧ Tx.restP l s = (Tx.bracesP s).map fun q => (l ++ q.1,q.2)) ∨ ((∀ u,s ≠ 123 :: u) ∧ Tx.restP l s = some (l,s)):=by
 by_cases h:∃ u,s = 123 :: u
 · obtain ⟨u,rfl⟩:=h
   exact Or.inl ⟨⟨u,rfl⟩,rfl⟩
 · refine Or.inr ⟨fun u e => h ⟨u,e⟩,?_⟩
   unfold Tx.restP
   split
   · exact absurd ⟨_,rfl⟩ h
   · rfl
theorem uk.labels_len:∀ (n:Nat) (acc:List Tx.Lb) (s:List UInt8) (l:List Tx.Lb) (r:List UInt8),acc.length ≤ 9 → Tx.labelsP n acc s = some (l,r) → l.length ≤ 9 ∧ r.length ≤ s.length
 | 0,acc,s,l,r,_,h => by cases h
 | n + 1,acc,s,l,r,ha,h => by
   unfold Tx.labelsP at h
   split at h
   · split at h
     · rename_i h8
       obtain ⟨⟨x,t⟩,hx,h⟩:=Option.bind_eq_some_iff.1 h
       have h1:=ur.label_rest hx
       obtain ⟨h2,h3⟩:=uk.labels_len n _ t l r (by rw [List.length_append,List.length_singleton];omega) h
       exact ⟨h2,by rw [List.length_cons];omega⟩
     · cases h
   · obtain ⟨rfl,rfl⟩:=Prod.mk.inj (Option.some.inj h)
     exact ⟨ha,Nat.le_refl _⟩
theorem uk.braces_len {s r:List UInt8} {l:List Tx.Lb} (h:Tx.bracesP s = some (l,r)):l.length ≤ 9 ∧ r.length ≤ s.length:=by
 unfold Tx.bracesP at h
 obtain ⟨q,hq,h⟩:=Option.bind_eq_some_iff.1 h
 obtain ⟨⟨x,t⟩,hx,h⟩:=Option.bind_eq_some_iff.1 h
 obtain ⟨⟨l2,t2⟩,hl,h⟩:=Option.bind_eq_some_iff.1 h
 obtain ⟨t3,ht,h⟩:=Option.map_eq_some_iff.1 h
 obtain ⟨rfl,rfl⟩:=Prod.mk.inj h
 have h1:=(u1p.expect_is 123 s).1 q hq
 have h2:=(u1p.expect_is 125 t2).1 t3 ht
 have h3:=ur.label_rest hx
 obtain ⟨h4,h5⟩:=uk.labels_len _ _ t l2 t2 (by simp) hl
 refine ⟨h4,?_⟩
 rw [h1,List.length_cons]
 rw [h2,List.length_cons] at h5
 omega
theorem uk.br_no (w0 W:World) (g:Nat) (s:List UInt8) (hl:s.length ≤ 1000) (hq:Tx.bracesP s = none) (h:ud.St w0 W g s):Calls Tryd.prog 56 #[.pointer (some ⟨g,0,none⟩)] W fun e W' => e = .panicked (u2p.chain 280) ∧ Below w0.heap.size w0 W' :=
 (ur.calls w0 W g s hl h).mono fun e W' ho => by rw [hq] at ho;exact ho
theorem uk.br_ok (w0 W:World) (g:Nat) (s:List UInt8) (hl:s.length ≤ 1000) (l:List Tx.Lb) (r:List UInt8) (hq:Tx.bracesP s = some (l,r)) (h:ud.St w0 W g s):Calls Tryd.prog 56 #[.pointer (some ⟨g,0,none⟩)] W fun e W' => ∃ A c,e = .returned (.slice A l.length c) ∧ Kd.R k37 37 W' W.heap.size (fun k => k ≠ g) (.slice A l.length c) l ∧ ud.St w0 W' g r ∧ u1y W W' g none :=
 (ur.calls w0 W g s hl h).mono fun e W' ho => by
   rw [hq] at ho
   obtain ⟨v,rfl,h1,h2,h3⟩:=ho
   obtain ⟨A,c,rfl⟩:=Kd.R_slice h1
   exact ⟨A,c,rfl,h1,h2,h3⟩
theorem uk.Mid.new {w0 W wx:World} {g:Nat} {v:Value} {l:List Tx.Lb} {s:List UInt8} (h:uk.Mid w0 W wx g v l s) (o:Obj):uk.Mid w0 W (wx.alloc o) g v l s:=h.more (Below.alloc (Below.refl _ _) (Nat.le_refl _) o)
theorem uk.Mid.set {w0 W wx:World} {g:Nat} {v:Value} {l:List Tx.Lb} {s:List UInt8} (h:uk.Mid w0 W wx g v l s) (b i:Nat) (u:Value) (h1:b ≠ g) (h2:b ≠ W.heap.size) (h3:W.heap.size ≤ b) (hne:some b ≠ v.ownBlock):uk.Mid w0 W (wx.setCell ⟨b,i,none⟩ u) g v l s :=
 ⟨Kd.R_mono (Kd.R_far (p:=⟨b,i,none⟩) (Kd.R_far1 h.row rfl hne) (fun k hk => hk.2) u) (fun k hk => hk.1),h.st.far (p:=⟨b,i,none⟩) (Nat.le_trans (Nat.le_trans h.st.base (Nat.le_of_lt h.lt)) h3) (fun e => h1 e.symm) u,ud.keep_new h.keep (p:=⟨b,i,none⟩) h3 u,u1d h.res (p:=⟨b,i,none⟩) (fun e => h2 e.symm) u,h.lt⟩
theorem uk.look3 {W:World} {b t:Nat} {u v x:Value} (h:W.heap[b]? = some (.cells #[u,v,x] t (0,0))):(W.cell? ⟨b,0,none⟩ = some u ∧ W.cell? ⟨b,1,none⟩ = some v ∧ W.cell? ⟨b,2,none⟩ = some x) ∧ (W.frozen? ⟨b,0,none⟩ = false ∧ W.frozen? ⟨b,1,none⟩ = false ∧ W.frozen? ⟨b,2,none⟩ = false):=by
 have h0:=uj h 0
 have h1:=uj h 1
 have h2:=uj h 2
 simp only [List.size_toArray,List.length_cons,List.length_nil,List.getElem?_toArray,List.getElem?_cons_zero,List.getElem?_cons_succ] at h0 h1 h2
 exact ⟨⟨h0,h1,h2⟩,ui h 0,ui h 1,ui h 2⟩
theorem uk.can_at (k:Nat) (A:Option Addr) (c n base:Nat) (ok:Nat → Prop) (ls:List Tx.Lb) (b:Bool) (w:World) (hR:Kd.R k37 37 w base ok (.slice A n c) ls) (h:u2e.f k ls = some b):Calls Tryd.prog 60 #[.slice A n c] w fun e w' => e = .returned (.bool b) ∧ Below w.heap.size w w':=by
 obtain ⟨h1,h2,h3⟩:=Kd.R_reads' hR
 subst h1
 exact u2e.calls k A c ls b w h3 h2 h
theorem uk.drop_len (p:UInt8 → Bool) (s:List UInt8):(s.dropWhile p).length ≤ s.length:=by
 have h1:=congrArg List.length (List.takeWhile_append_dropWhile (p:=p) (l:=s))
 rw [List.length_append] at h1
 omega
theorem uk.valueD_rest {h:Bool} {most:Nat} {base n:Int} {s r:List UInt8} (hv:Tx.valueD h most base s = some (n,r)):r.length ≤ s.length:=by
 unfold Tx.valueD at hv
 obtain ⟨⟨d,r'⟩,hd,hv⟩:=Option.bind_eq_some_iff.1 hv
 obtain ⟨n',hn,hv⟩:=Option.map_eq_some_iff.1 hv
 obtain ⟨_,rfl⟩:=Prod.mk.inj hv
 exact (u1o.dig_is hd).2.2
theorem uk.value_rest {n:Int} {s r:List UInt8} (hv:Tx.valueP s = some (n,r)):r.length ≤ s.length:=by
 rcases u1o.value_is s with ⟨q,hq,e⟩ | ⟨hq,e⟩
 · rw [e] at hv
   have:=uk.valueD_rest hv
   rw [hq,List.length_cons,List.length_cons]
   omega
 · rw [e] at hv
   exact uk.valueD_rest hv
theorem uk.time_rest {n:Int} {s r:List UInt8} (hv:Tx.timeP s = some (n,r)):r.length ≤ s.length:=by
 rcases u1c.time_is s with ⟨q,hq,e⟩ | ⟨hq,e⟩
 · rw [e] at hv
   obtain ⟨⟨n',r'⟩,hd,hv⟩:=Option.bind_eq_some_iff.1 hv
   simp only at hv
   split at hv
   · obtain ⟨_,rfl⟩:=Prod.mk.inj (Option.some.inj hv)
     have:=uk.valueD_rest hd
     rw [hq,List.length_cons]
     omega
   · cases hv
 · rw [e] at hv
   obtain ⟨⟨n',r'⟩,hd,hv⟩:=Option.bind_eq_some_iff.1 hv
   simp only at hv
   split at hv
   · obtain ⟨_,rfl⟩:=Prod.mk.inj (Option.some.inj hv)
     exact uk.valueD_rest hd
   · cases hv
def uk.Out (w0 W:World) (g:Nat) (o:Option Tx.Rw) (e:Ending) (W':World):Prop:=match o with
 | some r => ∃ v:Value,e = .returned (.agg #[v,.int .i64 r.f1,.int .u64 r.f2]) ∧ Kd.R k37 37 W' W.heap.size (fun k => k ≠ g) v r.f0 ∧ Below w0.heap.size w0 W' ∧ u1y W W' g none
 | none => e = .panicked (u2p.chain 280) ∧ Below w0.heap.size w0 W'
theorem uk.out_none {w0 W:World} {g:Nat} {o:Option Tx.Rw} (ho:o = none) {W':World} (h1:Below w0.heap.size w0 W'):uk.Out w0 W g o (.panicked (u2p.chain 280)) W':=by
 subst ho
 exact ⟨rfl,h1⟩
theorem uk.out_some {w0 W:World} {g:Nat} {o:Option Tx.Rw} {l:List Tx.Lb} {t n:Int} (ho:o = some ⟨l,t,n⟩) {v:Value} {W':World} (h1:Kd.R k37 37 W' W.heap.size (fun k => k ≠ g) v l) (h2:Below w0.heap.size w0 W') (h3:u1y W W' g none):uk.Out w0 W g o (.returned (.agg #[v,.int .i64 t,.int .u64 n])) W':=by
 subst ho
 exact ⟨v,rfl,h1,h2,h3⟩
set_option maxRecDepth 100000 in
set_option maxHeartbeats 4000000 in
theorem uk.calls (can:List Tx.Lb → Bool) (hcan:∀ l:List Tx.Lb,l.length ≤ 10 → ∃ k,u2e.f k l = some (can l)) (w0 W:World) (g:Nat) (s:List UInt8) (now:Int) (hl:s.length ≤ 1000) (h:ud.St w0 W g s) :
 Calls Tryd.prog 34 #[.pointer (some ⟨g,0,none⟩),.int .i64 now] W fun e W' => uk.Out w0 W g (Tx.sampleP can s now) e W':=by
 have HM:=Aside0.mk (uk.Mid.start h)
 have HCN:=Aside0.mk hcan
 generalize HZ:Tx.sampleP can s now = o
 have HO:=Aside0.mk HZ
 obtain ⟨z,hz⟩:∃ z,ud.pk s = z:=⟨_,rfl⟩
 have HP:=Aside0.mk hz
 have hh:=uk.head_is s
 clear h hcan HZ hz
 go_enter Tryd.func34,Tryd.ntmps34
 go_upto_if 10 with (first
  | (go_at_call 31;(with_reducible refine (u1c.peek_at w0 _ g s z HP.out (by exact HM.out.st)).mono ?_);rintro e W1 ⟨rfl,⟨nd,rfl⟩⟩)
  | (go_at_call 55;(with_reducible refine (uk.named_at s z HP.out _).mono ?_);rintro e W2 ⟨rfl,⟨md,rfl⟩⟩))
 go_cut [5] (fun v5 wx => ∃ (l0:List Tx.Lb) (s1:List UInt8),Tx.headP s = some (l0,s1) ∧ l0.length ≤ 1 ∧ s1.length ≤ 1000 ∧ Aside0 (uk.Mid w0 W wx g v5 l0 s1))
 case first =>
  cases hhd:uk.hd s with
  | true =>
    rw [hhd,if_pos rfl] at hh
    cases hn:Tx.nameP s with
    | none =>
      have HN:=Aside0.mk hn
      have HE:Aside0 (o = none):=⟨by rw [← HO.out];unfold Tx.sampleP Tx.labsP;rw [hh,hn];rfl⟩
      clear hn hh
      go_wp2_with (go_at_call 43;(with_reducible refine (u2q.calls_no w0 _ g s (by omega) HN.out (by exact (HM.out.drew _).st)).mono ?_);rintro e W3 ⟨rfl,hb3⟩)
      exact ⟨rfl,uk.out_none HE.out hb3⟩
    | some p =>
      obtain ⟨n,r⟩:=p
      rw [hn] at hh
      have hr:=u1p.name_rest hn
      have HN:=Aside0.mk hn
      have HH:=Aside0.mk hh
      clear hn hh
      go_wp2_with (first
       | (go_at_call 43;(with_reducible refine (u2q.calls_ok w0 _ g s (by omega) n r HN.out (by exact (HM.out.drew _).st)).mono ?_);rintro e W3 ⟨rfl,hs3,hk3⟩;have HM3:=Aside0.mk ((HM.out.drew _).scan hs3 hk3);clear hs3 hk3)
       | ((with_reducible refine gate_builtin (b:=.append) (xs:=#[.tmp 11,.tmp 15]) rfl ?_);at_builtin;refine Kd.R_append k37 (w0:=W3) (W:=W3) W.heap.size rfl (.tmp 11) (.tmp 15) 22 37 (.agg #[(.string ⟨#[]⟩),(.string ⟨#[]⟩)]) 32 rfl Tryd.underlying22 ur.infoL rfl (by decide) (by decide) _ [] (⟨Tx.metric,n⟩:Tx.Lb) [.string Tx.metric,.string n] (fun k => k ≠ g ∧ k ≠ W.heap.size) (fun _ => False) rfl rfl (k37_mkM _ _ _ _) (fun _ hk => hk.elim) ?hfr HM3.out.row (Below.refl _ _) HM3.out.keep.1 (by decide) ?_;(case hfr => have h1:=HM3.out.st.lt;have h2:=u2d HM3.out.res;intro k hk;omega);intro v8 w8 ho hb hg8 hat;have HM8:=Aside0.mk (HM3.out.app hg8 ho);clear ho hb hg8 hat))
      go_meet
      exact ⟨[⟨Tx.metric,n⟩],r,HH.out,Nat.le_refl _,by omega,HM8⟩
  | false =>
    rw [hhd,if_neg (by decide)] at hh
    have HH:=Aside0.mk hh
    clear hh
    go_wp2_with fail
    go_meet
    exact ⟨[],s,HH.out,by decide,hl,⟨HM.out.drew _⟩⟩
 case rest =>
  clear HM HP hh
  obtain ⟨l0,s1,hh,hl0,hs1,HM⟩:=hcut
  obtain ⟨A0,c0,e0⟩:=Kd.R_slice HM.out.row
  subst e0
  have HH:=Aside0.mk hh
  obtain ⟨y,hy⟩:∃ y,ud.pk s1 = y:=⟨_,rfl⟩
  have HP:=Aside0.mk hy
  clear hh hy
  go_upto_if 19 with (go_at_call 31;(with_reducible refine (u1c.peek_at w0 _ g s1 y HP.out (by exact HM.out.st)).mono ?_);rintro e W1 ⟨rfl,⟨nd,rfl⟩⟩)
  go_cut [5] (fun v5 wx => ∃ (l:List Tx.Lb) (s2:List UInt8),Tx.labsP s = some (l,s2) ∧ l.length ≤ 10 ∧ s2.length ≤ 1000 ∧ Aside0 (uk.Mid w0 W wx g v5 l s2))
  case first =>
   rcases uk.rest_is l0 s1 with ⟨⟨u,hu⟩,hr⟩ | ⟨hu,hr⟩
   · have hb5:(y == 123) = true:=by
      have h1:=HP.out
      rw [hu] at h1
      rw [← h1]
      rfl
     cases hq:Tx.bracesP s1 with
     | none =>
       have HQ:=Aside0.mk hq
       have HE:Aside0 (o = none):=⟨by rw [← HO.out];unfold Tx.sampleP Tx.labsP;rw [HH.out];simp only [Option.bind_some];rw [hr,hq];rfl⟩
       clear hq hr hu
       go_wp2_with (go_at_call 56;(with_reducible refine (uk.br_no w0 _ g s1 (by omega) HQ.out (by exact (HM.out.drew _).st)).mono ?_);rintro e W3 ⟨rfl,hb3⟩)
       exact ⟨rfl,uk.out_none HE.out hb3⟩
     | some p =>
       obtain ⟨lb,r⟩:=p
       obtain ⟨hlb,hrl⟩:=uk.braces_len hq
       have HQ:=Aside0.mk hq
       have HL:Aside0 (Tx.labsP s = some (l0 ++ lb,r)):=⟨by unfold Tx.labsP;rw [HH.out];simp only [Option.bind_some];rw [hr,hq];rfl⟩
       clear hq hr hu
       go_wp2_with (first
        | (go_at_call 56;(with_reducible refine (uk.br_ok w0 _ g s1 (by omega) lb r HQ.out (by exact (HM.out.drew _).st)).mono ?_);rintro e W3 ⟨A,c,rfl,hr3,hs3,hk3⟩;have HM3:=Aside0.mk ((HM.out.drew _).scan hs3 hk3);have HR3:=Aside0.mk (Kd.R_reads' hr3).2.2;clear hr3 hs3 hk3)
        | ((with_reducible refine gate_builtin (b:=.append) (xs:=#[.tmp 20,.tmp 22]) rfl ?_);at_builtin;refine Kd.R_append_rows k37 (w0:=W3) W.heap.size rfl (.tmp 20) (.tmp 22) 22 37 (.agg #[(.string ⟨#[]⟩),(.string ⟨#[]⟩)]) 32 rfl Tryd.underlying22 ur.infoL rfl (by decide) (by omega) _ l0 lb _ _ _ (fun k => k ≠ g ∧ k ≠ W.heap.size) (fun _ => False) rfl rfl HM3.out.row HR3.out (fun _ _ h => h) (fun _ h => h.elim) ?hfr (Below.refl _ _) HM3.out.keep.1 ?hbig ?_;(case hfr => have h1:=HM3.out.st.lt;have h2:=u2d HM3.out.res;intro k hk;omega);(case hbig => omega);intro v8 w8 ho hb hg8 hat;have HM8:=Aside0.mk (HM3.out.app hg8 ho);clear ho hb hg8 hat))
       go_meet
       exact ⟨l0 ++ lb,r,HL.out,by rw [List.length_append];omega,by omega,HM8⟩
   · have hb5:(y == 123) = false:=beq_eq_false_iff_ne.2 (by
      intro e
      exact ur.pk_ne s1 123 (by decide) hu (HP.out.trans e))
     have HL:Aside0 (Tx.labsP s = some (l0,s1)):=⟨by unfold Tx.labsP;rw [HH.out];simp only [Option.bind_some];exact hr⟩
     clear hr hu
     go_wp2_with fail
     go_meet
     exact ⟨l0,s1,HL.out,by omega,hs1,⟨HM.out.drew _⟩⟩
  case rest =>
   clear HM HP HH
   obtain ⟨l,s2,hh,hl2,hs2,HM⟩:=hcut
   obtain ⟨A,c,e0⟩:=Kd.R_slice HM.out.row
   subst e0
   have HH:=Aside0.mk hh
   have hsl:(Tx.sortP l).length = l.length:=by
    rw [← Tx.sortedTo_all,Tx.sortedTo_len l l.length (Nat.le_refl _)]
   obtain ⟨kc,hkc⟩:=HCN.out (Tx.sortP l) (by omega)
   have HSL:=Aside0.mk hsl
   have HKC:=Aside0.mk hkc
   have hsz:=u1r.txt (s2.takeWhile Tx.blankC)
   obtain ⟨_,tw2,tw2n⟩:=hsz
   clear hh hkc hsl HCN
   have HOV:Aside0 (o = if can (Tx.sortP l) = true then (Tx.endP s2 now).map fun q => ⟨Tx.sortP l,q.1,q.2⟩ else none):=⟨by rw [← HO.out];unfold Tx.sampleP;rw [HH.out];rfl⟩
   clear HO HH
   cases hc:can (Tx.sortP l) with
   | false =>
     rw [hc] at HKC HOV
     have HE:Aside0 (o = none):=⟨by rw [HOV.out];rfl⟩
     clear hc tw2 tw2n
     go_wp2_with (first
      | (go_at_call 57;(with_reducible refine (u1s.calls _ W.heap.size (fun k => k ≠ g ∧ k ≠ W.heap.size) A c l (by omega) HM.out.row).mono ?_);rintro e W3 ⟨rfl,hr3,hg3⟩;have HM3:=Aside0.mk (HM.out.app hg3 hr3);clear hr3 hg3)
      | (go_at_call 60;(with_reducible refine (uk.can_at kc A c l.length _ _ (Tx.sortP l) _ _ HM3.out.row HKC.out).mono ?_);rintro e W4 ⟨rfl,hb4⟩;have HM4:=Aside0.mk (HM3.out.more hb4);clear hb4)
      | (go_at_call 45;(with_reducible refine (u2l.calls_no _).mono ?_);rintro e W9 ⟨rfl,rfl⟩))
     exact ⟨rfl,uk.out_none HE.out HM4.out.st.below⟩
   | true =>
     rw [hc] at HKC HOV
     have HOW:Aside0 (o = (Tx.endP s2 now).map fun q => ⟨Tx.sortP l,q.1,q.2⟩):=⟨by rw [HOV.out,if_pos rfl]⟩
     clear hc HOV
     by_cases htw:s2.takeWhile Tx.blankC = []
     · obtain ⟨e1,e2⟩:=tw2n htw
       have HE:Aside0 (o = none):=⟨by rw [HOW.out];unfold Tx.endP;rw [if_pos htw];rfl⟩
       clear tw2 tw2n htw
       go_wp2_with (first
        | (go_at_call 57;(with_reducible refine (u1s.calls _ W.heap.size (fun k => k ≠ g ∧ k ≠ W.heap.size) A c l (by omega) HM.out.row).mono ?_);rintro e W3 ⟨rfl,hr3,hg3⟩;have HM3:=Aside0.mk (HM.out.app hg3 hr3);clear hr3 hg3)
        | (go_at_call 60;(with_reducible refine (uk.can_at kc A c l.length _ _ (Tx.sortP l) _ _ HM3.out.row HKC.out).mono ?_);rintro e W4 ⟨rfl,hb4⟩;have HM4:=Aside0.mk (HM3.out.more hb4);clear hb4)
        | (go_at_call 45;(with_reducible refine (u2l.calls_ok _).mono ?_);rintro e W9 ⟨rfl,rfl⟩)
        | (go_at_call 61;(with_reducible refine (u1l.calls_blank w0 _ g s2 (by omega) (by exact HM4.out.st)).mono ?_);rintro e W5 ⟨rfl,hs5,hk5⟩;have HM5:=Aside0.mk (HM4.out.scan hs5 hk5);clear hs5 hk5)
        | (go_at_call 45;(with_reducible refine (u2l.calls_no _).mono ?_);rintro e W9 ⟨rfl,rfl⟩))
       exact ⟨rfl,uk.out_none HE.out HM5.out.st.below⟩
     · obtain ⟨e1,e2⟩:=tw2 htw
       have hd2:=uk.drop_len Tx.blankC s2
       cases hv:Tx.valueP (s2.dropWhile Tx.blankC) with
       | none =>
         have HV:=Aside0.mk hv
         have HE:Aside0 (o = none):=⟨by rw [HOW.out];unfold Tx.endP;rw [if_neg htw,hv];rfl⟩
         clear tw2 tw2n htw hv
         go_wp2_with (first
          | (go_at_call 57;(with_reducible refine (u1s.calls _ W.heap.size (fun k => k ≠ g ∧ k ≠ W.heap.size) A c l (by omega) HM.out.row).mono ?_);rintro e W3 ⟨rfl,hr3,hg3⟩;have HM3:=Aside0.mk (HM.out.app hg3 hr3);clear hr3 hg3)
          | (go_at_call 60;(with_reducible refine (uk.can_at kc A c l.length _ _ (Tx.sortP l) _ _ HM3.out.row HKC.out).mono ?_);rintro e W4 ⟨rfl,hb4⟩;have HM4:=Aside0.mk (HM3.out.more hb4);clear hb4)
          | (go_at_call 45;(with_reducible refine (u2l.calls_ok _).mono ?_);rintro e W9 ⟨rfl,rfl⟩)
          | (go_at_call 61;(with_reducible refine (u1l.calls_blank w0 _ g s2 (by omega) (by exact HM4.out.st)).mono ?_);rintro e W5 ⟨rfl,hs5,hk5⟩;have HM5:=Aside0.mk (HM4.out.scan hs5 hk5);clear hs5 hk5)
          | (go_at_call 63;(with_reducible refine (u1o.calls_no w0 _ g _ (by omega) HV.out (by exact HM5.out.st)).mono ?_);rintro e W6 ⟨rfl,hb6⟩))
         exact ⟨rfl,uk.out_none HE.out hb6⟩
       | some p =>
         obtain ⟨n,s4⟩:=p
         have hs4:=uk.value_rest hv
         have HV:=Aside0.mk hv
         have HOX:Aside0 (o = (if s4.dropWhile Tx.blankC = [] then some (now,n) else if s4.takeWhile Tx.blankC = [] then none else (Tx.timeP (s4.dropWhile Tx.blankC)).bind fun q => if q.2.dropWhile Tx.blankC = [] then some (q.1,n) else none).map fun q => ⟨Tx.sortP l,q.1,q.2⟩):=⟨by rw [HOW.out];unfold Tx.endP;rw [if_neg htw,hv];rfl⟩
         clear tw2 tw2n htw hv HOW
         have hd4:=uk.drop_len Tx.blankC s4
         obtain ⟨_,dw,dwn⟩:=u1r.txt (s4.dropWhile Tx.blankC)
         obtain ⟨b44,hb44⟩:∃ b:Bool,(Base.ofL (s4.dropWhile Tx.blankC)).toList.isEmpty = !b:=⟨_,(Bool.not_not _).symm⟩
         have HB44:=Aside0.mk hb44
         go_upto_if 44 with (first
          | (go_at_call 57;(with_reducible refine (u1s.calls _ W.heap.size (fun k => k ≠ g ∧ k ≠ W.heap.size) A c l (by omega) HM.out.row).mono ?_);rintro e W3 ⟨rfl,hr3,hg3⟩;have HM3:=Aside0.mk (HM.out.app hg3 hr3);clear hr3 hg3)
          | (go_at_call 60;(with_reducible refine (uk.can_at kc A c l.length _ _ (Tx.sortP l) _ _ HM3.out.row HKC.out).mono ?_);rintro e W4 ⟨rfl,hb4⟩;have HM4:=Aside0.mk (HM3.out.more hb4);clear hb4)
          | (go_at_call 45;(with_reducible refine (u2l.calls_ok _).mono ?_);rintro e W9 ⟨rfl,rfl⟩)
          | (go_at_call 61;(with_reducible refine (u1l.calls_blank w0 _ g s2 (by omega) (by exact HM4.out.st)).mono ?_);rintro e W5 ⟨rfl,hs5,hk5⟩;have HM5:=Aside0.mk (HM4.out.scan hs5 hk5);clear hs5 hk5)
          | (go_at_call 63;(with_reducible refine (u1o.calls_ok w0 _ g _ (by omega) n s4 HV.out (by exact HM5.out.st)).mono ?_);rintro e W6 ⟨rfl,hs6,hk6⟩;have HM6:=Aside0.mk (HM5.out.scan hs6 hk6);clear hs6 hk6)
          | (go_at_call 61;(with_reducible refine (u1l.calls_blank w0 _ g s4 (by omega) (by exact (HM6.out.new _).st)).mono ?_);rintro e W7 ⟨rfl,hs7,hk7⟩;have HM7:=Aside0.mk ((HM6.out.new _).scan hs7 hk7);have HB7:=Aside0.mk (ud.kept_at hk7 (by have:=HM6.out.st.lt;omega) (ud.new_at W6 _));obtain ⟨h0,f0⟩:=hs7.look;clear hs7 hk7))
         go_cut [7] (fun v7 wx => ∃ (t:Int) (s6:List UInt8),s6.length ≤ 1000 ∧ Aside0 (o = if s6 = [] then some ⟨Tx.sortP l,t,n⟩ else none) ∧ Aside0 (uk.Mid w0 W wx g (.slice A l.length c) (Tx.sortP l) s6) ∧ Aside0 (wx.heap[W6.heap.size]? = some (.cells #[.slice A l.length c,.int .i64 t,.int .u64 n] 25 (0,0))))
         case first =>
          clear hb44
          obtain ⟨_,gw,gwn⟩:=u1r.txt (s4.takeWhile Tx.blankC)
          by_cases he5:s4.dropWhile Tx.blankC = []
          · obtain ⟨e3,e4⟩:=dwn he5
            obtain rfl:b44 = false:=by have h1:=HB44.out;rw [e3] at h1;revert h1;cases b44 <;> decide
            have HF:Aside0 (o = if s4.dropWhile Tx.blankC = [] then some ⟨Tx.sortP l,now,n⟩ else none):=⟨by rw [HOX.out,if_pos he5,if_pos he5];rfl⟩
            clear he5 dw dwn gw gwn HOX
            go_wp2_with fail
            go_meet
            exact ⟨now,s4.dropWhile Tx.blankC,by omega,HF,HM7,HB7⟩
          · obtain ⟨e3,e4⟩:=dw he5
            obtain rfl:b44 = true:=by have h1:=HB44.out;rw [e3] at h1;revert h1;cases b44 <;> decide
            by_cases hg4:s4.takeWhile Tx.blankC = []
            · obtain ⟨e5,e6⟩:=gwn hg4
              have HE:Aside0 (o = none):=⟨by rw [HOX.out,if_neg he5,if_pos hg4];rfl⟩
              clear he5 dw dwn gw gwn HOX hg4
              go_wp2_with (go_at_call 45;(with_reducible refine (u2l.calls_no _).mono ?_);rintro e W9 ⟨rfl,rfl⟩)
              exact ⟨rfl,uk.out_none HE.out HM7.out.st.below⟩
            · obtain ⟨e5,e6⟩:=gw hg4
              cases ht:Tx.timeP (s4.dropWhile Tx.blankC) with
              | none =>
                have HT:=Aside0.mk ht
                have HE:Aside0 (o = none):=⟨by rw [HOX.out,if_neg he5,if_neg hg4,ht];rfl⟩
                clear he5 dw dwn gw gwn HOX hg4 ht
                go_wp2_with (first
                 | (go_at_call 45;(with_reducible refine (u2l.calls_ok _).mono ?_);rintro e W9 ⟨rfl,rfl⟩)
                 | (go_at_call 64;(with_reducible refine (u1c.calls_no w0 _ g _ (by omega) HT.out (by exact HM7.out.st)).mono ?_);rintro e W8 ⟨rfl,hb8⟩))
                exact ⟨rfl,uk.out_none HE.out hb8⟩
              | some p =>
                obtain ⟨t,s7⟩:=p
                have hs7:=uk.time_rest ht
                have hd7:=uk.drop_len Tx.blankC s7
                have HT:=Aside0.mk ht
                have HF:Aside0 (o = if s7.dropWhile Tx.blankC = [] then some ⟨Tx.sortP l,t,n⟩ else none):=⟨by
                 rw [HOX.out,if_neg he5,if_neg hg4,ht]
                 simp only [Option.bind_some]
                 split <;> rfl⟩
                have N1:Aside0 (W6.heap.size ≠ g):=⟨by have:=HM6.out.st.lt;omega⟩
                have N2:Aside0 (W6.heap.size ≠ W.heap.size ∧ W.heap.size ≤ W6.heap.size):=⟨by have:=u2d HM6.out.res;omega⟩
                have N3:Aside0 (some W6.heap.size ≠ (Value.slice A l.length c).ownBlock):=⟨fun e => by have:=Kd.R_lt HM6.out.row W6.heap.size e.symm;omega⟩
                have n1:¬ g = W6.heap.size:=fun e => N1.out e.symm
                clear he5 dw dwn gw gwn HOX hg4 ht h0 f0
                go_wp2_with (first
                 | (go_at_call 45;(with_reducible refine (u2l.calls_ok _).mono ?_);rintro e W9 ⟨rfl,rfl⟩)
                 | (go_at_call 64;(with_reducible refine (u1c.calls_ok w0 _ g _ (by omega) t s7 HT.out (by exact HM7.out.st)).mono ?_);rintro e W8 ⟨rfl,hs8,hk8⟩;have HM8:=Aside0.mk (HM7.out.scan hs8 hk8);have HB8:=Aside0.mk (ud.kept_at hk8 N1.out HB7.out);obtain ⟨⟨a0,a1,a2⟩,b0,b1,b2⟩:=uk.look3 HB8.out;clear hs8 hk8)
                 | (go_at_call 61;(with_reducible refine (u1l.calls_blank w0 _ g s7 (by omega) (by exact (HM8.out.set W6.heap.size 1 _ N1.out N2.out.1 N2.out.2 N3.out).st)).mono ?_);rintro e W9 ⟨rfl,hs9,hk9⟩;have HM9:=Aside0.mk ((HM8.out.set W6.heap.size 1 _ N1.out N2.out.1 N2.out.2 N3.out).scan hs9 hk9);have HB9:=Aside0.mk (ud.kept_at hk9 N1.out (blk_set HB8.out 1 (.int .i64 t)));clear hs9 hk9))
                go_meet
                exact ⟨t,s7.dropWhile Tx.blankC,by omega,HF,HM9,HB9⟩
         case rest =>
          have N1:Aside0 (W6.heap.size ≠ g):=⟨by have:=HM6.out.st.lt;omega⟩
          have N2:Aside0 (W6.heap.size ≠ W.heap.size ∧ W.heap.size ≤ W6.heap.size):=⟨by have:=u2d HM6.out.res;omega⟩
          clear HM HM3 HM4 HM5 HM6 HM7 HB7 h0 f0 HOX hb44 HB44 dw dwn
          obtain ⟨t,s6,hs6,HF,HM,HB⟩:=hcut
          obtain ⟨h0,f0⟩:=HM.out.st.look
          obtain ⟨⟨a0,a1,a2⟩,b0,b1,b2⟩:=uk.look3 HB.out
          obtain ⟨⟨c0,c1,c2⟩,d0,d1,d2⟩:=uk.look3 HM.out.res
          obtain ⟨_,dw,dwn⟩:=u1r.txt s6
          have n1:¬ W6.heap.size = W.heap.size:=N2.out.1
          have n2:¬ W.heap.size = W6.heap.size:=fun e => N2.out.1 e.symm
          by_cases he:s6 = []
          · obtain ⟨e3,e4⟩:=dwn he
            have HE:Aside0 (o = some ⟨Tx.sortP l,t,n⟩):=⟨by rw [HF.out,if_pos he]⟩
            clear dw dwn he HF
            go_wp2_with (go_at_call 45;(with_reducible refine (u2l.calls_ok _).mono ?_);rintro e W9 ⟨rfl,rfl⟩)
            refine bodyPost_ret (v:=.agg #[.slice A l.length c,.int .i64 t,.int .u64 n]) (by simp [results,Tryd.results34,go_sem,c0,c1,c2]) rfl (uk.out_some HE.out ?_ ?_ ?_)
            · exact Kd.R_mono (Kd.R_far (p:=⟨W.heap.size,2,none⟩) (Kd.R_far (p:=⟨W.heap.size,1,none⟩) (Kd.R_far (p:=⟨W.heap.size,0,none⟩) HM.out.row (fun k hk => hk.2) _) (fun k hk => hk.2) _) (fun k hk => hk.2) _) (fun k hk => hk.1)
            · have hw:w0.heap.size ≤ W.heap.size:=Nat.le_trans HM.out.st.base (Nat.le_of_lt HM.out.lt)
              exact ((HM.out.st.below.setCell (p:=⟨W.heap.size,0,none⟩) hw _).setCell (p:=⟨W.heap.size,1,none⟩) hw _).setCell (p:=⟨W.heap.size,2,none⟩) hw _
            · exact ud.keep_new (p:=⟨W.heap.size,2,none⟩) (ud.keep_new (p:=⟨W.heap.size,1,none⟩) (ud.keep_new (p:=⟨W.heap.size,0,none⟩) HM.out.keep (Nat.le_refl _) _) (Nat.le_refl _) _) (Nat.le_refl _) _
          · obtain ⟨e3,e4⟩:=dw he
            have HE:Aside0 (o = none):=⟨by rw [HF.out,if_neg he]⟩
            clear dw dwn he HF
            go_wp2_with (go_at_call 45;(with_reducible refine (u2l.calls_no _).mono ?_);rintro e W9 ⟨rfl,rfl⟩)
            exact ⟨rfl,uk.out_none HE.out HM.out.st.below⟩
theorem uu.pre_is (p s:List UInt8):u1x.f (Base.ofL s) (Base.ofL p) = some (p.isPrefixOf s):=by
 have hs:(Base.ofL s).size = s.length:=(Tx.cut_ofL s 0 (by omega)).2.2
 have hp:(Base.ofL p).size = p.length:=(Tx.cut_ofL p 0 (by omega)).2.2
 unfold u1x.f u2f.f
 rw [hs,hp]
 by_cases h:p.length ≤ s.length
 · have e1:((Base.ofL s).extract 0 ((p.length:Int)).toNat).toList = s.take p.length:=by
    rw [ByteArray.toList_eq,Base.extract_list,Base.ofL_data]
    simp
   have e2:(Base.ofL p).toList = p:=by rw [ByteArray.toList_eq,Base.ofL_data]
   have e4:(s.take p.length == p) = p.isPrefixOf s:=by
    rw [Bool.eq_iff_iff,beq_iff_eq,List.isPrefixOf_iff_prefix]
    constructor
    · intro e
      rw [← e]
      exact List.take_prefix _ _
    · intro e
      exact (List.prefix_iff_eq_take.1 e).symm
   rw [if_pos (by omega),if_pos (by omega),if_pos (by omega),e1,e2,e4]
   rfl
 · have e5:p.isPrefixOf s = false:=by
    cases e:p.isPrefixOf s with
    | false => rfl
    | true => exact absurd (List.IsPrefix.length_le (List.isPrefixOf_iff_prefix.1 e)) h
   rw [if_neg (by omega),e5]
   rfl
theorem uu.known_is (s:List UInt8):text_known.f (Base.ofL s) = some (Tx.knownL s):=by
 have e:(Base.ofL s).toList = s:=by rw [ByteArray.toList_eq,Base.ofL_data]
 unfold text_known.f Tx.knownL Tx.kinds
 rw [e]
 simp only [List.contains_cons,List.contains_nil,Bool.or_false]
 repeat' split
 all_goals first
  | (rename_i h;subst h;rfl)
  | (simp_all;done)
  | (simp_all [beq_iff_eq])
theorem uu.both {s:List UInt8} (h:Tx.typeW.isPrefixOf s = true):Tx.helpW.isPrefixOf s = false:=by
 obtain ⟨t,rfl⟩:=List.isPrefixOf_iff_prefix.1 h
 rfl
theorem uu.pre_len {p s:List UInt8} (h:p.isPrefixOf s = true):p.length ≤ s.length:=List.IsPrefix.length_le (List.isPrefixOf_iff_prefix.1 h)
theorem uu.three {w0 W W4:World} {g:Nat} (hB:Below w0.heap.size w0 W4) (hw:w0.heap.size ≤ W.heap.size) (hk:u1y W W4 g none) (u v x:Value):Below w0.heap.size w0 (((W4.setCell ⟨W.heap.size,0,none⟩ u).setCell ⟨W.heap.size,1,none⟩ v).setCell ⟨W.heap.size,2,none⟩ x) ∧ u1y W (((W4.setCell ⟨W.heap.size,0,none⟩ u).setCell ⟨W.heap.size,1,none⟩ v).setCell ⟨W.heap.size,2,none⟩ x) g none :=
 ⟨((hB.setCell (p:=⟨W.heap.size,0,none⟩) hw u).setCell (p:=⟨W.heap.size,1,none⟩) hw v).setCell (p:=⟨W.heap.size,2,none⟩) hw x,ud.keep_new (p:=⟨W.heap.size,2,none⟩) (ud.keep_new (p:=⟨W.heap.size,1,none⟩) (ud.keep_new (p:=⟨W.heap.size,0,none⟩) hk (Nat.le_refl _) u) (Nat.le_refl _) v) (Nat.le_refl _) x⟩
theorem uu.res0 (W:World) (t n g:Nat) (b:ByteArray) (hg:g < W.heap.size):(((W.alloc (.cells #[.string ⟨#[]⟩,.string ⟨#[]⟩,.string ⟨#[]⟩] t)).drewN n).setCell ⟨g,0,none⟩ (.string b)).heap[W.heap.size]? = some (.cells #[.string ⟨#[]⟩,.string ⟨#[]⟩,.string ⟨#[]⟩] t (0,0)) :=
 (Below.heap_setCell _ ⟨g,0,none⟩ _ W.heap.size (by show W.heap.size ≠ g;omega)).trans (ud.new_at W _)
def uu.Out (w0 W:World) (g:Nat) (o:Option Tx.Me) (e:Ending) (W':World):Prop:=match o with
 | some m => e = .returned (.agg #[.string m.1,.string m.2.1,.string m.2.2]) ∧ Below w0.heap.size w0 W' ∧ u1y W W' g none
 | none => e = .panicked (u2p.chain 280) ∧ Below w0.heap.size w0 W'
theorem uu.out_none {w0 W:World} {g:Nat} {o:Option Tx.Me} (ho:o = none) {W':World} (h1:Below w0.heap.size w0 W'):uu.Out w0 W g o (.panicked (u2p.chain 280)) W':=by
 subst ho
 exact ⟨rfl,h1⟩
theorem uu.out_some {w0 W:World} {g:Nat} {o:Option Tx.Me} {a b c:ByteArray} (ho:o = some (a,b,c)) {W':World} (h2:Below w0.heap.size w0 W') (h3:u1y W W' g none):uu.Out w0 W g o (.returned (.agg #[.string a,.string b,.string c])) W':=by
 subst ho
 exact ⟨rfl,h2,h3⟩
set_option maxRecDepth 100000 in
set_option maxHeartbeats 2000000 in
theorem uu.other (w0 W:World) (g:Nat) (s:List UInt8) (hl:s.length ≤ 1000) (hh:Tx.helpW.isPrefixOf s = false) (ht:Tx.typeW.isPrefixOf s = false) (h:ud.St w0 W g s) :
 Calls Tryd.prog 32 #[.pointer (some ⟨g,0,none⟩)] W fun e W' => uu.Out w0 W g (Tx.remarkP s) e W':=by
 have HE:Aside0 (Tx.remarkP s = some (Base.ofL [],Base.ofL [],Base.ofL [])):=⟨by unfold Tx.remarkP;rw [hh,ht];rfl⟩
 have H1:Aside0 (u1x.f (Base.ofL s) (⟨#[35,32,72,69,76,80,32]⟩:ByteArray) = some false):=⟨(uu.pre_is Tx.helpW s).trans (by rw [hh])⟩
 have H2:Aside0 (u1x.f (Base.ofL s) (⟨#[35,32,84,89,80,69,32]⟩:ByteArray) = some false):=⟨(uu.pre_is Tx.typeW s).trans (by rw [ht])⟩
 have HS:=Aside0.mk h
 have hS1:=h.one_more (.cells #[.string ⟨#[]⟩,.string ⟨#[]⟩,.string ⟨#[]⟩] 51)
 obtain ⟨h0,f0⟩:=hS1.look
 clear h hh ht hS1
 go_enter Tryd.func32,Tryd.ntmps32
 go_wp2_with fail
 go_quiet (first
  | (go_at_call 24;(with_reducible refine (u1x.calls _ _ _ _ H1.out).mono ?_);rintro e w' ⟨rfl,⟨nd,rfl⟩⟩;exact ⟨rfl,_,World.drewN_drewN _ _ _⟩)
  | (go_at_call 24;(with_reducible refine (u1x.calls _ _ _ _ H2.out).mono ?_);rintro e w' ⟨rfl,⟨nd,rfl⟩⟩;exact ⟨rfl,_,World.drewN_drewN _ _ _⟩))
 go_wp2
 refine bodyPost_ret (v:=.agg #[.string ⟨#[]⟩,.string ⟨#[]⟩,.string ⟨#[]⟩]) (by simp [results,Tryd.results32,go_sem]) rfl (uu.out_some HE.out ?_ ?_)
 · exact (uu.three (g:=g) (below_then HS.out.below HS.out.below.size (ua (uf (Below.refl _ _) _) nq)) HS.out.below.size (keep_drewN (keep_alloc (u1y.refl _ _ _) _) nq) _ _ _).1
 · exact (uu.three (g:=g) (below_then HS.out.below HS.out.below.size (ua (uf (Below.refl _ _) _) nq)) HS.out.below.size (keep_drewN (keep_alloc (u1y.refl _ _ _) _) nq) _ _ _).2
set_option maxRecDepth 100000 in
set_option maxHeartbeats 4000000 in
theorem uu.help (w0 W:World) (g:Nat) (s:List UInt8) (hl:s.length ≤ 1000) (hh:Tx.helpW.isPrefixOf s = true) (ht:Tx.typeW.isPrefixOf s = false) (h:ud.St w0 W g s) :
 Calls Tryd.prog 32 #[.pointer (some ⟨g,0,none⟩)] W fun e W' => uu.Out w0 W g (Tx.remarkP s) e W':=by
 have H1:Aside0 (u1x.f (Base.ofL s) (⟨#[35,32,72,69,76,80,32]⟩:ByteArray) = some true):=⟨(uu.pre_is Tx.helpW s).trans (by rw [hh])⟩
 have H2:Aside0 (u1x.f (Base.ofL s) (⟨#[35,32,84,89,80,69,32]⟩:ByteArray) = some false):=⟨(uu.pre_is Tx.typeW s).trans (by rw [ht])⟩
 have HS:=Aside0.mk h
 have HG:=Aside0.mk h.lt
 have hS1:=h.one_more (.cells #[.string ⟨#[]⟩,.string ⟨#[]⟩,.string ⟨#[]⟩] 51)
 obtain ⟨h0,f0⟩:=hS1.look
 have h7:7 ≤ s.length:=uu.pre_len hh
 have hdl:(s.drop 7).length ≤ 1000:=by rw [List.length_drop];omega
 have hsz:(Base.ofL s).size = s.length:=(Tx.cut_ofL s 0 (by omega)).2.2
 have hcut:(Base.ofL s).extract 7 s.length = Base.ofL (s.drop 7):=by
  have:=(Tx.cut_ofL s 7 h7).2.1
  rwa [hsz] at this
 have HO:Aside0 (Tx.remarkP s = (Tx.nameP (s.drop 7)).bind fun p => (Tx.expectP [32] p.2).bind fun r => if Tx.plainL r = true then some (p.1,Base.ofL [],Base.ofL r) else none):=⟨by unfold Tx.remarkP;rw [hh,ht];rfl⟩
 generalize hoo:Tx.remarkP s = o at HO ⊢
 clear hoo h hh ht hS1
 cases hn:Tx.nameP (s.drop 7) with
 | none =>
   have HE:Aside0 (o = none):=⟨by rw [HO.out,hn];rfl⟩
   have HN:=Aside0.mk hn
   clear hn HO
   go_enter Tryd.func32,Tryd.ntmps32
   go_wp2_with fail
   go_quiet (first
    | (go_at_call 24;(with_reducible refine (u1x.calls _ _ _ _ H1.out).mono ?_);rintro e w' ⟨rfl,⟨nd,rfl⟩⟩;exact ⟨rfl,_,World.drewN_drewN _ _ _⟩)
    | (go_at_call 24;(with_reducible refine (u1x.calls _ _ _ _ H2.out).mono ?_);rintro e w' ⟨rfl,⟨nd,rfl⟩⟩;exact ⟨rfl,_,World.drewN_drewN _ _ _⟩))
   go_wp2_with (first
    | (go_at_call 43;(with_reducible refine (u2q.calls_no w0 _ g (s.drop 7) (by omega) HN.out (by exact ((HS.out.one_more _).drew nq).set _)).mono ?_);rintro e W2 ⟨rfl,hb2⟩))
   exact ⟨rfl,uu.out_none HE.out hb2⟩
 | some p =>
   obtain ⟨n,r⟩:=p
   have hr:=u1p.name_rest hn
   have HN:=Aside0.mk hn
   cases he:Tx.expectP [32] r with
   | none =>
     have HE2:Aside0 (o = none):=⟨by rw [HO.out,hn];simp only [Option.bind_some];rw [he];rfl⟩
     have HE:=Aside0.mk ((u1p.expect_is 32 r).2 he)
     clear hn he HO
     go_enter Tryd.func32,Tryd.ntmps32
     go_wp2_with fail
     go_quiet (first
      | (go_at_call 24;(with_reducible refine (u1x.calls _ _ _ _ H1.out).mono ?_);rintro e w' ⟨rfl,⟨nd,rfl⟩⟩;exact ⟨rfl,_,World.drewN_drewN _ _ _⟩)
      | (go_at_call 24;(with_reducible refine (u1x.calls _ _ _ _ H2.out).mono ?_);rintro e w' ⟨rfl,⟨nd,rfl⟩⟩;exact ⟨rfl,_,World.drewN_drewN _ _ _⟩))
     go_wp2_with (first
      | (go_at_call 43;(with_reducible refine (u2q.calls_ok w0 _ g (s.drop 7) (by omega) n r HN.out (by exact ((HS.out.one_more _).drew nq).set _)).mono ?_);rintro e W2 ⟨rfl,hs2,hk2⟩;have HS2:=Aside0.mk hs2;have HL2:Aside0 (W.heap.size < W2.heap.size):=⟨by have:=hk2.1;simp at this;omega⟩;have B2:=Aside0.mk (ud.kept_at hk2 (by have:=HG.out;omega) (uu.res0 W 51 nq g (Base.ofL (s.drop 7)) HG.out));have HK2:=Aside0.mk (ud.keep_then ((keep_drewN (keep_alloc (u1y.refl W g none) (.cells #[.string ⟨#[]⟩,.string ⟨#[]⟩,.string ⟨#[]⟩] 51)) nq).set_ 0 (.string (Base.ofL (s.drop 7)))) hk2);clear hs2 hk2)
      | (go_at_call 44;(with_reducible refine (u1v.calls_no w0 _ g 32 r HE.out (by exact HS2.out.one_more _)).mono ?_);rintro e W3 ⟨rfl,hb3⟩))
     exact ⟨rfl,uu.out_none HE2.out hb3⟩
   | some t =>
     have hrt:=(u1p.expect_is 32 r).1 t he
     have HV:Aside0 (o = if Tx.plainL t = true then some (n,Base.ofL [],Base.ofL t) else none):=⟨by rw [HO.out,hn];simp only [Option.bind_some];rw [he];rfl⟩
     subst hrt
     rw [List.length_cons] at hr
     clear hn he HO
     cases htt:Tx.plainL t with
     | false =>
       have HE:Aside0 (o = none):=⟨by rw [HV.out,htt];rfl⟩
       have HT:Aside0 (Tx.plainL t = false):=⟨htt⟩
       clear htt HV
       go_enter Tryd.func32,Tryd.ntmps32
       go_wp2_with fail
       go_quiet (first
        | (go_at_call 24;(with_reducible refine (u1x.calls _ _ _ _ H1.out).mono ?_);rintro e w' ⟨rfl,⟨nd,rfl⟩⟩;exact ⟨rfl,_,World.drewN_drewN _ _ _⟩)
        | (go_at_call 24;(with_reducible refine (u1x.calls _ _ _ _ H2.out).mono ?_);rintro e w' ⟨rfl,⟨nd,rfl⟩⟩;exact ⟨rfl,_,World.drewN_drewN _ _ _⟩))
       go_wp2_with (first
        | (go_at_call 43;(with_reducible refine (u2q.calls_ok w0 _ g (s.drop 7) (by omega) n (32 :: t) HN.out (by exact ((HS.out.one_more _).drew nq).set _)).mono ?_);rintro e W2 ⟨rfl,hs2,hk2⟩;have HS2:=Aside0.mk hs2;have HL2:Aside0 (W.heap.size < W2.heap.size):=⟨by have:=hk2.1;simp at this;omega⟩;have B2:=Aside0.mk (ud.kept_at hk2 (by have:=HG.out;omega) (uu.res0 W 51 nq g (Base.ofL (s.drop 7)) HG.out));have HK2:=Aside0.mk (ud.keep_then ((keep_drewN (keep_alloc (u1y.refl W g none) (.cells #[.string ⟨#[]⟩,.string ⟨#[]⟩,.string ⟨#[]⟩] 51)) nq).set_ 0 (.string (Base.ofL (s.drop 7)))) hk2);clear hs2 hk2)
        | (go_at_call 44;(with_reducible refine (u1v.calls_ok w0 _ g 32 t (by exact HS2.out.one_more _)).mono ?_);rintro e W3 ⟨rfl,hs3,hk3⟩;have HS3:=Aside0.mk hs3;have B3:=Aside0.mk (ud.kept_at (b:=W.heap.size) hk3 (by have:=HG.out;omega) (ud.new_old B2.out _));have C3:=Aside0.mk (ud.kept_at hk3 (by have:=HG.out;have:=HL2.out;omega) (ud.new_at W2 _));have HK3:=Aside0.mk (ud.keep_then HK2.out (ud.keep_from hk3));clear h0 f0;obtain ⟨h0,f0⟩:=hs3.look;clear hs3 hk3)
        | (go_at_call 47;(with_reducible refine (u2w.calls t (by omega) _).mono ?_);rw [HT.out];rintro e W4 ⟨rfl,hb4⟩;have HS4:=Aside0.mk (HS3.out.more hb4);have B4:=Aside0.mk (ud.below_at hb4 B3.out);have C4:=Aside0.mk (ud.below_at hb4 C3.out);have HK4:=Aside0.mk (ud.keep_then HK3.out (u1y.of_below hb4 g none));clear h0 f0;obtain ⟨h0,f0⟩:=HS4.out.look;obtain ⟨⟨a0,a1,a2⟩,a3,a4,a5⟩:=uk.look3 B4.out;obtain ⟨⟨c0,c1,c2⟩,c3,c4,c5⟩:=uk.look3 C4.out;clear hb4)
        | (go_at_call 45;(with_reducible refine (u2l.calls_no _).mono ?_);rintro e W5 ⟨rfl,rfl⟩))
       exact ⟨rfl,uu.out_none HE.out HS4.out.below⟩
     | true =>
       have HE:Aside0 (o = some (n,Base.ofL [],Base.ofL t)):=⟨by rw [HV.out,htt];rfl⟩
       have HT:Aside0 (Tx.plainL t = true):=⟨htt⟩
       have N1:Aside0 (g < W.heap.size):=⟨HG.out⟩
       clear htt HV
       go_enter Tryd.func32,Tryd.ntmps32
       go_wp2_with fail
       go_quiet (first
        | (go_at_call 24;(with_reducible refine (u1x.calls _ _ _ _ H1.out).mono ?_);rintro e w' ⟨rfl,⟨nd,rfl⟩⟩;exact ⟨rfl,_,World.drewN_drewN _ _ _⟩)
        | (go_at_call 24;(with_reducible refine (u1x.calls _ _ _ _ H2.out).mono ?_);rintro e w' ⟨rfl,⟨nd,rfl⟩⟩;exact ⟨rfl,_,World.drewN_drewN _ _ _⟩))
       go_wp2_with (first
        | (go_at_call 43;(with_reducible refine (u2q.calls_ok w0 _ g (s.drop 7) (by omega) n (32 :: t) HN.out (by exact ((HS.out.one_more _).drew nq).set _)).mono ?_);rintro e W2 ⟨rfl,hs2,hk2⟩;have HS2:=Aside0.mk hs2;have HL2:Aside0 (W.heap.size < W2.heap.size):=⟨by have:=hk2.1;simp at this;omega⟩;have B2:=Aside0.mk (ud.kept_at hk2 (by have:=HG.out;omega) (uu.res0 W 51 nq g (Base.ofL (s.drop 7)) HG.out));have HK2:=Aside0.mk (ud.keep_then ((keep_drewN (keep_alloc (u1y.refl W g none) (.cells #[.string ⟨#[]⟩,.string ⟨#[]⟩,.string ⟨#[]⟩] 51)) nq).set_ 0 (.string (Base.ofL (s.drop 7)))) hk2);clear hs2 hk2)
        | (go_at_call 44;(with_reducible refine (u1v.calls_ok w0 _ g 32 t (by exact HS2.out.one_more _)).mono ?_);rintro e W3 ⟨rfl,hs3,hk3⟩;have HS3:=Aside0.mk hs3;have B3:=Aside0.mk (ud.kept_at (b:=W.heap.size) hk3 (by have:=HG.out;omega) (ud.new_old B2.out _));have C3:=Aside0.mk (ud.kept_at hk3 (by have:=HG.out;have:=HL2.out;omega) (ud.new_at W2 _));have HK3:=Aside0.mk (ud.keep_then HK2.out (ud.keep_from hk3));clear h0 f0;obtain ⟨h0,f0⟩:=hs3.look;clear hs3 hk3)
        | (go_at_call 47;(with_reducible refine (u2w.calls t (by omega) _).mono ?_);rw [HT.out];rintro e W4 ⟨rfl,hb4⟩;have HS4:=Aside0.mk (HS3.out.more hb4);have B4:=Aside0.mk (ud.below_at hb4 B3.out);have C4:=Aside0.mk (ud.below_at hb4 C3.out);have HK4:=Aside0.mk (ud.keep_then HK3.out (u1y.of_below hb4 g none));clear h0 f0;obtain ⟨h0,f0⟩:=HS4.out.look;obtain ⟨⟨a0,a1,a2⟩,a3,a4,a5⟩:=uk.look3 B4.out;obtain ⟨⟨c0,c1,c2⟩,c3,c4,c5⟩:=uk.look3 C4.out;clear hb4;have n1:¬ W2.heap.size = g:=(by have:=HG.out;have:=HL2.out;omega);have n2:¬ W.heap.size = g:=(by have:=HG.out;omega);have n3:¬ W.heap.size = W2.heap.size:=(by have:=HL2.out;omega);have n4:¬ g = W2.heap.size:=fun e => n1 e.symm;have n5:¬ g = W.heap.size:=fun e => n2 e.symm;have n6:¬ W2.heap.size = W.heap.size:=fun e => n3 e.symm)
        | (go_at_call 45;(with_reducible refine (u2l.calls_ok _).mono ?_);rintro e W5 ⟨rfl,rfl⟩))
       refine bodyPost_ret (v:=.agg #[.string n,.string ⟨#[]⟩,.string (Base.ofL t)]) (by simp [results,Tryd.results32,go_sem,a0,a1,a2,n1,n2,n3,n4,n5,n6]) rfl ?_
       have hw:w0.heap.size ≤ W.heap.size:=HS.out.below.size
       have hw2:w0.heap.size ≤ W2.heap.size:=HS2.out.below.size
       have h3:=uu.three (u:=.string n) (v:=.string ⟨#[]⟩) (x:=.string (Base.ofL t)) (HS4.out.below.setCell (p:=⟨W2.heap.size,2,none⟩) hw2 (.string (Base.ofL t))) hw (ud.keep_new (p:=⟨W2.heap.size,2,none⟩) HK4.out (by have:=HL2.out;show W.heap.size ≤ W2.heap.size;omega) (.string (Base.ofL t)))
       exact uu.out_some HE.out h3.1 h3.2
set_option maxRecDepth 100000 in
set_option maxHeartbeats 4000000 in
theorem uu.type (w0 W:World) (g:Nat) (s:List UInt8) (hl:s.length ≤ 1000) (hh:Tx.helpW.isPrefixOf s = false) (ht:Tx.typeW.isPrefixOf s = true) (h:ud.St w0 W g s) :
 Calls Tryd.prog 32 #[.pointer (some ⟨g,0,none⟩)] W fun e W' => uu.Out w0 W g (Tx.remarkP s) e W':=by
 have H1:Aside0 (u1x.f (Base.ofL s) (⟨#[35,32,72,69,76,80,32]⟩:ByteArray) = some false):=⟨(uu.pre_is Tx.helpW s).trans (by rw [hh])⟩
 have H2:Aside0 (u1x.f (Base.ofL s) (⟨#[35,32,84,89,80,69,32]⟩:ByteArray) = some true):=⟨(uu.pre_is Tx.typeW s).trans (by rw [ht])⟩
 have HS:=Aside0.mk h
 have HG:=Aside0.mk h.lt
 have hS1:=h.one_more (.cells #[.string ⟨#[]⟩,.string ⟨#[]⟩,.string ⟨#[]⟩] 51)
 obtain ⟨h0,f0⟩:=hS1.look
 have h7:7 ≤ s.length:=uu.pre_len ht
 have hdl:(s.drop 7).length ≤ 1000:=by rw [List.length_drop];omega
 have hsz:(Base.ofL s).size = s.length:=(Tx.cut_ofL s 0 (by omega)).2.2
 have hcut:(Base.ofL s).extract 7 s.length = Base.ofL (s.drop 7):=by
  have:=(Tx.cut_ofL s 7 h7).2.1
  rwa [hsz] at this
 have HO:Aside0 (Tx.remarkP s = (Tx.nameP (s.drop 7)).bind fun p => (Tx.expectP [32] p.2).bind fun r => if Tx.knownL r = true then some (p.1,Base.ofL r,Base.ofL []) else none):=⟨by unfold Tx.remarkP;rw [hh,ht];rfl⟩
 generalize hoo:Tx.remarkP s = o at HO ⊢
 clear hoo h hh ht hS1
 cases hn:Tx.nameP (s.drop 7) with
 | none =>
   have HE:Aside0 (o = none):=⟨by rw [HO.out,hn];rfl⟩
   have HN:=Aside0.mk hn
   clear hn HO
   go_enter Tryd.func32,Tryd.ntmps32
   go_wp2_with fail
   go_quiet (first
    | (go_at_call 24;(with_reducible refine (u1x.calls _ _ _ _ H1.out).mono ?_);rintro e w' ⟨rfl,⟨nd,rfl⟩⟩;exact ⟨rfl,_,World.drewN_drewN _ _ _⟩)
    | (go_at_call 24;(with_reducible refine (u1x.calls _ _ _ _ H2.out).mono ?_);rintro e w' ⟨rfl,⟨nd,rfl⟩⟩;exact ⟨rfl,_,World.drewN_drewN _ _ _⟩))
   go_wp2_with (first
    | (go_at_call 43;(with_reducible refine (u2q.calls_no w0 _ g (s.drop 7) (by omega) HN.out (by exact ((HS.out.one_more _).drew nq).set _)).mono ?_);rintro e W2 ⟨rfl,hb2⟩))
   exact ⟨rfl,uu.out_none HE.out hb2⟩
 | some p =>
   obtain ⟨n,r⟩:=p
   have hr:=u1p.name_rest hn
   have HN:=Aside0.mk hn
   cases he:Tx.expectP [32] r with
   | none =>
     have HE2:Aside0 (o = none):=⟨by rw [HO.out,hn];simp only [Option.bind_some];rw [he];rfl⟩
     have HE:=Aside0.mk ((u1p.expect_is 32 r).2 he)
     clear hn he HO
     go_enter Tryd.func32,Tryd.ntmps32
     go_wp2_with fail
     go_quiet (first
      | (go_at_call 24;(with_reducible refine (u1x.calls _ _ _ _ H1.out).mono ?_);rintro e w' ⟨rfl,⟨nd,rfl⟩⟩;exact ⟨rfl,_,World.drewN_drewN _ _ _⟩)
      | (go_at_call 24;(with_reducible refine (u1x.calls _ _ _ _ H2.out).mono ?_);rintro e w' ⟨rfl,⟨nd,rfl⟩⟩;exact ⟨rfl,_,World.drewN_drewN _ _ _⟩))
     go_wp2_with (first
      | (go_at_call 43;(with_reducible refine (u2q.calls_ok w0 _ g (s.drop 7) (by omega) n r HN.out (by exact ((HS.out.one_more _).drew nq).set _)).mono ?_);rintro e W2 ⟨rfl,hs2,hk2⟩;have HS2:=Aside0.mk hs2;have HL2:Aside0 (W.heap.size < W2.heap.size):=⟨by have:=hk2.1;simp at this;omega⟩;have B2:=Aside0.mk (ud.kept_at hk2 (by have:=HG.out;omega) (uu.res0 W 51 nq g (Base.ofL (s.drop 7)) HG.out));have HK2:=Aside0.mk (ud.keep_then ((keep_drewN (keep_alloc (u1y.refl W g none) (.cells #[.string ⟨#[]⟩,.string ⟨#[]⟩,.string ⟨#[]⟩] 51)) nq).set_ 0 (.string (Base.ofL (s.drop 7)))) hk2);clear hs2 hk2)
      | (go_at_call 44;(with_reducible refine (u1v.calls_no w0 _ g 32 r HE.out (by exact HS2.out.one_more _)).mono ?_);rintro e W3 ⟨rfl,hb3⟩))
     exact ⟨rfl,uu.out_none HE2.out hb3⟩
   | some t =>
     have hrt:=(u1p.expect_is 32 r).1 t he
     have HV:Aside0 (o = if Tx.knownL t = true then some (n,Base.ofL t,Base.ofL []) else none):=⟨by rw [HO.out,hn];simp only [Option.bind_some];rw [he];rfl⟩
     subst hrt
     rw [List.length_cons] at hr
     clear hn he HO
     cases htt:Tx.knownL t with
     | false =>
       have HE:Aside0 (o = none):=⟨by rw [HV.out,htt];rfl⟩
       have HT:Aside0 (text_known.f (Base.ofL t) = some false):=⟨(uu.known_is t).trans (by rw [htt])⟩
       clear htt HV
       go_enter Tryd.func32,Tryd.ntmps32
       go_wp2_with fail
       go_quiet (first
        | (go_at_call 24;(with_reducible refine (u1x.calls _ _ _ _ H1.out).mono ?_);rintro e w' ⟨rfl,⟨nd,rfl⟩⟩;exact ⟨rfl,_,World.drewN_drewN _ _ _⟩)
        | (go_at_call 24;(with_reducible refine (u1x.calls _ _ _ _ H2.out).mono ?_);rintro e w' ⟨rfl,⟨nd,rfl⟩⟩;exact ⟨rfl,_,World.drewN_drewN _ _ _⟩))
       go_wp2_with (first
        | (go_at_call 43;(with_reducible refine (u2q.calls_ok w0 _ g (s.drop 7) (by omega) n (32 :: t) HN.out (by exact ((HS.out.one_more _).drew nq).set _)).mono ?_);rintro e W2 ⟨rfl,hs2,hk2⟩;have HS2:=Aside0.mk hs2;have HL2:Aside0 (W.heap.size < W2.heap.size):=⟨by have:=hk2.1;simp at this;omega⟩;have B2:=Aside0.mk (ud.kept_at hk2 (by have:=HG.out;omega) (uu.res0 W 51 nq g (Base.ofL (s.drop 7)) HG.out));have HK2:=Aside0.mk (ud.keep_then ((keep_drewN (keep_alloc (u1y.refl W g none) (.cells #[.string ⟨#[]⟩,.string ⟨#[]⟩,.string ⟨#[]⟩] 51)) nq).set_ 0 (.string (Base.ofL (s.drop 7)))) hk2);clear hs2 hk2)
        | (go_at_call 44;(with_reducible refine (u1v.calls_ok w0 _ g 32 t (by exact HS2.out.one_more _)).mono ?_);rintro e W3 ⟨rfl,hs3,hk3⟩;have HS3:=Aside0.mk hs3;have B3:=Aside0.mk (ud.kept_at (b:=W.heap.size) hk3 (by have:=HG.out;omega) (ud.new_old B2.out _));have C3:=Aside0.mk (ud.kept_at hk3 (by have:=HG.out;have:=HL2.out;omega) (ud.new_at W2 _));have HK3:=Aside0.mk (ud.keep_then HK2.out (ud.keep_from hk3));clear h0 f0;obtain ⟨h0,f0⟩:=hs3.look;clear hs3 hk3)
        | (go_at_call 46;(with_reducible refine (text_known.calls _ _ _ HT.out).mono ?_);rintro e W4 ⟨rfl,⟨kd,rfl⟩⟩;have HS4:=Aside0.mk (HS3.out.drew kd);have B4:=Aside0.mk (ud.below_at (ua (Below.refl _ _) kd) B3.out);have C4:=Aside0.mk (ud.below_at (ua (Below.refl _ _) kd) C3.out);have HK4:=Aside0.mk (keep_drewN HK3.out kd);obtain ⟨⟨a0,a1,a2⟩,a3,a4,a5⟩:=uk.look3 B3.out;obtain ⟨⟨c0,c1,c2⟩,c3,c4,c5⟩:=uk.look3 C3.out)
        | (go_at_call 45;(with_reducible refine (u2l.calls_no _).mono ?_);rintro e W5 ⟨rfl,rfl⟩))
       exact ⟨rfl,uu.out_none HE.out HS4.out.below⟩
     | true =>
       have HE:Aside0 (o = some (n,Base.ofL t,Base.ofL [])):=⟨by rw [HV.out,htt];rfl⟩
       have HT:Aside0 (text_known.f (Base.ofL t) = some true):=⟨(uu.known_is t).trans (by rw [htt])⟩
       have N1:Aside0 (g < W.heap.size):=⟨HG.out⟩
       clear htt HV
       go_enter Tryd.func32,Tryd.ntmps32
       go_wp2_with fail
       go_quiet (first
        | (go_at_call 24;(with_reducible refine (u1x.calls _ _ _ _ H1.out).mono ?_);rintro e w' ⟨rfl,⟨nd,rfl⟩⟩;exact ⟨rfl,_,World.drewN_drewN _ _ _⟩)
        | (go_at_call 24;(with_reducible refine (u1x.calls _ _ _ _ H2.out).mono ?_);rintro e w' ⟨rfl,⟨nd,rfl⟩⟩;exact ⟨rfl,_,World.drewN_drewN _ _ _⟩))
       go_wp2_with (first
        | (go_at_call 43;(with_reducible refine (u2q.calls_ok w0 _ g (s.drop 7) (by omega) n (32 :: t) HN.out (by exact ((HS.out.one_more _).drew nq).set _)).mono ?_);rintro e W2 ⟨rfl,hs2,hk2⟩;have HS2:=Aside0.mk hs2;have HL2:Aside0 (W.heap.size < W2.heap.size):=⟨by have:=hk2.1;simp at this;omega⟩;have B2:=Aside0.mk (ud.kept_at hk2 (by have:=HG.out;omega) (uu.res0 W 51 nq g (Base.ofL (s.drop 7)) HG.out));have HK2:=Aside0.mk (ud.keep_then ((keep_drewN (keep_alloc (u1y.refl W g none) (.cells #[.string ⟨#[]⟩,.string ⟨#[]⟩,.string ⟨#[]⟩] 51)) nq).set_ 0 (.string (Base.ofL (s.drop 7)))) hk2);clear hs2 hk2)
        | (go_at_call 44;(with_reducible refine (u1v.calls_ok w0 _ g 32 t (by exact HS2.out.one_more _)).mono ?_);rintro e W3 ⟨rfl,hs3,hk3⟩;have HS3:=Aside0.mk hs3;have B3:=Aside0.mk (ud.kept_at (b:=W.heap.size) hk3 (by have:=HG.out;omega) (ud.new_old B2.out _));have C3:=Aside0.mk (ud.kept_at hk3 (by have:=HG.out;have:=HL2.out;omega) (ud.new_at W2 _));have HK3:=Aside0.mk (ud.keep_then HK2.out (ud.keep_from hk3));clear h0 f0;obtain ⟨h0,f0⟩:=hs3.look;clear hs3 hk3)
        | (go_at_call 46;(with_reducible refine (text_known.calls _ _ _ HT.out).mono ?_);rintro e W4 ⟨rfl,⟨kd,rfl⟩⟩;have HS4:=Aside0.mk (HS3.out.drew kd);have B4:=Aside0.mk (ud.below_at (ua (Below.refl _ _) kd) B3.out);have C4:=Aside0.mk (ud.below_at (ua (Below.refl _ _) kd) C3.out);have HK4:=Aside0.mk (keep_drewN HK3.out kd);obtain ⟨⟨a0,a1,a2⟩,a3,a4,a5⟩:=uk.look3 B3.out;obtain ⟨⟨c0,c1,c2⟩,c3,c4,c5⟩:=uk.look3 C3.out;have n1:¬ W2.heap.size = g:=(by have:=HG.out;have:=HL2.out;omega);have n2:¬ W.heap.size = g:=(by have:=HG.out;omega);have n3:¬ W.heap.size = W2.heap.size:=(by have:=HL2.out;omega);have n4:¬ g = W2.heap.size:=fun e => n1 e.symm;have n5:¬ g = W.heap.size:=fun e => n2 e.symm;have n6:¬ W2.heap.size = W.heap.size:=fun e => n3 e.symm)
        | (go_at_call 45;(with_reducible refine (u2l.calls_ok _).mono ?_);rintro e W5 ⟨rfl,rfl⟩))
       refine bodyPost_ret (v:=.agg #[.string n,.string (Base.ofL t),.string ⟨#[]⟩]) (by simp [results,Tryd.results32,go_sem,a0,a1,a2,n1,n2,n3,n4,n5,n6]) rfl ?_
       have hw:w0.heap.size ≤ W.heap.size:=HS.out.below.size
       have hw2:w0.heap.size ≤ W2.heap.size:=HS2.out.below.size
       have h3:=uu.three (u:=.string n) (v:=.string (Base.ofL t)) (x:=.string ⟨#[]⟩) (HS4.out.below.setCell (p:=⟨W2.heap.size,1,none⟩) hw2 (.string (Base.ofL t))) hw (ud.keep_new (p:=⟨W2.heap.size,1,none⟩) HK4.out (by have:=HL2.out;show W.heap.size ≤ W2.heap.size;omega) (.string (Base.ofL t)))
       exact uu.out_some HE.out h3.1 h3.2
theorem uu.calls (w0 W:World) (g:Nat) (s:List UInt8) (hl:s.length ≤ 1000) (h:ud.St w0 W g s) :
 Calls Tryd.prog 32 #[.pointer (some ⟨g,0,none⟩)] W fun e W' => uu.Out w0 W g (Tx.remarkP s) e W':=by
 cases ht:Tx.typeW.isPrefixOf s with
 | true => exact uu.type w0 W g s hl (uu.both ht) ht h
 | false =>
   cases hh:Tx.helpW.isPrefixOf s with
   | true => exact uu.help w0 W g s hl hh ht h
   | false => exact uu.other w0 W g s hl hh ht h
abbrev uv.Lb:=S37
def uv.nm (k:Nat) (x:uv.Lb):Bool:=(uy.f k x.f0).getD false
def uv.vl (x:uv.Lb):Bool:=(u2t.f x.f1).getD false
def uv.stepB (k:Nat) (l:List uv.Lb) (i:Nat):Bool:=uv.nm k (u2b l (i:Int)) && uv.vl (u2b l (i:Int)) && (decide (i = 0) || Op.bytesLess (u2b l ((i:Int) - 1)).f0.toList (u2b l (i:Int)).f0.toList)
def uv.canB (k:Nat) (l:List uv.Lb):Bool:=decide (1 ≤ l.length) && decide (l.length ≤ 8) && (List.range l.length).all (uv.stepB k l)
def uv.okB (k:Nat) (l:List uv.Lb):Bool:=l.all fun x => (uy.f k x.f0).isSome && (u2t.f x.f1).isSome
def uv.f (k:Nat) (l0:List uv.Lb):Option Bool:=if uv.okB k l0 = true then some (uv.canB k l0) else none
theorem uv.is_some {a:Option Bool} (h:a.isSome = true):a = some (a.getD false):=by
 cases a with
 | none => cases h
 | some b => rfl
theorem uv.rd_mem (l:List uv.Lb) (i:Int) (h0:0 ≤ i) (h1:i < l.length):u2b l i ∈ l:=by
 unfold u2b
 rw [List.getD_eq_getElem?_getD,List.getElem?_eq_getElem (by omega)]
 exact List.getElem_mem _
theorem uv.ok_at {k:Nat} {l:List uv.Lb} (h:uv.okB k l = true) (x:uv.Lb) (hx:x ∈ l):uy.f k x.f0 = some (uv.nm k x) ∧ u2t.f x.f1 = some (uv.vl x):=by
 have h1:=List.all_eq_true.1 h x hx
 rw [Bool.and_eq_true] at h1
 exact ⟨uv.is_some h1.1,uv.is_some h1.2⟩
set_option maxHeartbeats 4000000 in
set_option maxRecDepth 10000 in
theorem uv.calls (k:Nat) (A0:Option Addr) (c0:Nat) (l0:List uv.Lb) (r:Bool) (w:World) (hr0:Kd.C k37 w A0 l0.length l0) (hc0:l0.length ≤ c0) (h:uv.f k l0 = some r) :
 Calls Tryd.prog 10 #[.slice A0 l0.length c0] w fun e w' => e = .returned (.bool r) ∧ Below w.heap.size w w':=by
 have hok:uv.okB k l0 = true:=by
  unfold uv.f at h
  split at h
  · assumption
  · cases h
 unfold uv.f at h
 rw [if_pos hok] at h
 obtain rfl:=Option.some.inj h
 have HO:=Aside0.mk hok
 have HR:=Aside0.mk hr0
 have HC:=Aside0.mk hc0
 clear hr0 h hok hc0
 by_cases h1:l0.length < 1
 · have d1:decide ((l0.length:Int) < 1) = true:=decide_eq_true (by omega)
   have d2:decide (l0.length < 1) = true:=decide_eq_true h1
   have HE:Aside0 (uv.canB k l0 = false):=⟨by unfold uv.canB;rw [decide_eq_false (by omega),Bool.false_and,Bool.false_and]⟩
   rw [HE.out]
   go_enter Tryd.func10,Tryd.ntmps10
   go_wp2
   go_ret
   exact ⟨rfl,Below.refl _ _⟩
 · have d1:decide ((l0.length:Int) < 1) = false:=decide_eq_false (by omega)
   have d2:decide (l0.length < 1) = false:=decide_eq_false h1
   by_cases h8:8 < l0.length
   · have d3:decide ((l0.length:Int) > 8) = true:=decide_eq_true (by omega)
     have d4:decide (8 < l0.length) = true:=decide_eq_true h8
     have HE:Aside0 (uv.canB k l0 = false):=⟨by unfold uv.canB;rw [decide_eq_false (show ¬ l0.length ≤ 8 by omega),Bool.and_false,Bool.false_and]⟩
     rw [HE.out]
     go_enter Tryd.func10,Tryd.ntmps10
     go_wp2
     go_ret
     exact ⟨rfl,Below.refl _ _⟩
   · have d3:decide ((l0.length:Int) > 8) = false:=decide_eq_false (by omega)
     have d4:decide (8 < l0.length) = false:=decide_eq_false h8
     have HE:Aside0 (uv.canB k l0 = (List.range l0.length).all (uv.stepB k l0)):=⟨by unfold uv.canB;rw [decide_eq_true (show 1 ≤ l0.length by omega),decide_eq_true (show l0.length ≤ 8 by omega),Bool.true_and,Bool.true_and]⟩
     rw [HE.out]
     have HB0:=Aside0.mk (Below.refl w.heap.size w)
     go_enter Tryd.func10,Tryd.ntmps10
     go_wp2
     clear d1 d2 d3 d4
     go_loopg [15] (l0.length) (fun kq v15 wr => ∃ (i:Nat),i ≤ l0.length ∧ v15 = .int .i64 i ∧ Aside0 (∀ j,j < i → uv.stepB k l0 j = true) ∧ l0.length ≤ kq + i ∧ Aside0 (Below w.heap.size w wr))
     case atStart => exact ⟨0,Nat.zero_le _,rfl,⟨fun j hj => absurd hj (Nat.not_lt_zero j)⟩,by omega,HB0⟩
     case round =>
      obtain ⟨i,hi,rfl,HJ,hk,HB⟩:=hrel
      by_cases hlt:i < l0.length
      · obtain ⟨ad,e,hc0,hc1⟩:=at_T37 HR.out (i:Int) (by omega) (by omega)
        subst e
        have HX:=uv.ok_at HO.out _ (uv.rd_mem l0 (i:Int) (by omega) (by omega))
        obtain ⟨x,hx⟩:∃ x,Aside0 (u2b l0 (i:Int) = x):=⟨_,⟨rfl⟩⟩
        rw [hx.out] at hc0 hc1 HX
        have q0:wr.cell? (ad.add (i * 2)) = some (.string x.f0):=(HB.out.cell (World.block_lt_of_cell? w _ (by simpa using hc0))).trans (by simpa using hc0)
        have q1:wr.cell? ⟨(ad.add (i * 2)).block,(ad.add (i * 2)).off + 1,none⟩ = some (.string x.f1):=(HB.out.cell (World.block_lt_of_cell? w _ (by simpa using hc1))).trans (by simpa using hc1)
        clear hc0 hc1
        obtain ⟨bn,hbn⟩:∃ b,Aside0 (uv.nm k x = b):=⟨_,⟨rfl⟩⟩
        obtain ⟨bv,hbv⟩:∃ b,Aside0 (uv.vl x = b):=⟨_,⟨rfl⟩⟩
        have HN:Aside0 (uy.f k x.f0 = some bn):=⟨by rw [← hbn.out];exact HX.1⟩
        have HV:Aside0 (u2t.f x.f1 = some bv):=⟨by rw [← hbv.out];exact HX.2⟩
        have hs:uv.stepB k l0 i = (bn && bv && (decide (i = 0) || Op.bytesLess (u2b l0 ((i:Int) - 1)).f0.toList x.f0.toList)):=by
         unfold uv.stepB
         rw [hx.out,hbn.out,hbv.out]
        have HS:=Aside0.mk hs
        clear hs HX
        obtain ⟨W1,hW1⟩:∃ W1,Aside0 (wr.alloc (.cells #[.string x.f0,.string x.f1] 37) = W1):=⟨_,⟨rfl⟩⟩
        have HG:Aside0 (W1.heap[wr.heap.size]? = some (.cells #[.string x.f0,.string x.f1] 37 (0,0))):=⟨by rw [← hW1.out];exact blk_new _ _⟩
        have HB1:Aside0 (Below w.heap.size w W1):=⟨by rw [← hW1.out];exact uf HB.out _⟩
        have HG1:=Aside0.mk (ue HG.out)
        have HB2:=Aside0.mk (ug HB1.out)
        have hfail:uv.stepB k l0 i = false → (List.range l0.length).all (uv.stepB k l0) = false:=fun h9 => List.all_eq_false.2 ⟨i,List.mem_range.2 hlt,by rw [h9];decide⟩
        have HFL:=Aside0.mk hfail
        clear hfail
        obtain ⟨g1,rfl⟩:∃ g1,gk = g1 + 1:=⟨gk - 1,by omega⟩
        cases bn with
        | false =>
          go_wp2
          rw [hW1.out]
          clear q0 q1
          refine startO_ (n:=25) (S:=fun w' => w'.cell? ⟨wr.heap.size,0,none⟩ = some (.string x.f0) ∧ w'.cell? ⟨wr.heap.size,1,none⟩ = some (.string x.f1)) (ds:=[]) [(0,20),(1,21),(2,0),(3,23),(4,24),(5,25),(6,26),(7,27),(8,28),(9,29),(10,30),(11,31),(12,32),(13,33),(14,34),(15,35),(16,36),(17,37),(18,38),(19,39),(20,40),(21,41),(22,42),(23,43),(24,44)] (by kernel_rfl) rfl ⟨(uj HG1.out 0).trans rfl,(uj HG1.out 1).trans rfl⟩ (fun hHeld => ?_)
          (refine hd_ (v:=?_) (a':=?_) rfl rfl (by kernel_rfl) (Or.inl ⟨by kernel_rfl,?_⟩) ?_ ?_;rotate_left;(intro w';go_simp;with_reducible rfl);rotate_left;(simp only [Act.put,List.setIfInBounds_toArray,List.set_cons_zero,List.set_cons_succ,i64_w,i32_w];rfl))
          refine hdS_ (v:=?_) (a':=?_) rfl rfl (by kernel_rfl) (Or.inl ⟨by kernel_rfl,?_⟩) hHeld ?_ ?_
          rotate_left
          · rintro w' hS'
            obtain ⟨s0,s1⟩:=hS'
            go_simp
            (try with_reducible rfl)
          rotate_left
          · simp only [Act.put,List.setIfInBounds_toArray,List.set_cons_zero,List.set_cons_succ,i64_w,i32_w]
            rfl
          refine oneO_ (N:=some 22) rfl rfl (by kernel_rfl) (by decide) (fun K hK => ?_)
          refine goes_ Tryd.func18 (by kernel_rfl) rfl #[.string x.f0] (by rfl) rfl rfl (by (try simp only [List.map_toArray,List.map_cons,List.map_nil]);first | done | rfl) ?_
          refine (uy.calls k x.f0 false _ HN.out).mono ?_
          rintro e W2 ⟨rfl,hb2⟩
          refine ⟨_,rfl,?_⟩
          have hB2:=hb2.below
          have HG2:=Aside0.mk (u1a HG1.out hB2)
          have HB3:=Aside0.mk (below_then HB2.out HB2.out.size hB2)
          clear hb2 hB2
          refine hK.out (Act.put _ (some 22) (.bool false)) _ ⟨(uj HG2.out 0).trans rfl,(uj HG2.out 1).trans rfl⟩ (fun hNext => ?_)
          simp only [Act.put,List.setIfInBounds_toArray,List.set_cons_zero,List.set_cons_succ,i64_w,i32_w]
          clear hK hHeld K
          have hHeld:=hNext
          clear hNext
          iterate 2 (refine hd_ (v:=?_) (a':=?_) rfl rfl (by kernel_rfl) (Or.inl ⟨by kernel_rfl,?_⟩) ?_ ?_;rotate_left;(intro w';go_simp;with_reducible rfl);rotate_left;(simp only [Act.put,List.setIfInBounds_toArray,List.set_cons_zero,List.set_cons_succ,i64_w,i32_w];rfl))
          iterate 4 (refine hd_ (v:=undef) (a':=?_) rfl rfl (by kernel_rfl) (Or.inr ⟨by kernel_rfl,rfl⟩) ?_ ?_;rotate_left;(simp only [Act.put,List.setIfInBounds_toArray,List.set_cons_zero,List.set_cons_succ,i64_w,i32_w];rfl))
          iterate 2 (refine hd_ (v:=?_) (a':=?_) rfl rfl (by kernel_rfl) (Or.inl ⟨by kernel_rfl,?_⟩) ?_ ?_;rotate_left;(intro w';go_simp;with_reducible rfl);rotate_left;(simp only [Act.put,List.setIfInBounds_toArray,List.set_cons_zero,List.set_cons_succ,i64_w,i32_w];rfl))
          iterate 13 (refine hd_ (v:=undef) (a':=?_) rfl rfl (by kernel_rfl) (Or.inr ⟨by kernel_rfl,rfl⟩) ?_ ?_;rotate_left;(simp only [Act.put,List.setIfInBounds_toArray,List.set_cons_zero,List.set_cons_succ,i64_w,i32_w];rfl))
          (refine hd_ (v:=?_) (a':=?_) rfl rfl (by kernel_rfl) (Or.inl ⟨by kernel_rfl,?_⟩) ?_ ?_;rotate_left;(intro w';go_simp;with_reducible rfl);rotate_left;(simp only [Act.put,List.setIfInBounds_toArray,List.set_cons_zero,List.set_cons_succ,i64_w,i32_w];rfl))
          refine doneO_ (by kernel_rfl) ?_
          try go_wp2
          go_ret
          exact ⟨by rw [HFL.out (by rw [HS.out];simp)];rfl,HB3.out⟩
        | true =>
          cases bv with
          | false =>
            go_wp2
            rw [hW1.out]
            clear q0 q1
            refine startO_ (n:=25) (S:=fun w' => w'.cell? ⟨wr.heap.size,0,none⟩ = some (.string x.f0) ∧ w'.cell? ⟨wr.heap.size,1,none⟩ = some (.string x.f1)) (ds:=[]) [(0,20),(1,21),(2,0),(3,23),(4,24),(5,25),(6,26),(7,0),(8,28),(9,29),(10,30),(11,31),(12,32),(13,33),(14,34),(15,35),(16,36),(17,37),(18,38),(19,39),(20,40),(21,41),(22,42),(23,43),(24,44)] (by kernel_rfl) rfl ⟨(uj HG1.out 0).trans rfl,(uj HG1.out 1).trans rfl⟩ (fun hHeld => ?_)
            (refine hd_ (v:=?_) (a':=?_) rfl rfl (by kernel_rfl) (Or.inl ⟨by kernel_rfl,?_⟩) ?_ ?_;rotate_left;(intro w';go_simp;with_reducible rfl);rotate_left;(simp only [Act.put,List.setIfInBounds_toArray,List.set_cons_zero,List.set_cons_succ,i64_w,i32_w];rfl))
            refine hdS_ (v:=?_) (a':=?_) rfl rfl (by kernel_rfl) (Or.inl ⟨by kernel_rfl,?_⟩) hHeld ?_ ?_
            rotate_left
            · rintro w' hS'
              obtain ⟨s0,s1⟩:=hS'
              go_simp
              (try with_reducible rfl)
            rotate_left
            · simp only [Act.put,List.setIfInBounds_toArray,List.set_cons_zero,List.set_cons_succ,i64_w,i32_w]
              rfl
            refine oneO_ (N:=some 22) rfl rfl (by kernel_rfl) (by decide) (fun K hK => ?_)
            refine goes_ Tryd.func18 (by kernel_rfl) rfl #[.string x.f0] (by rfl) rfl rfl (by (try simp only [List.map_toArray,List.map_cons,List.map_nil]);first | done | rfl) ?_
            refine (uy.calls k x.f0 true _ HN.out).mono ?_
            rintro e W2 ⟨rfl,hb2⟩
            refine ⟨_,rfl,?_⟩
            have hB2:=hb2.below
            have HG2:=Aside0.mk (u1a HG1.out hB2)
            have HB3:=Aside0.mk (below_then HB2.out HB2.out.size hB2)
            clear hb2 hB2
            refine hK.out (Act.put _ (some 22) (.bool true)) _ ⟨(uj HG2.out 0).trans rfl,(uj HG2.out 1).trans rfl⟩ (fun hNext => ?_)
            simp only [Act.put,List.setIfInBounds_toArray,List.set_cons_zero,List.set_cons_succ,i64_w,i32_w]
            clear hK hHeld K
            have hHeld:=hNext
            clear hNext
            iterate 3 (refine hd_ (v:=?_) (a':=?_) rfl rfl (by kernel_rfl) (Or.inl ⟨by kernel_rfl,?_⟩) ?_ ?_;rotate_left;(intro w';go_simp;with_reducible rfl);rotate_left;(simp only [Act.put,List.setIfInBounds_toArray,List.set_cons_zero,List.set_cons_succ,i64_w,i32_w];rfl))
            refine hdS_ (v:=?_) (a':=?_) rfl rfl (by kernel_rfl) (Or.inl ⟨by kernel_rfl,?_⟩) hHeld ?_ ?_
            rotate_left
            · rintro w' hS'
              obtain ⟨s0,s1⟩:=hS'
              go_simp
              (try with_reducible rfl)
            rotate_left
            · simp only [Act.put,List.setIfInBounds_toArray,List.set_cons_zero,List.set_cons_succ,i64_w,i32_w]
              rfl
            refine oneO_ (N:=some 27) rfl rfl (by kernel_rfl) (by decide) (fun K hK => ?_)
            refine goes_ Tryd.func19 (by kernel_rfl) rfl #[.string x.f1] (by rfl) rfl rfl (by (try simp only [List.map_toArray,List.map_cons,List.map_nil]);first | done | rfl) ?_
            refine (u2t.calls x.f1 false _ HV.out).mono ?_
            rintro e W3 ⟨rfl,hb3⟩
            refine ⟨_,rfl,?_⟩
            have HG3:=Aside0.mk (u1a HG2.out hb3)
            have HB4:=Aside0.mk (below_then HB3.out HB3.out.size hb3)
            clear hb3
            refine hK.out (Act.put _ (some 27) (.bool false)) _ ⟨(uj HG3.out 0).trans rfl,(uj HG3.out 1).trans rfl⟩ (fun hNext => ?_)
            simp only [Act.put,List.setIfInBounds_toArray,List.set_cons_zero,List.set_cons_succ,i64_w,i32_w]
            clear hK hHeld K
            have hHeld:=hNext
            clear hNext
            iterate 3 (refine hd_ (v:=?_) (a':=?_) rfl rfl (by kernel_rfl) (Or.inl ⟨by kernel_rfl,?_⟩) ?_ ?_;rotate_left;(intro w';go_simp;with_reducible rfl);rotate_left;(simp only [Act.put,List.setIfInBounds_toArray,List.set_cons_zero,List.set_cons_succ,i64_w,i32_w];rfl))
            iterate 13 (refine hd_ (v:=undef) (a':=?_) rfl rfl (by kernel_rfl) (Or.inr ⟨by kernel_rfl,rfl⟩) ?_ ?_;rotate_left;(simp only [Act.put,List.setIfInBounds_toArray,List.set_cons_zero,List.set_cons_succ,i64_w,i32_w];rfl))
            (refine hd_ (v:=?_) (a':=?_) rfl rfl (by kernel_rfl) (Or.inl ⟨by kernel_rfl,?_⟩) ?_ ?_;rotate_left;(intro w';go_simp;with_reducible rfl);rotate_left;(simp only [Act.put,List.setIfInBounds_toArray,List.set_cons_zero,List.set_cons_succ,i64_w,i32_w];rfl))
            refine doneO_ (by kernel_rfl) ?_
            try go_wp2
            go_ret
            exact ⟨by rw [HFL.out (by rw [HS.out];simp)];rfl,HB4.out⟩
          | true =>
            by_cases hz9:i = 0
            · have z1:decide ((i:Int) > 0) = false:=decide_eq_false (by omega)
              have z2:decide (0 < i) = false:=decide_eq_false (by omega)
              have HZ9:=Aside0.mk hz9
              clear hz9
              go_wp2
              rw [hW1.out]
              clear q0 q1
              refine startO_ (n:=25) (S:=fun w' => w'.cell? ⟨wr.heap.size,0,none⟩ = some (.string x.f0) ∧ w'.cell? ⟨wr.heap.size,1,none⟩ = some (.string x.f1)) (ds:=[]) [(0,20),(1,21),(2,0),(3,23),(4,24),(5,25),(6,26),(7,0),(8,28),(9,29),(10,30),(11,31),(12,32),(13,33),(14,34),(15,35),(16,36),(17,37),(18,38),(19,39),(20,40),(21,41),(22,42),(23,43),(24,44)] (by kernel_rfl) rfl ⟨(uj HG1.out 0).trans rfl,(uj HG1.out 1).trans rfl⟩ (fun hHeld => ?_)
              (refine hd_ (v:=?_) (a':=?_) rfl rfl (by kernel_rfl) (Or.inl ⟨by kernel_rfl,?_⟩) ?_ ?_;rotate_left;(intro w';go_simp;with_reducible rfl);rotate_left;(simp only [Act.put,List.setIfInBounds_toArray,List.set_cons_zero,List.set_cons_succ,i64_w,i32_w];rfl))
              refine hdS_ (v:=?_) (a':=?_) rfl rfl (by kernel_rfl) (Or.inl ⟨by kernel_rfl,?_⟩) hHeld ?_ ?_
              rotate_left
              · rintro w' hS'
                obtain ⟨s0,s1⟩:=hS'
                go_simp
                (try with_reducible rfl)
              rotate_left
              · simp only [Act.put,List.setIfInBounds_toArray,List.set_cons_zero,List.set_cons_succ,i64_w,i32_w]
                rfl
              refine oneO_ (N:=some 22) rfl rfl (by kernel_rfl) (by decide) (fun K hK => ?_)
              refine goes_ Tryd.func18 (by kernel_rfl) rfl #[.string x.f0] (by rfl) rfl rfl (by (try simp only [List.map_toArray,List.map_cons,List.map_nil]);first | done | rfl) ?_
              refine (uy.calls k x.f0 true _ HN.out).mono ?_
              rintro e W2 ⟨rfl,hb2⟩
              refine ⟨_,rfl,?_⟩
              have hB2:=hb2.below
              have HG2:=Aside0.mk (u1a HG1.out hB2)
              have HB3:=Aside0.mk (below_then HB2.out HB2.out.size hB2)
              clear hb2 hB2
              refine hK.out (Act.put _ (some 22) (.bool true)) _ ⟨(uj HG2.out 0).trans rfl,(uj HG2.out 1).trans rfl⟩ (fun hNext => ?_)
              simp only [Act.put,List.setIfInBounds_toArray,List.set_cons_zero,List.set_cons_succ,i64_w,i32_w]
              clear hK hHeld K
              have hHeld:=hNext
              clear hNext
              iterate 3 (refine hd_ (v:=?_) (a':=?_) rfl rfl (by kernel_rfl) (Or.inl ⟨by kernel_rfl,?_⟩) ?_ ?_;rotate_left;(intro w';go_simp;with_reducible rfl);rotate_left;(simp only [Act.put,List.setIfInBounds_toArray,List.set_cons_zero,List.set_cons_succ,i64_w,i32_w];rfl))
              refine hdS_ (v:=?_) (a':=?_) rfl rfl (by kernel_rfl) (Or.inl ⟨by kernel_rfl,?_⟩) hHeld ?_ ?_
              rotate_left
              · rintro w' hS'
                obtain ⟨s0,s1⟩:=hS'
                go_simp
                (try with_reducible rfl)
              rotate_left
              · simp only [Act.put,List.setIfInBounds_toArray,List.set_cons_zero,List.set_cons_succ,i64_w,i32_w]
                rfl
              refine oneO_ (N:=some 27) rfl rfl (by kernel_rfl) (by decide) (fun K hK => ?_)
              refine goes_ Tryd.func19 (by kernel_rfl) rfl #[.string x.f1] (by rfl) rfl rfl (by (try simp only [List.map_toArray,List.map_cons,List.map_nil]);first | done | rfl) ?_
              refine (u2t.calls x.f1 true _ HV.out).mono ?_
              rintro e W3 ⟨rfl,hb3⟩
              refine ⟨_,rfl,?_⟩
              have HG3:=Aside0.mk (u1a HG2.out hb3)
              have HB4:=Aside0.mk (below_then HB3.out HB3.out.size hb3)
              clear hb3
              refine hK.out (Act.put _ (some 27) (.bool true)) _ ⟨(uj HG3.out 0).trans rfl,(uj HG3.out 1).trans rfl⟩ (fun hNext => ?_)
              simp only [Act.put,List.setIfInBounds_toArray,List.set_cons_zero,List.set_cons_succ,i64_w,i32_w]
              clear hK hHeld K
              have hHeld:=hNext
              clear hNext
              iterate 6 (refine hd_ (v:=?_) (a':=?_) rfl rfl (by kernel_rfl) (Or.inl ⟨by kernel_rfl,?_⟩) ?_ ?_;rotate_left;(intro w';go_simp;with_reducible rfl);rotate_left;(simp only [Act.put,List.setIfInBounds_toArray,List.set_cons_zero,List.set_cons_succ,i64_w,i32_w];rfl))
              iterate 9 (refine hd_ (v:=undef) (a':=?_) rfl rfl (by kernel_rfl) (Or.inr ⟨by kernel_rfl,rfl⟩) ?_ ?_;rotate_left;(simp only [Act.put,List.setIfInBounds_toArray,List.set_cons_zero,List.set_cons_succ,i64_w,i32_w];rfl))
              iterate 2 (refine hd_ (v:=?_) (a':=?_) rfl rfl (by kernel_rfl) (Or.inl ⟨by kernel_rfl,?_⟩) ?_ ?_;rotate_left;(intro w';go_simp;with_reducible rfl);rotate_left;(simp only [Act.put,List.setIfInBounds_toArray,List.set_cons_zero,List.set_cons_succ,i64_w,i32_w];rfl))
              refine doneO_ (by kernel_rfl) ?_
              try go_wp2
              go_roundg g1
              case rel =>
               refine ⟨i + 1,hlt,by go_num,⟨fun m hm => ?_⟩,by omega,HB4⟩
               rcases Nat.lt_or_ge m i with h9 | h9
               · exact HJ.out m h9
               · have h8:m = i:=by omega
                 rw [h8,HS.out]
                 simp [HZ9.out]
              case measure => omega
            · obtain ⟨j,rfl⟩:∃ j,i = j + 1:=⟨i - 1,by omega⟩
              obtain ⟨ad2,e2,hp0,_⟩:=at_T37 HR.out (j:Int) (by omega) (by omega)
              obtain rfl:ad = ad2:=Option.some.inj e2
              obtain ⟨p,hp⟩:∃ p,Aside0 (u2b l0 (j:Int) = p):=⟨_,⟨rfl⟩⟩
              rw [hp.out] at hp0
              simp only [Int.toNat_natCast] at hp0
              have HP:Aside0 (∀ W',Below w.heap.size w W' → W'.cell? (ad.add (j * 2)) = some (.string p.f0)):=⟨fun W' hW' => (hW'.cell (World.block_lt_of_cell? w _ hp0)).trans hp0⟩
              have hj1:(((j + 1:Nat):Int) - 1) = (j:Int):=by omega
              rw [hj1,hp.out] at HS
              clear hp0 hj1
              have z1:decide (((j + 1:Nat):Int) > 0) = true:=decide_eq_true (by omega)
              have z2:decide (0 < j + 1) = true:=decide_eq_true (by omega)
              have z3:decide ((0:Int) < (j:Int) + 1) = true:=decide_eq_true (by omega)
              have z4:(0:Int) ≤ (j:Int):=by omega
              have z6:wrap64 (j:Int) = (j:Int):=by unfold wrap64;omega
              have z5:(j:Int) < (l0.length:Int):=by omega
              cases hls:Op.bytesLess p.f0.toList x.f0.toList with
              | false =>
                go_wp2
                rw [hW1.out]
                clear q0 q1
                refine startO_ (n:=25) (S:=fun w' => w'.cell? ⟨wr.heap.size,0,none⟩ = some (.string x.f0) ∧ w'.cell? ⟨wr.heap.size,1,none⟩ = some (.string x.f1) ∧ w'.cell? (ad.add (j * 2)) = some (.string p.f0)) (ds:=[]) [(0,20),(1,21),(2,0),(3,23),(4,24),(5,25),(6,26),(7,0),(8,28),(9,29),(10,30),(11,31),(12,32),(13,33),(14,34),(15,35),(16,36),(17,37),(18,38),(19,39),(20,40),(21,41),(22,42),(23,43),(24,44)] (by kernel_rfl) rfl ⟨(uj HG1.out 0).trans rfl,(uj HG1.out 1).trans rfl,HP.out _ (HB2.out)⟩ (fun hHeld => ?_)
                (refine hd_ (v:=?_) (a':=?_) rfl rfl (by kernel_rfl) (Or.inl ⟨by kernel_rfl,?_⟩) ?_ ?_;rotate_left;(intro w';go_simp;with_reducible rfl);rotate_left;(simp only [Act.put,List.setIfInBounds_toArray,List.set_cons_zero,List.set_cons_succ,i64_w,i32_w];rfl))
                refine hdS_ (v:=?_) (a':=?_) rfl rfl (by kernel_rfl) (Or.inl ⟨by kernel_rfl,?_⟩) hHeld ?_ ?_
                rotate_left
                · rintro w' hS'
                  obtain ⟨s0,s1,s2⟩:=hS'
                  go_simp
                  (try with_reducible rfl)
                rotate_left
                · simp only [Act.put,List.setIfInBounds_toArray,List.set_cons_zero,List.set_cons_succ,i64_w,i32_w]
                  rfl
                refine oneO_ (N:=some 22) rfl rfl (by kernel_rfl) (by decide) (fun K hK => ?_)
                refine goes_ Tryd.func18 (by kernel_rfl) rfl #[.string x.f0] (by rfl) rfl rfl (by (try simp only [List.map_toArray,List.map_cons,List.map_nil]);first | done | rfl) ?_
                refine (uy.calls k x.f0 true _ HN.out).mono ?_
                rintro e W2 ⟨rfl,hb2⟩
                refine ⟨_,rfl,?_⟩
                have hB2:=hb2.below
                have HG2:=Aside0.mk (u1a HG1.out hB2)
                have HB3:=Aside0.mk (below_then HB2.out HB2.out.size hB2)
                clear hb2 hB2
                refine hK.out (Act.put _ (some 22) (.bool true)) _ ⟨(uj HG2.out 0).trans rfl,(uj HG2.out 1).trans rfl,HP.out _ (HB3.out)⟩ (fun hNext => ?_)
                simp only [Act.put,List.setIfInBounds_toArray,List.set_cons_zero,List.set_cons_succ,i64_w,i32_w]
                clear hK hHeld K
                have hHeld:=hNext
                clear hNext
                iterate 3 (refine hd_ (v:=?_) (a':=?_) rfl rfl (by kernel_rfl) (Or.inl ⟨by kernel_rfl,?_⟩) ?_ ?_;rotate_left;(intro w';go_simp;with_reducible rfl);rotate_left;(simp only [Act.put,List.setIfInBounds_toArray,List.set_cons_zero,List.set_cons_succ,i64_w,i32_w];rfl))
                refine hdS_ (v:=?_) (a':=?_) rfl rfl (by kernel_rfl) (Or.inl ⟨by kernel_rfl,?_⟩) hHeld ?_ ?_
                rotate_left
                · rintro w' hS'
                  obtain ⟨s0,s1,s2⟩:=hS'
                  go_simp
                  (try with_reducible rfl)
                rotate_left
                · simp only [Act.put,List.setIfInBounds_toArray,List.set_cons_zero,List.set_cons_succ,i64_w,i32_w]
                  rfl
                refine oneO_ (N:=some 27) rfl rfl (by kernel_rfl) (by decide) (fun K hK => ?_)
                refine goes_ Tryd.func19 (by kernel_rfl) rfl #[.string x.f1] (by rfl) rfl rfl (by (try simp only [List.map_toArray,List.map_cons,List.map_nil]);first | done | rfl) ?_
                refine (u2t.calls x.f1 true _ HV.out).mono ?_
                rintro e W3 ⟨rfl,hb3⟩
                refine ⟨_,rfl,?_⟩
                have HG3:=Aside0.mk (u1a HG2.out hb3)
                have HB4:=Aside0.mk (below_then HB3.out HB3.out.size hb3)
                clear hb3
                refine hK.out (Act.put _ (some 27) (.bool true)) _ ⟨(uj HG3.out 0).trans rfl,(uj HG3.out 1).trans rfl,HP.out _ (HB4.out)⟩ (fun hNext => ?_)
                simp only [Act.put,List.setIfInBounds_toArray,List.set_cons_zero,List.set_cons_succ,i64_w,i32_w]
                clear hK hHeld K
                have hHeld:=hNext
                clear hNext
                iterate 11 (refine hd_ (v:=?_) (a':=?_) rfl rfl (by kernel_rfl) (Or.inl ⟨by kernel_rfl,?_⟩) ?_ ?_;rotate_left;(intro w';go_simp;with_reducible rfl);rotate_left;(simp only [Act.put,List.setIfInBounds_toArray,List.set_cons_zero,List.set_cons_succ,i64_w,i32_w];rfl))
                refine hdS_ (v:=?_) (a':=?_) rfl rfl (by kernel_rfl) (Or.inl ⟨by kernel_rfl,?_⟩) hHeld ?_ ?_
                rotate_left
                · rintro w' hS'
                  obtain ⟨s0,s1,s2⟩:=hS'
                  go_simp
                  (try with_reducible rfl)
                rotate_left
                · simp only [Act.put,List.setIfInBounds_toArray,List.set_cons_zero,List.set_cons_succ,i64_w,i32_w]
                  rfl
                (refine hd_ (v:=?_) (a':=?_) rfl rfl (by kernel_rfl) (Or.inl ⟨by kernel_rfl,?_⟩) ?_ ?_;rotate_left;(intro w';go_simp;with_reducible rfl);rotate_left;(simp only [Act.put,List.setIfInBounds_toArray,List.set_cons_zero,List.set_cons_succ,i64_w,i32_w];rfl))
                refine hdS_ (v:=?_) (a':=?_) rfl rfl (by kernel_rfl) (Or.inl ⟨by kernel_rfl,?_⟩) hHeld ?_ ?_
                rotate_left
                · rintro w' hS'
                  obtain ⟨s0,s1,s2⟩:=hS'
                  go_simp
                  (try with_reducible rfl)
                rotate_left
                · simp only [Act.put,List.setIfInBounds_toArray,List.set_cons_zero,List.set_cons_succ,i64_w,i32_w]
                  rfl
                iterate 3 (refine hd_ (v:=?_) (a':=?_) rfl rfl (by kernel_rfl) (Or.inl ⟨by kernel_rfl,?_⟩) ?_ ?_;rotate_left;(intro w';go_simp;with_reducible rfl);rotate_left;(simp only [Act.put,List.setIfInBounds_toArray,List.set_cons_zero,List.set_cons_succ,i64_w,i32_w];rfl))
                refine doneO_ (by kernel_rfl) ?_
                try go_wp2
                go_ret
                exact ⟨by rw [HFL.out (by rw [HS.out,hls];simp)];rfl,HB4.out⟩
              | true =>
                go_wp2
                rw [hW1.out]
                clear q0 q1
                refine startO_ (n:=25) (S:=fun w' => w'.cell? ⟨wr.heap.size,0,none⟩ = some (.string x.f0) ∧ w'.cell? ⟨wr.heap.size,1,none⟩ = some (.string x.f1) ∧ w'.cell? (ad.add (j * 2)) = some (.string p.f0)) (ds:=[]) [(0,20),(1,21),(2,0),(3,23),(4,24),(5,25),(6,26),(7,0),(8,28),(9,29),(10,30),(11,31),(12,32),(13,33),(14,34),(15,35),(16,36),(17,37),(18,38),(19,39),(20,40),(21,41),(22,42),(23,43),(24,44)] (by kernel_rfl) rfl ⟨(uj HG1.out 0).trans rfl,(uj HG1.out 1).trans rfl,HP.out _ (HB2.out)⟩ (fun hHeld => ?_)
                (refine hd_ (v:=?_) (a':=?_) rfl rfl (by kernel_rfl) (Or.inl ⟨by kernel_rfl,?_⟩) ?_ ?_;rotate_left;(intro w';go_simp;with_reducible rfl);rotate_left;(simp only [Act.put,List.setIfInBounds_toArray,List.set_cons_zero,List.set_cons_succ,i64_w,i32_w];rfl))
                refine hdS_ (v:=?_) (a':=?_) rfl rfl (by kernel_rfl) (Or.inl ⟨by kernel_rfl,?_⟩) hHeld ?_ ?_
                rotate_left
                · rintro w' hS'
                  obtain ⟨s0,s1,s2⟩:=hS'
                  go_simp
                  (try with_reducible rfl)
                rotate_left
                · simp only [Act.put,List.setIfInBounds_toArray,List.set_cons_zero,List.set_cons_succ,i64_w,i32_w]
                  rfl
                refine oneO_ (N:=some 22) rfl rfl (by kernel_rfl) (by decide) (fun K hK => ?_)
                refine goes_ Tryd.func18 (by kernel_rfl) rfl #[.string x.f0] (by rfl) rfl rfl (by (try simp only [List.map_toArray,List.map_cons,List.map_nil]);first | done | rfl) ?_
                refine (uy.calls k x.f0 true _ HN.out).mono ?_
                rintro e W2 ⟨rfl,hb2⟩
                refine ⟨_,rfl,?_⟩
                have hB2:=hb2.below
                have HG2:=Aside0.mk (u1a HG1.out hB2)
                have HB3:=Aside0.mk (below_then HB2.out HB2.out.size hB2)
                clear hb2 hB2
                refine hK.out (Act.put _ (some 22) (.bool true)) _ ⟨(uj HG2.out 0).trans rfl,(uj HG2.out 1).trans rfl,HP.out _ (HB3.out)⟩ (fun hNext => ?_)
                simp only [Act.put,List.setIfInBounds_toArray,List.set_cons_zero,List.set_cons_succ,i64_w,i32_w]
                clear hK hHeld K
                have hHeld:=hNext
                clear hNext
                iterate 3 (refine hd_ (v:=?_) (a':=?_) rfl rfl (by kernel_rfl) (Or.inl ⟨by kernel_rfl,?_⟩) ?_ ?_;rotate_left;(intro w';go_simp;with_reducible rfl);rotate_left;(simp only [Act.put,List.setIfInBounds_toArray,List.set_cons_zero,List.set_cons_succ,i64_w,i32_w];rfl))
                refine hdS_ (v:=?_) (a':=?_) rfl rfl (by kernel_rfl) (Or.inl ⟨by kernel_rfl,?_⟩) hHeld ?_ ?_
                rotate_left
                · rintro w' hS'
                  obtain ⟨s0,s1,s2⟩:=hS'
                  go_simp
                  (try with_reducible rfl)
                rotate_left
                · simp only [Act.put,List.setIfInBounds_toArray,List.set_cons_zero,List.set_cons_succ,i64_w,i32_w]
                  rfl
                refine oneO_ (N:=some 27) rfl rfl (by kernel_rfl) (by decide) (fun K hK => ?_)
                refine goes_ Tryd.func19 (by kernel_rfl) rfl #[.string x.f1] (by rfl) rfl rfl (by (try simp only [List.map_toArray,List.map_cons,List.map_nil]);first | done | rfl) ?_
                refine (u2t.calls x.f1 true _ HV.out).mono ?_
                rintro e W3 ⟨rfl,hb3⟩
                refine ⟨_,rfl,?_⟩
                have HG3:=Aside0.mk (u1a HG2.out hb3)
                have HB4:=Aside0.mk (below_then HB3.out HB3.out.size hb3)
                clear hb3
                refine hK.out (Act.put _ (some 27) (.bool true)) _ ⟨(uj HG3.out 0).trans rfl,(uj HG3.out 1).trans rfl,HP.out _ (HB4.out)⟩ (fun hNext => ?_)
                simp only [Act.put,List.setIfInBounds_toArray,List.set_cons_zero,List.set_cons_succ,i64_w,i32_w]
                clear hK hHeld K
                have hHeld:=hNext
                clear hNext
                iterate 11 (refine hd_ (v:=?_) (a':=?_) rfl rfl (by kernel_rfl) (Or.inl ⟨by kernel_rfl,?_⟩) ?_ ?_;rotate_left;(intro w';go_simp;with_reducible rfl);rotate_left;(simp only [Act.put,List.setIfInBounds_toArray,List.set_cons_zero,List.set_cons_succ,i64_w,i32_w];rfl))
                refine hdS_ (v:=?_) (a':=?_) rfl rfl (by kernel_rfl) (Or.inl ⟨by kernel_rfl,?_⟩) hHeld ?_ ?_
                rotate_left
                · rintro w' hS'
                  obtain ⟨s0,s1,s2⟩:=hS'
                  go_simp
                  (try with_reducible rfl)
                rotate_left
                · simp only [Act.put,List.setIfInBounds_toArray,List.set_cons_zero,List.set_cons_succ,i64_w,i32_w]
                  rfl
                (refine hd_ (v:=?_) (a':=?_) rfl rfl (by kernel_rfl) (Or.inl ⟨by kernel_rfl,?_⟩) ?_ ?_;rotate_left;(intro w';go_simp;with_reducible rfl);rotate_left;(simp only [Act.put,List.setIfInBounds_toArray,List.set_cons_zero,List.set_cons_succ,i64_w,i32_w];rfl))
                refine hdS_ (v:=?_) (a':=?_) rfl rfl (by kernel_rfl) (Or.inl ⟨by kernel_rfl,?_⟩) hHeld ?_ ?_
                rotate_left
                · rintro w' hS'
                  obtain ⟨s0,s1,s2⟩:=hS'
                  go_simp
                  (try with_reducible rfl)
                rotate_left
                · simp only [Act.put,List.setIfInBounds_toArray,List.set_cons_zero,List.set_cons_succ,i64_w,i32_w]
                  rfl
                iterate 3 (refine hd_ (v:=?_) (a':=?_) rfl rfl (by kernel_rfl) (Or.inl ⟨by kernel_rfl,?_⟩) ?_ ?_;rotate_left;(intro w';go_simp;with_reducible rfl);rotate_left;(simp only [Act.put,List.setIfInBounds_toArray,List.set_cons_zero,List.set_cons_succ,i64_w,i32_w];rfl))
                refine doneO_ (by kernel_rfl) ?_
                try go_wp2
                go_roundg g1
                case rel =>
                 refine ⟨j + 1 + 1,hlt,by go_num,⟨fun m hm => ?_⟩,by omega,HB4⟩
                 rcases Nat.lt_or_ge m (j + 1) with h9 | h9
                 · exact HJ.out m h9
                 · have h8:m = j + 1:=by omega
                   rw [h8,HS.out,hls]
                   simp
                case measure => omega
      · have hie:i = l0.length:=by omega
        have HT:Aside0 ((List.range l0.length).all (uv.stepB k l0) = true):=⟨List.all_eq_true.2 (fun m hm => HJ.out m (by rw [hie];exact List.mem_range.1 hm))⟩
        go_wp2
        go_ret
        exact ⟨by rw [HT.out];rfl,HB.out⟩
end Go.Proofs.YtmcpeifhapekoaaDoor.PAll
namespace Go.Proofs.YtmcpeifhapekoaaDoor.Laws
open Go.RowKit Go.Proofs.YtmcpeifhapekoaaDoor.PAll Go.Proofs.YtmcpeifhapekoaaDoorW.PrintWords Go.Proofs.YtmcpeifhapekoaaDoorW.PrintLast
set_option linter.unusedVariables false
set_option linter.unusedSimpArgs false
theorem wrap_up (i:Nat) (h:i < 9223372036854775807):wrap64 ((i:Int) + 1) = ((i + 1:Nat):Int):=by
 unfold wrap64
 omega
theorem at_byte (s:ByteArray) (i:Nat) (c:UInt8) (r:List UInt8) (h:s.data.toList.drop i = c :: r):i < s.size ∧ bt s (i:Int) = (c.toNat:Int) ∧ s.data.toList.drop (i + 1) = r:=by
 have hlt:i < s.data.toList.length:=by
  rcases Nat.lt_or_ge i s.data.toList.length with h1 | h1
  · exact h1
  · rw [List.drop_eq_nil_of_le h1] at h
    cases h
 have hs:s.size = s.data.toList.length:=Base.size_list s
 rw [List.drop_eq_getElem_cons hlt] at h
 obtain ⟨h1,h2⟩:=List.cons.inj h
 refine ⟨by omega,?_,h2⟩
 rw [Base.bt_list s i (by omega),List.getD_eq_getElem?_getD,List.getElem?_eq_getElem hlt,h1]
 rfl
theorem no_byte (s:ByteArray) (i:Nat) (h:s.data.toList.drop i = []):s.size ≤ i:=by
 have hs:s.size = s.data.toList.length:=Base.size_list s
 have:=List.drop_eq_nil_iff.1 h
 omega
def letterI (c:Int):Bool:=(decide (97 ≤ c) && decide (c ≤ 122)) || (decide (65 ≤ c) && decide (c ≤ 90)) || decide (c = 95)
theorem letter_fin:∀ n:Fin 256,Base.letterB (n.val:Int) = letterI (n.val:Int):=by decide +kernel
theorem letter_is (c:UInt8):Base.letterB (c.toNat:Int) = letterI (c.toNat:Int):=letter_fin ⟨c.toNat,c.toNat_lt⟩
theorem name_step (k:Nat) (s:ByteArray) (i:Nat) (hi:i < s.size) (hs:s.size ≤ 9223372036854775807) :
 uy.l0 (k + 1) s (i:Int) = if letterI (bt s i) = true then uy.l0 k s ((i + 1:Nat):Int) else if i = 0 then some false else
  if Base.digitB (bt s i) = true then uy.l0 k s ((i + 1:Nat):Int) else some false:=by
 have hw:=wrap_up i (by omega)
 simp only [uy.l0]
 rw [if_pos (by omega),if_pos (by omega),hw]
 generalize bt s (i:Int) = c
 have e0:((i:Int) = 0) = (i = 0):=by simp
 simp only [e0]
 unfold letterI Base.digitB
 by_cases h1:97 ≤ c <;> by_cases h2:c ≤ 122 <;> by_cases h3:65 ≤ c <;> by_cases h4:c ≤ 90 <;> by_cases h5:c = 95 <;> first | (exfalso;omega) | skip
 all_goals by_cases h6:48 ≤ c <;> by_cases h7:c ≤ 57 <;> first | (exfalso;omega) | skip
 all_goals simp [h1,h2,h3,h4,h5,h6,h7]
 all_goals rw [if_neg (show ¬ c < 48 by omega),if_neg (show ¬ 57 < c by omega)]
theorem name_l0 (s:ByteArray) (hs:s.size ≤ 9223372036854775807):∀ (r:List UInt8) (i:Nat),1 ≤ i → s.data.toList.drop i = r →
 Ev (fun k => uy.l0 k s (i:Int)) (r.all (fun c => Base.letterB (c.toNat:Int) || Base.digitB (c.toNat:Int)) && (decide (1 ≤ s.size) && decide (s.size ≤ 24))):=by
 intro r
 induction r with
 | nil =>
   intro i hi h
   have h1:=no_byte s i h
   refine Ev.step (f:=fun _ => some (decide (1 ≤ s.size) && decide (s.size ≤ 24))) (fun k => ?_) (by simpa using Ev.now _)
   simp only [uy.l0]
   rw [if_neg (by omega)]
   by_cases h2:1 ≤ s.size
   · rw [if_pos (by omega)]
     simp [h2]
     omega
   · rw [if_neg (by omega)]
     simp [h2]
 | cons c r ih =>
   intro i hi h
   obtain ⟨hlt,hbt,hr⟩:=at_byte s i c r h
   have ih2:=ih (i + 1) (by omega) hr
   cases hl:Base.letterB (c.toNat:Int) with
   | true =>
     have e:(c :: r).all (fun c => Base.letterB (c.toNat:Int) || Base.digitB (c.toNat:Int)) = r.all (fun c => Base.letterB (c.toNat:Int) || Base.digitB (c.toNat:Int)):=by rw [List.all_cons,hl];rfl
     rw [e]
     refine Ev.step (fun k => ?_) ih2
     rw [name_step k s i hlt hs,hbt,← letter_is,if_pos hl]
   | false =>
     cases hd:Base.digitB (c.toNat:Int) with
     | true =>
       have e:(c :: r).all (fun c => Base.letterB (c.toNat:Int) || Base.digitB (c.toNat:Int)) = r.all (fun c => Base.letterB (c.toNat:Int) || Base.digitB (c.toNat:Int)):=by rw [List.all_cons,hl,hd];rfl
       rw [e]
       refine Ev.step (fun k => ?_) ih2
       rw [name_step k s i hlt hs,hbt,← letter_is,if_neg (by rw [hl];simp),if_neg (by omega),if_pos hd]
     | false =>
       have e:(c :: r).all (fun c => Base.letterB (c.toNat:Int) || Base.digitB (c.toNat:Int)) = false:=by rw [List.all_cons,hl,hd];rfl
       rw [e]
       refine Ev.step (f:=fun _ => some false) (fun k => ?_) (Ev.now _)
       rw [name_step k s i hlt hs,hbt,← letter_is,if_neg (by rw [hl];simp),if_neg (by omega),if_neg (by rw [hd];simp)]
theorem all_bytes (s:ByteArray) (p:Int → Bool):(u2y s).all p = s.data.toList.all (fun c => p (c.toNat:Int)):=by
 rw [u2y,List.all_map]
 rfl
theorem rname_ev (s:ByteArray) (hs:s.size ≤ 9223372036854775807):Ev (fun k => uy.f k s) (Base.nameB s):=by
 refine Ev.congr (f:=fun k => uy.l0 k s ((0:Nat):Int)) (fun k => rfl) ?_
 have hz:=Base.size_list s
 cases hd:s.data.toList with
 | nil =>
   have h0:s.size = 0:=by rw [hz,hd];rfl
   have e:Base.nameB s = false:=by simp [Base.nameB,h0]
   rw [e]
   refine Ev.step (f:=fun _ => some false) (fun k => ?_) (Ev.now _)
   simp only [uy.l0]
   rw [if_neg (by omega),if_neg (by omega)]
 | cons c r =>
   obtain ⟨hlt,hbt,hr⟩:=at_byte s 0 c r (by rw [hd];rfl)
   have ih:=name_l0 s hs r 1 (Nat.le_refl _) (by rw [hd];rfl)
   have hb:(u2y s).headD 0 = (c.toNat:Int):=by rw [u2y,hd];rfl
   have e:Base.nameB s = (Base.letterB (c.toNat:Int) && (r.all (fun c => Base.letterB (c.toNat:Int) || Base.digitB (c.toNat:Int)) && (decide (1 ≤ s.size) && decide (s.size ≤ 24)))):=by
    rw [Base.nameB,all_bytes,hb,hd,List.all_cons]
    have h1:decide (0 < s.size) = decide (1 ≤ s.size):=rfl
    rw [h1]
    cases Base.letterB (c.toNat:Int) <;> cases decide (1 ≤ s.size) <;> cases decide (s.size ≤ 24) <;> simp
   rw [e]
   cases hl:Base.letterB (c.toNat:Int) with
   | true =>
     rw [Bool.true_and]
     refine Ev.step (fun k => ?_) ih
     rw [name_step k s 0 hlt hs,hbt,← letter_is,if_pos hl]
   | false =>
     rw [Bool.false_and]
     refine Ev.step (f:=fun _ => some false) (fun k => ?_) (Ev.now _)
     rw [name_step k s 0 hlt hs,hbt,← letter_is,if_neg (by rw [hl];simp),if_pos rfl]
theorem plain_is (r:Int):(!(decide (r < 32) || decide (r = 127) || decide (r = 65533))) = Base.plainB r:=by
 unfold Base.plainB
 by_cases h:r < 32
 · have:¬ 32 ≤ r:=by omega
   simp [h,this]
 · have:32 ≤ r:=by omega
   simp [h,this]
theorem rvalue_is (s:ByteArray):u2t.f s = some (Base.valueB s):=by
 have e:Base.plainTextB s = (Base.runesOf s).all Base.plainB:=by
  unfold Base.plainTextB
  congr 1
  funext r
  exact plain_is r
 simp only [u2t.f,u2s.f,Option.bind_some,e,Base.valueB]
 by_cases h1:1 ≤ s.size
 · rw [if_pos (by omega)]
   by_cases h2:s.size ≤ 40
   · rw [if_pos (by omega)]
     have:0 < s.size:=h1
     simp [h2,this]
   · rw [if_neg (by omega)]
     simp [h2]
 · rw [if_neg (by omega)]
   have:¬ 0 < s.size:=h1
   simp [this]
theorem names_ev:∀ (l:List S37),(∀ y ∈ l,y.f0.size ≤ maxLen ∧ y.f1.size ≤ maxLen) → ∃ K,∀ k,K ≤ k → ∀ x ∈ l,uy.f k x.f0 = some (Base.nameB x.f0)
 | [],_ => ⟨0,fun _ _ x hx => by cases hx⟩
 | x :: r,hs => by
   obtain ⟨K,hK⟩:=names_ev r (fun y hy => hs y (List.mem_cons_of_mem _ hy))
   obtain ⟨M,hM⟩:=rname_ev x.f0 (Nat.le_trans (hs x (List.mem_cons_self ..)).1 (by decide))
   refine ⟨K + M,fun k hk y hy => ?_⟩
   rcases List.mem_cons.1 hy with rfl | h9
   · exact hM k (by omega)
   · exact hK k (by omega) y h9
theorem less_nil {x:ByteArray} (h:Base.nameB x = true):Op.bytesLess [] x.data.toList = true:=by
 have hz:=nameB_size h
 cases hd:x.data.toList with
 | nil => rw [Base.size_list,hd] at hz;simp at hz
 | cons c q => simp [Op.bytesLess]
theorem steps_ok (k:Nat) (l:List S37) (hn:∀ x ∈ l,uy.f k x.f0 = some (Base.nameB x.f0)):∀ (r:List S37) (i:Nat) (last:ByteArray),l.drop i = r → (i = 0 → last = ⟨#[]⟩) → (0 < i → (u2b l ((i - 1:Nat):Int)).f0 = last) →
 (List.range' i r.length).all (uv.stepB k l) = okFrom last.data.toList r:=by
 intro r
 induction r with
 | nil => intro i last _ _ _;rfl
 | cons x r ih =>
   intro i last h hfst hlast
   obtain ⟨hx,hi,hr⟩:=rd_drop l i x r h
   have hmem:x ∈ l:=List.mem_of_mem_drop (by rw [h];simp)
   have e2:=ih (i + 1) x.f0 hr (fun h => by omega) (fun _ => by rw [show i + 1 - 1 = i by omega,hx])
   have e3:uv.stepB k l i = (Base.nameB x.f0 && Base.valueB x.f1 && Op.bytesLess last.data.toList x.f0.data.toList):=by
    unfold uv.stepB uv.nm uv.vl
    rw [hx,hn x hmem,rvalue_is]
    simp only [Option.getD_some,ByteArray.toList_eq]
    by_cases h0:i = 0
    · rw [hfst h0,decide_eq_true h0,Bool.true_or]
      cases hm:Base.nameB x.f0 with
      | false => rfl
      | true =>
        have e4:Op.bytesLess (⟨#[]⟩:ByteArray).data.toList x.f0.data.toList = true:=less_nil hm
        rw [e4]
    · rw [decide_eq_false h0,Bool.false_or,show (i:Int) - 1 = ((i - 1:Nat):Int) by omega,hlast (by omega)]
   rw [List.length_cons,List.range'_succ,List.all_cons,e2,e3]
   rfl
theorem rcan_ev (l:List S37) (hs:∀ y ∈ l,y.f0.size ≤ maxLen ∧ y.f1.size ≤ maxLen):Ev (fun k => uv.f k l) (canB l):=by
 obtain ⟨K,hK⟩:=names_ev l hs
 refine ⟨K,fun k hk => ?_⟩
 have h1:uv.okB k l = true:=List.all_eq_true.2 (fun x hx => by rw [hK k hk x hx,rvalue_is];rfl)
 have h2:=steps_ok k l (hK k hk) l 0 ⟨#[]⟩ rfl (fun _ => rfl) (fun h => by omega)
 rw [← List.range_eq_range'] at h2
 show uv.f k l = some (canB l)
 unfold uv.f
 rw [if_pos h1,uv.canB,h2]
 rfl
def nb (c:UInt8):Bool:=Base.letterB (c.toNat:Int) || Base.digitB (c.toNat:Int)
theorem name_of (c:UInt8) (x:ByteArray) (h:x.data.toList = [97,c]):Base.nameB x = nb c:=by
 have hz:=Base.size_list x
 rw [h] at hz
 have h2:x.size = 2:=hz
 have h3:u2y x = [97,(c.toNat:Int)]:=by rw [u2y,h];rfl
 have h4:Base.letterB 97 = true:=by decide +kernel
 simp [Base.nameB,h2,h3,h4,nb]
theorem take_tw (p:UInt8 → Bool):∀ l:List UInt8,l.take (l.takeWhile p).length = l.takeWhile p:=by
 intro l
 induction l with
 | nil => rfl
 | cons x r ih =>
   rw [List.takeWhile_cons]
   split
   · simp [ih]
   · rfl
theorem word_l0 (s:ByteArray) (hs:s.size ≤ 140737488351232):∀ (r:List UInt8) (i:Nat),s.data.toList.drop i = r → i ≤ s.size →
 Ev (fun k => u1t.l0 k s (i:Int)) (Base.ofL (s.data.toList.take (i + (r.takeWhile nb).length)),Base.ofL (r.dropWhile nb)):=by
 intro r
 induction r with
 | nil =>
   intro i h hi
   have h1:=no_byte s i h
   have h2:i = s.size:=by omega
   have e1:s.extract 0 ((i:Nat):Int).toNat = Base.ofL (s.data.toList.take (i + (([]:List UInt8).takeWhile nb).length)):=Base.ext_data (by rw [Base.extract_list,Base.ofL_data];simp)
   have e2:s.extract ((i:Nat):Int).toNat s.size = Base.ofL (([]:List UInt8).dropWhile nb):=Base.ext_data (by rw [Base.extract_rest,Base.ofL_data];exact h)
   rw [← e1,← e2]
   refine Ev.step (f:=fun _ => some (s.extract 0 ((i:Nat):Int).toNat,s.extract ((i:Nat):Int).toNat s.size)) (fun k => ?_) (Ev.now _)
   simp only [u1t.l0]
   rw [if_neg (by omega),if_pos (by omega),if_pos (by omega)]
 | cons c r ih =>
   intro i h hi
   obtain ⟨hlt,hbt,hr⟩:=at_byte s i c r h
   have hw:=wrap_up i (by omega)
   have hx:(⟨#[97]⟩:ByteArray) ++ s.extract ((i:Nat):Int).toNat ((i + 1:Nat):Int).toNat = Base.ofL [97,c]:=Base.ext_data (by
    rw [Base.append_data,Base.extract_list,Base.ofL_data]
    have:((i + 1:Nat):Int).toNat - ((i:Nat):Int).toNat = 1:=by omega
    rw [this,show ((i:Nat):Int).toNat = i by omega,h]
    rfl)
   have hxs:(s.extract ((i:Nat):Int).toNat ((i + 1:Nat):Int).toNat).size ≤ 1:=by
    rw [ByteArray.size_extract]
    omega
   have hn:=rname_ev (Base.ofL [97,c]) (by rw [Base.size_list,Base.ofL_data];simp)
   rw [name_of c (Base.ofL [97,c]) (Base.ofL_data _)] at hn
   have hstep:∀ k,u1t.l0 (k + 1) s (i:Int) = ((uy.f k (Base.ofL [97,c])).bind fun t255 => (if t255 = true then (u1t.l0 k s ((i + 1:Nat):Int)) else (some (s.extract 0 (i:Int).toNat,s.extract (i:Int).toNat s.size)))):=by
    intro k
    simp only [u1t.l0]
    rw [hw,if_pos (by omega),if_pos (by omega),if_pos (by omega),if_pos (by omega),if_pos (by omega),hx]
    have:((i:Int) ≤ (s.size:Int)):=by omega
    simp only [this,if_true]
   refine Ev.step hstep (Ev.bind hn ?_)
   cases hb:nb c with
   | true =>
     have ih2:=ih (i + 1) hr (by omega)
     have e1:(c :: r).takeWhile nb = c :: r.takeWhile nb:=by rw [List.takeWhile_cons,if_pos hb]
     have e2:(c :: r).dropWhile nb = r.dropWhile nb:=by rw [List.dropWhile_cons,if_pos hb]
     rw [e1,e2,show i + (c :: r.takeWhile nb).length = i + 1 + (r.takeWhile nb).length by simp;omega]
     exact Ev.congr (fun k => by simp) ih2
   | false =>
     have e1:(c :: r).takeWhile nb = []:=by rw [List.takeWhile_cons,if_neg (by simp [hb])]
     have e2:(c :: r).dropWhile nb = c :: r:=by rw [List.dropWhile_cons,if_neg (by simp [hb])]
     rw [e1,e2]
     have e3:s.extract 0 ((i:Nat):Int).toNat = Base.ofL (s.data.toList.take (i + ([]:List UInt8).length)):=Base.ext_data (by rw [Base.extract_list,Base.ofL_data];simp)
     have e4:s.extract ((i:Nat):Int).toNat s.size = Base.ofL (c :: r):=Base.ext_data (by rw [Base.extract_rest,Base.ofL_data];exact h)
     rw [← e3,← e4]
     exact Ev.congr (fun k => by simp) (Ev.now _)
theorem word_ev (s:ByteArray) (hs:s.size ≤ 140737488351232):Ev (fun k => u1t.f k s) (Base.ofL (s.data.toList.takeWhile nb),Base.ofL (s.data.toList.dropWhile nb)):=by
 have h:=word_l0 s hs s.data.toList 0 rfl (by omega)
 have e:s.data.toList.take (0 + (s.data.toList.takeWhile nb).length) = s.data.toList.takeWhile nb:=by
  rw [Nat.zero_add]
  exact take_tw nb _
 rw [e] at h
 exact h
end Go.Proofs.YtmcpeifhapekoaaDoor.Laws
