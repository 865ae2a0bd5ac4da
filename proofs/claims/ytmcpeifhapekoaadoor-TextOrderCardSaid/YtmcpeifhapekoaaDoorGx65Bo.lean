/- A text of this seat. -/
import Derived.Test.YtmcpeifhapekoaaDoorBo1
import Derived.Test.YtmcpeifhapekoaaDoorBo3
import Derived.Test.YtmcpeifhapekoaaDoorBo2
import Derived.Test.YtmcpeifhapekoaaDoorBo4
namespace Go.Proofs.YtmcpeifhapekoaaDoor.PAll
open Go.RowKit Go.Proofs.YtmcpeifhapekoaaDoorW.PrintWords Go.Proofs.YtmcpeifhapekoaaDoorW.PrintLast Go.Proofs.YtmcpeifhapekoaaDoorW.PrintMore
attribute [local go_sem] max2_int min2_int max_two min_two max_three min_three max_four min_four   -- for this text's walks alone
set_option linter.unusedVariables false
set_option linter.unusedSimpArgs false
attribute [local go_sem high] eqA28
def ul.l0:Nat → List (S37) → Int → Int → ByteArray → ByteArray → Int → Int → Option (Bool)
 | 0,_,_,_,_,_,_,_ => none
 | k + 1,x0,x1,x7,x8,x9,x32,x33 => if x33 < x32 then (if 0 ≤ x33 then (if x33 < (x0.length:Int) then (if (x0.length:Int) = 0 then (none) else (if 0 ≤ (Int.tmod (wrap64 (x33 + x7)) (x0.length:Int)) then (if (Int.tmod (wrap64 (x33 + x7)) (x0.length:Int)) < (x0.length:Int) then (if x33 > 0 then (if x8.size + 1 ≤ 9223372036854775807 then (if x9.size + 1 ≤ 9223372036854775807 then (if ((uq x0 x33).f0).size + 1 ≤ 9223372036854775807 then ((u1h.f k ((uq x0 x33).f1)).bind fun t300 => (if (((uq x0 x33).f0) ++ (⟨#[61]⟩:ByteArray)).size + t300.size ≤ 9223372036854775807 then (if (x8 ++ (⟨#[44]⟩:ByteArray)).size + ((((uq x0 x33).f0) ++ (⟨#[61]⟩:ByteArray)) ++ t300).size ≤ 9223372036854775807 then (if ((uq x0 (Int.tmod (wrap64 (x33 + x7)) (x0.length:Int))).f0).size + 1 ≤ 9223372036854775807 then ((u1h.f k ((uq x0 (Int.tmod (wrap64 (x33 + x7)) (x0.length:Int))).f1)).bind fun t301 => (if (((uq x0 (Int.tmod (wrap64 (x33 + x7)) (x0.length:Int))).f0) ++ (⟨#[61]⟩:ByteArray)).size + t301.size ≤ 9223372036854775807 then (if (x9 ++ (⟨#[44]⟩:ByteArray)).size + ((((uq x0 (Int.tmod (wrap64 (x33 + x7)) (x0.length:Int))).f0) ++ (⟨#[61]⟩:ByteArray)) ++ t301).size ≤ 9223372036854775807 then (ul.l0 k x0 x1 x7 ((x8 ++ (⟨#[44]⟩:ByteArray)) ++ ((((uq x0 x33).f0) ++ (⟨#[61]⟩:ByteArray)) ++ t300)) ((x9 ++ (⟨#[44]⟩:ByteArray)) ++ ((((uq x0 (Int.tmod (wrap64 (x33 + x7)) (x0.length:Int))).f0) ++ (⟨#[61]⟩:ByteArray)) ++ t301)) x32 (wrap64 (x33 + 1))) else (none)) else (none))) else (none)) else (none)) else (none))) else (none)) else (none)) else (none)) else (if ((uq x0 x33).f0).size + 1 ≤ 9223372036854775807 then ((u1h.f k ((uq x0 x33).f1)).bind fun t302 => (if (((uq x0 x33).f0) ++ (⟨#[61]⟩:ByteArray)).size + t302.size ≤ 9223372036854775807 then (if x8.size + ((((uq x0 x33).f0) ++ (⟨#[61]⟩:ByteArray)) ++ t302).size ≤ 9223372036854775807 then (if ((uq x0 (Int.tmod (wrap64 (x33 + x7)) (x0.length:Int))).f0).size + 1 ≤ 9223372036854775807 then ((u1h.f k ((uq x0 (Int.tmod (wrap64 (x33 + x7)) (x0.length:Int))).f1)).bind fun t303 => (if (((uq x0 (Int.tmod (wrap64 (x33 + x7)) (x0.length:Int))).f0) ++ (⟨#[61]⟩:ByteArray)).size + t303.size ≤ 9223372036854775807 then (if x9.size + ((((uq x0 (Int.tmod (wrap64 (x33 + x7)) (x0.length:Int))).f0) ++ (⟨#[61]⟩:ByteArray)) ++ t303).size ≤ 9223372036854775807 then (ul.l0 k x0 x1 x7 (x8 ++ ((((uq x0 x33).f0) ++ (⟨#[61]⟩:ByteArray)) ++ t302)) (x9 ++ ((((uq x0 (Int.tmod (wrap64 (x33 + x7)) (x0.length:Int))).f0) ++ (⟨#[61]⟩:ByteArray)) ++ t303)) x32 (wrap64 (x33 + 1))) else (none)) else (none))) else (none)) else (none)) else (none))) else (none))) else (none)) else (none))) else (none)) else (none)) else ((u2g.f k x1).bind fun t304 => (if 2 + t304.size ≤ 9223372036854775807 then (if 1 + x8.size ≤ 9223372036854775807 then (if ((⟨#[123]⟩:ByteArray) ++ x8).size + ((⟨#[125,32]⟩:ByteArray) ++ t304).size ≤ 9223372036854775807 then ((u1q.f (((⟨#[123]⟩:ByteArray) ++ x8) ++ ((⟨#[125,32]⟩:ByteArray) ++ t304)) 5).bind fun bt305 => (if 1 + x9.size ≤ 9223372036854775807 then (if ((⟨#[123]⟩:ByteArray) ++ x9).size + ((⟨#[125,32]⟩:ByteArray) ++ t304).size ≤ 9223372036854775807 then (if (((⟨#[123]⟩:ByteArray) ++ x9) ++ ((⟨#[125,32]⟩:ByteArray) ++ t304)).size + 2 ≤ 9223372036854775807 then ((u1q.f ((((⟨#[123]⟩:ByteArray) ++ x9) ++ ((⟨#[125,32]⟩:ByteArray) ++ t304)) ++ (⟨#[32,53]⟩:ByteArray)) 0).bind fun bt315 => (if bt305.2.2.2.1 = true then (if bt315.2.2.2.1 = true then (if (bt305.2.2.2.2.1 == bt315.2.2.2.2.1 && (bt305.2.2.2.2.2 == bt315.2.2.2.2.2)) = true then (if bt305.2.2.2.2.1 = 0 then ((u1u.f k bt305.1 bt305.2.1 bt305.2.2.1 bt315.1 bt315.2.1 bt315.2.2.1).bind fun t325 => (if t325 = true then ((u1u.f k bt305.1 bt305.2.1 bt305.2.2.1 x0 5 x1).bind fun t326 => (some t326)) else (some false))) else (some false)) else (some false)) else (some false)) else (some false))) else (none)) else (none)) else (none))) else (none)) else (none)) else (none)))
def ul.f (k:Nat) (l0:List (S37)) (a1:Int) (a2:Int):Option (Bool):=(ut.f k l0).bind fun t294 => (if t294 = true then (if (IntKind.u64.wrap ((l0.length:Int))) = 0 then (none) else (ul.l0 k l0 a1 (wrap64 (Int.tmod (IntKind.u64.wrap (a2)) (IntKind.u64.wrap ((l0.length:Int))))) (⟨#[]⟩:ByteArray) (⟨#[]⟩:ByteArray) (l0.length:Int) 0)) else ((u2o.f).bind fun t295 => (some t295)))
def ul.T8:Bool × List (List Nat × List Nat):=(true,[([],[]),([],[]),([0,1],[0,1]),([2],[2]),([],[]),([],[]),([],[]),([5,6],[5,6]),([],[]),([8],[8]),([7,9],[7,9]),([4,10],[4,10]),([11],[11]),([],[]),([],[]),([13,3,0,1,2,3,13,14],[3,13]),([14,12,15,0,1,2,3,4,5,6,7,8,9,10,11,12,13,14,15],[12,14])])
def ul.B8:List Nat:=[0,0,3,7,0,0,0,96,0,256,992,2032,4080,0,0,24591,65535]
theorem ul.tab8:rtab .any (opsOf Tryd.f4 8) = ul.T8:=by kernel_rfl
theorem ul.bits8:waitsOk ul.T8.2 ul.B8 = true:=by kernel_rfl
def ul.T11:Bool × List (List Nat × List Nat):=(true,[([],[]),([],[]),([1],[1]),([2],[2]),([],[]),([4],[4]),([5],[5]),([3,6],[3,6]),([0,7],[0,7]),([8,6,0,1,2,3,4,5,6,7,8],[0,8])])
def ul.B11:List Nat:=[0,0,2,6,0,16,48,126,255,511]
theorem ul.tab11:rtab .any (opsOf Tryd.f4 11) = ul.T11:=by kernel_rfl
theorem ul.bits11:waitsOk ul.T11.2 ul.B11 = true:=by kernel_rfl
def ul.T12:Bool × List (List Nat × List Nat):=(true,[([],[]),([],[]),([1],[1]),([2],[2]),([],[]),([4],[4]),([5],[5]),([3,6],[3,6]),([0,7],[0,7]),([8,6,0,1,2,3,4,5,6,7,8],[0,8])])
def ul.B12:List Nat:=[0,0,2,6,0,16,48,126,255,511]
theorem ul.tab12:rtab .any (opsOf Tryd.f4 12) = ul.T12:=by kernel_rfl
theorem ul.bits12:waitsOk ul.T12.2 ul.B12 = true:=by kernel_rfl
set_option maxHeartbeats 8000000 in
set_option maxRecDepth 100000 in
theorem ul.calls (k:Nat) (A0:Option Addr) (c0:Nat) (l0:List (S37)) (a1:Int) (a2:Int) (r:Bool) (w:World) (hr0:Kd.C k37 w A0 l0.length l0) (hc0:l0.length ≤ c0) (h:ul.f k l0 a1 a2 = some r) :
 Calls Tryd.prog 4 #[.slice A0 l0.length c0,.int .u64 a1,.int .i64 a2] w fun e w' => e = .returned (.bool r) ∧ Below w.heap.size w w':=by
 have hu37:=Tryd.underlying37
 have hu25:=Tryd.underlying25
 have hu28:=Tryd.underlying28
 have HR0:=Aside0.mk hr0
 have HC0:=Aside0.mk hc0
 clear hr0 hc0
 have HB:=Aside0.mk (Below.refl w.heap.size w)
 have H:((ut.f k l0).bind fun t294 => (if t294 = true then (if (IntKind.u64.wrap ((l0.length:Int))) = 0 then (none) else (ul.l0 k l0 a1 (wrap64 (Int.tmod (IntKind.u64.wrap (a2)) (IntKind.u64.wrap ((l0.length:Int))))) (⟨#[]⟩:ByteArray) (⟨#[]⟩:ByteArray) (l0.length:Int) 0)) else ((u2o.f).bind fun t295 => (some t295)))) = some r:=h
 clear h
 replace H:=Option.bind_eq_some_iff.mp H
 obtain ⟨t294,A40,H⟩:=H
 replace H:(if t294 = true then (if (IntKind.u64.wrap ((l0.length:Int))) = 0 then (none) else (ul.l0 k l0 a1 (wrap64 (Int.tmod (IntKind.u64.wrap (a2)) (IntKind.u64.wrap ((l0.length:Int))))) (⟨#[]⟩:ByteArray) (⟨#[]⟩:ByteArray) (l0.length:Int) 0)) else ((u2o.f).bind fun t295 => (some t295))) = some r:=H
 have A4:=Aside0.mk A40
 clear A40
 by_cases c5:t294 = true
 ·subst c5
  have H1:(if (IntKind.u64.wrap ((l0.length:Int))) = 0 then (none) else (ul.l0 k l0 a1 (wrap64 (Int.tmod (IntKind.u64.wrap (a2)) (IntKind.u64.wrap ((l0.length:Int))))) (⟨#[]⟩:ByteArray) (⟨#[]⟩:ByteArray) (l0.length:Int) 0)) = some r:=by rw [if_pos rfl] at H;exact H
  clear H
  have H:=H1
  clear H1
  by_cases c6:(IntKind.u64.wrap ((l0.length:Int))) = 0
  ·rw [if_pos c6] at H
   exact absurd H (by simp)
  ·rw [if_neg c6] at H
   have c6b0:((IntKind.u64.wrap ((l0.length:Int))) == 0) = false:=beq_eq_false_iff_ne.mpr c6
   have c6b1:((IntKind.u64.wrap ((l0.length:Int))) != 0) = true:=bne_iff_ne.mpr c6
   have H':=Aside0.mk H
   clear H
   go_enter Tryd.func4,Tryd.ntmps4
   go_wp2_with (first | ((with_reducible refine u1s (f:=10) rfl ?_);refine u2q (some 21) rfl rfl Tryd.func10 (by kernel_rfl) rfl #[.slice A0 l0.length c0] rfl (by (try simp only [List.map_toArray,List.map_cons,List.map_nil]);first | done | rfl | (simp only [List.length_drop,List.length_take];rfl)) ?_;(with_reducible refine (ut.calls k _ _ l0 true _ ?side1 ?side2 A4.out).mono ?_);(case side1 => repeat (first | exact HR0.out | (with_reducible refine Kd.C_alloc ?_ _) | (with_reducible refine Kd.C_drewN ?_ _) | (with_reducible refine Kd.C_drew ?_)));(case side2 => exact HC0.out);rintro e w7 ⟨rfl,hb⟩;refine ⟨_,rfl,?_⟩;have n0_:=Aside0.mk (uw (by repeat (first | (with_reducible first | exact HB.out | apply uc | apply ub | apply ud) | exact HB.out)) hb);clear HB;have HB:=n0_;clear n0_;(try clear hb);(try clear hb2);(try clear hk);(try clear hi)))
   go_loopg [8,9,33] k (fun kq v8 v9 v33 w' => ∃ (x8_1:ByteArray) (x9_1:ByteArray) (x33_1:Int),v8 = .string x8_1 ∧ v9 = .string x9_1 ∧ v33 = .int .i64 x33_1 ∧ Aside0 (ul.l0 kq l0 a1 (wrap64 (Int.tmod (IntKind.u64.wrap (a2)) (IntKind.u64.wrap ((l0.length:Int))))) x8_1 x9_1 (l0.length:Int) x33_1 = some r) ∧ Aside0 (kq ≤ k) ∧ Aside0 (Below w.heap.size w w'))
   case atStart => exact ⟨((⟨#[]⟩:ByteArray)),((⟨#[]⟩:ByteArray)),(0),(by first | rfl | (simp;done) | (simp [*];done)),(by first | rfl | (simp;done) | (simp [*];done)),(by first | rfl | (simp;done) | (simp [*];done)),H',⟨Nat.le_refl _⟩,⟨by repeat (first | (with_reducible first | exact HB.out | apply uc | apply ub | apply ud) | exact HB.out)⟩⟩
   case round =>
    clear H'
    try clear c1
    try clear p2
    try clear c4
    try clear c5
    try clear c6
    try clear c6b0
    try clear c6b1
    try clear p6
    obtain ⟨x8_1,x9_1,x33_1,rfl,rfl,rfl,HA,HK1,HB⟩:=hrel
    cases gk with
    | zero => exact absurd HA.out (by simp [ul.l0])
    | succ k1 =>
     have H:=HA.out
     clear HA
     simp only [ul.l0] at H
     by_cases c8:x33_1 < (l0.length:Int)
     ·rw [if_pos c8] at H
      have c8b0:decide (x33_1 < (l0.length:Int)) = true:=decide_eq_true c8
      clear c8
      by_cases c9:0 ≤ x33_1
      ·rw [if_pos c9] at H
       have c9b0:decide (0 ≤ x33_1) = true:=decide_eq_true c9
       clear c9
       by_cases c10:x33_1 < (l0.length:Int)
       ·rw [if_pos c10] at H
        have c10b0:decide (x33_1 < (l0.length:Int)) = true:=decide_eq_true c10
        clear c10
        by_cases c11:(l0.length:Int) = 0
        ·rw [if_pos c11] at H
         exact absurd H (by simp)
        ·rw [if_neg c11] at H
         have c11b0:((l0.length:Int) == 0) = false:=beq_eq_false_iff_ne.mpr c11
         have c11b1:((l0.length:Int) != 0) = true:=bne_iff_ne.mpr c11
         have c11b2:¬ (l0 = []):=fun h_ => c11 (by rw [h_];rfl)
         obtain ⟨ji12,hji12⟩:∃ j_:Int,(Int.tmod (wrap64 (x33_1 + (wrap64 (Int.tmod (IntKind.u64.wrap (a2)) (IntKind.u64.wrap ((l0.length:Int))))))) (l0.length:Int)) = j_:=⟨_,rfl⟩
         replace H:(if 0 ≤ (ji12) then (if (ji12) < (l0.length:Int) then (if x33_1 > 0 then (if x8_1.size + 1 ≤ 9223372036854775807 then (if x9_1.size + 1 ≤ 9223372036854775807 then (if ((uq l0 x33_1).f0).size + 1 ≤ 9223372036854775807 then ((u1h.f k1 ((uq l0 x33_1).f1)).bind fun t300 => (if (((uq l0 x33_1).f0) ++ (⟨#[61]⟩:ByteArray)).size + t300.size ≤ 9223372036854775807 then (if (x8_1 ++ (⟨#[44]⟩:ByteArray)).size + ((((uq l0 x33_1).f0) ++ (⟨#[61]⟩:ByteArray)) ++ t300).size ≤ 9223372036854775807 then (if ((uq l0 (ji12)).f0).size + 1 ≤ 9223372036854775807 then ((u1h.f k1 ((uq l0 (ji12)).f1)).bind fun t301 => (if (((uq l0 (ji12)).f0) ++ (⟨#[61]⟩:ByteArray)).size + t301.size ≤ 9223372036854775807 then (if (x9_1 ++ (⟨#[44]⟩:ByteArray)).size + ((((uq l0 (ji12)).f0) ++ (⟨#[61]⟩:ByteArray)) ++ t301).size ≤ 9223372036854775807 then (ul.l0 k1 l0 a1 (wrap64 (Int.tmod (IntKind.u64.wrap (a2)) (IntKind.u64.wrap ((l0.length:Int))))) ((x8_1 ++ (⟨#[44]⟩:ByteArray)) ++ ((((uq l0 x33_1).f0) ++ (⟨#[61]⟩:ByteArray)) ++ t300)) ((x9_1 ++ (⟨#[44]⟩:ByteArray)) ++ ((((uq l0 (ji12)).f0) ++ (⟨#[61]⟩:ByteArray)) ++ t301)) (l0.length:Int) (wrap64 (x33_1 + 1))) else (none)) else (none))) else (none)) else (none)) else (none))) else (none)) else (none)) else (none)) else (if ((uq l0 x33_1).f0).size + 1 ≤ 9223372036854775807 then ((u1h.f k1 ((uq l0 x33_1).f1)).bind fun t302 => (if (((uq l0 x33_1).f0) ++ (⟨#[61]⟩:ByteArray)).size + t302.size ≤ 9223372036854775807 then (if x8_1.size + ((((uq l0 x33_1).f0) ++ (⟨#[61]⟩:ByteArray)) ++ t302).size ≤ 9223372036854775807 then (if ((uq l0 (ji12)).f0).size + 1 ≤ 9223372036854775807 then ((u1h.f k1 ((uq l0 (ji12)).f1)).bind fun t303 => (if (((uq l0 (ji12)).f0) ++ (⟨#[61]⟩:ByteArray)).size + t303.size ≤ 9223372036854775807 then (if x9_1.size + ((((uq l0 (ji12)).f0) ++ (⟨#[61]⟩:ByteArray)) ++ t303).size ≤ 9223372036854775807 then (ul.l0 k1 l0 a1 (wrap64 (Int.tmod (IntKind.u64.wrap (a2)) (IntKind.u64.wrap ((l0.length:Int))))) (x8_1 ++ ((((uq l0 x33_1).f0) ++ (⟨#[61]⟩:ByteArray)) ++ t302)) (x9_1 ++ ((((uq l0 (ji12)).f0) ++ (⟨#[61]⟩:ByteArray)) ++ t303)) (l0.length:Int) (wrap64 (x33_1 + 1))) else (none)) else (none))) else (none)) else (none)) else (none))) else (none))) else (none)) else (none)) = some r:=by first | (rw [hji12] at H;exact H) | (simp only [hji12] at H ⊢;exact H)
         by_cases c13:0 ≤ (ji12)
         ·rw [if_pos c13] at H
          have c13b0:decide (0 ≤ (ji12)) = true:=decide_eq_true c13
          clear c13
          by_cases c14:(ji12) < (l0.length:Int)
          ·rw [if_pos c14] at H
           have c14b0:decide ((ji12) < (l0.length:Int)) = true:=decide_eq_true c14
           clear c14
           by_cases c15:x33_1 > 0
           ·rw [if_pos c15] at H
            have c15b0:decide (0 < x33_1) = true:=decide_eq_true c15
            clear c15
            by_cases c16:x8_1.size + 1 ≤ 9223372036854775807
            ·rw [if_pos c16] at H
             have c16b0:=eq_true c16
             have c16b1:decide (x8_1.size + 1 ≤ 9223372036854775807) = true:=decide_eq_true c16
             try have c16b2:(9223372036854775807 < x8_1.size + 1) = False:=eq_false (Nat.not_lt.2 c16)
             try (have c16b3:=c16b2;simp only [ByteArray.size_append,Base.size1,(show ∀ a_ b_:UInt8,(⟨#[a_,b_]⟩:ByteArray).size = 2 from fun _ _ => rfl)] at c16b3)
             by_cases c17:x9_1.size + 1 ≤ 9223372036854775807
             ·rw [if_pos c17] at H
              have c17b0:=eq_true c17
              have c17b1:decide (x9_1.size + 1 ≤ 9223372036854775807) = true:=decide_eq_true c17
              try have c17b2:(9223372036854775807 < x9_1.size + 1) = False:=eq_false (Nat.not_lt.2 c17)
              try (have c17b3:=c17b2;simp only [ByteArray.size_append,Base.size1,(show ∀ a_ b_:UInt8,(⟨#[a_,b_]⟩:ByteArray).size = 2 from fun _ _ => rfl)] at c17b3)
              by_cases c18:((uq l0 x33_1).f0).size + 1 ≤ 9223372036854775807
              ·rw [if_pos c18] at H
               have c18b0:=eq_true c18
               have c18b1:decide (((uq l0 x33_1).f0).size + 1 ≤ 9223372036854775807) = true:=decide_eq_true c18
               try have c18b2:(9223372036854775807 < ((uq l0 x33_1).f0).size + 1) = False:=eq_false (Nat.not_lt.2 c18)
               try (have c18b3:=c18b2;simp only [ByteArray.size_append,Base.size1,(show ∀ a_ b_:UInt8,(⟨#[a_,b_]⟩:ByteArray).size = 2 from fun _ _ => rfl)] at c18b3)
               replace H:=Option.bind_eq_some_iff.mp H
               obtain ⟨t300,A190,H⟩:=H
               replace H:(if (((uq l0 x33_1).f0) ++ (⟨#[61]⟩:ByteArray)).size + t300.size ≤ 9223372036854775807 then (if (x8_1 ++ (⟨#[44]⟩:ByteArray)).size + ((((uq l0 x33_1).f0) ++ (⟨#[61]⟩:ByteArray)) ++ t300).size ≤ 9223372036854775807 then (if ((uq l0 (ji12)).f0).size + 1 ≤ 9223372036854775807 then ((u1h.f k1 ((uq l0 (ji12)).f1)).bind fun t301 => (if (((uq l0 (ji12)).f0) ++ (⟨#[61]⟩:ByteArray)).size + t301.size ≤ 9223372036854775807 then (if (x9_1 ++ (⟨#[44]⟩:ByteArray)).size + ((((uq l0 (ji12)).f0) ++ (⟨#[61]⟩:ByteArray)) ++ t301).size ≤ 9223372036854775807 then (ul.l0 k1 l0 a1 (wrap64 (Int.tmod (IntKind.u64.wrap (a2)) (IntKind.u64.wrap ((l0.length:Int))))) ((x8_1 ++ (⟨#[44]⟩:ByteArray)) ++ ((((uq l0 x33_1).f0) ++ (⟨#[61]⟩:ByteArray)) ++ t300)) ((x9_1 ++ (⟨#[44]⟩:ByteArray)) ++ ((((uq l0 (ji12)).f0) ++ (⟨#[61]⟩:ByteArray)) ++ t301)) (l0.length:Int) (wrap64 (x33_1 + 1))) else (none)) else (none))) else (none)) else (none)) else (none)) = some r:=H
               have A19:=Aside0.mk A190
               clear A190
               by_cases c20:(((uq l0 x33_1).f0) ++ (⟨#[61]⟩:ByteArray)).size + t300.size ≤ 9223372036854775807
               ·rw [if_pos c20] at H
                have c20b0:=eq_true c20
                have c20b1:decide ((((uq l0 x33_1).f0) ++ (⟨#[61]⟩:ByteArray)).size + t300.size ≤ 9223372036854775807) = true:=decide_eq_true c20
                try have c20b2:(9223372036854775807 < (((uq l0 x33_1).f0) ++ (⟨#[61]⟩:ByteArray)).size + t300.size) = False:=eq_false (Nat.not_lt.2 c20)
                try (have c20b3:=c20b2;simp only [ByteArray.size_append,Base.size1,(show ∀ a_ b_:UInt8,(⟨#[a_,b_]⟩:ByteArray).size = 2 from fun _ _ => rfl)] at c20b3)
                by_cases c21:(x8_1 ++ (⟨#[44]⟩:ByteArray)).size + ((((uq l0 x33_1).f0) ++ (⟨#[61]⟩:ByteArray)) ++ t300).size ≤ 9223372036854775807
                ·rw [if_pos c21] at H
                 have c21b0:=eq_true c21
                 have c21b1:decide ((x8_1 ++ (⟨#[44]⟩:ByteArray)).size + ((((uq l0 x33_1).f0) ++ (⟨#[61]⟩:ByteArray)) ++ t300).size ≤ 9223372036854775807) = true:=decide_eq_true c21
                 try have c21b2:(9223372036854775807 < (x8_1 ++ (⟨#[44]⟩:ByteArray)).size + ((((uq l0 x33_1).f0) ++ (⟨#[61]⟩:ByteArray)) ++ t300).size) = False:=eq_false (Nat.not_lt.2 c21)
                 try (have c21b3:=c21b2;simp only [ByteArray.size_append,Base.size1,(show ∀ a_ b_:UInt8,(⟨#[a_,b_]⟩:ByteArray).size = 2 from fun _ _ => rfl)] at c21b3)
                 by_cases c22:((uq l0 (ji12)).f0).size + 1 ≤ 9223372036854775807
                 ·rw [if_pos c22] at H
                  have c22b0:=eq_true c22
                  have c22b1:decide (((uq l0 (ji12)).f0).size + 1 ≤ 9223372036854775807) = true:=decide_eq_true c22
                  try have c22b2:(9223372036854775807 < ((uq l0 (ji12)).f0).size + 1) = False:=eq_false (Nat.not_lt.2 c22)
                  try (have c22b3:=c22b2;simp only [ByteArray.size_append,Base.size1,(show ∀ a_ b_:UInt8,(⟨#[a_,b_]⟩:ByteArray).size = 2 from fun _ _ => rfl)] at c22b3)
                  replace H:=Option.bind_eq_some_iff.mp H
                  obtain ⟨t301,A230,H⟩:=H
                  replace H:(if (((uq l0 (ji12)).f0) ++ (⟨#[61]⟩:ByteArray)).size + t301.size ≤ 9223372036854775807 then (if (x9_1 ++ (⟨#[44]⟩:ByteArray)).size + ((((uq l0 (ji12)).f0) ++ (⟨#[61]⟩:ByteArray)) ++ t301).size ≤ 9223372036854775807 then (ul.l0 k1 l0 a1 (wrap64 (Int.tmod (IntKind.u64.wrap (a2)) (IntKind.u64.wrap ((l0.length:Int))))) ((x8_1 ++ (⟨#[44]⟩:ByteArray)) ++ ((((uq l0 x33_1).f0) ++ (⟨#[61]⟩:ByteArray)) ++ t300)) ((x9_1 ++ (⟨#[44]⟩:ByteArray)) ++ ((((uq l0 (ji12)).f0) ++ (⟨#[61]⟩:ByteArray)) ++ t301)) (l0.length:Int) (wrap64 (x33_1 + 1))) else (none)) else (none)) = some r:=H
                  have A23:=Aside0.mk A230
                  clear A230
                  by_cases c24:(((uq l0 (ji12)).f0) ++ (⟨#[61]⟩:ByteArray)).size + t301.size ≤ 9223372036854775807
                  ·rw [if_pos c24] at H
                   have c24b0:=eq_true c24
                   have c24b1:decide ((((uq l0 (ji12)).f0) ++ (⟨#[61]⟩:ByteArray)).size + t301.size ≤ 9223372036854775807) = true:=decide_eq_true c24
                   try have c24b2:(9223372036854775807 < (((uq l0 (ji12)).f0) ++ (⟨#[61]⟩:ByteArray)).size + t301.size) = False:=eq_false (Nat.not_lt.2 c24)
                   try (have c24b3:=c24b2;simp only [ByteArray.size_append,Base.size1,(show ∀ a_ b_:UInt8,(⟨#[a_,b_]⟩:ByteArray).size = 2 from fun _ _ => rfl)] at c24b3)
                   by_cases c25:(x9_1 ++ (⟨#[44]⟩:ByteArray)).size + ((((uq l0 (ji12)).f0) ++ (⟨#[61]⟩:ByteArray)) ++ t301).size ≤ 9223372036854775807
                   ·rw [if_pos c25] at H
                    have c25b0:=eq_true c25
                    have c25b1:decide ((x9_1 ++ (⟨#[44]⟩:ByteArray)).size + ((((uq l0 (ji12)).f0) ++ (⟨#[61]⟩:ByteArray)) ++ t301).size ≤ 9223372036854775807) = true:=decide_eq_true c25
                    try have c25b2:(9223372036854775807 < (x9_1 ++ (⟨#[44]⟩:ByteArray)).size + ((((uq l0 (ji12)).f0) ++ (⟨#[61]⟩:ByteArray)) ++ t301).size) = False:=eq_false (Nat.not_lt.2 c25)
                    try (have c25b3:=c25b2;simp only [ByteArray.size_append,Base.size1,(show ∀ a_ b_:UInt8,(⟨#[a_,b_]⟩:ByteArray).size = 2 from fun _ _ => rfl)] at c25b3)
                    have H':=Aside0.mk H
                    clear H
                    try go_wp2
                    have n0_:=Aside0.mk (ud HB.out)
                    clear HB
                    have HB:=n0_
                    clear n0_
                    have p296:0 ≤ (x33_1:Int):=of_decide_eq_true (by first | (with_reducible assumption) | assumption)
                    have q296:x33_1 < (l0.length:Int):=of_decide_eq_true (by first | (with_reducible assumption) | assumption)
                    obtain ⟨ad296,e296,hx296_0,hx296_1⟩:=at_T37 HR0.out x33_1 p296 q296
                    have hw296_1:=hx296_1
                    have hw296_0:=hx296_0
                    cases e296
                    replace hx296_0:=(HB.out.cell (World.block_lt_of_cell? w _ hx296_0)).trans hx296_0
                    replace hx296_1:=(HB.out.cell (World.block_lt_of_cell? w _ hx296_1)).trans hx296_1
                    replace p296:=eq_true p296
                    replace q296:=eq_true q296
                    have p297:0 ≤ ((ji12):Int):=of_decide_eq_true (by first | (with_reducible assumption) | assumption)
                    have q297:(ji12) < (l0.length:Int):=of_decide_eq_true (by first | (with_reducible assumption) | assumption)
                    obtain ⟨ad297,e297,hx297_0,hx297_1⟩:=at_T37 HR0.out (ji12) p297 q297
                    have hw297_1:=hx297_1
                    have hw297_0:=hx297_0
                    obtain rfl:ad296 = ad297:=(by injection e297)
                    replace hx297_0:=(HB.out.cell (World.block_lt_of_cell? w _ hx297_0)).trans hx297_0
                    replace hx297_1:=(HB.out.cell (World.block_lt_of_cell? w _ hx297_1)).trans hx297_1
                    replace p297:=eq_true p297
                    replace q297:=eq_true q297
                    refine start_ (n:=17) (S:=fun w' => w'.cell? (ad296.add ((x33_1).toNat * 2)) = some (.string ((uq l0 x33_1).f0)) ∧ w'.cell? ⟨(ad296.add ((x33_1).toNat * 2)).block,(ad296.add ((x33_1).toNat * 2)).off + 1,none⟩ = some (.string ((uq l0 x33_1).f1)) ∧ w'.cell? (ad296.add (((ji12)).toNat * 2)) = some (.string ((uq l0 (ji12)).f0)) ∧ w'.cell? ⟨(ad296.add (((ji12)).toNat * 2)).block,(ad296.add (((ji12)).toNat * 2)).off + 1,none⟩ = some (.string ((uq l0 (ji12)).f1))) (ds:=[]) #[false,false,false,false,false,false,false,false,false,false,false,false,false,false,false,false,false] (by kernel_rfl) rfl rfl ⟨((HB.out.cell (World.block_lt_of_cell? w _ hw296_0)).trans hw296_0),((HB.out.cell (World.block_lt_of_cell? w _ hw296_1)).trans hw296_1),((HB.out.cell (World.block_lt_of_cell? w _ hw297_0)).trans hw297_0),((HB.out.cell (World.block_lt_of_cell? w _ hw297_1)).trans hw297_1)⟩ (fun hHeld => ?_);refine with_tabW ul.tab8 ul.bits8 (fun HT_ HW_ => ?_)
                    generalize wr.drew = w26 at HB hx296_0 hx296_1 hx297_0 hx297_1 hHeld ⊢
                    refine pure_ (i:=0) (N:=some 36) (v:=?_) (a':=?_) #[true,false,false,false,false,false,false,false,false,false,false,false,false,false,false,false,false] rfl rfl (u2m HT_.out (by kernel_rfl)) (fun _ _ _ h => h) (Or.inl ⟨by rfl,?_⟩) ?_ ?_
                    rotate_left
                    ·intro w'
                     go_simp
                     with_reducible rfl
                    rotate_left
                    ·simp only [Act.put,List.setIfInBounds_toArray,List.set_cons_zero,List.set_cons_succ,i64_w,i32_w]
                     rfl
                    refine pure_ (i:=1) (N:=some 37) (v:=?_) (a':=?_) #[true,true,false,false,false,false,false,false,false,false,false,false,false,false,false,false,false] rfl rfl (u2m HT_.out (by kernel_rfl)) (fun _ _ _ h => h) (Or.inl ⟨by rfl,?_⟩) ?_ ?_
                    rotate_left
                    ·intro w'
                     go_simp
                     with_reducible rfl
                    rotate_left
                    ·simp only [Act.put,List.setIfInBounds_toArray,List.set_cons_zero,List.set_cons_succ,i64_w,i32_w]
                     rfl
                    refine pure_ (i:=2) (N:=some 38) (v:=?_) (a':=?_) #[true,true,true,false,false,false,false,false,false,false,false,false,false,false,false,false,false] rfl rfl (u2m HT_.out (by kernel_rfl)) (fun _ _ _ h => h) (Or.inl ⟨by rfl,?_⟩) ?_ ?_
                    rotate_left
                    ·intro w'
                     go_simp
                     with_reducible rfl
                    rotate_left
                    ·simp only [Act.put,List.setIfInBounds_toArray,List.set_cons_zero,List.set_cons_succ,i64_w,i32_w]
                     rfl
                    refine pure_ (i:=4) (N:=some 40) (v:=?_) (a':=?_) #[true,true,true,false,true,false,false,false,false,false,false,false,false,false,false,false,false] rfl rfl (u2m HT_.out (by kernel_rfl)) (fun _ _ _ h => h) (Or.inl ⟨by rfl,?_⟩) ?_ ?_
                    rotate_left
                    ·intro w'
                     go_simp
                     with_reducible rfl
                    rotate_left
                    ·simp only [Act.put,List.setIfInBounds_toArray,List.set_cons_zero,List.set_cons_succ,i64_w,i32_w]
                     rfl
                    refine pure_ (i:=5) (N:=some 41) (v:=?_) (a':=?_) #[true,true,true,false,true,true,false,false,false,false,false,false,false,false,false,false,false] rfl rfl (u2m HT_.out (by kernel_rfl)) (fun _ _ _ h => h) (Or.inl ⟨by rfl,?_⟩) ?_ ?_
                    rotate_left
                    ·intro w'
                     go_simp
                     with_reducible rfl
                    rotate_left
                    ·simp only [Act.put,List.setIfInBounds_toArray,List.set_cons_zero,List.set_cons_succ,i64_w,i32_w]
                     rfl
                    refine pure_ (i:=6) (N:=some 42) (v:=?_) (a':=?_) #[true,true,true,false,true,true,true,false,false,false,false,false,false,false,false,false,false] rfl rfl (u2m HT_.out (by kernel_rfl)) (fun _ _ _ h => h) (Or.inl ⟨by rfl,?_⟩) ?_ ?_
                    rotate_left
                    ·intro w'
                     go_simp
                     with_reducible rfl
                    rotate_left
                    ·simp only [Act.put,List.setIfInBounds_toArray,List.set_cons_zero,List.set_cons_succ,i64_w,i32_w]
                     rfl
                    refine pure_ (i:=7) (N:=some 43) (v:=?_) (a':=?_) #[true,true,true,false,true,true,true,true,false,false,false,false,false,false,false,false,false] rfl rfl (u2m HT_.out (by kernel_rfl)) (fun _ _ _ h => h) (Or.inl ⟨by rfl,?_⟩) ?_ ?_
                    rotate_left
                    ·intro w'
                     go_simp
                     with_reducible rfl
                    rotate_left
                    ·simp only [Act.put,List.setIfInBounds_toArray,List.set_cons_zero,List.set_cons_succ,i64_w,i32_w]
                     rfl
                    refine pure_ (i:=8) (N:=some 44) (v:=?_) (a':=?_) #[true,true,true,false,true,true,true,true,true,false,false,false,false,false,false,false,false] rfl rfl (u2m HT_.out (by kernel_rfl)) (fun _ _ _ h => h) (Or.inl ⟨by rfl,?_⟩) ?_ ?_
                    rotate_left
                    ·intro w'
                     go_simp
                     with_reducible rfl
                    rotate_left
                    ·simp only [Act.put,List.setIfInBounds_toArray,List.set_cons_zero,List.set_cons_succ,i64_w,i32_w]
                     rfl
                    refine pure_ (i:=9) (N:=some 45) (v:=?_) (a':=?_) #[true,true,true,false,true,true,true,true,true,true,false,false,false,false,false,false,false] rfl rfl (u2m HT_.out (by kernel_rfl)) (fun _ _ _ h => h) (Or.inl ⟨by rfl,?_⟩) ?_ ?_
                    rotate_left
                    ·intro w'
                     go_simp
                     with_reducible rfl
                    rotate_left
                    ·simp only [Act.put,List.setIfInBounds_toArray,List.set_cons_zero,List.set_cons_succ,i64_w,i32_w]
                     rfl
                    refine pure_ (i:=10) (N:=some 46) (v:=?_) (a':=?_) #[true,true,true,false,true,true,true,true,true,true,true,false,false,false,false,false,false] rfl rfl (u2m HT_.out (by kernel_rfl)) (fun _ _ _ h => h) (Or.inl ⟨by rfl,?_⟩) ?_ ?_
                    rotate_left
                    ·intro w'
                     go_simp
                     with_reducible rfl
                    rotate_left
                    ·simp only [Act.put,List.setIfInBounds_toArray,List.set_cons_zero,List.set_cons_succ,i64_w,i32_w]
                     rfl
                    refine pure_ (i:=11) (N:=some 47) (v:=?_) (a':=?_) #[true,true,true,false,true,true,true,true,true,true,true,true,false,false,false,false,false] rfl rfl (u2m HT_.out (by kernel_rfl)) (fun _ _ _ h => h) (Or.inl ⟨by rfl,?_⟩) ?_ ?_
                    rotate_left
                    ·intro w'
                     go_simp
                     with_reducible rfl
                    rotate_left
                    ·simp only [Act.put,List.setIfInBounds_toArray,List.set_cons_zero,List.set_cons_succ,i64_w,i32_w]
                     rfl
                    refine take_ (i:=3) (N:=some 39) (v:=?_) (a':=?_) #[true,true,true,true,true,true,true,true,true,true,true,true,false,false,false,false,false] rfl rfl (take_ofW HT_.out HW_.out (by kernel_rfl)) (fun _ _ _ h => h) (Or.inl ⟨by rfl,?_⟩) hHeld ?_ ?_
                    rotate_left
                    ·rintro w' ⟨s0,s1,s2,s3⟩
                     go_simp
                     with_reducible rfl
                    rotate_left
                    ·simp only [Act.put,List.setIfInBounds_toArray,List.set_cons_zero,List.set_cons_succ,i64_w,i32_w]
                     rfl
                    refine take_ (i:=12) (N:=some 48) (v:=?_) (a':=?_) #[true,true,true,true,true,true,true,true,true,true,true,true,true,false,false,false,false] rfl rfl (take_ofW HT_.out HW_.out (by kernel_rfl)) (fun _ _ _ h => h) (Or.inl ⟨by rfl,?_⟩) hHeld ?_ ?_
                    rotate_left
                    ·rintro w' ⟨s0,s1,s2,s3⟩
                     go_simp
                     with_reducible rfl
                    rotate_left
                    ·simp only [Act.put,List.setIfInBounds_toArray,List.set_cons_zero,List.set_cons_succ,i64_w,i32_w]
                     rfl
                    refine join_ (σ:=Nat × Nat) 2 #[true,true,true,true,true,true,true,true,true,true,true,true,true,true,true,false,false] (fun s_ => [(11,.pointer (some ⟨s_.1,0,none⟩)),(12,.pointer (some ⟨s_.2,0,none⟩))]) (fun s_ w' => (w'.cell? (ad296.add ((x33_1).toNat * 2)) = some (.string ((uq l0 x33_1).f0)) ∧ w'.cell? ⟨(ad296.add ((x33_1).toNat * 2)).block,(ad296.add ((x33_1).toNat * 2)).off + 1,none⟩ = some (.string ((uq l0 x33_1).f1)) ∧ w'.cell? (ad296.add (((ji12)).toNat * 2)) = some (.string ((uq l0 (ji12)).f0)) ∧ w'.cell? ⟨(ad296.add (((ji12)).toNat * 2)).block,(ad296.add (((ji12)).toNat * 2)).off + 1,none⟩ = some (.string ((uq l0 (ji12)).f1))) ∧ (w'.heap[s_.1]? = some (.cells #[.string (⟨#[]⟩:ByteArray),.string (⟨#[]⟩:ByteArray)] 37 (0,0))) ∧ (w'.heap[s_.2]? = some (.cells #[.string (⟨#[]⟩:ByteArray),.string (⟨#[]⟩:ByteArray)] 37 (0,0))) ∧ (w.heap.size ≤ s_.1) ∧ (w.heap.size ≤ s_.1) ∧ (s_.2 ≠ s_.1) ∧ (s_.1 ≠ s_.2) ∧ (w.heap.size ≤ s_.2) ∧ (w.heap.size ≤ s_.2) ∧ (Below w.heap.size w w')) ?_ ?_
                    rotate_left
                    ·intro hCont
                     refine two_ (i:=13) (j:=14) (Ni:=some 11) (Nj:=some 12) #[true,true,true,true,true,true,true,true,true,true,true,true,true,true,false,false,false] #[true,true,true,true,true,true,true,true,true,true,true,true,true,false,true,false,false] rfl rfl rfl rfl (two_of HT_.out (by kernel_rfl)) (by decide) (by decide) (fun K hK => ?_) (fun K hK => ?_)
                     ·skip
                      refine box_step ?hg (N:=11) ?hd (cs:=#[.string (⟨#[]⟩:ByteArray),.string (⟨#[]⟩:ByteArray)]) (t:=37) ?hr ?_;(case hd => rfl);(case hg => rfl);(case hr => first | (go_simp;done) | (go_simp;rfl))
                      intro gb298 hg w27 hbox hb
                      have n0_:=Aside0.mk (uw (by repeat (first | (with_reducible first | exact HB.out | apply uc | apply ub | apply ud) | exact HB.out)) hb)
                      have n1_:=Aside0.mk (hbox)
                      have n2_:=Aside0.mk ((by rw [hg];exact (us (by repeat (first | (with_reducible first | exact HB.out | apply uc | apply ub | apply ud) | exact HB.out))):w.heap.size ≤ gb298))
                      have n3_:=Aside0.mk ((by rw [hg];exact (us (by repeat (first | (with_reducible first | exact HB.out | apply uc | apply ub | apply ud) | exact HB.out))):w.heap.size ≤ gb298))
                      clear HB
                      have HB:=n0_
                      have BK298:=n1_
                      have GW298:=n2_
                      have GE298:=n3_
                      clear n0_ n1_ n2_ n3_
                      clear hb hbox hg
                      refine hK.out _ _ ⟨((HB.out.cell (World.block_lt_of_cell? w _ hw296_0)).trans hw296_0),((HB.out.cell (World.block_lt_of_cell? w _ hw296_1)).trans hw296_1),((HB.out.cell (World.block_lt_of_cell? w _ hw297_0)).trans hw297_0),((HB.out.cell (World.block_lt_of_cell? w _ hw297_1)).trans hw297_1)⟩ (fun hHeld => ?_)
                      clear hK K
                      refine norm_ (a':=?_) ?_ ?_
                      rotate_left
                      ·show Act.put _ (some 11) _ = _
                       simp only [Act.put,List.setIfInBounds_toArray,List.set_cons_zero,List.set_cons_succ,i64_w,i32_w]
                       rfl
                      refine one_ (i:=14) (N:=some 12) #[true,true,true,true,true,true,true,true,true,true,true,true,true,true,true,false,false] rfl rfl (one_of HT_.out (by kernel_rfl)) (by decide) (fun K hK => ?_)
                      refine box_step ?hg (N:=12) ?hd (cs:=#[.string (⟨#[]⟩:ByteArray),.string (⟨#[]⟩:ByteArray)]) (t:=37) ?hr ?_;(case hd => rfl);(case hg => rfl);(case hr => first | (go_simp;done) | (go_simp;rfl))
                      intro gb299 hg w28 hbox hb
                      have n0_:=Aside0.mk (uz (g:=gb298) (o:=.cells #[.string (⟨#[]⟩:ByteArray),.string (⟨#[]⟩:ByteArray)] 37 (0,0)) (by (with_reducible repeat (first | refine uf ?_ _ | refine ug ?_ | refine ue ?_ _));exact BK298.out) hb)
                      have n1_:=Aside0.mk (uw (by repeat (first | (with_reducible first | exact HB.out | apply uc | apply ub | apply ud | refine uh ?_ GE298.out) | exact HB.out)) hb)
                      have n2_:=Aside0.mk (hbox)
                      have n3_:=Aside0.mk ((by rw [hg];exact (us (by repeat (first | (with_reducible first | exact HB.out | apply uc | apply ub | apply ud | refine uh ?_ GE298.out) | exact HB.out))):w.heap.size ≤ gb299))
                      have n4_:=Aside0.mk ((by rw [hg];exact (us (by repeat (first | (with_reducible first | exact HB.out | apply uc | apply ub | apply ud | refine uh ?_ GE298.out) | exact HB.out))):w.heap.size ≤ gb299))
                      have n5_:=Aside0.mk ((by rw [hg];exact Nat.ne_of_lt (u1n (g:=gb298) (o:=.cells #[.string (⟨#[]⟩:ByteArray),.string (⟨#[]⟩:ByteArray)] 37 (0,0)) (by (with_reducible repeat (first | refine uf ?_ _ | refine ug ?_ | refine ue ?_ _));exact BK298.out)):gb298 ≠ gb299))
                      have n6_:=Aside0.mk ((by rw [hg];exact Nat.ne_of_gt (u1n (g:=gb298) (o:=.cells #[.string (⟨#[]⟩:ByteArray),.string (⟨#[]⟩:ByteArray)] 37 (0,0)) (by (with_reducible repeat (first | refine uf ?_ _ | refine ug ?_ | refine ue ?_ _));exact BK298.out)):gb299 ≠ gb298))
                      clear BK298
                      clear HB
                      have BK298:=n0_
                      have HB:=n1_
                      have BK299:=n2_
                      have GW299:=n3_
                      have GE299:=n4_
                      have NB298_299:=n5_
                      have NB299_298:=n6_
                      clear n0_ n1_ n2_ n3_ n4_ n5_ n6_
                      clear hb hbox hg
                      refine hK.out _ _ ⟨((HB.out.cell (World.block_lt_of_cell? w _ hw296_0)).trans hw296_0),((HB.out.cell (World.block_lt_of_cell? w _ hw296_1)).trans hw296_1),((HB.out.cell (World.block_lt_of_cell? w _ hw297_0)).trans hw297_0),((HB.out.cell (World.block_lt_of_cell? w _ hw297_1)).trans hw297_1)⟩ (fun hHeld => ?_)
                      clear hK K
                      refine norm_ (a':=?_) ?_ ?_
                      rotate_left
                      ·show Act.put _ (some 12) _ = _
                       simp only [Act.put,List.setIfInBounds_toArray,List.set_cons_zero,List.set_cons_succ,i64_w,i32_w]
                       rfl
                      exact norm_ (by simp only [putAll,Act.put,List.setIfInBounds_toArray,List.set_cons_zero,List.set_cons_succ]) (hCont (gb298,gb299) _ ⟨hHeld,(by (with_reducible repeat (first | refine uf ?_ _ | refine ug ?_ | refine ue ?_ _));exact BK298.out),(by (with_reducible repeat (first | refine uf ?_ _ | refine ug ?_ | refine ue ?_ _));exact BK299.out),GW298.out,GE298.out,NB299_298.out,NB298_299.out,GW299.out,GE299.out,(by repeat (first | (with_reducible first | exact HB.out | apply uc | apply ub | apply ud | refine uh ?_ GE298.out | refine uh ?_ GE299.out) | exact HB.out))⟩)
                     ·skip
                      refine box_step ?hg (N:=12) ?hd (cs:=#[.string (⟨#[]⟩:ByteArray),.string (⟨#[]⟩:ByteArray)]) (t:=37) ?hr ?_;(case hd => rfl);(case hg => rfl);(case hr => first | (go_simp;done) | (go_simp;rfl))
                      intro gb299 hg w27 hbox hb
                      have n0_:=Aside0.mk (uw (by repeat (first | (with_reducible first | exact HB.out | apply uc | apply ub | apply ud) | exact HB.out)) hb)
                      have n1_:=Aside0.mk (hbox)
                      have n2_:=Aside0.mk ((by rw [hg];exact (us (by repeat (first | (with_reducible first | exact HB.out | apply uc | apply ub | apply ud) | exact HB.out))):w.heap.size ≤ gb299))
                      have n3_:=Aside0.mk ((by rw [hg];exact (us (by repeat (first | (with_reducible first | exact HB.out | apply uc | apply ub | apply ud) | exact HB.out))):w.heap.size ≤ gb299))
                      clear HB
                      have HB:=n0_
                      have BK299:=n1_
                      have GW299:=n2_
                      have GE299:=n3_
                      clear n0_ n1_ n2_ n3_
                      clear hb hbox hg
                      refine hK.out _ _ ⟨((HB.out.cell (World.block_lt_of_cell? w _ hw296_0)).trans hw296_0),((HB.out.cell (World.block_lt_of_cell? w _ hw296_1)).trans hw296_1),((HB.out.cell (World.block_lt_of_cell? w _ hw297_0)).trans hw297_0),((HB.out.cell (World.block_lt_of_cell? w _ hw297_1)).trans hw297_1)⟩ (fun hHeld => ?_)
                      clear hK K
                      refine norm_ (a':=?_) ?_ ?_
                      rotate_left
                      ·show Act.put _ (some 12) _ = _
                       simp only [Act.put,List.setIfInBounds_toArray,List.set_cons_zero,List.set_cons_succ,i64_w,i32_w]
                       rfl
                      refine one_ (i:=13) (N:=some 11) #[true,true,true,true,true,true,true,true,true,true,true,true,true,true,true,false,false] rfl rfl (one_of HT_.out (by kernel_rfl)) (by decide) (fun K hK => ?_)
                      refine box_step ?hg (N:=11) ?hd (cs:=#[.string (⟨#[]⟩:ByteArray),.string (⟨#[]⟩:ByteArray)]) (t:=37) ?hr ?_;(case hd => rfl);(case hg => rfl);(case hr => first | (go_simp;done) | (go_simp;rfl))
                      intro gb298 hg w28 hbox hb
                      have n0_:=Aside0.mk (uz (g:=gb299) (o:=.cells #[.string (⟨#[]⟩:ByteArray),.string (⟨#[]⟩:ByteArray)] 37 (0,0)) (by (with_reducible repeat (first | refine uf ?_ _ | refine ug ?_ | refine ue ?_ _));exact BK299.out) hb)
                      have n1_:=Aside0.mk (uw (by repeat (first | (with_reducible first | exact HB.out | apply uc | apply ub | apply ud | refine uh ?_ GE299.out) | exact HB.out)) hb)
                      have n2_:=Aside0.mk (hbox)
                      have n3_:=Aside0.mk ((by rw [hg];exact (us (by repeat (first | (with_reducible first | exact HB.out | apply uc | apply ub | apply ud | refine uh ?_ GE299.out) | exact HB.out))):w.heap.size ≤ gb298))
                      have n4_:=Aside0.mk ((by rw [hg];exact (us (by repeat (first | (with_reducible first | exact HB.out | apply uc | apply ub | apply ud | refine uh ?_ GE299.out) | exact HB.out))):w.heap.size ≤ gb298))
                      have n5_:=Aside0.mk ((by rw [hg];exact Nat.ne_of_lt (u1n (g:=gb299) (o:=.cells #[.string (⟨#[]⟩:ByteArray),.string (⟨#[]⟩:ByteArray)] 37 (0,0)) (by (with_reducible repeat (first | refine uf ?_ _ | refine ug ?_ | refine ue ?_ _));exact BK299.out)):gb299 ≠ gb298))
                      have n6_:=Aside0.mk ((by rw [hg];exact Nat.ne_of_gt (u1n (g:=gb299) (o:=.cells #[.string (⟨#[]⟩:ByteArray),.string (⟨#[]⟩:ByteArray)] 37 (0,0)) (by (with_reducible repeat (first | refine uf ?_ _ | refine ug ?_ | refine ue ?_ _));exact BK299.out)):gb298 ≠ gb299))
                      clear BK299
                      clear HB
                      have BK299:=n0_
                      have HB:=n1_
                      have BK298:=n2_
                      have GW298:=n3_
                      have GE298:=n4_
                      have NB299_298:=n5_
                      have NB298_299:=n6_
                      clear n0_ n1_ n2_ n3_ n4_ n5_ n6_
                      clear hb hbox hg
                      refine hK.out _ _ ⟨((HB.out.cell (World.block_lt_of_cell? w _ hw296_0)).trans hw296_0),((HB.out.cell (World.block_lt_of_cell? w _ hw296_1)).trans hw296_1),((HB.out.cell (World.block_lt_of_cell? w _ hw297_0)).trans hw297_0),((HB.out.cell (World.block_lt_of_cell? w _ hw297_1)).trans hw297_1)⟩ (fun hHeld => ?_)
                      clear hK K
                      refine norm_ (a':=?_) ?_ ?_
                      rotate_left
                      ·show Act.put _ (some 11) _ = _
                       simp only [Act.put,List.setIfInBounds_toArray,List.set_cons_zero,List.set_cons_succ,i64_w,i32_w]
                       rfl
                      exact norm_ (by simp only [putAll,Act.put,List.setIfInBounds_toArray,List.set_cons_zero,List.set_cons_succ]) (hCont (gb298,gb299) _ ⟨hHeld,(by (with_reducible repeat (first | refine uf ?_ _ | refine ug ?_ | refine ue ?_ _));exact BK298.out),(by (with_reducible repeat (first | refine uf ?_ _ | refine ug ?_ | refine ue ?_ _));exact BK299.out),GW298.out,GE298.out,NB299_298.out,NB298_299.out,GW299.out,GE299.out,(by repeat (first | (with_reducible first | exact HB.out | apply uc | apply ub | apply ud | refine uh ?_ GE299.out | refine uh ?_ GE298.out) | exact HB.out))⟩)
                    rintro ⟨gb298,gb299⟩ w29 ⟨hS_,h0_,h1_,h2_,h3_,h4_,h5_,h6_,h7_,h8_⟩
                    have n0_:Aside0 (w29.heap[gb298]? = some (.cells #[.string (⟨#[]⟩:ByteArray),.string (⟨#[]⟩:ByteArray)] 37 (0,0))):=⟨h0_⟩
                    have n1_:Aside0 (w29.heap[gb299]? = some (.cells #[.string (⟨#[]⟩:ByteArray),.string (⟨#[]⟩:ByteArray)] 37 (0,0))):=⟨h1_⟩
                    have n2_:Aside0 (w.heap.size ≤ gb298):=⟨h2_⟩
                    have n3_:Aside0 (w.heap.size ≤ gb298):=⟨h3_⟩
                    have n4_:Aside0 (gb299 ≠ gb298):=⟨h4_⟩
                    have n5_:Aside0 (gb298 ≠ gb299):=⟨h5_⟩
                    have n6_:Aside0 (w.heap.size ≤ gb299):=⟨h6_⟩
                    have n7_:Aside0 (w.heap.size ≤ gb299):=⟨h7_⟩
                    have n8_:Aside0 (Below w.heap.size w w29):=⟨h8_⟩
                    clear HB
                    clear h0_ h1_ h2_ h3_ h4_ h5_ h6_ h7_ h8_
                    have BK298:=n0_
                    have BK299:=n1_
                    have GW298:=n2_
                    have GE298:=n3_
                    have NB299_298:=n4_
                    have NB298_299:=n5_
                    have GW299:=n6_
                    have GE299:=n7_
                    have HB:=n8_
                    clear n0_ n1_ n2_ n3_ n4_ n5_ n6_ n7_ n8_
                    have hHeld:w29.cell? (ad296.add ((x33_1).toNat * 2)) = some (.string ((uq l0 x33_1).f0)) ∧ w29.cell? ⟨(ad296.add ((x33_1).toNat * 2)).block,(ad296.add ((x33_1).toNat * 2)).off + 1,none⟩ = some (.string ((uq l0 x33_1).f1)) ∧ w29.cell? (ad296.add (((ji12)).toNat * 2)) = some (.string ((uq l0 (ji12)).f0)) ∧ w29.cell? ⟨(ad296.add (((ji12)).toNat * 2)).block,(ad296.add (((ji12)).toNat * 2)).off + 1,none⟩ = some (.string ((uq l0 (ji12)).f1)):=hS_
                    refine norm_ (a':=?_) ?_ ?_
                    rotate_left
                    ·simp only [putAll,Act.put,List.setIfInBounds_toArray,List.set_cons_zero,List.set_cons_succ]
                     rfl
                    refine one_ (i:=15) (N:=none) #[true,true,true,true,true,true,true,true,true,true,true,true,true,true,true,true,false] rfl rfl (one_of HT_.out (by kernel_rfl)) (by decide) (fun K hK => ?_)
                    have hs30:w29.cell? ⟨gb298,0,none⟩ = some (.string (⟨#[]⟩:ByteArray)):=(un BK298.out 0).trans rfl
                    have hfs30:=um BK298.out 0
                    have hns30_1:=NB299_298.out
                    have hms30_1:=NB298_299.out
                    have hs31:w29.cell? ⟨gb298,1,none⟩ = some (.string (⟨#[]⟩:ByteArray)):=(un BK298.out 1).trans rfl
                    have hfs31:=um BK298.out 1
                    have hns31_1:=NB299_298.out
                    have hms31_1:=NB298_299.out
                    refine skip_ (w1:=?_) (by rfl) rfl ?_ ?_
                    rotate_left
                    ·go_simp
                     rfl
                    refine hK.out _ _ ⟨((u2k (p:=⟨gb298,_,none⟩) (by first | exact Nat.ne_of_lt (Nat.lt_of_lt_of_le (by have:=World.block_lt_of_cell? _ _ hw296_0;first | rwa [uj] at this | exact this) GW298.out) | (rw [uj];exact Nat.ne_of_lt (Nat.lt_of_lt_of_le (by have:=World.block_lt_of_cell? _ _ hw296_0;first | rwa [uj] at this | exact this) GW298.out)) | (show (Addr.add _ _).block ≠ _;rw [uj];exact Nat.ne_of_lt (Nat.lt_of_lt_of_le (by have:=World.block_lt_of_cell? _ _ hw296_0;first | rwa [uj] at this | exact this) GW298.out)) | (dsimp only;exact Nat.ne_of_lt (Nat.lt_of_lt_of_le (by have:=World.block_lt_of_cell? _ _ hw296_0;first | rwa [uj] at this | exact this) GW298.out))) _).trans (((u2k (p:=⟨gb298,_,none⟩) (by first | exact Nat.ne_of_lt (Nat.lt_of_lt_of_le (by have:=World.block_lt_of_cell? _ _ hw296_0;first | rwa [uj] at this | exact this) GW298.out) | (rw [uj];exact Nat.ne_of_lt (Nat.lt_of_lt_of_le (by have:=World.block_lt_of_cell? _ _ hw296_0;first | rwa [uj] at this | exact this) GW298.out)) | (show (Addr.add _ _).block ≠ _;rw [uj];exact Nat.ne_of_lt (Nat.lt_of_lt_of_le (by have:=World.block_lt_of_cell? _ _ hw296_0;first | rwa [uj] at this | exact this) GW298.out)) | (dsimp only;exact Nat.ne_of_lt (Nat.lt_of_lt_of_le (by have:=World.block_lt_of_cell? _ _ hw296_0;first | rwa [uj] at this | exact this) GW298.out))) _).trans (hHeld.1)))),((u2k (p:=⟨gb298,_,none⟩) (by first | exact Nat.ne_of_lt (Nat.lt_of_lt_of_le (by have:=World.block_lt_of_cell? _ _ hw296_1;first | rwa [uj] at this | exact this) GW298.out) | (rw [uj];exact Nat.ne_of_lt (Nat.lt_of_lt_of_le (by have:=World.block_lt_of_cell? _ _ hw296_1;first | rwa [uj] at this | exact this) GW298.out)) | (show (Addr.add _ _).block ≠ _;rw [uj];exact Nat.ne_of_lt (Nat.lt_of_lt_of_le (by have:=World.block_lt_of_cell? _ _ hw296_1;first | rwa [uj] at this | exact this) GW298.out)) | (dsimp only;exact Nat.ne_of_lt (Nat.lt_of_lt_of_le (by have:=World.block_lt_of_cell? _ _ hw296_1;first | rwa [uj] at this | exact this) GW298.out))) _).trans (((u2k (p:=⟨gb298,_,none⟩) (by first | exact Nat.ne_of_lt (Nat.lt_of_lt_of_le (by have:=World.block_lt_of_cell? _ _ hw296_1;first | rwa [uj] at this | exact this) GW298.out) | (rw [uj];exact Nat.ne_of_lt (Nat.lt_of_lt_of_le (by have:=World.block_lt_of_cell? _ _ hw296_1;first | rwa [uj] at this | exact this) GW298.out)) | (show (Addr.add _ _).block ≠ _;rw [uj];exact Nat.ne_of_lt (Nat.lt_of_lt_of_le (by have:=World.block_lt_of_cell? _ _ hw296_1;first | rwa [uj] at this | exact this) GW298.out)) | (dsimp only;exact Nat.ne_of_lt (Nat.lt_of_lt_of_le (by have:=World.block_lt_of_cell? _ _ hw296_1;first | rwa [uj] at this | exact this) GW298.out))) _).trans (hHeld.2.1)))),((u2k (p:=⟨gb298,_,none⟩) (by first | exact Nat.ne_of_lt (Nat.lt_of_lt_of_le (by have:=World.block_lt_of_cell? _ _ hw297_0;first | rwa [uj] at this | exact this) GW298.out) | (rw [uj];exact Nat.ne_of_lt (Nat.lt_of_lt_of_le (by have:=World.block_lt_of_cell? _ _ hw297_0;first | rwa [uj] at this | exact this) GW298.out)) | (show (Addr.add _ _).block ≠ _;rw [uj];exact Nat.ne_of_lt (Nat.lt_of_lt_of_le (by have:=World.block_lt_of_cell? _ _ hw297_0;first | rwa [uj] at this | exact this) GW298.out)) | (dsimp only;exact Nat.ne_of_lt (Nat.lt_of_lt_of_le (by have:=World.block_lt_of_cell? _ _ hw297_0;first | rwa [uj] at this | exact this) GW298.out))) _).trans (((u2k (p:=⟨gb298,_,none⟩) (by first | exact Nat.ne_of_lt (Nat.lt_of_lt_of_le (by have:=World.block_lt_of_cell? _ _ hw297_0;first | rwa [uj] at this | exact this) GW298.out) | (rw [uj];exact Nat.ne_of_lt (Nat.lt_of_lt_of_le (by have:=World.block_lt_of_cell? _ _ hw297_0;first | rwa [uj] at this | exact this) GW298.out)) | (show (Addr.add _ _).block ≠ _;rw [uj];exact Nat.ne_of_lt (Nat.lt_of_lt_of_le (by have:=World.block_lt_of_cell? _ _ hw297_0;first | rwa [uj] at this | exact this) GW298.out)) | (dsimp only;exact Nat.ne_of_lt (Nat.lt_of_lt_of_le (by have:=World.block_lt_of_cell? _ _ hw297_0;first | rwa [uj] at this | exact this) GW298.out))) _).trans (hHeld.2.2.1)))),((u2k (p:=⟨gb298,_,none⟩) (by first | exact Nat.ne_of_lt (Nat.lt_of_lt_of_le (by have:=World.block_lt_of_cell? _ _ hw297_1;first | rwa [uj] at this | exact this) GW298.out) | (rw [uj];exact Nat.ne_of_lt (Nat.lt_of_lt_of_le (by have:=World.block_lt_of_cell? _ _ hw297_1;first | rwa [uj] at this | exact this) GW298.out)) | (show (Addr.add _ _).block ≠ _;rw [uj];exact Nat.ne_of_lt (Nat.lt_of_lt_of_le (by have:=World.block_lt_of_cell? _ _ hw297_1;first | rwa [uj] at this | exact this) GW298.out)) | (dsimp only;exact Nat.ne_of_lt (Nat.lt_of_lt_of_le (by have:=World.block_lt_of_cell? _ _ hw297_1;first | rwa [uj] at this | exact this) GW298.out))) _).trans (((u2k (p:=⟨gb298,_,none⟩) (by first | exact Nat.ne_of_lt (Nat.lt_of_lt_of_le (by have:=World.block_lt_of_cell? _ _ hw297_1;first | rwa [uj] at this | exact this) GW298.out) | (rw [uj];exact Nat.ne_of_lt (Nat.lt_of_lt_of_le (by have:=World.block_lt_of_cell? _ _ hw297_1;first | rwa [uj] at this | exact this) GW298.out)) | (show (Addr.add _ _).block ≠ _;rw [uj];exact Nat.ne_of_lt (Nat.lt_of_lt_of_le (by have:=World.block_lt_of_cell? _ _ hw297_1;first | rwa [uj] at this | exact this) GW298.out)) | (dsimp only;exact Nat.ne_of_lt (Nat.lt_of_lt_of_le (by have:=World.block_lt_of_cell? _ _ hw297_1;first | rwa [uj] at this | exact this) GW298.out))) _).trans (hHeld.2.2.2))))⟩ (fun hHeld => ?_)
                    clear hK K
                    refine one_ (i:=16) (N:=none) #[true,true,true,true,true,true,true,true,true,true,true,true,true,true,true,true,true] rfl rfl (one_of HT_.out (by kernel_rfl)) (by decide) (fun K hK => ?_)
                    have hs32:w29.cell? ⟨gb299,0,none⟩ = some (.string (⟨#[]⟩:ByteArray)):=(un BK299.out 0).trans rfl
                    have hfs32:=um BK299.out 0
                    have hns32_0:=NB298_299.out
                    have hms32_0:=NB299_298.out
                    have hs33:w29.cell? ⟨gb299,1,none⟩ = some (.string (⟨#[]⟩:ByteArray)):=(un BK299.out 1).trans rfl
                    have hfs33:=um BK299.out 1
                    have hns33_0:=NB298_299.out
                    have hms33_0:=NB299_298.out
                    refine skip_ (w1:=?_) (by rfl) rfl ?_ ?_
                    rotate_left
                    ·go_simp
                     rfl
                    refine hK.out _ _ ⟨((u2k (p:=⟨gb299,_,none⟩) (by first | exact Nat.ne_of_lt (Nat.lt_of_lt_of_le (by have:=World.block_lt_of_cell? _ _ hw296_0;first | rwa [uj] at this | exact this) GW299.out) | (rw [uj];exact Nat.ne_of_lt (Nat.lt_of_lt_of_le (by have:=World.block_lt_of_cell? _ _ hw296_0;first | rwa [uj] at this | exact this) GW299.out)) | (show (Addr.add _ _).block ≠ _;rw [uj];exact Nat.ne_of_lt (Nat.lt_of_lt_of_le (by have:=World.block_lt_of_cell? _ _ hw296_0;first | rwa [uj] at this | exact this) GW299.out)) | (dsimp only;exact Nat.ne_of_lt (Nat.lt_of_lt_of_le (by have:=World.block_lt_of_cell? _ _ hw296_0;first | rwa [uj] at this | exact this) GW299.out))) _).trans (((u2k (p:=⟨gb299,_,none⟩) (by first | exact Nat.ne_of_lt (Nat.lt_of_lt_of_le (by have:=World.block_lt_of_cell? _ _ hw296_0;first | rwa [uj] at this | exact this) GW299.out) | (rw [uj];exact Nat.ne_of_lt (Nat.lt_of_lt_of_le (by have:=World.block_lt_of_cell? _ _ hw296_0;first | rwa [uj] at this | exact this) GW299.out)) | (show (Addr.add _ _).block ≠ _;rw [uj];exact Nat.ne_of_lt (Nat.lt_of_lt_of_le (by have:=World.block_lt_of_cell? _ _ hw296_0;first | rwa [uj] at this | exact this) GW299.out)) | (dsimp only;exact Nat.ne_of_lt (Nat.lt_of_lt_of_le (by have:=World.block_lt_of_cell? _ _ hw296_0;first | rwa [uj] at this | exact this) GW299.out))) _).trans (hHeld.1)))),((u2k (p:=⟨gb299,_,none⟩) (by first | exact Nat.ne_of_lt (Nat.lt_of_lt_of_le (by have:=World.block_lt_of_cell? _ _ hw296_1;first | rwa [uj] at this | exact this) GW299.out) | (rw [uj];exact Nat.ne_of_lt (Nat.lt_of_lt_of_le (by have:=World.block_lt_of_cell? _ _ hw296_1;first | rwa [uj] at this | exact this) GW299.out)) | (show (Addr.add _ _).block ≠ _;rw [uj];exact Nat.ne_of_lt (Nat.lt_of_lt_of_le (by have:=World.block_lt_of_cell? _ _ hw296_1;first | rwa [uj] at this | exact this) GW299.out)) | (dsimp only;exact Nat.ne_of_lt (Nat.lt_of_lt_of_le (by have:=World.block_lt_of_cell? _ _ hw296_1;first | rwa [uj] at this | exact this) GW299.out))) _).trans (((u2k (p:=⟨gb299,_,none⟩) (by first | exact Nat.ne_of_lt (Nat.lt_of_lt_of_le (by have:=World.block_lt_of_cell? _ _ hw296_1;first | rwa [uj] at this | exact this) GW299.out) | (rw [uj];exact Nat.ne_of_lt (Nat.lt_of_lt_of_le (by have:=World.block_lt_of_cell? _ _ hw296_1;first | rwa [uj] at this | exact this) GW299.out)) | (show (Addr.add _ _).block ≠ _;rw [uj];exact Nat.ne_of_lt (Nat.lt_of_lt_of_le (by have:=World.block_lt_of_cell? _ _ hw296_1;first | rwa [uj] at this | exact this) GW299.out)) | (dsimp only;exact Nat.ne_of_lt (Nat.lt_of_lt_of_le (by have:=World.block_lt_of_cell? _ _ hw296_1;first | rwa [uj] at this | exact this) GW299.out))) _).trans (hHeld.2.1)))),((u2k (p:=⟨gb299,_,none⟩) (by first | exact Nat.ne_of_lt (Nat.lt_of_lt_of_le (by have:=World.block_lt_of_cell? _ _ hw297_0;first | rwa [uj] at this | exact this) GW299.out) | (rw [uj];exact Nat.ne_of_lt (Nat.lt_of_lt_of_le (by have:=World.block_lt_of_cell? _ _ hw297_0;first | rwa [uj] at this | exact this) GW299.out)) | (show (Addr.add _ _).block ≠ _;rw [uj];exact Nat.ne_of_lt (Nat.lt_of_lt_of_le (by have:=World.block_lt_of_cell? _ _ hw297_0;first | rwa [uj] at this | exact this) GW299.out)) | (dsimp only;exact Nat.ne_of_lt (Nat.lt_of_lt_of_le (by have:=World.block_lt_of_cell? _ _ hw297_0;first | rwa [uj] at this | exact this) GW299.out))) _).trans (((u2k (p:=⟨gb299,_,none⟩) (by first | exact Nat.ne_of_lt (Nat.lt_of_lt_of_le (by have:=World.block_lt_of_cell? _ _ hw297_0;first | rwa [uj] at this | exact this) GW299.out) | (rw [uj];exact Nat.ne_of_lt (Nat.lt_of_lt_of_le (by have:=World.block_lt_of_cell? _ _ hw297_0;first | rwa [uj] at this | exact this) GW299.out)) | (show (Addr.add _ _).block ≠ _;rw [uj];exact Nat.ne_of_lt (Nat.lt_of_lt_of_le (by have:=World.block_lt_of_cell? _ _ hw297_0;first | rwa [uj] at this | exact this) GW299.out)) | (dsimp only;exact Nat.ne_of_lt (Nat.lt_of_lt_of_le (by have:=World.block_lt_of_cell? _ _ hw297_0;first | rwa [uj] at this | exact this) GW299.out))) _).trans (hHeld.2.2.1)))),((u2k (p:=⟨gb299,_,none⟩) (by first | exact Nat.ne_of_lt (Nat.lt_of_lt_of_le (by have:=World.block_lt_of_cell? _ _ hw297_1;first | rwa [uj] at this | exact this) GW299.out) | (rw [uj];exact Nat.ne_of_lt (Nat.lt_of_lt_of_le (by have:=World.block_lt_of_cell? _ _ hw297_1;first | rwa [uj] at this | exact this) GW299.out)) | (show (Addr.add _ _).block ≠ _;rw [uj];exact Nat.ne_of_lt (Nat.lt_of_lt_of_le (by have:=World.block_lt_of_cell? _ _ hw297_1;first | rwa [uj] at this | exact this) GW299.out)) | (dsimp only;exact Nat.ne_of_lt (Nat.lt_of_lt_of_le (by have:=World.block_lt_of_cell? _ _ hw297_1;first | rwa [uj] at this | exact this) GW299.out))) _).trans (((u2k (p:=⟨gb299,_,none⟩) (by first | exact Nat.ne_of_lt (Nat.lt_of_lt_of_le (by have:=World.block_lt_of_cell? _ _ hw297_1;first | rwa [uj] at this | exact this) GW299.out) | (rw [uj];exact Nat.ne_of_lt (Nat.lt_of_lt_of_le (by have:=World.block_lt_of_cell? _ _ hw297_1;first | rwa [uj] at this | exact this) GW299.out)) | (show (Addr.add _ _).block ≠ _;rw [uj];exact Nat.ne_of_lt (Nat.lt_of_lt_of_le (by have:=World.block_lt_of_cell? _ _ hw297_1;first | rwa [uj] at this | exact this) GW299.out)) | (dsimp only;exact Nat.ne_of_lt (Nat.lt_of_lt_of_le (by have:=World.block_lt_of_cell? _ _ hw297_1;first | rwa [uj] at this | exact this) GW299.out))) _).trans (hHeld.2.2.2))))⟩ (fun hHeld => ?_)
                    clear hK K
                    refine done_ (done_of HT_.out (by kernel_rfl)) ?_
                    try go_wp2
                    have n0_:Aside0 (((((w29.setCell ⟨gb298,0,none⟩ (.string ((uq l0 x33_1).f0))).setCell ⟨gb298,1,none⟩ (.string ((uq l0 x33_1).f1))).setCell ⟨gb299,0,none⟩ (.string ((uq l0 (ji12)).f0))).setCell ⟨gb299,1,none⟩ (.string ((uq l0 (ji12)).f1))).heap[gb298]? = some (.cells #[.string ((uq l0 x33_1).f0),.string ((uq l0 x33_1).f1)] 37 (0,0))):=⟨by (with_reducible repeat (first | refine uf ?_ _ | refine ug ?_ | refine ue ?_ _));refine u1t ?_ NB298_299.out _;(with_reducible repeat (first | refine uf ?_ _ | refine ug ?_ | refine ue ?_ _));refine u1t ?_ NB298_299.out _;(with_reducible repeat (first | refine uf ?_ _ | refine ug ?_ | refine ue ?_ _));refine u2b (cs:=#[.string ((uq l0 x33_1).f0),.string (⟨#[]⟩:ByteArray)]) ?_ 1 _ rfl;(with_reducible repeat (first | refine uf ?_ _ | refine ug ?_ | refine ue ?_ _));refine u2b (cs:=#[.string (⟨#[]⟩:ByteArray),.string (⟨#[]⟩:ByteArray)]) ?_ 0 _ rfl;(with_reducible repeat (first | refine uf ?_ _ | refine ug ?_ | refine ue ?_ _));exact BK298.out⟩
                    have n1_:Aside0 (((((w29.setCell ⟨gb298,0,none⟩ (.string ((uq l0 x33_1).f0))).setCell ⟨gb298,1,none⟩ (.string ((uq l0 x33_1).f1))).setCell ⟨gb299,0,none⟩ (.string ((uq l0 (ji12)).f0))).setCell ⟨gb299,1,none⟩ (.string ((uq l0 (ji12)).f1))).heap[gb299]? = some (.cells #[.string ((uq l0 (ji12)).f0),.string ((uq l0 (ji12)).f1)] 37 (0,0))):=⟨by (with_reducible repeat (first | refine uf ?_ _ | refine ug ?_ | refine ue ?_ _));refine u2b (cs:=#[.string ((uq l0 (ji12)).f0),.string (⟨#[]⟩:ByteArray)]) ?_ 1 _ rfl;(with_reducible repeat (first | refine uf ?_ _ | refine ug ?_ | refine ue ?_ _));refine u2b (cs:=#[.string (⟨#[]⟩:ByteArray),.string (⟨#[]⟩:ByteArray)]) ?_ 0 _ rfl;(with_reducible repeat (first | refine uf ?_ _ | refine ug ?_ | refine ue ?_ _));refine u1t ?_ NB299_298.out _;(with_reducible repeat (first | refine uf ?_ _ | refine ug ?_ | refine ue ?_ _));refine u1t ?_ NB299_298.out _;(with_reducible repeat (first | refine uf ?_ _ | refine ug ?_ | refine ue ?_ _));exact BK299.out⟩
                    have n2_:Aside0 (Below w.heap.size w ((((w29.setCell ⟨gb298,0,none⟩ (.string ((uq l0 x33_1).f0))).setCell ⟨gb298,1,none⟩ (.string ((uq l0 x33_1).f1))).setCell ⟨gb299,0,none⟩ (.string ((uq l0 (ji12)).f0))).setCell ⟨gb299,1,none⟩ (.string ((uq l0 (ji12)).f1)))):=⟨by repeat (first | (with_reducible first | exact HB.out | apply uc | apply ub | apply ud | refine uh ?_ GE298.out | refine uh ?_ GE299.out) | exact HB.out)⟩
                    (try clear BK298)
                    (try clear BK299)
                    (try clear HB)
                    generalize ((((w29.setCell ⟨gb298,0,none⟩ (.string ((uq l0 x33_1).f0))).setCell ⟨gb298,1,none⟩ (.string ((uq l0 x33_1).f1))).setCell ⟨gb299,0,none⟩ (.string ((uq l0 (ji12)).f0))).setCell ⟨gb299,1,none⟩ (.string ((uq l0 (ji12)).f1))) = w34 at n0_ n1_ n2_ ⊢
                    have BK298:=n0_
                    have BK299:=n1_
                    have HB:=n2_
                    clear n0_ n1_ n2_
                    have n0_:=Aside0.mk (ug BK298.out)
                    have n1_:=Aside0.mk (ug BK299.out)
                    have n2_:=Aside0.mk (ud HB.out)
                    clear BK298
                    clear BK299
                    clear HB
                    have BK298:=n0_
                    have BK299:=n1_
                    have HB:=n2_
                    clear n0_ n1_ n2_
                    refine start_ (n:=10) (S:=fun w' => w'.cell? ⟨gb298,0,none⟩ = some (.string ((uq l0 x33_1).f0)) ∧ w'.cell? ⟨gb298,1,none⟩ = some (.string ((uq l0 x33_1).f1))) (ds:=[]) #[false,false,false,false,false,false,false,false,false,false] (by kernel_rfl) rfl rfl ⟨(un BK298.out 0).trans rfl,(un BK298.out 1).trans rfl⟩ (fun hHeld => ?_);refine with_tabW ul.tab11 ul.bits11 (fun HT_ HW_ => ?_)
                    generalize w34.drew = w35 at BK298 BK299 HB hHeld ⊢
                    refine pure_ (i:=0) (N:=some 55) (v:=?_) (a':=?_) #[true,false,false,false,false,false,false,false,false,false] rfl rfl (u2m HT_.out (by kernel_rfl)) (fun _ _ _ h => h) (Or.inl ⟨by rfl,?_⟩) ?_ ?_
                    rotate_left
                    ·intro w'
                     go_simp
                     with_reducible rfl
                    rotate_left
                    ·simp only [Act.put,List.setIfInBounds_toArray,List.set_cons_zero,List.set_cons_succ,i64_w,i32_w]
                     rfl
                    refine pure_ (i:=1) (N:=some 56) (v:=?_) (a':=?_) #[true,true,false,false,false,false,false,false,false,false] rfl rfl (u2m HT_.out (by kernel_rfl)) (fun _ _ _ h => h) (Or.inl ⟨by rfl,?_⟩) ?_ ?_
                    rotate_left
                    ·intro w'
                     go_simp
                     with_reducible rfl
                    rotate_left
                    ·simp only [Act.put,List.setIfInBounds_toArray,List.set_cons_zero,List.set_cons_succ,i64_w,i32_w]
                     rfl
                    refine pure_ (i:=4) (N:=some 59) (v:=?_) (a':=?_) #[true,true,false,false,true,false,false,false,false,false] rfl rfl (u2m HT_.out (by kernel_rfl)) (fun _ _ _ h => h) (Or.inl ⟨by rfl,?_⟩) ?_ ?_
                    rotate_left
                    ·intro w'
                     go_simp
                     with_reducible rfl
                    rotate_left
                    ·simp only [Act.put,List.setIfInBounds_toArray,List.set_cons_zero,List.set_cons_succ,i64_w,i32_w]
                     rfl
                    refine take_ (i:=2) (N:=some 57) (v:=?_) (a':=?_) #[true,true,true,false,true,false,false,false,false,false] rfl rfl (take_ofW HT_.out HW_.out (by kernel_rfl)) (fun _ _ _ h => h) (Or.inl ⟨by rfl,?_⟩) hHeld ?_ ?_
                    rotate_left
                    ·rintro w' ⟨s0,s1⟩
                     go_simp
                     with_reducible rfl
                    rotate_left
                    ·simp only [Act.put,List.setIfInBounds_toArray,List.set_cons_zero,List.set_cons_succ,i64_w,i32_w]
                     rfl
                    refine pure_ (i:=3) (N:=some 58) (v:=?_) (a':=?_) #[true,true,true,true,true,false,false,false,false,false] rfl rfl (u2m HT_.out (by kernel_rfl)) (fun _ _ _ h => h) (Or.inl ⟨by rfl,?_⟩) ?_ ?_
                    rotate_left
                    ·intro w'
                     go_simp
                     with_reducible rfl
                    rotate_left
                    ·simp only [Act.put,List.setIfInBounds_toArray,List.set_cons_zero,List.set_cons_succ,i64_w,i32_w]
                     rfl
                    refine take_ (i:=5) (N:=some 60) (v:=?_) (a':=?_) #[true,true,true,true,true,true,false,false,false,false] rfl rfl (take_ofW HT_.out HW_.out (by kernel_rfl)) (fun _ _ _ h => h) (Or.inl ⟨by rfl,?_⟩) hHeld ?_ ?_
                    rotate_left
                    ·rintro w' ⟨s0,s1⟩
                     go_simp
                     with_reducible rfl
                    rotate_left
                    ·simp only [Act.put,List.setIfInBounds_toArray,List.set_cons_zero,List.set_cons_succ,i64_w,i32_w]
                     rfl
                    refine one_ (i:=6) (N:=some 61) #[true,true,true,true,true,true,true,false,false,false] rfl rfl (one_of HT_.out (by kernel_rfl)) (by decide) (fun K hK => ?_)
                    refine goes_ Tryd.func11 (by kernel_rfl) rfl #[.string ((uq l0 x33_1).f1)] (by rfl) rfl rfl (by (try simp only [List.map_toArray,List.map_cons,List.map_nil]);first | done | rfl | (simp only [List.length_drop,List.length_take];rfl)) ?_
                    with_reducible refine (u1h.calls k1 ((uq l0 x33_1).f1) t300 _ A19.out).mono ?_
                    rintro e w' ⟨rfl,⟨nd,rfl⟩⟩
                    refine ⟨_,rfl,?_⟩
                    refine hK.out _ _ ⟨(un BK298.out 0).trans rfl,(un BK298.out 1).trans rfl⟩ (fun hHeld => ?_)
                    clear hK K
                    refine norm_ (a':=?_) ?_ ?_
                    rotate_left
                    ·show Act.put _ (some 61) _ = _
                     simp only [Act.put,List.setIfInBounds_toArray,List.set_cons_zero,List.set_cons_succ,i64_w,i32_w]
                     rfl
                    refine pure_ (i:=7) (N:=some 62) (v:=?_) (a':=?_) #[true,true,true,true,true,true,true,true,false,false] rfl rfl (u2m HT_.out (by kernel_rfl)) (fun _ _ _ h => h) (Or.inl ⟨by rfl,?_⟩) ?_ ?_
                    rotate_left
                    ·intro w'
                     go_simp
                     with_reducible rfl
                    rotate_left
                    ·simp only [Act.put,List.setIfInBounds_toArray,List.set_cons_zero,List.set_cons_succ,i64_w,i32_w]
                     rfl
                    refine pure_ (i:=8) (N:=some 63) (v:=?_) (a':=?_) #[true,true,true,true,true,true,true,true,true,false] rfl rfl (u2m HT_.out (by kernel_rfl)) (fun _ _ _ h => h) (Or.inl ⟨by rfl,?_⟩) ?_ ?_
                    rotate_left
                    ·intro w'
                     go_simp
                     with_reducible rfl
                    rotate_left
                    ·simp only [Act.put,List.setIfInBounds_toArray,List.set_cons_zero,List.set_cons_succ,i64_w,i32_w]
                     rfl
                    refine pure_ (i:=9) (N:=some 8) (v:=?_) (a':=?_) #[true,true,true,true,true,true,true,true,true,true] rfl rfl (u2m HT_.out (by kernel_rfl)) (fun _ _ _ h => h) (Or.inl ⟨by rfl,?_⟩) ?_ ?_
                    rotate_left
                    ·intro w'
                     go_simp
                     with_reducible rfl
                    rotate_left
                    ·simp only [Act.put,List.setIfInBounds_toArray,List.set_cons_zero,List.set_cons_succ,i64_w,i32_w]
                     rfl
                    refine done_ (done_of HT_.out (by kernel_rfl)) ?_
                    try go_wp2
                    (try (rw [drewN_self w35];generalize hq_:World.drewN w35 _ = w35;have n0_:Aside0 (w35.heap[gb298]? = some (.cells #[.string ((uq l0 x33_1).f0),.string ((uq l0 x33_1).f1)] 37 (0,0))):=⟨by rw [← hq_];exact (by (with_reducible repeat (first | refine uf ?_ _ | refine ug ?_ | refine ue ?_ _));exact BK298.out)⟩;have n1_:Aside0 (w35.heap[gb299]? = some (.cells #[.string ((uq l0 (ji12)).f0),.string ((uq l0 (ji12)).f1)] 37 (0,0))):=⟨by rw [← hq_];exact (by (with_reducible repeat (first | refine uf ?_ _ | refine ug ?_ | refine ue ?_ _));exact BK299.out)⟩;have n2_:Aside0 (Below w.heap.size w w35):=⟨by rw [← hq_];exact (by repeat (first | (with_reducible first | exact HB.out | apply uc | apply ub | apply ud | refine uh ?_ GE298.out | refine uh ?_ GE299.out) | exact HB.out))⟩;clear BK298 BK299 HB hq_;have BK298:=n0_;have BK299:=n1_;have HB:=n2_;clear n0_ n1_ n2_))
                    have n0_:=Aside0.mk (ug BK298.out)
                    have n1_:=Aside0.mk (ug BK299.out)
                    have n2_:=Aside0.mk (ud HB.out)
                    clear BK298
                    clear BK299
                    clear HB
                    have BK298:=n0_
                    have BK299:=n1_
                    have HB:=n2_
                    clear n0_ n1_ n2_
                    refine start_ (n:=10) (S:=fun w' => w'.cell? ⟨gb299,0,none⟩ = some (.string ((uq l0 (ji12)).f0)) ∧ w'.cell? ⟨gb299,1,none⟩ = some (.string ((uq l0 (ji12)).f1))) (ds:=[]) #[false,false,false,false,false,false,false,false,false,false] (by kernel_rfl) rfl rfl ⟨(un BK299.out 0).trans rfl,(un BK299.out 1).trans rfl⟩ (fun hHeld => ?_);refine with_tabW ul.tab12 ul.bits12 (fun HT_ HW_ => ?_)
                    generalize w35.drew = w36 at BK298 BK299 HB hHeld ⊢
                    refine pure_ (i:=0) (N:=some 64) (v:=?_) (a':=?_) #[true,false,false,false,false,false,false,false,false,false] rfl rfl (u2m HT_.out (by kernel_rfl)) (fun _ _ _ h => h) (Or.inl ⟨by rfl,?_⟩) ?_ ?_
                    rotate_left
                    ·intro w'
                     go_simp
                     with_reducible rfl
                    rotate_left
                    ·simp only [Act.put,List.setIfInBounds_toArray,List.set_cons_zero,List.set_cons_succ,i64_w,i32_w]
                     rfl
                    refine pure_ (i:=1) (N:=some 65) (v:=?_) (a':=?_) #[true,true,false,false,false,false,false,false,false,false] rfl rfl (u2m HT_.out (by kernel_rfl)) (fun _ _ _ h => h) (Or.inl ⟨by rfl,?_⟩) ?_ ?_
                    rotate_left
                    ·intro w'
                     go_simp
                     with_reducible rfl
                    rotate_left
                    ·simp only [Act.put,List.setIfInBounds_toArray,List.set_cons_zero,List.set_cons_succ,i64_w,i32_w]
                     rfl
                    refine pure_ (i:=4) (N:=some 68) (v:=?_) (a':=?_) #[true,true,false,false,true,false,false,false,false,false] rfl rfl (u2m HT_.out (by kernel_rfl)) (fun _ _ _ h => h) (Or.inl ⟨by rfl,?_⟩) ?_ ?_
                    rotate_left
                    ·intro w'
                     go_simp
                     with_reducible rfl
                    rotate_left
                    ·simp only [Act.put,List.setIfInBounds_toArray,List.set_cons_zero,List.set_cons_succ,i64_w,i32_w]
                     rfl
                    refine take_ (i:=2) (N:=some 66) (v:=?_) (a':=?_) #[true,true,true,false,true,false,false,false,false,false] rfl rfl (take_ofW HT_.out HW_.out (by kernel_rfl)) (fun _ _ _ h => h) (Or.inl ⟨by rfl,?_⟩) hHeld ?_ ?_
                    rotate_left
                    ·rintro w' ⟨s0,s1⟩
                     go_simp
                     with_reducible rfl
                    rotate_left
                    ·simp only [Act.put,List.setIfInBounds_toArray,List.set_cons_zero,List.set_cons_succ,i64_w,i32_w]
                     rfl
                    refine pure_ (i:=3) (N:=some 67) (v:=?_) (a':=?_) #[true,true,true,true,true,false,false,false,false,false] rfl rfl (u2m HT_.out (by kernel_rfl)) (fun _ _ _ h => h) (Or.inl ⟨by rfl,?_⟩) ?_ ?_
                    rotate_left
                    ·intro w'
                     go_simp
                     with_reducible rfl
                    rotate_left
                    ·simp only [Act.put,List.setIfInBounds_toArray,List.set_cons_zero,List.set_cons_succ,i64_w,i32_w]
                     rfl
                    refine take_ (i:=5) (N:=some 69) (v:=?_) (a':=?_) #[true,true,true,true,true,true,false,false,false,false] rfl rfl (take_ofW HT_.out HW_.out (by kernel_rfl)) (fun _ _ _ h => h) (Or.inl ⟨by rfl,?_⟩) hHeld ?_ ?_
                    rotate_left
                    ·rintro w' ⟨s0,s1⟩
                     go_simp
                     with_reducible rfl
                    rotate_left
                    ·simp only [Act.put,List.setIfInBounds_toArray,List.set_cons_zero,List.set_cons_succ,i64_w,i32_w]
                     rfl
                    refine one_ (i:=6) (N:=some 70) #[true,true,true,true,true,true,true,false,false,false] rfl rfl (one_of HT_.out (by kernel_rfl)) (by decide) (fun K hK => ?_)
                    refine goes_ Tryd.func11 (by kernel_rfl) rfl #[.string ((uq l0 (ji12)).f1)] (by rfl) rfl rfl (by (try simp only [List.map_toArray,List.map_cons,List.map_nil]);first | done | (simp only [hji12];rfl) | rfl | (simp only [List.length_drop,List.length_take];rfl)) ?_
                    with_reducible refine (u1h.calls k1 ((uq l0 (ji12)).f1) t301 _ A23.out).mono ?_
                    rintro e w' ⟨rfl,⟨nd,rfl⟩⟩
                    refine ⟨_,rfl,?_⟩
                    refine hK.out _ _ ⟨(un BK299.out 0).trans rfl,(un BK299.out 1).trans rfl⟩ (fun hHeld => ?_)
                    clear hK K
                    refine norm_ (a':=?_) ?_ ?_
                    rotate_left
                    ·show Act.put _ (some 70) _ = _
                     simp only [Act.put,List.setIfInBounds_toArray,List.set_cons_zero,List.set_cons_succ,i64_w,i32_w]
                     rfl
                    refine pure_ (i:=7) (N:=some 71) (v:=?_) (a':=?_) #[true,true,true,true,true,true,true,true,false,false] rfl rfl (u2m HT_.out (by kernel_rfl)) (fun _ _ _ h => h) (Or.inl ⟨by rfl,?_⟩) ?_ ?_
                    rotate_left
                    ·intro w'
                     go_simp
                     with_reducible rfl
                    rotate_left
                    ·simp only [Act.put,List.setIfInBounds_toArray,List.set_cons_zero,List.set_cons_succ,i64_w,i32_w]
                     rfl
                    refine pure_ (i:=8) (N:=some 72) (v:=?_) (a':=?_) #[true,true,true,true,true,true,true,true,true,false] rfl rfl (u2m HT_.out (by kernel_rfl)) (fun _ _ _ h => h) (Or.inl ⟨by rfl,?_⟩) ?_ ?_
                    rotate_left
                    ·intro w'
                     go_simp
                     with_reducible rfl
                    rotate_left
                    ·simp only [Act.put,List.setIfInBounds_toArray,List.set_cons_zero,List.set_cons_succ,i64_w,i32_w]
                     rfl
                    refine pure_ (i:=9) (N:=some 9) (v:=?_) (a':=?_) #[true,true,true,true,true,true,true,true,true,true] rfl rfl (u2m HT_.out (by kernel_rfl)) (fun _ _ _ h => h) (Or.inl ⟨by rfl,?_⟩) ?_ ?_
                    rotate_left
                    ·intro w'
                     go_simp
                     with_reducible rfl
                    rotate_left
                    ·simp only [Act.put,List.setIfInBounds_toArray,List.set_cons_zero,List.set_cons_succ,i64_w,i32_w]
                     rfl
                    refine done_ (done_of HT_.out (by kernel_rfl)) ?_
                    try go_wp2
                    go_roundg k1
                    case measure => have:=HK1.out;omega
                    case rel => exact ⟨((x8_1 ++ (⟨#[44]⟩:ByteArray)) ++ ((((uq l0 x33_1).f0) ++ (⟨#[61]⟩:ByteArray)) ++ t300)),((x9_1 ++ (⟨#[44]⟩:ByteArray)) ++ ((((uq l0 (ji12)).f0) ++ (⟨#[61]⟩:ByteArray)) ++ t301)),(wrap64 (x33_1 + 1)),(by first | rfl | (simp;done) | (simp [*];done)),(by first | rfl | (simp;done) | (simp only [← hji12] <;> (first | rfl | simp)) | (simp [*];done)),(by first | rfl | (simp;done) | (simp [*];done)),H',⟨by have:=HK1.out;omega⟩,⟨by repeat (first | (with_reducible first | exact HB.out | apply uc | apply ub | apply ud | refine uh ?_ GE298.out | refine uh ?_ GE299.out) | exact HB.out)⟩⟩
                   ·rw [if_neg c25] at H
                    exact absurd H (by simp)
                  ·rw [if_neg c24] at H
                   exact absurd H (by simp)
                 ·rw [if_neg c22] at H
                  exact absurd H (by simp)
                ·rw [if_neg c21] at H
                 exact absurd H (by simp)
               ·rw [if_neg c20] at H
                exact absurd H (by simp)
              ·rw [if_neg c18] at H
               exact absurd H (by simp)
             ·rw [if_neg c17] at H
              exact absurd H (by simp)
            ·rw [if_neg c16] at H
             exact absurd H (by simp)
           ·rw [if_neg c15] at H
            have c15b0:decide (0 < x33_1) = false:=decide_eq_false c15
            clear c15
            by_cases c37:((uq l0 x33_1).f0).size + 1 ≤ 9223372036854775807
            ·rw [if_pos c37] at H
             have c37b0:=eq_true c37
             have c37b1:decide (((uq l0 x33_1).f0).size + 1 ≤ 9223372036854775807) = true:=decide_eq_true c37
             try have c37b2:(9223372036854775807 < ((uq l0 x33_1).f0).size + 1) = False:=eq_false (Nat.not_lt.2 c37)
             try (have c37b3:=c37b2;simp only [ByteArray.size_append,Base.size1,(show ∀ a_ b_:UInt8,(⟨#[a_,b_]⟩:ByteArray).size = 2 from fun _ _ => rfl)] at c37b3)
             replace H:=Option.bind_eq_some_iff.mp H
             obtain ⟨t302,A380,H⟩:=H
             replace H:(if (((uq l0 x33_1).f0) ++ (⟨#[61]⟩:ByteArray)).size + t302.size ≤ 9223372036854775807 then (if x8_1.size + ((((uq l0 x33_1).f0) ++ (⟨#[61]⟩:ByteArray)) ++ t302).size ≤ 9223372036854775807 then (if ((uq l0 (ji12)).f0).size + 1 ≤ 9223372036854775807 then ((u1h.f k1 ((uq l0 (ji12)).f1)).bind fun t303 => (if (((uq l0 (ji12)).f0) ++ (⟨#[61]⟩:ByteArray)).size + t303.size ≤ 9223372036854775807 then (if x9_1.size + ((((uq l0 (ji12)).f0) ++ (⟨#[61]⟩:ByteArray)) ++ t303).size ≤ 9223372036854775807 then (ul.l0 k1 l0 a1 (wrap64 (Int.tmod (IntKind.u64.wrap (a2)) (IntKind.u64.wrap ((l0.length:Int))))) (x8_1 ++ ((((uq l0 x33_1).f0) ++ (⟨#[61]⟩:ByteArray)) ++ t302)) (x9_1 ++ ((((uq l0 (ji12)).f0) ++ (⟨#[61]⟩:ByteArray)) ++ t303)) (l0.length:Int) (wrap64 (x33_1 + 1))) else (none)) else (none))) else (none)) else (none)) else (none)) = some r:=H
             have A38:=Aside0.mk A380
             clear A380
             by_cases c39:(((uq l0 x33_1).f0) ++ (⟨#[61]⟩:ByteArray)).size + t302.size ≤ 9223372036854775807
             ·rw [if_pos c39] at H
              have c39b0:=eq_true c39
              have c39b1:decide ((((uq l0 x33_1).f0) ++ (⟨#[61]⟩:ByteArray)).size + t302.size ≤ 9223372036854775807) = true:=decide_eq_true c39
              try have c39b2:(9223372036854775807 < (((uq l0 x33_1).f0) ++ (⟨#[61]⟩:ByteArray)).size + t302.size) = False:=eq_false (Nat.not_lt.2 c39)
              try (have c39b3:=c39b2;simp only [ByteArray.size_append,Base.size1,(show ∀ a_ b_:UInt8,(⟨#[a_,b_]⟩:ByteArray).size = 2 from fun _ _ => rfl)] at c39b3)
              by_cases c40:x8_1.size + ((((uq l0 x33_1).f0) ++ (⟨#[61]⟩:ByteArray)) ++ t302).size ≤ 9223372036854775807
              ·rw [if_pos c40] at H
               have c40b0:=eq_true c40
               have c40b1:decide (x8_1.size + ((((uq l0 x33_1).f0) ++ (⟨#[61]⟩:ByteArray)) ++ t302).size ≤ 9223372036854775807) = true:=decide_eq_true c40
               try have c40b2:(9223372036854775807 < x8_1.size + ((((uq l0 x33_1).f0) ++ (⟨#[61]⟩:ByteArray)) ++ t302).size) = False:=eq_false (Nat.not_lt.2 c40)
               try (have c40b3:=c40b2;simp only [ByteArray.size_append,Base.size1,(show ∀ a_ b_:UInt8,(⟨#[a_,b_]⟩:ByteArray).size = 2 from fun _ _ => rfl)] at c40b3)
               by_cases c41:((uq l0 (ji12)).f0).size + 1 ≤ 9223372036854775807
               ·rw [if_pos c41] at H
                have c41b0:=eq_true c41
                have c41b1:decide (((uq l0 (ji12)).f0).size + 1 ≤ 9223372036854775807) = true:=decide_eq_true c41
                try have c41b2:(9223372036854775807 < ((uq l0 (ji12)).f0).size + 1) = False:=eq_false (Nat.not_lt.2 c41)
                try (have c41b3:=c41b2;simp only [ByteArray.size_append,Base.size1,(show ∀ a_ b_:UInt8,(⟨#[a_,b_]⟩:ByteArray).size = 2 from fun _ _ => rfl)] at c41b3)
                replace H:=Option.bind_eq_some_iff.mp H
                obtain ⟨t303,A420,H⟩:=H
                replace H:(if (((uq l0 (ji12)).f0) ++ (⟨#[61]⟩:ByteArray)).size + t303.size ≤ 9223372036854775807 then (if x9_1.size + ((((uq l0 (ji12)).f0) ++ (⟨#[61]⟩:ByteArray)) ++ t303).size ≤ 9223372036854775807 then (ul.l0 k1 l0 a1 (wrap64 (Int.tmod (IntKind.u64.wrap (a2)) (IntKind.u64.wrap ((l0.length:Int))))) (x8_1 ++ ((((uq l0 x33_1).f0) ++ (⟨#[61]⟩:ByteArray)) ++ t302)) (x9_1 ++ ((((uq l0 (ji12)).f0) ++ (⟨#[61]⟩:ByteArray)) ++ t303)) (l0.length:Int) (wrap64 (x33_1 + 1))) else (none)) else (none)) = some r:=H
                have A42:=Aside0.mk A420
                clear A420
                by_cases c43:(((uq l0 (ji12)).f0) ++ (⟨#[61]⟩:ByteArray)).size + t303.size ≤ 9223372036854775807
                ·rw [if_pos c43] at H
                 have c43b0:=eq_true c43
                 have c43b1:decide ((((uq l0 (ji12)).f0) ++ (⟨#[61]⟩:ByteArray)).size + t303.size ≤ 9223372036854775807) = true:=decide_eq_true c43
                 try have c43b2:(9223372036854775807 < (((uq l0 (ji12)).f0) ++ (⟨#[61]⟩:ByteArray)).size + t303.size) = False:=eq_false (Nat.not_lt.2 c43)
                 try (have c43b3:=c43b2;simp only [ByteArray.size_append,Base.size1,(show ∀ a_ b_:UInt8,(⟨#[a_,b_]⟩:ByteArray).size = 2 from fun _ _ => rfl)] at c43b3)
                 by_cases c44:x9_1.size + ((((uq l0 (ji12)).f0) ++ (⟨#[61]⟩:ByteArray)) ++ t303).size ≤ 9223372036854775807
                 ·rw [if_pos c44] at H
                  have c44b0:=eq_true c44
                  have c44b1:decide (x9_1.size + ((((uq l0 (ji12)).f0) ++ (⟨#[61]⟩:ByteArray)) ++ t303).size ≤ 9223372036854775807) = true:=decide_eq_true c44
                  try have c44b2:(9223372036854775807 < x9_1.size + ((((uq l0 (ji12)).f0) ++ (⟨#[61]⟩:ByteArray)) ++ t303).size) = False:=eq_false (Nat.not_lt.2 c44)
                  try (have c44b3:=c44b2;simp only [ByteArray.size_append,Base.size1,(show ∀ a_ b_:UInt8,(⟨#[a_,b_]⟩:ByteArray).size = 2 from fun _ _ => rfl)] at c44b3)
                  have H':=Aside0.mk H
                  clear H
                  try go_wp2
                  have n0_:=Aside0.mk (ud HB.out)
                  clear HB
                  have HB:=n0_
                  clear n0_
                  have p296:0 ≤ (x33_1:Int):=of_decide_eq_true (by first | (with_reducible assumption) | assumption)
                  have q296:x33_1 < (l0.length:Int):=of_decide_eq_true (by first | (with_reducible assumption) | assumption)
                  obtain ⟨ad296,e296,hx296_0,hx296_1⟩:=at_T37 HR0.out x33_1 p296 q296
                  have hw296_1:=hx296_1
                  have hw296_0:=hx296_0
                  cases e296
                  replace hx296_0:=(HB.out.cell (World.block_lt_of_cell? w _ hx296_0)).trans hx296_0
                  replace hx296_1:=(HB.out.cell (World.block_lt_of_cell? w _ hx296_1)).trans hx296_1
                  replace p296:=eq_true p296
                  replace q296:=eq_true q296
                  have p297:0 ≤ ((ji12):Int):=of_decide_eq_true (by first | (with_reducible assumption) | assumption)
                  have q297:(ji12) < (l0.length:Int):=of_decide_eq_true (by first | (with_reducible assumption) | assumption)
                  obtain ⟨ad297,e297,hx297_0,hx297_1⟩:=at_T37 HR0.out (ji12) p297 q297
                  have hw297_1:=hx297_1
                  have hw297_0:=hx297_0
                  obtain rfl:ad296 = ad297:=(by injection e297)
                  replace hx297_0:=(HB.out.cell (World.block_lt_of_cell? w _ hx297_0)).trans hx297_0
                  replace hx297_1:=(HB.out.cell (World.block_lt_of_cell? w _ hx297_1)).trans hx297_1
                  replace p297:=eq_true p297
                  replace q297:=eq_true q297
                  refine start_ (n:=17) (S:=fun w' => w'.cell? (ad296.add ((x33_1).toNat * 2)) = some (.string ((uq l0 x33_1).f0)) ∧ w'.cell? ⟨(ad296.add ((x33_1).toNat * 2)).block,(ad296.add ((x33_1).toNat * 2)).off + 1,none⟩ = some (.string ((uq l0 x33_1).f1)) ∧ w'.cell? (ad296.add (((ji12)).toNat * 2)) = some (.string ((uq l0 (ji12)).f0)) ∧ w'.cell? ⟨(ad296.add (((ji12)).toNat * 2)).block,(ad296.add (((ji12)).toNat * 2)).off + 1,none⟩ = some (.string ((uq l0 (ji12)).f1))) (ds:=[]) #[false,false,false,false,false,false,false,false,false,false,false,false,false,false,false,false,false] (by kernel_rfl) rfl rfl ⟨((HB.out.cell (World.block_lt_of_cell? w _ hw296_0)).trans hw296_0),((HB.out.cell (World.block_lt_of_cell? w _ hw296_1)).trans hw296_1),((HB.out.cell (World.block_lt_of_cell? w _ hw297_0)).trans hw297_0),((HB.out.cell (World.block_lt_of_cell? w _ hw297_1)).trans hw297_1)⟩ (fun hHeld => ?_);refine with_tabW ul.tab8 ul.bits8 (fun HT_ HW_ => ?_)
                  generalize wr.drew = w45 at HB hx296_0 hx296_1 hx297_0 hx297_1 hHeld ⊢
                  refine pure_ (i:=0) (N:=some 36) (v:=?_) (a':=?_) #[true,false,false,false,false,false,false,false,false,false,false,false,false,false,false,false,false] rfl rfl (u2m HT_.out (by kernel_rfl)) (fun _ _ _ h => h) (Or.inl ⟨by rfl,?_⟩) ?_ ?_
                  rotate_left
                  ·intro w'
                   go_simp
                   with_reducible rfl
                  rotate_left
                  ·simp only [Act.put,List.setIfInBounds_toArray,List.set_cons_zero,List.set_cons_succ,i64_w,i32_w]
                   rfl
                  refine pure_ (i:=1) (N:=some 37) (v:=?_) (a':=?_) #[true,true,false,false,false,false,false,false,false,false,false,false,false,false,false,false,false] rfl rfl (u2m HT_.out (by kernel_rfl)) (fun _ _ _ h => h) (Or.inl ⟨by rfl,?_⟩) ?_ ?_
                  rotate_left
                  ·intro w'
                   go_simp
                   with_reducible rfl
                  rotate_left
                  ·simp only [Act.put,List.setIfInBounds_toArray,List.set_cons_zero,List.set_cons_succ,i64_w,i32_w]
                   rfl
                  refine pure_ (i:=2) (N:=some 38) (v:=?_) (a':=?_) #[true,true,true,false,false,false,false,false,false,false,false,false,false,false,false,false,false] rfl rfl (u2m HT_.out (by kernel_rfl)) (fun _ _ _ h => h) (Or.inl ⟨by rfl,?_⟩) ?_ ?_
                  rotate_left
                  ·intro w'
                   go_simp
                   with_reducible rfl
                  rotate_left
                  ·simp only [Act.put,List.setIfInBounds_toArray,List.set_cons_zero,List.set_cons_succ,i64_w,i32_w]
                   rfl
                  refine pure_ (i:=4) (N:=some 40) (v:=?_) (a':=?_) #[true,true,true,false,true,false,false,false,false,false,false,false,false,false,false,false,false] rfl rfl (u2m HT_.out (by kernel_rfl)) (fun _ _ _ h => h) (Or.inl ⟨by rfl,?_⟩) ?_ ?_
                  rotate_left
                  ·intro w'
                   go_simp
                   with_reducible rfl
                  rotate_left
                  ·simp only [Act.put,List.setIfInBounds_toArray,List.set_cons_zero,List.set_cons_succ,i64_w,i32_w]
                   rfl
                  refine pure_ (i:=5) (N:=some 41) (v:=?_) (a':=?_) #[true,true,true,false,true,true,false,false,false,false,false,false,false,false,false,false,false] rfl rfl (u2m HT_.out (by kernel_rfl)) (fun _ _ _ h => h) (Or.inl ⟨by rfl,?_⟩) ?_ ?_
                  rotate_left
                  ·intro w'
                   go_simp
                   with_reducible rfl
                  rotate_left
                  ·simp only [Act.put,List.setIfInBounds_toArray,List.set_cons_zero,List.set_cons_succ,i64_w,i32_w]
                   rfl
                  refine pure_ (i:=6) (N:=some 42) (v:=?_) (a':=?_) #[true,true,true,false,true,true,true,false,false,false,false,false,false,false,false,false,false] rfl rfl (u2m HT_.out (by kernel_rfl)) (fun _ _ _ h => h) (Or.inl ⟨by rfl,?_⟩) ?_ ?_
                  rotate_left
                  ·intro w'
                   go_simp
                   with_reducible rfl
                  rotate_left
                  ·simp only [Act.put,List.setIfInBounds_toArray,List.set_cons_zero,List.set_cons_succ,i64_w,i32_w]
                   rfl
                  refine pure_ (i:=7) (N:=some 43) (v:=?_) (a':=?_) #[true,true,true,false,true,true,true,true,false,false,false,false,false,false,false,false,false] rfl rfl (u2m HT_.out (by kernel_rfl)) (fun _ _ _ h => h) (Or.inl ⟨by rfl,?_⟩) ?_ ?_
                  rotate_left
                  ·intro w'
                   go_simp
                   with_reducible rfl
                  rotate_left
                  ·simp only [Act.put,List.setIfInBounds_toArray,List.set_cons_zero,List.set_cons_succ,i64_w,i32_w]
                   rfl
                  refine pure_ (i:=8) (N:=some 44) (v:=?_) (a':=?_) #[true,true,true,false,true,true,true,true,true,false,false,false,false,false,false,false,false] rfl rfl (u2m HT_.out (by kernel_rfl)) (fun _ _ _ h => h) (Or.inl ⟨by rfl,?_⟩) ?_ ?_
                  rotate_left
                  ·intro w'
                   go_simp
                   with_reducible rfl
                  rotate_left
                  ·simp only [Act.put,List.setIfInBounds_toArray,List.set_cons_zero,List.set_cons_succ,i64_w,i32_w]
                   rfl
                  refine pure_ (i:=9) (N:=some 45) (v:=?_) (a':=?_) #[true,true,true,false,true,true,true,true,true,true,false,false,false,false,false,false,false] rfl rfl (u2m HT_.out (by kernel_rfl)) (fun _ _ _ h => h) (Or.inl ⟨by rfl,?_⟩) ?_ ?_
                  rotate_left
                  ·intro w'
                   go_simp
                   with_reducible rfl
                  rotate_left
                  ·simp only [Act.put,List.setIfInBounds_toArray,List.set_cons_zero,List.set_cons_succ,i64_w,i32_w]
                   rfl
                  refine pure_ (i:=10) (N:=some 46) (v:=?_) (a':=?_) #[true,true,true,false,true,true,true,true,true,true,true,false,false,false,false,false,false] rfl rfl (u2m HT_.out (by kernel_rfl)) (fun _ _ _ h => h) (Or.inl ⟨by rfl,?_⟩) ?_ ?_
                  rotate_left
                  ·intro w'
                   go_simp
                   with_reducible rfl
                  rotate_left
                  ·simp only [Act.put,List.setIfInBounds_toArray,List.set_cons_zero,List.set_cons_succ,i64_w,i32_w]
                   rfl
                  refine pure_ (i:=11) (N:=some 47) (v:=?_) (a':=?_) #[true,true,true,false,true,true,true,true,true,true,true,true,false,false,false,false,false] rfl rfl (u2m HT_.out (by kernel_rfl)) (fun _ _ _ h => h) (Or.inl ⟨by rfl,?_⟩) ?_ ?_
                  rotate_left
                  ·intro w'
                   go_simp
                   with_reducible rfl
                  rotate_left
                  ·simp only [Act.put,List.setIfInBounds_toArray,List.set_cons_zero,List.set_cons_succ,i64_w,i32_w]
                   rfl
                  refine take_ (i:=3) (N:=some 39) (v:=?_) (a':=?_) #[true,true,true,true,true,true,true,true,true,true,true,true,false,false,false,false,false] rfl rfl (take_ofW HT_.out HW_.out (by kernel_rfl)) (fun _ _ _ h => h) (Or.inl ⟨by rfl,?_⟩) hHeld ?_ ?_
                  rotate_left
                  ·rintro w' ⟨s0,s1,s2,s3⟩
                   go_simp
                   with_reducible rfl
                  rotate_left
                  ·simp only [Act.put,List.setIfInBounds_toArray,List.set_cons_zero,List.set_cons_succ,i64_w,i32_w]
                   rfl
                  refine take_ (i:=12) (N:=some 48) (v:=?_) (a':=?_) #[true,true,true,true,true,true,true,true,true,true,true,true,true,false,false,false,false] rfl rfl (take_ofW HT_.out HW_.out (by kernel_rfl)) (fun _ _ _ h => h) (Or.inl ⟨by rfl,?_⟩) hHeld ?_ ?_
                  rotate_left
                  ·rintro w' ⟨s0,s1,s2,s3⟩
                   go_simp
                   with_reducible rfl
                  rotate_left
                  ·simp only [Act.put,List.setIfInBounds_toArray,List.set_cons_zero,List.set_cons_succ,i64_w,i32_w]
                   rfl
                  refine join_ (σ:=Nat × Nat) 2 #[true,true,true,true,true,true,true,true,true,true,true,true,true,true,true,false,false] (fun s_ => [(11,.pointer (some ⟨s_.1,0,none⟩)),(12,.pointer (some ⟨s_.2,0,none⟩))]) (fun s_ w' => (w'.cell? (ad296.add ((x33_1).toNat * 2)) = some (.string ((uq l0 x33_1).f0)) ∧ w'.cell? ⟨(ad296.add ((x33_1).toNat * 2)).block,(ad296.add ((x33_1).toNat * 2)).off + 1,none⟩ = some (.string ((uq l0 x33_1).f1)) ∧ w'.cell? (ad296.add (((ji12)).toNat * 2)) = some (.string ((uq l0 (ji12)).f0)) ∧ w'.cell? ⟨(ad296.add (((ji12)).toNat * 2)).block,(ad296.add (((ji12)).toNat * 2)).off + 1,none⟩ = some (.string ((uq l0 (ji12)).f1))) ∧ (w'.heap[s_.1]? = some (.cells #[.string (⟨#[]⟩:ByteArray),.string (⟨#[]⟩:ByteArray)] 37 (0,0))) ∧ (w'.heap[s_.2]? = some (.cells #[.string (⟨#[]⟩:ByteArray),.string (⟨#[]⟩:ByteArray)] 37 (0,0))) ∧ (w.heap.size ≤ s_.1) ∧ (w.heap.size ≤ s_.1) ∧ (s_.2 ≠ s_.1) ∧ (s_.1 ≠ s_.2) ∧ (w.heap.size ≤ s_.2) ∧ (w.heap.size ≤ s_.2) ∧ (Below w.heap.size w w')) ?_ ?_
                  rotate_left
                  ·intro hCont
                   refine two_ (i:=13) (j:=14) (Ni:=some 11) (Nj:=some 12) #[true,true,true,true,true,true,true,true,true,true,true,true,true,true,false,false,false] #[true,true,true,true,true,true,true,true,true,true,true,true,true,false,true,false,false] rfl rfl rfl rfl (two_of HT_.out (by kernel_rfl)) (by decide) (by decide) (fun K hK => ?_) (fun K hK => ?_)
                   ·skip
                    refine box_step ?hg (N:=11) ?hd (cs:=#[.string (⟨#[]⟩:ByteArray),.string (⟨#[]⟩:ByteArray)]) (t:=37) ?hr ?_;(case hd => rfl);(case hg => rfl);(case hr => first | (go_simp;done) | (go_simp;rfl))
                    intro gb298 hg w46 hbox hb
                    have n0_:=Aside0.mk (uw (by repeat (first | (with_reducible first | exact HB.out | apply uc | apply ub | apply ud) | exact HB.out)) hb)
                    have n1_:=Aside0.mk (hbox)
                    have n2_:=Aside0.mk ((by rw [hg];exact (us (by repeat (first | (with_reducible first | exact HB.out | apply uc | apply ub | apply ud) | exact HB.out))):w.heap.size ≤ gb298))
                    have n3_:=Aside0.mk ((by rw [hg];exact (us (by repeat (first | (with_reducible first | exact HB.out | apply uc | apply ub | apply ud) | exact HB.out))):w.heap.size ≤ gb298))
                    clear HB
                    have HB:=n0_
                    have BK298:=n1_
                    have GW298:=n2_
                    have GE298:=n3_
                    clear n0_ n1_ n2_ n3_
                    clear hb hbox hg
                    refine hK.out _ _ ⟨((HB.out.cell (World.block_lt_of_cell? w _ hw296_0)).trans hw296_0),((HB.out.cell (World.block_lt_of_cell? w _ hw296_1)).trans hw296_1),((HB.out.cell (World.block_lt_of_cell? w _ hw297_0)).trans hw297_0),((HB.out.cell (World.block_lt_of_cell? w _ hw297_1)).trans hw297_1)⟩ (fun hHeld => ?_)
                    clear hK K
                    refine norm_ (a':=?_) ?_ ?_
                    rotate_left
                    ·show Act.put _ (some 11) _ = _
                     simp only [Act.put,List.setIfInBounds_toArray,List.set_cons_zero,List.set_cons_succ,i64_w,i32_w]
                     rfl
                    refine one_ (i:=14) (N:=some 12) #[true,true,true,true,true,true,true,true,true,true,true,true,true,true,true,false,false] rfl rfl (one_of HT_.out (by kernel_rfl)) (by decide) (fun K hK => ?_)
                    refine box_step ?hg (N:=12) ?hd (cs:=#[.string (⟨#[]⟩:ByteArray),.string (⟨#[]⟩:ByteArray)]) (t:=37) ?hr ?_;(case hd => rfl);(case hg => rfl);(case hr => first | (go_simp;done) | (go_simp;rfl))
                    intro gb299 hg w47 hbox hb
                    have n0_:=Aside0.mk (uz (g:=gb298) (o:=.cells #[.string (⟨#[]⟩:ByteArray),.string (⟨#[]⟩:ByteArray)] 37 (0,0)) (by (with_reducible repeat (first | refine uf ?_ _ | refine ug ?_ | refine ue ?_ _));exact BK298.out) hb)
                    have n1_:=Aside0.mk (uw (by repeat (first | (with_reducible first | exact HB.out | apply uc | apply ub | apply ud | refine uh ?_ GE298.out) | exact HB.out)) hb)
                    have n2_:=Aside0.mk (hbox)
                    have n3_:=Aside0.mk ((by rw [hg];exact (us (by repeat (first | (with_reducible first | exact HB.out | apply uc | apply ub | apply ud | refine uh ?_ GE298.out) | exact HB.out))):w.heap.size ≤ gb299))
                    have n4_:=Aside0.mk ((by rw [hg];exact (us (by repeat (first | (with_reducible first | exact HB.out | apply uc | apply ub | apply ud | refine uh ?_ GE298.out) | exact HB.out))):w.heap.size ≤ gb299))
                    have n5_:=Aside0.mk ((by rw [hg];exact Nat.ne_of_lt (u1n (g:=gb298) (o:=.cells #[.string (⟨#[]⟩:ByteArray),.string (⟨#[]⟩:ByteArray)] 37 (0,0)) (by (with_reducible repeat (first | refine uf ?_ _ | refine ug ?_ | refine ue ?_ _));exact BK298.out)):gb298 ≠ gb299))
                    have n6_:=Aside0.mk ((by rw [hg];exact Nat.ne_of_gt (u1n (g:=gb298) (o:=.cells #[.string (⟨#[]⟩:ByteArray),.string (⟨#[]⟩:ByteArray)] 37 (0,0)) (by (with_reducible repeat (first | refine uf ?_ _ | refine ug ?_ | refine ue ?_ _));exact BK298.out)):gb299 ≠ gb298))
                    clear BK298
                    clear HB
                    have BK298:=n0_
                    have HB:=n1_
                    have BK299:=n2_
                    have GW299:=n3_
                    have GE299:=n4_
                    have NB298_299:=n5_
                    have NB299_298:=n6_
                    clear n0_ n1_ n2_ n3_ n4_ n5_ n6_
                    clear hb hbox hg
                    refine hK.out _ _ ⟨((HB.out.cell (World.block_lt_of_cell? w _ hw296_0)).trans hw296_0),((HB.out.cell (World.block_lt_of_cell? w _ hw296_1)).trans hw296_1),((HB.out.cell (World.block_lt_of_cell? w _ hw297_0)).trans hw297_0),((HB.out.cell (World.block_lt_of_cell? w _ hw297_1)).trans hw297_1)⟩ (fun hHeld => ?_)
                    clear hK K
                    refine norm_ (a':=?_) ?_ ?_
                    rotate_left
                    ·show Act.put _ (some 12) _ = _
                     simp only [Act.put,List.setIfInBounds_toArray,List.set_cons_zero,List.set_cons_succ,i64_w,i32_w]
                     rfl
                    exact norm_ (by simp only [putAll,Act.put,List.setIfInBounds_toArray,List.set_cons_zero,List.set_cons_succ]) (hCont (gb298,gb299) _ ⟨hHeld,(by (with_reducible repeat (first | refine uf ?_ _ | refine ug ?_ | refine ue ?_ _));exact BK298.out),(by (with_reducible repeat (first | refine uf ?_ _ | refine ug ?_ | refine ue ?_ _));exact BK299.out),GW298.out,GE298.out,NB299_298.out,NB298_299.out,GW299.out,GE299.out,(by repeat (first | (with_reducible first | exact HB.out | apply uc | apply ub | apply ud | refine uh ?_ GE298.out | refine uh ?_ GE299.out) | exact HB.out))⟩)
                   ·skip
                    refine box_step ?hg (N:=12) ?hd (cs:=#[.string (⟨#[]⟩:ByteArray),.string (⟨#[]⟩:ByteArray)]) (t:=37) ?hr ?_;(case hd => rfl);(case hg => rfl);(case hr => first | (go_simp;done) | (go_simp;rfl))
                    intro gb299 hg w46 hbox hb
                    have n0_:=Aside0.mk (uw (by repeat (first | (with_reducible first | exact HB.out | apply uc | apply ub | apply ud) | exact HB.out)) hb)
                    have n1_:=Aside0.mk (hbox)
                    have n2_:=Aside0.mk ((by rw [hg];exact (us (by repeat (first | (with_reducible first | exact HB.out | apply uc | apply ub | apply ud) | exact HB.out))):w.heap.size ≤ gb299))
                    have n3_:=Aside0.mk ((by rw [hg];exact (us (by repeat (first | (with_reducible first | exact HB.out | apply uc | apply ub | apply ud) | exact HB.out))):w.heap.size ≤ gb299))
                    clear HB
                    have HB:=n0_
                    have BK299:=n1_
                    have GW299:=n2_
                    have GE299:=n3_
                    clear n0_ n1_ n2_ n3_
                    clear hb hbox hg
                    refine hK.out _ _ ⟨((HB.out.cell (World.block_lt_of_cell? w _ hw296_0)).trans hw296_0),((HB.out.cell (World.block_lt_of_cell? w _ hw296_1)).trans hw296_1),((HB.out.cell (World.block_lt_of_cell? w _ hw297_0)).trans hw297_0),((HB.out.cell (World.block_lt_of_cell? w _ hw297_1)).trans hw297_1)⟩ (fun hHeld => ?_)
                    clear hK K
                    refine norm_ (a':=?_) ?_ ?_
                    rotate_left
                    ·show Act.put _ (some 12) _ = _
                     simp only [Act.put,List.setIfInBounds_toArray,List.set_cons_zero,List.set_cons_succ,i64_w,i32_w]
                     rfl
                    refine one_ (i:=13) (N:=some 11) #[true,true,true,true,true,true,true,true,true,true,true,true,true,true,true,false,false] rfl rfl (one_of HT_.out (by kernel_rfl)) (by decide) (fun K hK => ?_)
                    refine box_step ?hg (N:=11) ?hd (cs:=#[.string (⟨#[]⟩:ByteArray),.string (⟨#[]⟩:ByteArray)]) (t:=37) ?hr ?_;(case hd => rfl);(case hg => rfl);(case hr => first | (go_simp;done) | (go_simp;rfl))
                    intro gb298 hg w47 hbox hb
                    have n0_:=Aside0.mk (uz (g:=gb299) (o:=.cells #[.string (⟨#[]⟩:ByteArray),.string (⟨#[]⟩:ByteArray)] 37 (0,0)) (by (with_reducible repeat (first | refine uf ?_ _ | refine ug ?_ | refine ue ?_ _));exact BK299.out) hb)
                    have n1_:=Aside0.mk (uw (by repeat (first | (with_reducible first | exact HB.out | apply uc | apply ub | apply ud | refine uh ?_ GE299.out) | exact HB.out)) hb)
                    have n2_:=Aside0.mk (hbox)
                    have n3_:=Aside0.mk ((by rw [hg];exact (us (by repeat (first | (with_reducible first | exact HB.out | apply uc | apply ub | apply ud | refine uh ?_ GE299.out) | exact HB.out))):w.heap.size ≤ gb298))
                    have n4_:=Aside0.mk ((by rw [hg];exact (us (by repeat (first | (with_reducible first | exact HB.out | apply uc | apply ub | apply ud | refine uh ?_ GE299.out) | exact HB.out))):w.heap.size ≤ gb298))
                    have n5_:=Aside0.mk ((by rw [hg];exact Nat.ne_of_lt (u1n (g:=gb299) (o:=.cells #[.string (⟨#[]⟩:ByteArray),.string (⟨#[]⟩:ByteArray)] 37 (0,0)) (by (with_reducible repeat (first | refine uf ?_ _ | refine ug ?_ | refine ue ?_ _));exact BK299.out)):gb299 ≠ gb298))
                    have n6_:=Aside0.mk ((by rw [hg];exact Nat.ne_of_gt (u1n (g:=gb299) (o:=.cells #[.string (⟨#[]⟩:ByteArray),.string (⟨#[]⟩:ByteArray)] 37 (0,0)) (by (with_reducible repeat (first | refine uf ?_ _ | refine ug ?_ | refine ue ?_ _));exact BK299.out)):gb298 ≠ gb299))
                    clear BK299
                    clear HB
                    have BK299:=n0_
                    have HB:=n1_
                    have BK298:=n2_
                    have GW298:=n3_
                    have GE298:=n4_
                    have NB299_298:=n5_
                    have NB298_299:=n6_
                    clear n0_ n1_ n2_ n3_ n4_ n5_ n6_
                    clear hb hbox hg
                    refine hK.out _ _ ⟨((HB.out.cell (World.block_lt_of_cell? w _ hw296_0)).trans hw296_0),((HB.out.cell (World.block_lt_of_cell? w _ hw296_1)).trans hw296_1),((HB.out.cell (World.block_lt_of_cell? w _ hw297_0)).trans hw297_0),((HB.out.cell (World.block_lt_of_cell? w _ hw297_1)).trans hw297_1)⟩ (fun hHeld => ?_)
                    clear hK K
                    refine norm_ (a':=?_) ?_ ?_
                    rotate_left
                    ·show Act.put _ (some 11) _ = _
                     simp only [Act.put,List.setIfInBounds_toArray,List.set_cons_zero,List.set_cons_succ,i64_w,i32_w]
                     rfl
                    exact norm_ (by simp only [putAll,Act.put,List.setIfInBounds_toArray,List.set_cons_zero,List.set_cons_succ]) (hCont (gb298,gb299) _ ⟨hHeld,(by (with_reducible repeat (first | refine uf ?_ _ | refine ug ?_ | refine ue ?_ _));exact BK298.out),(by (with_reducible repeat (first | refine uf ?_ _ | refine ug ?_ | refine ue ?_ _));exact BK299.out),GW298.out,GE298.out,NB299_298.out,NB298_299.out,GW299.out,GE299.out,(by repeat (first | (with_reducible first | exact HB.out | apply uc | apply ub | apply ud | refine uh ?_ GE299.out | refine uh ?_ GE298.out) | exact HB.out))⟩)
                  rintro ⟨gb298,gb299⟩ w48 ⟨hS_,h0_,h1_,h2_,h3_,h4_,h5_,h6_,h7_,h8_⟩
                  have n0_:Aside0 (w48.heap[gb298]? = some (.cells #[.string (⟨#[]⟩:ByteArray),.string (⟨#[]⟩:ByteArray)] 37 (0,0))):=⟨h0_⟩
                  have n1_:Aside0 (w48.heap[gb299]? = some (.cells #[.string (⟨#[]⟩:ByteArray),.string (⟨#[]⟩:ByteArray)] 37 (0,0))):=⟨h1_⟩
                  have n2_:Aside0 (w.heap.size ≤ gb298):=⟨h2_⟩
                  have n3_:Aside0 (w.heap.size ≤ gb298):=⟨h3_⟩
                  have n4_:Aside0 (gb299 ≠ gb298):=⟨h4_⟩
                  have n5_:Aside0 (gb298 ≠ gb299):=⟨h5_⟩
                  have n6_:Aside0 (w.heap.size ≤ gb299):=⟨h6_⟩
                  have n7_:Aside0 (w.heap.size ≤ gb299):=⟨h7_⟩
                  have n8_:Aside0 (Below w.heap.size w w48):=⟨h8_⟩
                  clear HB
                  clear h0_ h1_ h2_ h3_ h4_ h5_ h6_ h7_ h8_
                  have BK298:=n0_
                  have BK299:=n1_
                  have GW298:=n2_
                  have GE298:=n3_
                  have NB299_298:=n4_
                  have NB298_299:=n5_
                  have GW299:=n6_
                  have GE299:=n7_
                  have HB:=n8_
                  clear n0_ n1_ n2_ n3_ n4_ n5_ n6_ n7_ n8_
                  have hHeld:w48.cell? (ad296.add ((x33_1).toNat * 2)) = some (.string ((uq l0 x33_1).f0)) ∧ w48.cell? ⟨(ad296.add ((x33_1).toNat * 2)).block,(ad296.add ((x33_1).toNat * 2)).off + 1,none⟩ = some (.string ((uq l0 x33_1).f1)) ∧ w48.cell? (ad296.add (((ji12)).toNat * 2)) = some (.string ((uq l0 (ji12)).f0)) ∧ w48.cell? ⟨(ad296.add (((ji12)).toNat * 2)).block,(ad296.add (((ji12)).toNat * 2)).off + 1,none⟩ = some (.string ((uq l0 (ji12)).f1)):=hS_
                  refine norm_ (a':=?_) ?_ ?_
                  rotate_left
                  ·simp only [putAll,Act.put,List.setIfInBounds_toArray,List.set_cons_zero,List.set_cons_succ]
                   rfl
                  refine one_ (i:=15) (N:=none) #[true,true,true,true,true,true,true,true,true,true,true,true,true,true,true,true,false] rfl rfl (one_of HT_.out (by kernel_rfl)) (by decide) (fun K hK => ?_)
                  have hs49:w48.cell? ⟨gb298,0,none⟩ = some (.string (⟨#[]⟩:ByteArray)):=(un BK298.out 0).trans rfl
                  have hfs49:=um BK298.out 0
                  have hns49_1:=NB299_298.out
                  have hms49_1:=NB298_299.out
                  have hs50:w48.cell? ⟨gb298,1,none⟩ = some (.string (⟨#[]⟩:ByteArray)):=(un BK298.out 1).trans rfl
                  have hfs50:=um BK298.out 1
                  have hns50_1:=NB299_298.out
                  have hms50_1:=NB298_299.out
                  refine skip_ (w1:=?_) (by rfl) rfl ?_ ?_
                  rotate_left
                  ·go_simp
                   rfl
                  refine hK.out _ _ ⟨((u2k (p:=⟨gb298,_,none⟩) (by first | exact Nat.ne_of_lt (Nat.lt_of_lt_of_le (by have:=World.block_lt_of_cell? _ _ hw296_0;first | rwa [uj] at this | exact this) GW298.out) | (rw [uj];exact Nat.ne_of_lt (Nat.lt_of_lt_of_le (by have:=World.block_lt_of_cell? _ _ hw296_0;first | rwa [uj] at this | exact this) GW298.out)) | (show (Addr.add _ _).block ≠ _;rw [uj];exact Nat.ne_of_lt (Nat.lt_of_lt_of_le (by have:=World.block_lt_of_cell? _ _ hw296_0;first | rwa [uj] at this | exact this) GW298.out)) | (dsimp only;exact Nat.ne_of_lt (Nat.lt_of_lt_of_le (by have:=World.block_lt_of_cell? _ _ hw296_0;first | rwa [uj] at this | exact this) GW298.out))) _).trans (((u2k (p:=⟨gb298,_,none⟩) (by first | exact Nat.ne_of_lt (Nat.lt_of_lt_of_le (by have:=World.block_lt_of_cell? _ _ hw296_0;first | rwa [uj] at this | exact this) GW298.out) | (rw [uj];exact Nat.ne_of_lt (Nat.lt_of_lt_of_le (by have:=World.block_lt_of_cell? _ _ hw296_0;first | rwa [uj] at this | exact this) GW298.out)) | (show (Addr.add _ _).block ≠ _;rw [uj];exact Nat.ne_of_lt (Nat.lt_of_lt_of_le (by have:=World.block_lt_of_cell? _ _ hw296_0;first | rwa [uj] at this | exact this) GW298.out)) | (dsimp only;exact Nat.ne_of_lt (Nat.lt_of_lt_of_le (by have:=World.block_lt_of_cell? _ _ hw296_0;first | rwa [uj] at this | exact this) GW298.out))) _).trans (hHeld.1)))),((u2k (p:=⟨gb298,_,none⟩) (by first | exact Nat.ne_of_lt (Nat.lt_of_lt_of_le (by have:=World.block_lt_of_cell? _ _ hw296_1;first | rwa [uj] at this | exact this) GW298.out) | (rw [uj];exact Nat.ne_of_lt (Nat.lt_of_lt_of_le (by have:=World.block_lt_of_cell? _ _ hw296_1;first | rwa [uj] at this | exact this) GW298.out)) | (show (Addr.add _ _).block ≠ _;rw [uj];exact Nat.ne_of_lt (Nat.lt_of_lt_of_le (by have:=World.block_lt_of_cell? _ _ hw296_1;first | rwa [uj] at this | exact this) GW298.out)) | (dsimp only;exact Nat.ne_of_lt (Nat.lt_of_lt_of_le (by have:=World.block_lt_of_cell? _ _ hw296_1;first | rwa [uj] at this | exact this) GW298.out))) _).trans (((u2k (p:=⟨gb298,_,none⟩) (by first | exact Nat.ne_of_lt (Nat.lt_of_lt_of_le (by have:=World.block_lt_of_cell? _ _ hw296_1;first | rwa [uj] at this | exact this) GW298.out) | (rw [uj];exact Nat.ne_of_lt (Nat.lt_of_lt_of_le (by have:=World.block_lt_of_cell? _ _ hw296_1;first | rwa [uj] at this | exact this) GW298.out)) | (show (Addr.add _ _).block ≠ _;rw [uj];exact Nat.ne_of_lt (Nat.lt_of_lt_of_le (by have:=World.block_lt_of_cell? _ _ hw296_1;first | rwa [uj] at this | exact this) GW298.out)) | (dsimp only;exact Nat.ne_of_lt (Nat.lt_of_lt_of_le (by have:=World.block_lt_of_cell? _ _ hw296_1;first | rwa [uj] at this | exact this) GW298.out))) _).trans (hHeld.2.1)))),((u2k (p:=⟨gb298,_,none⟩) (by first | exact Nat.ne_of_lt (Nat.lt_of_lt_of_le (by have:=World.block_lt_of_cell? _ _ hw297_0;first | rwa [uj] at this | exact this) GW298.out) | (rw [uj];exact Nat.ne_of_lt (Nat.lt_of_lt_of_le (by have:=World.block_lt_of_cell? _ _ hw297_0;first | rwa [uj] at this | exact this) GW298.out)) | (show (Addr.add _ _).block ≠ _;rw [uj];exact Nat.ne_of_lt (Nat.lt_of_lt_of_le (by have:=World.block_lt_of_cell? _ _ hw297_0;first | rwa [uj] at this | exact this) GW298.out)) | (dsimp only;exact Nat.ne_of_lt (Nat.lt_of_lt_of_le (by have:=World.block_lt_of_cell? _ _ hw297_0;first | rwa [uj] at this | exact this) GW298.out))) _).trans (((u2k (p:=⟨gb298,_,none⟩) (by first | exact Nat.ne_of_lt (Nat.lt_of_lt_of_le (by have:=World.block_lt_of_cell? _ _ hw297_0;first | rwa [uj] at this | exact this) GW298.out) | (rw [uj];exact Nat.ne_of_lt (Nat.lt_of_lt_of_le (by have:=World.block_lt_of_cell? _ _ hw297_0;first | rwa [uj] at this | exact this) GW298.out)) | (show (Addr.add _ _).block ≠ _;rw [uj];exact Nat.ne_of_lt (Nat.lt_of_lt_of_le (by have:=World.block_lt_of_cell? _ _ hw297_0;first | rwa [uj] at this | exact this) GW298.out)) | (dsimp only;exact Nat.ne_of_lt (Nat.lt_of_lt_of_le (by have:=World.block_lt_of_cell? _ _ hw297_0;first | rwa [uj] at this | exact this) GW298.out))) _).trans (hHeld.2.2.1)))),((u2k (p:=⟨gb298,_,none⟩) (by first | exact Nat.ne_of_lt (Nat.lt_of_lt_of_le (by have:=World.block_lt_of_cell? _ _ hw297_1;first | rwa [uj] at this | exact this) GW298.out) | (rw [uj];exact Nat.ne_of_lt (Nat.lt_of_lt_of_le (by have:=World.block_lt_of_cell? _ _ hw297_1;first | rwa [uj] at this | exact this) GW298.out)) | (show (Addr.add _ _).block ≠ _;rw [uj];exact Nat.ne_of_lt (Nat.lt_of_lt_of_le (by have:=World.block_lt_of_cell? _ _ hw297_1;first | rwa [uj] at this | exact this) GW298.out)) | (dsimp only;exact Nat.ne_of_lt (Nat.lt_of_lt_of_le (by have:=World.block_lt_of_cell? _ _ hw297_1;first | rwa [uj] at this | exact this) GW298.out))) _).trans (((u2k (p:=⟨gb298,_,none⟩) (by first | exact Nat.ne_of_lt (Nat.lt_of_lt_of_le (by have:=World.block_lt_of_cell? _ _ hw297_1;first | rwa [uj] at this | exact this) GW298.out) | (rw [uj];exact Nat.ne_of_lt (Nat.lt_of_lt_of_le (by have:=World.block_lt_of_cell? _ _ hw297_1;first | rwa [uj] at this | exact this) GW298.out)) | (show (Addr.add _ _).block ≠ _;rw [uj];exact Nat.ne_of_lt (Nat.lt_of_lt_of_le (by have:=World.block_lt_of_cell? _ _ hw297_1;first | rwa [uj] at this | exact this) GW298.out)) | (dsimp only;exact Nat.ne_of_lt (Nat.lt_of_lt_of_le (by have:=World.block_lt_of_cell? _ _ hw297_1;first | rwa [uj] at this | exact this) GW298.out))) _).trans (hHeld.2.2.2))))⟩ (fun hHeld => ?_)
                  clear hK K
                  refine one_ (i:=16) (N:=none) #[true,true,true,true,true,true,true,true,true,true,true,true,true,true,true,true,true] rfl rfl (one_of HT_.out (by kernel_rfl)) (by decide) (fun K hK => ?_)
                  have hs51:w48.cell? ⟨gb299,0,none⟩ = some (.string (⟨#[]⟩:ByteArray)):=(un BK299.out 0).trans rfl
                  have hfs51:=um BK299.out 0
                  have hns51_0:=NB298_299.out
                  have hms51_0:=NB299_298.out
                  have hs52:w48.cell? ⟨gb299,1,none⟩ = some (.string (⟨#[]⟩:ByteArray)):=(un BK299.out 1).trans rfl
                  have hfs52:=um BK299.out 1
                  have hns52_0:=NB298_299.out
                  have hms52_0:=NB299_298.out
                  refine skip_ (w1:=?_) (by rfl) rfl ?_ ?_
                  rotate_left
                  ·go_simp
                   rfl
                  refine hK.out _ _ ⟨((u2k (p:=⟨gb299,_,none⟩) (by first | exact Nat.ne_of_lt (Nat.lt_of_lt_of_le (by have:=World.block_lt_of_cell? _ _ hw296_0;first | rwa [uj] at this | exact this) GW299.out) | (rw [uj];exact Nat.ne_of_lt (Nat.lt_of_lt_of_le (by have:=World.block_lt_of_cell? _ _ hw296_0;first | rwa [uj] at this | exact this) GW299.out)) | (show (Addr.add _ _).block ≠ _;rw [uj];exact Nat.ne_of_lt (Nat.lt_of_lt_of_le (by have:=World.block_lt_of_cell? _ _ hw296_0;first | rwa [uj] at this | exact this) GW299.out)) | (dsimp only;exact Nat.ne_of_lt (Nat.lt_of_lt_of_le (by have:=World.block_lt_of_cell? _ _ hw296_0;first | rwa [uj] at this | exact this) GW299.out))) _).trans (((u2k (p:=⟨gb299,_,none⟩) (by first | exact Nat.ne_of_lt (Nat.lt_of_lt_of_le (by have:=World.block_lt_of_cell? _ _ hw296_0;first | rwa [uj] at this | exact this) GW299.out) | (rw [uj];exact Nat.ne_of_lt (Nat.lt_of_lt_of_le (by have:=World.block_lt_of_cell? _ _ hw296_0;first | rwa [uj] at this | exact this) GW299.out)) | (show (Addr.add _ _).block ≠ _;rw [uj];exact Nat.ne_of_lt (Nat.lt_of_lt_of_le (by have:=World.block_lt_of_cell? _ _ hw296_0;first | rwa [uj] at this | exact this) GW299.out)) | (dsimp only;exact Nat.ne_of_lt (Nat.lt_of_lt_of_le (by have:=World.block_lt_of_cell? _ _ hw296_0;first | rwa [uj] at this | exact this) GW299.out))) _).trans (hHeld.1)))),((u2k (p:=⟨gb299,_,none⟩) (by first | exact Nat.ne_of_lt (Nat.lt_of_lt_of_le (by have:=World.block_lt_of_cell? _ _ hw296_1;first | rwa [uj] at this | exact this) GW299.out) | (rw [uj];exact Nat.ne_of_lt (Nat.lt_of_lt_of_le (by have:=World.block_lt_of_cell? _ _ hw296_1;first | rwa [uj] at this | exact this) GW299.out)) | (show (Addr.add _ _).block ≠ _;rw [uj];exact Nat.ne_of_lt (Nat.lt_of_lt_of_le (by have:=World.block_lt_of_cell? _ _ hw296_1;first | rwa [uj] at this | exact this) GW299.out)) | (dsimp only;exact Nat.ne_of_lt (Nat.lt_of_lt_of_le (by have:=World.block_lt_of_cell? _ _ hw296_1;first | rwa [uj] at this | exact this) GW299.out))) _).trans (((u2k (p:=⟨gb299,_,none⟩) (by first | exact Nat.ne_of_lt (Nat.lt_of_lt_of_le (by have:=World.block_lt_of_cell? _ _ hw296_1;first | rwa [uj] at this | exact this) GW299.out) | (rw [uj];exact Nat.ne_of_lt (Nat.lt_of_lt_of_le (by have:=World.block_lt_of_cell? _ _ hw296_1;first | rwa [uj] at this | exact this) GW299.out)) | (show (Addr.add _ _).block ≠ _;rw [uj];exact Nat.ne_of_lt (Nat.lt_of_lt_of_le (by have:=World.block_lt_of_cell? _ _ hw296_1;first | rwa [uj] at this | exact this) GW299.out)) | (dsimp only;exact Nat.ne_of_lt (Nat.lt_of_lt_of_le (by have:=World.block_lt_of_cell? _ _ hw296_1;first | rwa [uj] at this | exact this) GW299.out))) _).trans (hHeld.2.1)))),((u2k (p:=⟨gb299,_,none⟩) (by first | exact Nat.ne_of_lt (Nat.lt_of_lt_of_le (by have:=World.block_lt_of_cell? _ _ hw297_0;first | rwa [uj] at this | exact this) GW299.out) | (rw [uj];exact Nat.ne_of_lt (Nat.lt_of_lt_of_le (by have:=World.block_lt_of_cell? _ _ hw297_0;first | rwa [uj] at this | exact this) GW299.out)) | (show (Addr.add _ _).block ≠ _;rw [uj];exact Nat.ne_of_lt (Nat.lt_of_lt_of_le (by have:=World.block_lt_of_cell? _ _ hw297_0;first | rwa [uj] at this | exact this) GW299.out)) | (dsimp only;exact Nat.ne_of_lt (Nat.lt_of_lt_of_le (by have:=World.block_lt_of_cell? _ _ hw297_0;first | rwa [uj] at this | exact this) GW299.out))) _).trans (((u2k (p:=⟨gb299,_,none⟩) (by first | exact Nat.ne_of_lt (Nat.lt_of_lt_of_le (by have:=World.block_lt_of_cell? _ _ hw297_0;first | rwa [uj] at this | exact this) GW299.out) | (rw [uj];exact Nat.ne_of_lt (Nat.lt_of_lt_of_le (by have:=World.block_lt_of_cell? _ _ hw297_0;first | rwa [uj] at this | exact this) GW299.out)) | (show (Addr.add _ _).block ≠ _;rw [uj];exact Nat.ne_of_lt (Nat.lt_of_lt_of_le (by have:=World.block_lt_of_cell? _ _ hw297_0;first | rwa [uj] at this | exact this) GW299.out)) | (dsimp only;exact Nat.ne_of_lt (Nat.lt_of_lt_of_le (by have:=World.block_lt_of_cell? _ _ hw297_0;first | rwa [uj] at this | exact this) GW299.out))) _).trans (hHeld.2.2.1)))),((u2k (p:=⟨gb299,_,none⟩) (by first | exact Nat.ne_of_lt (Nat.lt_of_lt_of_le (by have:=World.block_lt_of_cell? _ _ hw297_1;first | rwa [uj] at this | exact this) GW299.out) | (rw [uj];exact Nat.ne_of_lt (Nat.lt_of_lt_of_le (by have:=World.block_lt_of_cell? _ _ hw297_1;first | rwa [uj] at this | exact this) GW299.out)) | (show (Addr.add _ _).block ≠ _;rw [uj];exact Nat.ne_of_lt (Nat.lt_of_lt_of_le (by have:=World.block_lt_of_cell? _ _ hw297_1;first | rwa [uj] at this | exact this) GW299.out)) | (dsimp only;exact Nat.ne_of_lt (Nat.lt_of_lt_of_le (by have:=World.block_lt_of_cell? _ _ hw297_1;first | rwa [uj] at this | exact this) GW299.out))) _).trans (((u2k (p:=⟨gb299,_,none⟩) (by first | exact Nat.ne_of_lt (Nat.lt_of_lt_of_le (by have:=World.block_lt_of_cell? _ _ hw297_1;first | rwa [uj] at this | exact this) GW299.out) | (rw [uj];exact Nat.ne_of_lt (Nat.lt_of_lt_of_le (by have:=World.block_lt_of_cell? _ _ hw297_1;first | rwa [uj] at this | exact this) GW299.out)) | (show (Addr.add _ _).block ≠ _;rw [uj];exact Nat.ne_of_lt (Nat.lt_of_lt_of_le (by have:=World.block_lt_of_cell? _ _ hw297_1;first | rwa [uj] at this | exact this) GW299.out)) | (dsimp only;exact Nat.ne_of_lt (Nat.lt_of_lt_of_le (by have:=World.block_lt_of_cell? _ _ hw297_1;first | rwa [uj] at this | exact this) GW299.out))) _).trans (hHeld.2.2.2))))⟩ (fun hHeld => ?_)
                  clear hK K
                  refine done_ (done_of HT_.out (by kernel_rfl)) ?_
                  try go_wp2
                  have n0_:Aside0 (((((w48.setCell ⟨gb298,0,none⟩ (.string ((uq l0 x33_1).f0))).setCell ⟨gb298,1,none⟩ (.string ((uq l0 x33_1).f1))).setCell ⟨gb299,0,none⟩ (.string ((uq l0 (ji12)).f0))).setCell ⟨gb299,1,none⟩ (.string ((uq l0 (ji12)).f1))).heap[gb298]? = some (.cells #[.string ((uq l0 x33_1).f0),.string ((uq l0 x33_1).f1)] 37 (0,0))):=⟨by (with_reducible repeat (first | refine uf ?_ _ | refine ug ?_ | refine ue ?_ _));refine u1t ?_ NB298_299.out _;(with_reducible repeat (first | refine uf ?_ _ | refine ug ?_ | refine ue ?_ _));refine u1t ?_ NB298_299.out _;(with_reducible repeat (first | refine uf ?_ _ | refine ug ?_ | refine ue ?_ _));refine u2b (cs:=#[.string ((uq l0 x33_1).f0),.string (⟨#[]⟩:ByteArray)]) ?_ 1 _ rfl;(with_reducible repeat (first | refine uf ?_ _ | refine ug ?_ | refine ue ?_ _));refine u2b (cs:=#[.string (⟨#[]⟩:ByteArray),.string (⟨#[]⟩:ByteArray)]) ?_ 0 _ rfl;(with_reducible repeat (first | refine uf ?_ _ | refine ug ?_ | refine ue ?_ _));exact BK298.out⟩
                  have n1_:Aside0 (((((w48.setCell ⟨gb298,0,none⟩ (.string ((uq l0 x33_1).f0))).setCell ⟨gb298,1,none⟩ (.string ((uq l0 x33_1).f1))).setCell ⟨gb299,0,none⟩ (.string ((uq l0 (ji12)).f0))).setCell ⟨gb299,1,none⟩ (.string ((uq l0 (ji12)).f1))).heap[gb299]? = some (.cells #[.string ((uq l0 (ji12)).f0),.string ((uq l0 (ji12)).f1)] 37 (0,0))):=⟨by (with_reducible repeat (first | refine uf ?_ _ | refine ug ?_ | refine ue ?_ _));refine u2b (cs:=#[.string ((uq l0 (ji12)).f0),.string (⟨#[]⟩:ByteArray)]) ?_ 1 _ rfl;(with_reducible repeat (first | refine uf ?_ _ | refine ug ?_ | refine ue ?_ _));refine u2b (cs:=#[.string (⟨#[]⟩:ByteArray),.string (⟨#[]⟩:ByteArray)]) ?_ 0 _ rfl;(with_reducible repeat (first | refine uf ?_ _ | refine ug ?_ | refine ue ?_ _));refine u1t ?_ NB299_298.out _;(with_reducible repeat (first | refine uf ?_ _ | refine ug ?_ | refine ue ?_ _));refine u1t ?_ NB299_298.out _;(with_reducible repeat (first | refine uf ?_ _ | refine ug ?_ | refine ue ?_ _));exact BK299.out⟩
                  have n2_:Aside0 (Below w.heap.size w ((((w48.setCell ⟨gb298,0,none⟩ (.string ((uq l0 x33_1).f0))).setCell ⟨gb298,1,none⟩ (.string ((uq l0 x33_1).f1))).setCell ⟨gb299,0,none⟩ (.string ((uq l0 (ji12)).f0))).setCell ⟨gb299,1,none⟩ (.string ((uq l0 (ji12)).f1)))):=⟨by repeat (first | (with_reducible first | exact HB.out | apply uc | apply ub | apply ud | refine uh ?_ GE298.out | refine uh ?_ GE299.out) | exact HB.out)⟩
                  (try clear BK298)
                  (try clear BK299)
                  (try clear HB)
                  generalize ((((w48.setCell ⟨gb298,0,none⟩ (.string ((uq l0 x33_1).f0))).setCell ⟨gb298,1,none⟩ (.string ((uq l0 x33_1).f1))).setCell ⟨gb299,0,none⟩ (.string ((uq l0 (ji12)).f0))).setCell ⟨gb299,1,none⟩ (.string ((uq l0 (ji12)).f1))) = w53 at n0_ n1_ n2_ ⊢
                  have BK298:=n0_
                  have BK299:=n1_
                  have HB:=n2_
                  clear n0_ n1_ n2_
                  have n0_:=Aside0.mk (ug BK298.out)
                  have n1_:=Aside0.mk (ug BK299.out)
                  have n2_:=Aside0.mk (ud HB.out)
                  clear BK298
                  clear BK299
                  clear HB
                  have BK298:=n0_
                  have BK299:=n1_
                  have HB:=n2_
                  clear n0_ n1_ n2_
                  refine start_ (n:=10) (S:=fun w' => w'.cell? ⟨gb298,0,none⟩ = some (.string ((uq l0 x33_1).f0)) ∧ w'.cell? ⟨gb298,1,none⟩ = some (.string ((uq l0 x33_1).f1))) (ds:=[]) #[false,false,false,false,false,false,false,false,false,false] (by kernel_rfl) rfl rfl ⟨(un BK298.out 0).trans rfl,(un BK298.out 1).trans rfl⟩ (fun hHeld => ?_);refine with_tabW ul.tab11 ul.bits11 (fun HT_ HW_ => ?_)
                  generalize w53.drew = w54 at BK298 BK299 HB hHeld ⊢
                  refine pure_ (i:=0) (N:=some 55) (v:=?_) (a':=?_) #[true,false,false,false,false,false,false,false,false,false] rfl rfl (u2m HT_.out (by kernel_rfl)) (fun _ _ _ h => h) (Or.inl ⟨by rfl,?_⟩) ?_ ?_
                  rotate_left
                  ·intro w'
                   go_simp
                   with_reducible rfl
                  rotate_left
                  ·simp only [Act.put,List.setIfInBounds_toArray,List.set_cons_zero,List.set_cons_succ,i64_w,i32_w]
                   rfl
                  refine pure_ (i:=1) (N:=some 56) (v:=?_) (a':=?_) #[true,true,false,false,false,false,false,false,false,false] rfl rfl (u2m HT_.out (by kernel_rfl)) (fun _ _ _ h => h) (Or.inl ⟨by rfl,?_⟩) ?_ ?_
                  rotate_left
                  ·intro w'
                   go_simp
                   with_reducible rfl
                  rotate_left
                  ·simp only [Act.put,List.setIfInBounds_toArray,List.set_cons_zero,List.set_cons_succ,i64_w,i32_w]
                   rfl
                  refine pure_ (i:=4) (N:=some 59) (v:=?_) (a':=?_) #[true,true,false,false,true,false,false,false,false,false] rfl rfl (u2m HT_.out (by kernel_rfl)) (fun _ _ _ h => h) (Or.inl ⟨by rfl,?_⟩) ?_ ?_
                  rotate_left
                  ·intro w'
                   go_simp
                   with_reducible rfl
                  rotate_left
                  ·simp only [Act.put,List.setIfInBounds_toArray,List.set_cons_zero,List.set_cons_succ,i64_w,i32_w]
                   rfl
                  refine take_ (i:=2) (N:=some 57) (v:=?_) (a':=?_) #[true,true,true,false,true,false,false,false,false,false] rfl rfl (take_ofW HT_.out HW_.out (by kernel_rfl)) (fun _ _ _ h => h) (Or.inl ⟨by rfl,?_⟩) hHeld ?_ ?_
                  rotate_left
                  ·rintro w' ⟨s0,s1⟩
                   go_simp
                   with_reducible rfl
                  rotate_left
                  ·simp only [Act.put,List.setIfInBounds_toArray,List.set_cons_zero,List.set_cons_succ,i64_w,i32_w]
                   rfl
                  refine pure_ (i:=3) (N:=some 58) (v:=?_) (a':=?_) #[true,true,true,true,true,false,false,false,false,false] rfl rfl (u2m HT_.out (by kernel_rfl)) (fun _ _ _ h => h) (Or.inl ⟨by rfl,?_⟩) ?_ ?_
                  rotate_left
                  ·intro w'
                   go_simp
                   with_reducible rfl
                  rotate_left
                  ·simp only [Act.put,List.setIfInBounds_toArray,List.set_cons_zero,List.set_cons_succ,i64_w,i32_w]
                   rfl
                  refine take_ (i:=5) (N:=some 60) (v:=?_) (a':=?_) #[true,true,true,true,true,true,false,false,false,false] rfl rfl (take_ofW HT_.out HW_.out (by kernel_rfl)) (fun _ _ _ h => h) (Or.inl ⟨by rfl,?_⟩) hHeld ?_ ?_
                  rotate_left
                  ·rintro w' ⟨s0,s1⟩
                   go_simp
                   with_reducible rfl
                  rotate_left
                  ·simp only [Act.put,List.setIfInBounds_toArray,List.set_cons_zero,List.set_cons_succ,i64_w,i32_w]
                   rfl
                  refine one_ (i:=6) (N:=some 61) #[true,true,true,true,true,true,true,false,false,false] rfl rfl (one_of HT_.out (by kernel_rfl)) (by decide) (fun K hK => ?_)
                  refine goes_ Tryd.func11 (by kernel_rfl) rfl #[.string ((uq l0 x33_1).f1)] (by rfl) rfl rfl (by (try simp only [List.map_toArray,List.map_cons,List.map_nil]);first | done | rfl | (simp only [List.length_drop,List.length_take];rfl)) ?_
                  with_reducible refine (u1h.calls k1 ((uq l0 x33_1).f1) t302 _ A38.out).mono ?_
                  rintro e w' ⟨rfl,⟨nd,rfl⟩⟩
                  refine ⟨_,rfl,?_⟩
                  refine hK.out _ _ ⟨(un BK298.out 0).trans rfl,(un BK298.out 1).trans rfl⟩ (fun hHeld => ?_)
                  clear hK K
                  refine norm_ (a':=?_) ?_ ?_
                  rotate_left
                  ·show Act.put _ (some 61) _ = _
                   simp only [Act.put,List.setIfInBounds_toArray,List.set_cons_zero,List.set_cons_succ,i64_w,i32_w]
                   rfl
                  refine pure_ (i:=7) (N:=some 62) (v:=?_) (a':=?_) #[true,true,true,true,true,true,true,true,false,false] rfl rfl (u2m HT_.out (by kernel_rfl)) (fun _ _ _ h => h) (Or.inl ⟨by rfl,?_⟩) ?_ ?_
                  rotate_left
                  ·intro w'
                   go_simp
                   with_reducible rfl
                  rotate_left
                  ·simp only [Act.put,List.setIfInBounds_toArray,List.set_cons_zero,List.set_cons_succ,i64_w,i32_w]
                   rfl
                  refine pure_ (i:=8) (N:=some 63) (v:=?_) (a':=?_) #[true,true,true,true,true,true,true,true,true,false] rfl rfl (u2m HT_.out (by kernel_rfl)) (fun _ _ _ h => h) (Or.inl ⟨by rfl,?_⟩) ?_ ?_
                  rotate_left
                  ·intro w'
                   go_simp
                   with_reducible rfl
                  rotate_left
                  ·simp only [Act.put,List.setIfInBounds_toArray,List.set_cons_zero,List.set_cons_succ,i64_w,i32_w]
                   rfl
                  refine pure_ (i:=9) (N:=some 8) (v:=?_) (a':=?_) #[true,true,true,true,true,true,true,true,true,true] rfl rfl (u2m HT_.out (by kernel_rfl)) (fun _ _ _ h => h) (Or.inl ⟨by rfl,?_⟩) ?_ ?_
                  rotate_left
                  ·intro w'
                   go_simp
                   with_reducible rfl
                  rotate_left
                  ·simp only [Act.put,List.setIfInBounds_toArray,List.set_cons_zero,List.set_cons_succ,i64_w,i32_w]
                   rfl
                  refine done_ (done_of HT_.out (by kernel_rfl)) ?_
                  try go_wp2
                  (try (rw [drewN_self w54];generalize hq_:World.drewN w54 _ = w54;have n0_:Aside0 (w54.heap[gb298]? = some (.cells #[.string ((uq l0 x33_1).f0),.string ((uq l0 x33_1).f1)] 37 (0,0))):=⟨by rw [← hq_];exact (by (with_reducible repeat (first | refine uf ?_ _ | refine ug ?_ | refine ue ?_ _));exact BK298.out)⟩;have n1_:Aside0 (w54.heap[gb299]? = some (.cells #[.string ((uq l0 (ji12)).f0),.string ((uq l0 (ji12)).f1)] 37 (0,0))):=⟨by rw [← hq_];exact (by (with_reducible repeat (first | refine uf ?_ _ | refine ug ?_ | refine ue ?_ _));exact BK299.out)⟩;have n2_:Aside0 (Below w.heap.size w w54):=⟨by rw [← hq_];exact (by repeat (first | (with_reducible first | exact HB.out | apply uc | apply ub | apply ud | refine uh ?_ GE298.out | refine uh ?_ GE299.out) | exact HB.out))⟩;clear BK298 BK299 HB hq_;have BK298:=n0_;have BK299:=n1_;have HB:=n2_;clear n0_ n1_ n2_))
                  have n0_:=Aside0.mk (ug BK298.out)
                  have n1_:=Aside0.mk (ug BK299.out)
                  have n2_:=Aside0.mk (ud HB.out)
                  clear BK298
                  clear BK299
                  clear HB
                  have BK298:=n0_
                  have BK299:=n1_
                  have HB:=n2_
                  clear n0_ n1_ n2_
                  refine start_ (n:=10) (S:=fun w' => w'.cell? ⟨gb299,0,none⟩ = some (.string ((uq l0 (ji12)).f0)) ∧ w'.cell? ⟨gb299,1,none⟩ = some (.string ((uq l0 (ji12)).f1))) (ds:=[]) #[false,false,false,false,false,false,false,false,false,false] (by kernel_rfl) rfl rfl ⟨(un BK299.out 0).trans rfl,(un BK299.out 1).trans rfl⟩ (fun hHeld => ?_);refine with_tabW ul.tab12 ul.bits12 (fun HT_ HW_ => ?_)
                  generalize w54.drew = w55 at BK298 BK299 HB hHeld ⊢
                  refine pure_ (i:=0) (N:=some 64) (v:=?_) (a':=?_) #[true,false,false,false,false,false,false,false,false,false] rfl rfl (u2m HT_.out (by kernel_rfl)) (fun _ _ _ h => h) (Or.inl ⟨by rfl,?_⟩) ?_ ?_
                  rotate_left
                  ·intro w'
                   go_simp
                   with_reducible rfl
                  rotate_left
                  ·simp only [Act.put,List.setIfInBounds_toArray,List.set_cons_zero,List.set_cons_succ,i64_w,i32_w]
                   rfl
                  refine pure_ (i:=1) (N:=some 65) (v:=?_) (a':=?_) #[true,true,false,false,false,false,false,false,false,false] rfl rfl (u2m HT_.out (by kernel_rfl)) (fun _ _ _ h => h) (Or.inl ⟨by rfl,?_⟩) ?_ ?_
                  rotate_left
                  ·intro w'
                   go_simp
                   with_reducible rfl
                  rotate_left
                  ·simp only [Act.put,List.setIfInBounds_toArray,List.set_cons_zero,List.set_cons_succ,i64_w,i32_w]
                   rfl
                  refine pure_ (i:=4) (N:=some 68) (v:=?_) (a':=?_) #[true,true,false,false,true,false,false,false,false,false] rfl rfl (u2m HT_.out (by kernel_rfl)) (fun _ _ _ h => h) (Or.inl ⟨by rfl,?_⟩) ?_ ?_
                  rotate_left
                  ·intro w'
                   go_simp
                   with_reducible rfl
                  rotate_left
                  ·simp only [Act.put,List.setIfInBounds_toArray,List.set_cons_zero,List.set_cons_succ,i64_w,i32_w]
                   rfl
                  refine take_ (i:=2) (N:=some 66) (v:=?_) (a':=?_) #[true,true,true,false,true,false,false,false,false,false] rfl rfl (take_ofW HT_.out HW_.out (by kernel_rfl)) (fun _ _ _ h => h) (Or.inl ⟨by rfl,?_⟩) hHeld ?_ ?_
                  rotate_left
                  ·rintro w' ⟨s0,s1⟩
                   go_simp
                   with_reducible rfl
                  rotate_left
                  ·simp only [Act.put,List.setIfInBounds_toArray,List.set_cons_zero,List.set_cons_succ,i64_w,i32_w]
                   rfl
                  refine pure_ (i:=3) (N:=some 67) (v:=?_) (a':=?_) #[true,true,true,true,true,false,false,false,false,false] rfl rfl (u2m HT_.out (by kernel_rfl)) (fun _ _ _ h => h) (Or.inl ⟨by rfl,?_⟩) ?_ ?_
                  rotate_left
                  ·intro w'
                   go_simp
                   with_reducible rfl
                  rotate_left
                  ·simp only [Act.put,List.setIfInBounds_toArray,List.set_cons_zero,List.set_cons_succ,i64_w,i32_w]
                   rfl
                  refine take_ (i:=5) (N:=some 69) (v:=?_) (a':=?_) #[true,true,true,true,true,true,false,false,false,false] rfl rfl (take_ofW HT_.out HW_.out (by kernel_rfl)) (fun _ _ _ h => h) (Or.inl ⟨by rfl,?_⟩) hHeld ?_ ?_
                  rotate_left
                  ·rintro w' ⟨s0,s1⟩
                   go_simp
                   with_reducible rfl
                  rotate_left
                  ·simp only [Act.put,List.setIfInBounds_toArray,List.set_cons_zero,List.set_cons_succ,i64_w,i32_w]
                   rfl
                  refine one_ (i:=6) (N:=some 70) #[true,true,true,true,true,true,true,false,false,false] rfl rfl (one_of HT_.out (by kernel_rfl)) (by decide) (fun K hK => ?_)
                  refine goes_ Tryd.func11 (by kernel_rfl) rfl #[.string ((uq l0 (ji12)).f1)] (by rfl) rfl rfl (by (try simp only [List.map_toArray,List.map_cons,List.map_nil]);first | done | (simp only [hji12];rfl) | rfl | (simp only [List.length_drop,List.length_take];rfl)) ?_
                  with_reducible refine (u1h.calls k1 ((uq l0 (ji12)).f1) t303 _ A42.out).mono ?_
                  rintro e w' ⟨rfl,⟨nd,rfl⟩⟩
                  refine ⟨_,rfl,?_⟩
                  refine hK.out _ _ ⟨(un BK299.out 0).trans rfl,(un BK299.out 1).trans rfl⟩ (fun hHeld => ?_)
                  clear hK K
                  refine norm_ (a':=?_) ?_ ?_
                  rotate_left
                  ·show Act.put _ (some 70) _ = _
                   simp only [Act.put,List.setIfInBounds_toArray,List.set_cons_zero,List.set_cons_succ,i64_w,i32_w]
                   rfl
                  refine pure_ (i:=7) (N:=some 71) (v:=?_) (a':=?_) #[true,true,true,true,true,true,true,true,false,false] rfl rfl (u2m HT_.out (by kernel_rfl)) (fun _ _ _ h => h) (Or.inl ⟨by rfl,?_⟩) ?_ ?_
                  rotate_left
                  ·intro w'
                   go_simp
                   with_reducible rfl
                  rotate_left
                  ·simp only [Act.put,List.setIfInBounds_toArray,List.set_cons_zero,List.set_cons_succ,i64_w,i32_w]
                   rfl
                  refine pure_ (i:=8) (N:=some 72) (v:=?_) (a':=?_) #[true,true,true,true,true,true,true,true,true,false] rfl rfl (u2m HT_.out (by kernel_rfl)) (fun _ _ _ h => h) (Or.inl ⟨by rfl,?_⟩) ?_ ?_
                  rotate_left
                  ·intro w'
                   go_simp
                   with_reducible rfl
                  rotate_left
                  ·simp only [Act.put,List.setIfInBounds_toArray,List.set_cons_zero,List.set_cons_succ,i64_w,i32_w]
                   rfl
                  refine pure_ (i:=9) (N:=some 9) (v:=?_) (a':=?_) #[true,true,true,true,true,true,true,true,true,true] rfl rfl (u2m HT_.out (by kernel_rfl)) (fun _ _ _ h => h) (Or.inl ⟨by rfl,?_⟩) ?_ ?_
                  rotate_left
                  ·intro w'
                   go_simp
                   with_reducible rfl
                  rotate_left
                  ·simp only [Act.put,List.setIfInBounds_toArray,List.set_cons_zero,List.set_cons_succ,i64_w,i32_w]
                   rfl
                  refine done_ (done_of HT_.out (by kernel_rfl)) ?_
                  try go_wp2
                  go_roundg k1
                  case measure => have:=HK1.out;omega
                  case rel => exact ⟨(x8_1 ++ ((((uq l0 x33_1).f0) ++ (⟨#[61]⟩:ByteArray)) ++ t302)),(x9_1 ++ ((((uq l0 (ji12)).f0) ++ (⟨#[61]⟩:ByteArray)) ++ t303)),(wrap64 (x33_1 + 1)),(by first | rfl | (simp;done) | (simp [*];done)),(by first | rfl | (simp;done) | (simp only [← hji12] <;> (first | rfl | simp)) | (simp [*];done)),(by first | rfl | (simp;done) | (simp [*];done)),H',⟨by have:=HK1.out;omega⟩,⟨by repeat (first | (with_reducible first | exact HB.out | apply uc | apply ub | apply ud | refine uh ?_ GE298.out | refine uh ?_ GE299.out) | exact HB.out)⟩⟩
                 ·rw [if_neg c44] at H
                  exact absurd H (by simp)
                ·rw [if_neg c43] at H
                 exact absurd H (by simp)
               ·rw [if_neg c41] at H
                exact absurd H (by simp)
              ·rw [if_neg c40] at H
               exact absurd H (by simp)
             ·rw [if_neg c39] at H
              exact absurd H (by simp)
            ·rw [if_neg c37] at H
             exact absurd H (by simp)
          ·rw [if_neg c14] at H
           exact absurd H (by simp)
         ·rw [if_neg c13] at H
          exact absurd H (by simp)
       ·rw [if_neg c10] at H
        exact absurd H (by simp)
      ·rw [if_neg c9] at H
       exact absurd H (by simp)
     ·rw [if_neg c8] at H
      have c8b0:decide (x33_1 < (l0.length:Int)) = false:=decide_eq_false c8
      clear c8
      replace H:=Option.bind_eq_some_iff.mp H
      obtain ⟨t304,A560,H⟩:=H
      replace H:(if 2 + t304.size ≤ 9223372036854775807 then (if 1 + x8_1.size ≤ 9223372036854775807 then (if ((⟨#[123]⟩:ByteArray) ++ x8_1).size + ((⟨#[125,32]⟩:ByteArray) ++ t304).size ≤ 9223372036854775807 then ((u1q.f (((⟨#[123]⟩:ByteArray) ++ x8_1) ++ ((⟨#[125,32]⟩:ByteArray) ++ t304)) 5).bind fun bt305 => (if 1 + x9_1.size ≤ 9223372036854775807 then (if ((⟨#[123]⟩:ByteArray) ++ x9_1).size + ((⟨#[125,32]⟩:ByteArray) ++ t304).size ≤ 9223372036854775807 then (if (((⟨#[123]⟩:ByteArray) ++ x9_1) ++ ((⟨#[125,32]⟩:ByteArray) ++ t304)).size + 2 ≤ 9223372036854775807 then ((u1q.f ((((⟨#[123]⟩:ByteArray) ++ x9_1) ++ ((⟨#[125,32]⟩:ByteArray) ++ t304)) ++ (⟨#[32,53]⟩:ByteArray)) 0).bind fun bt315 => (if bt305.2.2.2.1 = true then (if bt315.2.2.2.1 = true then (if (bt305.2.2.2.2.1 == bt315.2.2.2.2.1 && (bt305.2.2.2.2.2 == bt315.2.2.2.2.2)) = true then (if bt305.2.2.2.2.1 = 0 then ((u1u.f k1 bt305.1 bt305.2.1 bt305.2.2.1 bt315.1 bt315.2.1 bt315.2.2.1).bind fun t325 => (if t325 = true then ((u1u.f k1 bt305.1 bt305.2.1 bt305.2.2.1 l0 5 a1).bind fun t326 => (some t326)) else (some false))) else (some false)) else (some false)) else (some false)) else (some false))) else (none)) else (none)) else (none))) else (none)) else (none)) else (none)) = some r:=H
      have A56:=Aside0.mk A560
      clear A560
      by_cases c57:2 + t304.size ≤ 9223372036854775807
      ·rw [if_pos c57] at H
       have c57b0:=eq_true c57
       have c57b1:decide (2 + t304.size ≤ 9223372036854775807) = true:=decide_eq_true c57
       try have c57b2:(9223372036854775807 < 2 + t304.size) = False:=eq_false (Nat.not_lt.2 c57)
       try (have c57b3:=c57b2;simp only [ByteArray.size_append,Base.size1,(show ∀ a_ b_:UInt8,(⟨#[a_,b_]⟩:ByteArray).size = 2 from fun _ _ => rfl)] at c57b3)
       by_cases c58:1 + x8_1.size ≤ 9223372036854775807
       ·rw [if_pos c58] at H
        have c58b0:=eq_true c58
        have c58b1:decide (1 + x8_1.size ≤ 9223372036854775807) = true:=decide_eq_true c58
        try have c58b2:(9223372036854775807 < 1 + x8_1.size) = False:=eq_false (Nat.not_lt.2 c58)
        try (have c58b3:=c58b2;simp only [ByteArray.size_append,Base.size1,(show ∀ a_ b_:UInt8,(⟨#[a_,b_]⟩:ByteArray).size = 2 from fun _ _ => rfl)] at c58b3)
        by_cases c59:((⟨#[123]⟩:ByteArray) ++ x8_1).size + ((⟨#[125,32]⟩:ByteArray) ++ t304).size ≤ 9223372036854775807
        ·rw [if_pos c59] at H
         have c59b0:=eq_true c59
         have c59b1:decide (((⟨#[123]⟩:ByteArray) ++ x8_1).size + ((⟨#[125,32]⟩:ByteArray) ++ t304).size ≤ 9223372036854775807) = true:=decide_eq_true c59
         try have c59b2:(9223372036854775807 < ((⟨#[123]⟩:ByteArray) ++ x8_1).size + ((⟨#[125,32]⟩:ByteArray) ++ t304).size) = False:=eq_false (Nat.not_lt.2 c59)
         try (have c59b3:=c59b2;simp only [ByteArray.size_append,Base.size1,(show ∀ a_ b_:UInt8,(⟨#[a_,b_]⟩:ByteArray).size = 2 from fun _ _ => rfl)] at c59b3)
         replace H:=Option.bind_eq_some_iff.mp H
         obtain ⟨⟨t305,t308,t309,t310,t311,t312⟩,A600,H⟩:=H
         replace H:(if 1 + x9_1.size ≤ 9223372036854775807 then (if ((⟨#[123]⟩:ByteArray) ++ x9_1).size + ((⟨#[125,32]⟩:ByteArray) ++ t304).size ≤ 9223372036854775807 then (if (((⟨#[123]⟩:ByteArray) ++ x9_1) ++ ((⟨#[125,32]⟩:ByteArray) ++ t304)).size + 2 ≤ 9223372036854775807 then ((u1q.f ((((⟨#[123]⟩:ByteArray) ++ x9_1) ++ ((⟨#[125,32]⟩:ByteArray) ++ t304)) ++ (⟨#[32,53]⟩:ByteArray)) 0).bind fun bt315 => (if t310 = true then (if bt315.2.2.2.1 = true then (if (t311 == bt315.2.2.2.2.1 && (t312 == bt315.2.2.2.2.2)) = true then (if t311 = 0 then ((u1u.f k1 t305 t308 t309 bt315.1 bt315.2.1 bt315.2.2.1).bind fun t325 => (if t325 = true then ((u1u.f k1 t305 t308 t309 l0 5 a1).bind fun t326 => (some t326)) else (some false))) else (some false)) else (some false)) else (some false)) else (some false))) else (none)) else (none)) else (none)) = some r:=H
         have A60:=Aside0.mk A600
         clear A600
         by_cases c61:1 + x9_1.size ≤ 9223372036854775807
         ·rw [if_pos c61] at H
          have c61b0:=eq_true c61
          have c61b1:decide (1 + x9_1.size ≤ 9223372036854775807) = true:=decide_eq_true c61
          try have c61b2:(9223372036854775807 < 1 + x9_1.size) = False:=eq_false (Nat.not_lt.2 c61)
          try (have c61b3:=c61b2;simp only [ByteArray.size_append,Base.size1,(show ∀ a_ b_:UInt8,(⟨#[a_,b_]⟩:ByteArray).size = 2 from fun _ _ => rfl)] at c61b3)
          by_cases c62:((⟨#[123]⟩:ByteArray) ++ x9_1).size + ((⟨#[125,32]⟩:ByteArray) ++ t304).size ≤ 9223372036854775807
          ·rw [if_pos c62] at H
           have c62b0:=eq_true c62
           have c62b1:decide (((⟨#[123]⟩:ByteArray) ++ x9_1).size + ((⟨#[125,32]⟩:ByteArray) ++ t304).size ≤ 9223372036854775807) = true:=decide_eq_true c62
           try have c62b2:(9223372036854775807 < ((⟨#[123]⟩:ByteArray) ++ x9_1).size + ((⟨#[125,32]⟩:ByteArray) ++ t304).size) = False:=eq_false (Nat.not_lt.2 c62)
           try (have c62b3:=c62b2;simp only [ByteArray.size_append,Base.size1,(show ∀ a_ b_:UInt8,(⟨#[a_,b_]⟩:ByteArray).size = 2 from fun _ _ => rfl)] at c62b3)
           by_cases c63:(((⟨#[123]⟩:ByteArray) ++ x9_1) ++ ((⟨#[125,32]⟩:ByteArray) ++ t304)).size + 2 ≤ 9223372036854775807
           ·rw [if_pos c63] at H
            have c63b0:=eq_true c63
            have c63b1:decide ((((⟨#[123]⟩:ByteArray) ++ x9_1) ++ ((⟨#[125,32]⟩:ByteArray) ++ t304)).size + 2 ≤ 9223372036854775807) = true:=decide_eq_true c63
            try have c63b2:(9223372036854775807 < (((⟨#[123]⟩:ByteArray) ++ x9_1) ++ ((⟨#[125,32]⟩:ByteArray) ++ t304)).size + 2) = False:=eq_false (Nat.not_lt.2 c63)
            try (have c63b3:=c63b2;simp only [ByteArray.size_append,Base.size1,(show ∀ a_ b_:UInt8,(⟨#[a_,b_]⟩:ByteArray).size = 2 from fun _ _ => rfl)] at c63b3)
            replace H:=Option.bind_eq_some_iff.mp H
            obtain ⟨⟨t315,t318,t319,t320,t321,t322⟩,A640,H⟩:=H
            replace H:(if t310 = true then (if t320 = true then (if (t311 == t321 && (t312 == t322)) = true then (if t311 = 0 then ((u1u.f k1 t305 t308 t309 t315 t318 t319).bind fun t325 => (if t325 = true then ((u1u.f k1 t305 t308 t309 l0 5 a1).bind fun t326 => (some t326)) else (some false))) else (some false)) else (some false)) else (some false)) else (some false)) = some r:=H
            have A64:=Aside0.mk A640
            clear A640
            by_cases c65:t310 = true
            ·subst c65
             have H1:(if t320 = true then (if (t311 == t321 && (t312 == t322)) = true then (if t311 = 0 then ((u1u.f k1 t305 t308 t309 t315 t318 t319).bind fun t325 => (if t325 = true then ((u1u.f k1 t305 t308 t309 l0 5 a1).bind fun t326 => (some t326)) else (some false))) else (some false)) else (some false)) else (some false)) = some r:=by rw [if_pos rfl] at H;exact H
             clear H
             have H:=H1
             clear H1
             by_cases c66:t320 = true
             ·subst c66
              have H1:(if (t311 == t321 && (t312 == t322)) = true then (if t311 = 0 then ((u1u.f k1 t305 t308 t309 t315 t318 t319).bind fun t325 => (if t325 = true then ((u1u.f k1 t305 t308 t309 l0 5 a1).bind fun t326 => (some t326)) else (some false))) else (some false)) else (some false)) = some r:=by rw [if_pos rfl] at H;exact H
              clear H
              have H:=H1
              clear H1
              by_cases c67:(t311 == t321 && (t312 == t322)) = true
              ·rw [if_pos c67] at H
               have c67b0:(t311 == t321 && (t312 == t322)) = true:=c67
               (try (have c67b1:decide (t311 = t321 && (t312 == t322)) = true:=by simpa using c67))
               (try (have c67b2:(t311 == t321 && (t312 == t322)) = true:=by simpa using c67))
               clear c67
               by_cases c68:t311 = 0
               ·rw [if_pos c68] at H
                have c68b0:(t311 == 0) = true:=beq_iff_eq.mpr c68
                have c68b1:(t311 != 0) = false:=bne_eq_false_iff_eq.mpr c68
                clear c68
                replace H:=Option.bind_eq_some_iff.mp H
                obtain ⟨t325,A690,H⟩:=H
                replace H:(if t325 = true then ((u1u.f k1 t305 t308 t309 l0 5 a1).bind fun t326 => (some t326)) else (some false)) = some r:=H
                have A69:=Aside0.mk A690
                clear A690
                by_cases c70:t325 = true
                ·subst c70
                 have H1:((u1u.f k1 t305 t308 t309 l0 5 a1).bind fun t326 => (some t326)) = some r:=by rw [if_pos rfl] at H;exact H
                 clear H
                 have H:=H1
                 clear H1
                 replace H:=Option.bind_eq_some_iff.mp H
                 obtain ⟨t326,A710,H⟩:=H
                 replace H:(some t326) = some r:=H
                 have A71:=Aside0.mk A710
                 clear A710
                 obtain rfl:=Option.some.inj H
                 go_wp2_with (first | ((with_reducible refine u1s (f:=12) rfl ?_);refine u2q (some 75) rfl rfl Tryd.func12 (by kernel_rfl) rfl #[.int .u64 a1] rfl (by (try simp only [List.map_toArray,List.map_cons,List.map_nil]);first | done | rfl | (simp only [List.length_drop,List.length_take];rfl)) ?_;(with_reducible refine (u2g.calls k1 a1 t304 _ A56.out).mono ?_);rintro e w' ⟨rfl,⟨nd,rfl⟩⟩;refine ⟨_,rfl,?_⟩;(try (rw [drewN_self wr];generalize hq_:World.drewN wr _ = wr;have n0_:Aside0 (Below w.heap.size w wr):=⟨by rw [← hq_];exact (by repeat (first | (with_reducible first | exact HB.out | apply uc | apply ub | apply ud) | exact HB.out))⟩;clear HB hq_;have HB:=n0_;clear n0_))) | ((with_reducible refine u1s (f:=6) rfl ?_);refine u2q (some 82) rfl rfl Tryd.func6 (by kernel_rfl) rfl #[.string (((⟨#[123]⟩:ByteArray) ++ x8_1) ++ ((⟨#[125,32]⟩:ByteArray) ++ t304)),.int .i64 5] rfl (by (try simp only [List.map_toArray,List.map_cons,List.map_nil]);first | done | rfl | (simp only [List.length_drop,List.length_take];rfl)) ?_;(with_reducible refine (u1q.calls (((⟨#[123]⟩:ByteArray) ++ x8_1) ++ ((⟨#[125,32]⟩:ByteArray) ++ t304)) 5 t305 t308 t309 true t311 t312 _ A60.out).mono ?_);rintro e w72 ⟨v306,rfl,ho0,hb⟩;refine ⟨_,rfl,?_⟩;have n0_:=Aside0.mk (Kd.R_lower ho0 (us (by repeat (first | (with_reducible first | exact HB.out | apply uc | apply ub | apply ud) | exact HB.out))));have n1_:=Aside0.mk (uw (by repeat (first | (with_reducible first | exact HB.out | apply uc | apply ub | apply ud) | exact HB.out)) hb);clear HB;have HO307:=n0_;have HB:=n1_;clear n0_ n1_;(try clear hb);(try clear hb2);(try clear hk);(try clear hi);(try clear ho0)) | ((with_reducible refine u2e (N:=14) rfl ?_);refine u1y ?hg (N:=14) ?hd (cs:=#[.slice none 0 0,.int .i64 0,.int .u64 0]) (t:=25) ?hr ?_;(case hd => rfl);(case hg => rfl);(case hr => first | (go_simp;done) | (go_simp;rfl));intro gb313 hg w73 hbox hb;have n0_:=Aside0.mk (Kd.R_below (by (with_reducible repeat (first | apply Kd.R_alloc | apply Kd.R_drewN | apply Kd.R_drew));exact HO307.out) hb);have n1_:=Aside0.mk (uw (by repeat (first | (with_reducible first | exact HB.out | apply uc | apply ub | apply ud) | exact HB.out)) hb);have n2_:=Aside0.mk (hbox);have n3_:=Aside0.mk ((by rw [hg];exact (us (by repeat (first | (with_reducible first | exact HB.out | apply uc | apply ub | apply ud) | exact HB.out))):w.heap.size ≤ gb313));have n4_:=Aside0.mk ((by rw [hg];exact (us (by repeat (first | (with_reducible first | exact HB.out | apply uc | apply ub | apply ud) | exact HB.out))):w.heap.size ≤ gb313));clear HO307;clear HB;have HO307:=n0_;have HB:=n1_;have BK313:=n2_;have GW313:=n3_;have GE313:=n4_;clear n0_ n1_ n2_ n3_ n4_;clear hb hbox hg) | ((with_reducible refine u2e (N:=16) rfl ?_);refine u1y ?hg (N:=16) ?hd (cs:=#[.int .i64 0,.int .i64 0]) (t:=28) ?hr ?_;(case hd => rfl);(case hg => rfl);(case hr => first | (go_simp;done) | (go_simp;rfl));intro gb314 hg w74 hbox hb;have n0_:=Aside0.mk (Kd.R_below (by (with_reducible repeat (first | apply Kd.R_alloc | apply Kd.R_drewN | apply Kd.R_drew));exact HO307.out) hb);have n1_:=Aside0.mk (uz (g:=gb313) (o:=.cells #[.slice none 0 0,.int .i64 0,.int .u64 0] 25 (0,0)) (by (with_reducible repeat (first | refine uf ?_ _ | refine ug ?_ | refine ue ?_ _));exact BK313.out) hb);have n2_:=Aside0.mk (uw (by repeat (first | (with_reducible first | exact HB.out | apply uc | apply ub | apply ud | refine uh ?_ GE313.out) | exact HB.out)) hb);have n3_:=Aside0.mk (hbox);have n4_:=Aside0.mk ((by rw [hg];exact (us (by repeat (first | (with_reducible first | exact HB.out | apply uc | apply ub | apply ud | refine uh ?_ GE313.out) | exact HB.out))):w.heap.size ≤ gb314));have n5_:=Aside0.mk ((by rw [hg];exact (us (by repeat (first | (with_reducible first | exact HB.out | apply uc | apply ub | apply ud | refine uh ?_ GE313.out) | exact HB.out))):w.heap.size ≤ gb314));have n6_:=Aside0.mk ((by rw [hg];exact Nat.ne_of_lt (u1n (g:=gb313) (o:=.cells #[.slice none 0 0,.int .i64 0,.int .u64 0] 25 (0,0)) (by (with_reducible repeat (first | refine uf ?_ _ | refine ug ?_ | refine ue ?_ _));exact BK313.out)):gb313 ≠ gb314));have n7_:=Aside0.mk ((by rw [hg];exact Nat.ne_of_gt (u1n (g:=gb313) (o:=.cells #[.slice none 0 0,.int .i64 0,.int .u64 0] 25 (0,0)) (by (with_reducible repeat (first | refine uf ?_ _ | refine ug ?_ | refine ue ?_ _));exact BK313.out)):gb314 ≠ gb313));clear HO307;clear BK313;clear HB;have HO307:=n0_;have BK313:=n1_;have HB:=n2_;have BK314:=n3_;have GW314:=n4_;have GE314:=n5_;have NB313_314:=n6_;have NB314_313:=n7_;clear n0_ n1_ n2_ n3_ n4_ n5_ n6_ n7_;clear hb hbox hg;obtain ⟨Ao75,co75,eo75⟩:=Kd.R_slice HO307.out;subst eo75;have hnb76:=NB313_314.out;have hnc76:=NB314_313.out;have hcz77_0:w74.cell? ⟨gb313,0,none⟩ = some (.slice none 0 0):=(un BK313.out 0).trans rfl;have hcz77_1:w74.cell? ⟨gb313,1,none⟩ = some (.int .i64 0):=(un BK313.out 1).trans rfl;have hcz77_2:w74.cell? ⟨gb313,2,none⟩ = some (.int .u64 0):=(un BK313.out 2).trans rfl;have hfz77_0:=um BK313.out 0;have hfz77_1:=um BK313.out 1;have hfz77_2:=um BK313.out 2;have hcz78_0:w74.cell? ⟨gb314,0,none⟩ = some (.int .i64 0):=(un BK314.out 0).trans rfl;have hcz78_1:w74.cell? ⟨gb314,1,none⟩ = some (.int .i64 0):=(un BK314.out 1).trans rfl;have hfz78_0:=um BK314.out 0;have hfz78_1:=um BK314.out 1) | ((with_reducible refine u1s (f:=6) rfl ?_);refine u2q (some 92) rfl rfl Tryd.func6 (by kernel_rfl) rfl #[.string ((((⟨#[123]⟩:ByteArray) ++ x9_1) ++ ((⟨#[125,32]⟩:ByteArray) ++ t304)) ++ (⟨#[32,53]⟩:ByteArray)),.int .i64 0] rfl (by (try simp only [List.map_toArray,List.map_cons,List.map_nil]);first | done | rfl | (simp only [List.length_drop,List.length_take];rfl)) ?_;(with_reducible refine (u1q.calls ((((⟨#[123]⟩:ByteArray) ++ x9_1) ++ ((⟨#[125,32]⟩:ByteArray) ++ t304)) ++ (⟨#[32,53]⟩:ByteArray)) 0 t315 t318 t319 true t321 t322 _ A64.out).mono ?_);rintro e w79 ⟨v316,rfl,ho0,hb⟩;refine ⟨_,rfl,?_⟩;have n0_:=Aside0.mk (Kd.R_elder' (by (with_reducible repeat (first | apply Kd.R_alloc | apply Kd.R_drewN | apply Kd.R_drew));exact (Kd.R_mono (Kd.R_mono (Kd.R_far (p:=⟨gb314,1,none⟩) (Kd.R_far (p:=⟨gb314,0,none⟩) (Kd.R_far (p:=⟨gb313,2,none⟩) (Kd.R_far (p:=⟨gb313,1,none⟩) (Kd.R_far (p:=⟨gb313,0,none⟩) (Kd.R_types (Kd.R_types HO307.out BK313.out (by decide)) BK314.out (by decide)) (fun _ hk => hk.1.2) (.slice Ao75 t305.length co75)) (fun _ hk => hk.1.2) (.int .i64 t308)) (fun _ hk => hk.1.2) (.int .u64 t309)) (fun _ hk => hk.2) (.int .i64 t311)) (fun _ hk => hk.2) (.int .i64 t312)) (fun _ h_ => h_.1)) (fun _ h_ => h_.1))) (Kd.R_base ho0) hb);have n1_:=Aside0.mk (Kd.R_lower (Kd.R_new' ho0 (Kd.R_lt (by (with_reducible repeat (first | apply Kd.R_alloc | apply Kd.R_drewN | apply Kd.R_drew));exact (Kd.R_mono (Kd.R_mono (Kd.R_far (p:=⟨gb314,1,none⟩) (Kd.R_far (p:=⟨gb314,0,none⟩) (Kd.R_far (p:=⟨gb313,2,none⟩) (Kd.R_far (p:=⟨gb313,1,none⟩) (Kd.R_far (p:=⟨gb313,0,none⟩) (Kd.R_types (Kd.R_types HO307.out BK313.out (by decide)) BK314.out (by decide)) (fun _ hk => hk.1.2) (.slice Ao75 t305.length co75)) (fun _ hk => hk.1.2) (.int .i64 t308)) (fun _ hk => hk.1.2) (.int .u64 t309)) (fun _ hk => hk.2) (.int .i64 t311)) (fun _ hk => hk.2) (.int .i64 t312)) (fun _ h_ => h_.1)) (fun _ h_ => h_.1))))) (us (by repeat (first | (with_reducible first | exact HB.out | apply uc | apply ub | apply ud | refine uh ?_ GE313.out | refine uh ?_ GE314.out) | exact HB.out))));have n2_:=Aside0.mk (uz (g:=gb313) (o:=.cells #[.slice Ao75 t305.length co75,.int .i64 t308,.int .u64 t309] 25 (0,0)) (by (with_reducible repeat (first | refine uf ?_ _ | refine ug ?_ | refine ue ?_ _));refine u1t ?_ NB313_314.out _;(with_reducible repeat (first | refine uf ?_ _ | refine ug ?_ | refine ue ?_ _));refine u1t ?_ NB313_314.out _;(with_reducible repeat (first | refine uf ?_ _ | refine ug ?_ | refine ue ?_ _));refine u2b (cs:=#[.slice Ao75 t305.length co75,.int .i64 t308,.int .u64 0]) ?_ 2 _ rfl;(with_reducible repeat (first | refine uf ?_ _ | refine ug ?_ | refine ue ?_ _));refine u2b (cs:=#[.slice Ao75 t305.length co75,.int .i64 0,.int .u64 0]) ?_ 1 _ rfl;(with_reducible repeat (first | refine uf ?_ _ | refine ug ?_ | refine ue ?_ _));refine u2b (cs:=#[.slice none 0 0,.int .i64 0,.int .u64 0]) ?_ 0 _ rfl;(with_reducible repeat (first | refine uf ?_ _ | refine ug ?_ | refine ue ?_ _));exact BK313.out) hb);have n3_:=Aside0.mk (uz (g:=gb314) (o:=.cells #[.int .i64 t311,.int .i64 t312] 28 (0,0)) (by (with_reducible repeat (first | refine uf ?_ _ | refine ug ?_ | refine ue ?_ _));refine u2b (cs:=#[.int .i64 t311,.int .i64 0]) ?_ 1 _ rfl;(with_reducible repeat (first | refine uf ?_ _ | refine ug ?_ | refine ue ?_ _));refine u2b (cs:=#[.int .i64 0,.int .i64 0]) ?_ 0 _ rfl;(with_reducible repeat (first | refine uf ?_ _ | refine ug ?_ | refine ue ?_ _));refine u1t ?_ NB314_313.out _;(with_reducible repeat (first | refine uf ?_ _ | refine ug ?_ | refine ue ?_ _));refine u1t ?_ NB314_313.out _;(with_reducible repeat (first | refine uf ?_ _ | refine ug ?_ | refine ue ?_ _));refine u1t ?_ NB314_313.out _;(with_reducible repeat (first | refine uf ?_ _ | refine ug ?_ | refine ue ?_ _));exact BK314.out) hb);have n4_:=Aside0.mk (uw (by repeat (first | (with_reducible first | exact HB.out | apply uc | apply ub | apply ud | refine uh ?_ GE313.out | refine uh ?_ GE314.out) | exact HB.out)) hb);clear HO307;clear BK313;clear BK314;clear HB;have HO307:=n0_;have HO317:=n1_;have BK313:=n2_;have BK314:=n3_;have HB:=n4_;clear n0_ n1_ n2_ n3_ n4_;(try clear hb);(try clear hb2);(try clear hk);(try clear hi);(try clear ho0)) | ((with_reducible refine u2e (N:=17) rfl ?_);refine u1y ?hg (N:=17) ?hd (cs:=#[.slice none 0 0,.int .i64 0,.int .u64 0]) (t:=25) ?hr ?_;(case hd => rfl);(case hg => rfl);(case hr => first | (go_simp;done) | (go_simp;rfl));intro gb323 hg w80 hbox hb;have n0_:=Aside0.mk (Kd.R_below (by (with_reducible repeat (first | apply Kd.R_alloc | apply Kd.R_drewN | apply Kd.R_drew));exact HO307.out) hb);have n1_:=Aside0.mk (Kd.R_below (by (with_reducible repeat (first | apply Kd.R_alloc | apply Kd.R_drewN | apply Kd.R_drew));exact HO317.out) hb);have n2_:=Aside0.mk (uz (g:=gb313) (o:=.cells #[.slice Ao75 t305.length co75,.int .i64 t308,.int .u64 t309] 25 (0,0)) (by (with_reducible repeat (first | refine uf ?_ _ | refine ug ?_ | refine ue ?_ _));exact BK313.out) hb);have n3_:=Aside0.mk (uz (g:=gb314) (o:=.cells #[.int .i64 t311,.int .i64 t312] 28 (0,0)) (by (with_reducible repeat (first | refine uf ?_ _ | refine ug ?_ | refine ue ?_ _));exact BK314.out) hb);have n4_:=Aside0.mk (uw (by repeat (first | (with_reducible first | exact HB.out | apply uc | apply ub | apply ud | refine uh ?_ GE313.out | refine uh ?_ GE314.out) | exact HB.out)) hb);have n5_:=Aside0.mk (hbox);have n6_:=Aside0.mk ((by rw [hg];exact (us (by repeat (first | (with_reducible first | exact HB.out | apply uc | apply ub | apply ud | refine uh ?_ GE313.out | refine uh ?_ GE314.out) | exact HB.out))):w.heap.size ≤ gb323));have n7_:=Aside0.mk ((by rw [hg];exact (us (by repeat (first | (with_reducible first | exact HB.out | apply uc | apply ub | apply ud | refine uh ?_ GE313.out | refine uh ?_ GE314.out) | exact HB.out))):w.heap.size ≤ gb323));have n8_:=Aside0.mk ((by rw [hg];exact Nat.ne_of_lt (u1n (g:=gb313) (o:=.cells #[.slice Ao75 t305.length co75,.int .i64 t308,.int .u64 t309] 25 (0,0)) (by (with_reducible repeat (first | refine uf ?_ _ | refine ug ?_ | refine ue ?_ _));exact BK313.out)):gb313 ≠ gb323));have n9_:=Aside0.mk ((by rw [hg];exact Nat.ne_of_gt (u1n (g:=gb313) (o:=.cells #[.slice Ao75 t305.length co75,.int .i64 t308,.int .u64 t309] 25 (0,0)) (by (with_reducible repeat (first | refine uf ?_ _ | refine ug ?_ | refine ue ?_ _));exact BK313.out)):gb323 ≠ gb313));have n10_:=Aside0.mk ((by rw [hg];exact Nat.ne_of_lt (u1n (g:=gb314) (o:=.cells #[.int .i64 t311,.int .i64 t312] 28 (0,0)) (by (with_reducible repeat (first | refine uf ?_ _ | refine ug ?_ | refine ue ?_ _));exact BK314.out)):gb314 ≠ gb323));have n11_:=Aside0.mk ((by rw [hg];exact Nat.ne_of_gt (u1n (g:=gb314) (o:=.cells #[.int .i64 t311,.int .i64 t312] 28 (0,0)) (by (with_reducible repeat (first | refine uf ?_ _ | refine ug ?_ | refine ue ?_ _));exact BK314.out)):gb323 ≠ gb314));clear HO307;clear HO317;clear BK313;clear BK314;clear HB;have HO307:=n0_;have HO317:=n1_;have BK313:=n2_;have BK314:=n3_;have HB:=n4_;have BK323:=n5_;have GW323:=n6_;have GE323:=n7_;have NB313_323:=n8_;have NB323_313:=n9_;have NB314_323:=n10_;have NB323_314:=n11_;clear n0_ n1_ n2_ n3_ n4_ n5_ n6_ n7_ n8_ n9_ n10_ n11_;clear hb hbox hg) | ((with_reducible refine u2e (N:=19) rfl ?_);refine u1y ?hg (N:=19) ?hd (cs:=#[.int .i64 0,.int .i64 0]) (t:=28) ?hr ?_;(case hd => rfl);(case hg => rfl);(case hr => first | (go_simp;done) | (go_simp;rfl));intro gb324 hg w81 hbox hb;have n0_:=Aside0.mk (Kd.R_below (by (with_reducible repeat (first | apply Kd.R_alloc | apply Kd.R_drewN | apply Kd.R_drew));exact HO307.out) hb);have n1_:=Aside0.mk (Kd.R_below (by (with_reducible repeat (first | apply Kd.R_alloc | apply Kd.R_drewN | apply Kd.R_drew));exact HO317.out) hb);have n2_:=Aside0.mk (uz (g:=gb313) (o:=.cells #[.slice Ao75 t305.length co75,.int .i64 t308,.int .u64 t309] 25 (0,0)) (by (with_reducible repeat (first | refine uf ?_ _ | refine ug ?_ | refine ue ?_ _));exact BK313.out) hb);have n3_:=Aside0.mk (uz (g:=gb314) (o:=.cells #[.int .i64 t311,.int .i64 t312] 28 (0,0)) (by (with_reducible repeat (first | refine uf ?_ _ | refine ug ?_ | refine ue ?_ _));exact BK314.out) hb);have n4_:=Aside0.mk (uz (g:=gb323) (o:=.cells #[.slice none 0 0,.int .i64 0,.int .u64 0] 25 (0,0)) (by (with_reducible repeat (first | refine uf ?_ _ | refine ug ?_ | refine ue ?_ _));exact BK323.out) hb);have n5_:=Aside0.mk (uw (by repeat (first | (with_reducible first | exact HB.out | apply uc | apply ub | apply ud | refine uh ?_ GE313.out | refine uh ?_ GE314.out | refine uh ?_ GE323.out) | exact HB.out)) hb);have n6_:=Aside0.mk (hbox);have n7_:=Aside0.mk ((by rw [hg];exact (us (by repeat (first | (with_reducible first | exact HB.out | apply uc | apply ub | apply ud | refine uh ?_ GE313.out | refine uh ?_ GE314.out | refine uh ?_ GE323.out) | exact HB.out))):w.heap.size ≤ gb324));have n8_:=Aside0.mk ((by rw [hg];exact (us (by repeat (first | (with_reducible first | exact HB.out | apply uc | apply ub | apply ud | refine uh ?_ GE313.out | refine uh ?_ GE314.out | refine uh ?_ GE323.out) | exact HB.out))):w.heap.size ≤ gb324));have n9_:=Aside0.mk ((by rw [hg];exact Nat.ne_of_lt (u1n (g:=gb313) (o:=.cells #[.slice Ao75 t305.length co75,.int .i64 t308,.int .u64 t309] 25 (0,0)) (by (with_reducible repeat (first | refine uf ?_ _ | refine ug ?_ | refine ue ?_ _));exact BK313.out)):gb313 ≠ gb324));have n10_:=Aside0.mk ((by rw [hg];exact Nat.ne_of_gt (u1n (g:=gb313) (o:=.cells #[.slice Ao75 t305.length co75,.int .i64 t308,.int .u64 t309] 25 (0,0)) (by (with_reducible repeat (first | refine uf ?_ _ | refine ug ?_ | refine ue ?_ _));exact BK313.out)):gb324 ≠ gb313));have n11_:=Aside0.mk ((by rw [hg];exact Nat.ne_of_lt (u1n (g:=gb314) (o:=.cells #[.int .i64 t311,.int .i64 t312] 28 (0,0)) (by (with_reducible repeat (first | refine uf ?_ _ | refine ug ?_ | refine ue ?_ _));exact BK314.out)):gb314 ≠ gb324));have n12_:=Aside0.mk ((by rw [hg];exact Nat.ne_of_gt (u1n (g:=gb314) (o:=.cells #[.int .i64 t311,.int .i64 t312] 28 (0,0)) (by (with_reducible repeat (first | refine uf ?_ _ | refine ug ?_ | refine ue ?_ _));exact BK314.out)):gb324 ≠ gb314));have n13_:=Aside0.mk ((by rw [hg];exact Nat.ne_of_lt (u1n (g:=gb323) (o:=.cells #[.slice none 0 0,.int .i64 0,.int .u64 0] 25 (0,0)) (by (with_reducible repeat (first | refine uf ?_ _ | refine ug ?_ | refine ue ?_ _));exact BK323.out)):gb323 ≠ gb324));have n14_:=Aside0.mk ((by rw [hg];exact Nat.ne_of_gt (u1n (g:=gb323) (o:=.cells #[.slice none 0 0,.int .i64 0,.int .u64 0] 25 (0,0)) (by (with_reducible repeat (first | refine uf ?_ _ | refine ug ?_ | refine ue ?_ _));exact BK323.out)):gb324 ≠ gb323));clear HO307;clear HO317;clear BK313;clear BK314;clear BK323;clear HB;have HO307:=n0_;have HO317:=n1_;have BK313:=n2_;have BK314:=n3_;have BK323:=n4_;have HB:=n5_;have BK324:=n6_;have GW324:=n7_;have GE324:=n8_;have NB313_324:=n9_;have NB324_313:=n10_;have NB314_324:=n11_;have NB324_314:=n12_;have NB323_324:=n13_;have NB324_323:=n14_;clear n0_ n1_ n2_ n3_ n4_ n5_ n6_ n7_ n8_ n9_ n10_ n11_ n12_ n13_ n14_;clear hb hbox hg;obtain ⟨Ao82,co82,eo82⟩:=Kd.R_slice HO317.out;subst eo82;have hnb83:=NB323_313.out;have hnc83:=NB313_323.out;have hnb84:=NB323_314.out;have hnc84:=NB314_323.out;have hnb85:=NB323_324.out;have hnc85:=NB324_323.out;have hcz86_0:w81.cell? ⟨gb323,0,none⟩ = some (.slice none 0 0):=(un BK323.out 0).trans rfl;have hcz86_1:w81.cell? ⟨gb323,1,none⟩ = some (.int .i64 0):=(un BK323.out 1).trans rfl;have hcz86_2:w81.cell? ⟨gb323,2,none⟩ = some (.int .u64 0):=(un BK323.out 2).trans rfl;have hfz86_0:=um BK323.out 0;have hfz86_1:=um BK323.out 1;have hfz86_2:=um BK323.out 2) | ((with_reducible refine gate_store (t:=25) (p:=17) rfl ?_);refine store_event (t:=25) (p:=17) (v:=?vo_w87) (w1:=(((w81.setCell ⟨gb323,0,none⟩ (.slice Ao82 t315.length co82)).setCell ⟨gb323,1,none⟩ (.int .i64 t318)).setCell ⟨gb323,2,none⟩ (.int .u64 t319))) ?hg ?ho ?hn ?hr ?_;(case ho => rfl);(case hg => rfl);(case hn => rfl);(case hr => first | (go_simp;done) | (go_simp;rfl));intro w87 hw;have n0_:Aside0 (Kd.R k37 37 w87 w.heap.size (fun k_ => some k_ ≠ (.slice Ao82 t315.length co82:Value).ownBlock) (.slice Ao75 t305.length co75) t305):=⟨(by rw [hw];exact (by (with_reducible repeat (first | apply Kd.R_alloc | apply Kd.R_drewN | apply Kd.R_drew));exact Kd.R_mono (Kd.R_far (p:=⟨gb323,2,none⟩) (Kd.R_far (p:=⟨gb323,1,none⟩) (Kd.R_far (p:=⟨gb323,0,none⟩) (Kd.R_types HO307.out BK323.out (by decide)) (fun _ hk => hk.2) (.slice Ao82 t315.length co82)) (fun _ hk => hk.2) (.int .i64 t318)) (fun _ hk => hk.2) (.int .u64 t319)) (fun _ hk => hk.1.2)))⟩;have n1_:Aside0 (Kd.R k37 37 w87 w.heap.size (fun k_ => some k_ ≠ (.slice Ao75 t305.length co75:Value).ownBlock) (.slice Ao82 t315.length co82) t315):=⟨(by rw [hw];exact (by (with_reducible repeat (first | apply Kd.R_alloc | apply Kd.R_drewN | apply Kd.R_drew));exact Kd.R_mono (Kd.R_far (p:=⟨gb323,2,none⟩) (Kd.R_far (p:=⟨gb323,1,none⟩) (Kd.R_far (p:=⟨gb323,0,none⟩) (Kd.R_types HO317.out BK323.out (by decide)) (fun _ hk => hk.2) (.slice Ao82 t315.length co82)) (fun _ hk => hk.2) (.int .i64 t318)) (fun _ hk => hk.2) (.int .u64 t319)) (fun _ hk => hk.1.2)))⟩;have n2_:Aside0 (w87.heap[gb313]? = some (.cells #[.slice Ao75 t305.length co75,.int .i64 t308,.int .u64 t309] 25 (0,0))):=⟨(by rw [hw];exact (by (with_reducible repeat (first | refine uf ?_ _ | refine ug ?_ | refine ue ?_ _));refine u1t ?_ NB313_323.out _;(with_reducible repeat (first | refine uf ?_ _ | refine ug ?_ | refine ue ?_ _));refine u1t ?_ NB313_323.out _;(with_reducible repeat (first | refine uf ?_ _ | refine ug ?_ | refine ue ?_ _));refine u1t ?_ NB313_323.out _;(with_reducible repeat (first | refine uf ?_ _ | refine ug ?_ | refine ue ?_ _));exact BK313.out))⟩;have n3_:Aside0 (w87.heap[gb314]? = some (.cells #[.int .i64 t311,.int .i64 t312] 28 (0,0))):=⟨(by rw [hw];exact (by (with_reducible repeat (first | refine uf ?_ _ | refine ug ?_ | refine ue ?_ _));refine u1t ?_ NB314_323.out _;(with_reducible repeat (first | refine uf ?_ _ | refine ug ?_ | refine ue ?_ _));refine u1t ?_ NB314_323.out _;(with_reducible repeat (first | refine uf ?_ _ | refine ug ?_ | refine ue ?_ _));refine u1t ?_ NB314_323.out _;(with_reducible repeat (first | refine uf ?_ _ | refine ug ?_ | refine ue ?_ _));exact BK314.out))⟩;have n4_:Aside0 (w87.heap[gb323]? = some (.cells #[.slice Ao82 t315.length co82,.int .i64 t318,.int .u64 t319] 25 (0,0))):=⟨(by rw [hw];exact (by (with_reducible repeat (first | refine uf ?_ _ | refine ug ?_ | refine ue ?_ _));refine u2b (cs:=#[.slice Ao82 t315.length co82,.int .i64 t318,.int .u64 0]) ?_ 2 _ rfl;(with_reducible repeat (first | refine uf ?_ _ | refine ug ?_ | refine ue ?_ _));refine u2b (cs:=#[.slice Ao82 t315.length co82,.int .i64 0,.int .u64 0]) ?_ 1 _ rfl;(with_reducible repeat (first | refine uf ?_ _ | refine ug ?_ | refine ue ?_ _));refine u2b (cs:=#[.slice none 0 0,.int .i64 0,.int .u64 0]) ?_ 0 _ rfl;(with_reducible repeat (first | refine uf ?_ _ | refine ug ?_ | refine ue ?_ _));exact BK323.out))⟩;have n5_:Aside0 (w87.heap[gb324]? = some (.cells #[.int .i64 0,.int .i64 0] 28 (0,0))):=⟨(by rw [hw];exact (by (with_reducible repeat (first | refine uf ?_ _ | refine ug ?_ | refine ue ?_ _));refine u1t ?_ NB324_323.out _;(with_reducible repeat (first | refine uf ?_ _ | refine ug ?_ | refine ue ?_ _));refine u1t ?_ NB324_323.out _;(with_reducible repeat (first | refine uf ?_ _ | refine ug ?_ | refine ue ?_ _));refine u1t ?_ NB324_323.out _;(with_reducible repeat (first | refine uf ?_ _ | refine ug ?_ | refine ue ?_ _));exact BK324.out))⟩;have n6_:Aside0 (Below w.heap.size w w87):=⟨(by rw [hw];exact (by repeat (first | (with_reducible first | exact HB.out | apply uc | apply ub | apply ud | refine uh ?_ GE313.out | refine uh ?_ GE314.out | refine uh ?_ GE323.out | refine uh ?_ GE324.out) | exact HB.out)))⟩;clear hw;clear HO307;clear HO317;clear BK313;clear BK314;clear BK323;clear BK324;clear HB;have HO307:=n0_;have HO317:=n1_;have BK313:=n2_;have BK314:=n3_;have BK323:=n4_;have BK324:=n5_;have HB:=n6_;clear n0_ n1_ n2_ n3_ n4_ n5_ n6_;have hnb88:=NB324_313.out;have hnc88:=NB313_324.out;have hnb89:=NB324_314.out;have hnc89:=NB314_324.out;have hcz90_0:w87.cell? ⟨gb324,0,none⟩ = some (.int .i64 0):=(un BK324.out 0).trans rfl;have hcz90_1:w87.cell? ⟨gb324,1,none⟩ = some (.int .i64 0):=(un BK324.out 1).trans rfl;have hfz90_0:=um BK324.out 0;have hfz90_1:=um BK324.out 1) | ((with_reducible refine gate_store (t:=28) (p:=19) rfl ?_);refine store_event (t:=28) (p:=19) (v:=?vo_w91) (w1:=((w87.setCell ⟨gb324,0,none⟩ (.int .i64 t321)).setCell ⟨gb324,1,none⟩ (.int .i64 t322))) ?hg ?ho ?hn ?hr ?_;(case ho => rfl);(case hg => rfl);(case hn => rfl);(case hr => first | (go_simp;done) | (go_simp;rfl));intro w91 hw;have n0_:Aside0 (Kd.R k37 37 w91 w.heap.size (fun k_ => some k_ ≠ (.slice Ao82 t315.length co82:Value).ownBlock) (.slice Ao75 t305.length co75) t305):=⟨(by rw [hw];exact (by (with_reducible repeat (first | apply Kd.R_alloc | apply Kd.R_drewN | apply Kd.R_drew));exact Kd.R_mono (Kd.R_far (p:=⟨gb324,1,none⟩) (Kd.R_far (p:=⟨gb324,0,none⟩) (Kd.R_types HO307.out BK324.out (by decide)) (fun _ hk => hk.2) (.int .i64 t321)) (fun _ hk => hk.2) (.int .i64 t322)) (fun _ hk => hk.1)))⟩;have n1_:Aside0 (Kd.R k37 37 w91 w.heap.size (fun k_ => some k_ ≠ (.slice Ao75 t305.length co75:Value).ownBlock) (.slice Ao82 t315.length co82) t315):=⟨(by rw [hw];exact (by (with_reducible repeat (first | apply Kd.R_alloc | apply Kd.R_drewN | apply Kd.R_drew));exact Kd.R_mono (Kd.R_far (p:=⟨gb324,1,none⟩) (Kd.R_far (p:=⟨gb324,0,none⟩) (Kd.R_types HO317.out BK324.out (by decide)) (fun _ hk => hk.2) (.int .i64 t321)) (fun _ hk => hk.2) (.int .i64 t322)) (fun _ hk => hk.1)))⟩;have n2_:Aside0 (w91.heap[gb313]? = some (.cells #[.slice Ao75 t305.length co75,.int .i64 t308,.int .u64 t309] 25 (0,0))):=⟨(by rw [hw];exact (by (with_reducible repeat (first | refine uf ?_ _ | refine ug ?_ | refine ue ?_ _));refine u1t ?_ NB313_324.out _;(with_reducible repeat (first | refine uf ?_ _ | refine ug ?_ | refine ue ?_ _));refine u1t ?_ NB313_324.out _;(with_reducible repeat (first | refine uf ?_ _ | refine ug ?_ | refine ue ?_ _));exact BK313.out))⟩;have n3_:Aside0 (w91.heap[gb314]? = some (.cells #[.int .i64 t311,.int .i64 t312] 28 (0,0))):=⟨(by rw [hw];exact (by (with_reducible repeat (first | refine uf ?_ _ | refine ug ?_ | refine ue ?_ _));refine u1t ?_ NB314_324.out _;(with_reducible repeat (first | refine uf ?_ _ | refine ug ?_ | refine ue ?_ _));refine u1t ?_ NB314_324.out _;(with_reducible repeat (first | refine uf ?_ _ | refine ug ?_ | refine ue ?_ _));exact BK314.out))⟩;have n4_:Aside0 (w91.heap[gb323]? = some (.cells #[.slice Ao82 t315.length co82,.int .i64 t318,.int .u64 t319] 25 (0,0))):=⟨(by rw [hw];exact (by (with_reducible repeat (first | refine uf ?_ _ | refine ug ?_ | refine ue ?_ _));refine u1t ?_ NB323_324.out _;(with_reducible repeat (first | refine uf ?_ _ | refine ug ?_ | refine ue ?_ _));refine u1t ?_ NB323_324.out _;(with_reducible repeat (first | refine uf ?_ _ | refine ug ?_ | refine ue ?_ _));exact BK323.out))⟩;have n5_:Aside0 (w91.heap[gb324]? = some (.cells #[.int .i64 t321,.int .i64 t322] 28 (0,0))):=⟨(by rw [hw];exact (by (with_reducible repeat (first | refine uf ?_ _ | refine ug ?_ | refine ue ?_ _));refine u2b (cs:=#[.int .i64 t321,.int .i64 0]) ?_ 1 _ rfl;(with_reducible repeat (first | refine uf ?_ _ | refine ug ?_ | refine ue ?_ _));refine u2b (cs:=#[.int .i64 0,.int .i64 0]) ?_ 0 _ rfl;(with_reducible repeat (first | refine uf ?_ _ | refine ug ?_ | refine ue ?_ _));exact BK324.out))⟩;have n6_:Aside0 (Below w.heap.size w w91):=⟨(by rw [hw];exact (by repeat (first | (with_reducible first | exact HB.out | apply uc | apply ub | apply ud | refine uh ?_ GE313.out | refine uh ?_ GE314.out | refine uh ?_ GE323.out | refine uh ?_ GE324.out) | exact HB.out)))⟩;clear hw;clear HO307;clear HO317;clear BK313;clear BK314;clear BK323;clear BK324;clear HB;have HO307:=n0_;have HO317:=n1_;have BK313:=n2_;have BK314:=n3_;have BK323:=n4_;have BK324:=n5_;have HB:=n6_;clear n0_ n1_ n2_ n3_ n4_ n5_ n6_;have hcz92_0:w91.cell? ⟨gb314,0,none⟩ = some (.int .i64 t311):=(un BK314.out 0).trans rfl;have hcz92_1:w91.cell? ⟨gb314,1,none⟩ = some (.int .i64 t312):=(un BK314.out 1).trans rfl;have hfz92_0:=um BK314.out 0;have hfz92_1:=um BK314.out 1;have hcz93_0:w91.cell? ⟨gb324,0,none⟩ = some (.int .i64 t321):=(un BK324.out 0).trans rfl;have hcz93_1:w91.cell? ⟨gb324,1,none⟩ = some (.int .i64 t322):=(un BK324.out 1).trans rfl;have hfz93_0:=um BK324.out 0;have hfz93_1:=um BK324.out 1;have hcz94_0:w91.cell? ⟨gb313,0,none⟩ = some (.slice Ao75 t305.length co75):=(un BK313.out 0).trans rfl;have hcz94_1:w91.cell? ⟨gb313,1,none⟩ = some (.int .i64 t308):=(un BK313.out 1).trans rfl;have hcz94_2:w91.cell? ⟨gb313,2,none⟩ = some (.int .u64 t309):=(un BK313.out 2).trans rfl;have hfz94_0:=um BK313.out 0;have hfz94_1:=um BK313.out 1;have hfz94_2:=um BK313.out 2;have hcz95_0:w91.cell? ⟨gb323,0,none⟩ = some (.slice Ao82 t315.length co82):=(un BK323.out 0).trans rfl;have hcz95_1:w91.cell? ⟨gb323,1,none⟩ = some (.int .i64 t318):=(un BK323.out 1).trans rfl;have hcz95_2:w91.cell? ⟨gb323,2,none⟩ = some (.int .u64 t319):=(un BK323.out 2).trans rfl;have hfz95_0:=um BK323.out 0;have hfz95_1:=um BK323.out 1;have hfz95_2:=um BK323.out 2) | (go_at_call 8;(with_reducible refine (u1u.calls k1 (fun k_ => some k_ = (.slice Ao75 t305.length co75:Value).ownBlock) _ _ t305 t308 t309 (fun k_ => some k_ = (.slice Ao82 t315.length co82:Value).ownBlock) _ _ t315 t318 t319 true _ ?side1 ?side2 A69.out).mono ?_);(case side1 => exact Kd.R_V (Kd.R_tight rfl (Kd.R_types (Kd.R_types (Kd.R_types (Kd.R_types (HO307.out) BK313.out (by decide)) BK314.out (by decide)) BK323.out (by decide)) BK324.out (by decide))));(case side2 => exact Kd.R_V (Kd.R_tight rfl (Kd.R_types (Kd.R_types (Kd.R_types (Kd.R_types (HO317.out) BK313.out (by decide)) BK314.out (by decide)) BK323.out (by decide)) BK324.out (by decide))));rintro e w96 ⟨rfl,hb⟩;have n0_:=Aside0.mk (Kd.R_below (by (with_reducible repeat (first | apply Kd.R_alloc | apply Kd.R_drewN | apply Kd.R_drew));exact HO307.out) hb);have n1_:=Aside0.mk (Kd.R_below (by (with_reducible repeat (first | apply Kd.R_alloc | apply Kd.R_drewN | apply Kd.R_drew));exact HO317.out) hb);have n2_:=Aside0.mk (uz (g:=gb313) (o:=.cells #[.slice Ao75 t305.length co75,.int .i64 t308,.int .u64 t309] 25 (0,0)) (by (with_reducible repeat (first | refine uf ?_ _ | refine ug ?_ | refine ue ?_ _));exact BK313.out) hb);have n3_:=Aside0.mk (uz (g:=gb314) (o:=.cells #[.int .i64 t311,.int .i64 t312] 28 (0,0)) (by (with_reducible repeat (first | refine uf ?_ _ | refine ug ?_ | refine ue ?_ _));exact BK314.out) hb);have n4_:=Aside0.mk (uz (g:=gb323) (o:=.cells #[.slice Ao82 t315.length co82,.int .i64 t318,.int .u64 t319] 25 (0,0)) (by (with_reducible repeat (first | refine uf ?_ _ | refine ug ?_ | refine ue ?_ _));exact BK323.out) hb);have n5_:=Aside0.mk (uz (g:=gb324) (o:=.cells #[.int .i64 t321,.int .i64 t322] 28 (0,0)) (by (with_reducible repeat (first | refine uf ?_ _ | refine ug ?_ | refine ue ?_ _));exact BK324.out) hb);have n6_:=Aside0.mk (uw (by repeat (first | (with_reducible first | exact HB.out | apply uc | apply ub | apply ud | refine uh ?_ GE313.out | refine uh ?_ GE314.out | refine uh ?_ GE323.out | refine uh ?_ GE324.out) | exact HB.out)) hb);clear HO307;clear HO317;clear BK313;clear BK314;clear BK323;clear BK324;clear HB;have HO307:=n0_;have HO317:=n1_;have BK313:=n2_;have BK314:=n3_;have BK323:=n4_;have BK324:=n5_;have HB:=n6_;clear n0_ n1_ n2_ n3_ n4_ n5_ n6_;(try clear hb);(try clear hb2);(try clear hk);(try clear hi);have hcz97_0:w96.cell? ⟨gb313,0,none⟩ = some (.slice Ao75 t305.length co75):=(un BK313.out 0).trans rfl;have hcz97_1:w96.cell? ⟨gb313,1,none⟩ = some (.int .i64 t308):=(un BK313.out 1).trans rfl;have hcz97_2:w96.cell? ⟨gb313,2,none⟩ = some (.int .u64 t309):=(un BK313.out 2).trans rfl;have hfz97_0:=um BK313.out 0;have hfz97_1:=um BK313.out 1;have hfz97_2:=um BK313.out 2) | (go_at_call 8;(with_reducible refine (u1u.calls k1 (fun k_ => some k_ = (.slice Ao75 t305.length co75:Value).ownBlock) _ _ t305 t308 t309 (fun k_ => k_ < w.heap.size) _ _ l0 5 a1 t326 _ ?side1 ?side2 A71.out).mono ?_);(case side1 => exact Kd.R_V (Kd.R_tight rfl (Kd.R_types (Kd.R_types (Kd.R_types (Kd.R_types (HO307.out) BK313.out (by decide)) BK314.out (by decide)) BK323.out (by decide)) BK324.out (by decide))));(case side2 => exact Kd.V_mk HC0.out (Kd.F_below (Kd.C_F k37_heap HR0.out) (by repeat (first | (with_reducible first | exact HB.out | apply uc | apply ub | apply ud | refine uh ?_ GE313.out | refine uh ?_ GE314.out | refine uh ?_ GE323.out | refine uh ?_ GE324.out) | exact HB.out))));rintro e w98 ⟨rfl,hb⟩;have n0_:=Aside0.mk (Kd.R_below (by (with_reducible repeat (first | apply Kd.R_alloc | apply Kd.R_drewN | apply Kd.R_drew));exact HO307.out) hb);have n1_:=Aside0.mk (Kd.R_below (by (with_reducible repeat (first | apply Kd.R_alloc | apply Kd.R_drewN | apply Kd.R_drew));exact HO317.out) hb);have n2_:=Aside0.mk (uz (g:=gb313) (o:=.cells #[.slice Ao75 t305.length co75,.int .i64 t308,.int .u64 t309] 25 (0,0)) (by (with_reducible repeat (first | refine uf ?_ _ | refine ug ?_ | refine ue ?_ _));exact BK313.out) hb);have n3_:=Aside0.mk (uz (g:=gb314) (o:=.cells #[.int .i64 t311,.int .i64 t312] 28 (0,0)) (by (with_reducible repeat (first | refine uf ?_ _ | refine ug ?_ | refine ue ?_ _));exact BK314.out) hb);have n4_:=Aside0.mk (uz (g:=gb323) (o:=.cells #[.slice Ao82 t315.length co82,.int .i64 t318,.int .u64 t319] 25 (0,0)) (by (with_reducible repeat (first | refine uf ?_ _ | refine ug ?_ | refine ue ?_ _));exact BK323.out) hb);have n5_:=Aside0.mk (uz (g:=gb324) (o:=.cells #[.int .i64 t321,.int .i64 t322] 28 (0,0)) (by (with_reducible repeat (first | refine uf ?_ _ | refine ug ?_ | refine ue ?_ _));exact BK324.out) hb);have n6_:=Aside0.mk (uw (by repeat (first | (with_reducible first | exact HB.out | apply uc | apply ub | apply ud | refine uh ?_ GE313.out | refine uh ?_ GE314.out | refine uh ?_ GE323.out | refine uh ?_ GE324.out) | exact HB.out)) hb);clear HO307;clear HO317;clear BK313;clear BK314;clear BK323;clear BK324;clear HB;have HO307:=n0_;have HO317:=n1_;have BK313:=n2_;have BK314:=n3_;have BK323:=n4_;have BK324:=n5_;have HB:=n6_;clear n0_ n1_ n2_ n3_ n4_ n5_ n6_;(try clear hb);(try clear hb2);(try clear hk);(try clear hi)))
                 go_ret
                 exact ⟨by first | rfl | (simp [u1w,u1v] <;> rfl) | (simp [*,u1w,u1v] <;> rfl),by repeat (first | (with_reducible first | exact HB.out | apply uc | apply ub | apply ud | refine uh ?_ GE313.out | refine uh ?_ GE314.out | refine uh ?_ GE323.out | refine uh ?_ GE324.out) | exact HB.out)⟩
                ·replace c70:=Bool.eq_false_iff.mpr c70
                 subst c70
                 have H1:(some false) = some r:=by rw [if_neg (show ¬ (false = true) by decide)] at H;exact H
                 clear H
                 have H:=H1
                 clear H1
                 obtain rfl:=Option.some.inj H
                 go_wp2_with (first | ((with_reducible refine u1s (f:=12) rfl ?_);refine u2q (some 75) rfl rfl Tryd.func12 (by kernel_rfl) rfl #[.int .u64 a1] rfl (by (try simp only [List.map_toArray,List.map_cons,List.map_nil]);first | done | rfl | (simp only [List.length_drop,List.length_take];rfl)) ?_;(with_reducible refine (u2g.calls k1 a1 t304 _ A56.out).mono ?_);rintro e w' ⟨rfl,⟨nd,rfl⟩⟩;refine ⟨_,rfl,?_⟩;(try (rw [drewN_self wr];generalize hq_:World.drewN wr _ = wr;have n0_:Aside0 (Below w.heap.size w wr):=⟨by rw [← hq_];exact (by repeat (first | (with_reducible first | exact HB.out | apply uc | apply ub | apply ud) | exact HB.out))⟩;clear HB hq_;have HB:=n0_;clear n0_))) | ((with_reducible refine u1s (f:=6) rfl ?_);refine u2q (some 82) rfl rfl Tryd.func6 (by kernel_rfl) rfl #[.string (((⟨#[123]⟩:ByteArray) ++ x8_1) ++ ((⟨#[125,32]⟩:ByteArray) ++ t304)),.int .i64 5] rfl (by (try simp only [List.map_toArray,List.map_cons,List.map_nil]);first | done | rfl | (simp only [List.length_drop,List.length_take];rfl)) ?_;(with_reducible refine (u1q.calls (((⟨#[123]⟩:ByteArray) ++ x8_1) ++ ((⟨#[125,32]⟩:ByteArray) ++ t304)) 5 t305 t308 t309 true t311 t312 _ A60.out).mono ?_);rintro e w99 ⟨v306,rfl,ho0,hb⟩;refine ⟨_,rfl,?_⟩;have n0_:=Aside0.mk (Kd.R_lower ho0 (us (by repeat (first | (with_reducible first | exact HB.out | apply uc | apply ub | apply ud) | exact HB.out))));have n1_:=Aside0.mk (uw (by repeat (first | (with_reducible first | exact HB.out | apply uc | apply ub | apply ud) | exact HB.out)) hb);clear HB;have HO307:=n0_;have HB:=n1_;clear n0_ n1_;(try clear hb);(try clear hb2);(try clear hk);(try clear hi);(try clear ho0)) | ((with_reducible refine u2e (N:=14) rfl ?_);refine u1y ?hg (N:=14) ?hd (cs:=#[.slice none 0 0,.int .i64 0,.int .u64 0]) (t:=25) ?hr ?_;(case hd => rfl);(case hg => rfl);(case hr => first | (go_simp;done) | (go_simp;rfl));intro gb313 hg w100 hbox hb;have n0_:=Aside0.mk (Kd.R_below (by (with_reducible repeat (first | apply Kd.R_alloc | apply Kd.R_drewN | apply Kd.R_drew));exact HO307.out) hb);have n1_:=Aside0.mk (uw (by repeat (first | (with_reducible first | exact HB.out | apply uc | apply ub | apply ud) | exact HB.out)) hb);have n2_:=Aside0.mk (hbox);have n3_:=Aside0.mk ((by rw [hg];exact (us (by repeat (first | (with_reducible first | exact HB.out | apply uc | apply ub | apply ud) | exact HB.out))):w.heap.size ≤ gb313));have n4_:=Aside0.mk ((by rw [hg];exact (us (by repeat (first | (with_reducible first | exact HB.out | apply uc | apply ub | apply ud) | exact HB.out))):w.heap.size ≤ gb313));clear HO307;clear HB;have HO307:=n0_;have HB:=n1_;have BK313:=n2_;have GW313:=n3_;have GE313:=n4_;clear n0_ n1_ n2_ n3_ n4_;clear hb hbox hg) | ((with_reducible refine u2e (N:=16) rfl ?_);refine u1y ?hg (N:=16) ?hd (cs:=#[.int .i64 0,.int .i64 0]) (t:=28) ?hr ?_;(case hd => rfl);(case hg => rfl);(case hr => first | (go_simp;done) | (go_simp;rfl));intro gb314 hg w101 hbox hb;have n0_:=Aside0.mk (Kd.R_below (by (with_reducible repeat (first | apply Kd.R_alloc | apply Kd.R_drewN | apply Kd.R_drew));exact HO307.out) hb);have n1_:=Aside0.mk (uz (g:=gb313) (o:=.cells #[.slice none 0 0,.int .i64 0,.int .u64 0] 25 (0,0)) (by (with_reducible repeat (first | refine uf ?_ _ | refine ug ?_ | refine ue ?_ _));exact BK313.out) hb);have n2_:=Aside0.mk (uw (by repeat (first | (with_reducible first | exact HB.out | apply uc | apply ub | apply ud | refine uh ?_ GE313.out) | exact HB.out)) hb);have n3_:=Aside0.mk (hbox);have n4_:=Aside0.mk ((by rw [hg];exact (us (by repeat (first | (with_reducible first | exact HB.out | apply uc | apply ub | apply ud | refine uh ?_ GE313.out) | exact HB.out))):w.heap.size ≤ gb314));have n5_:=Aside0.mk ((by rw [hg];exact (us (by repeat (first | (with_reducible first | exact HB.out | apply uc | apply ub | apply ud | refine uh ?_ GE313.out) | exact HB.out))):w.heap.size ≤ gb314));have n6_:=Aside0.mk ((by rw [hg];exact Nat.ne_of_lt (u1n (g:=gb313) (o:=.cells #[.slice none 0 0,.int .i64 0,.int .u64 0] 25 (0,0)) (by (with_reducible repeat (first | refine uf ?_ _ | refine ug ?_ | refine ue ?_ _));exact BK313.out)):gb313 ≠ gb314));have n7_:=Aside0.mk ((by rw [hg];exact Nat.ne_of_gt (u1n (g:=gb313) (o:=.cells #[.slice none 0 0,.int .i64 0,.int .u64 0] 25 (0,0)) (by (with_reducible repeat (first | refine uf ?_ _ | refine ug ?_ | refine ue ?_ _));exact BK313.out)):gb314 ≠ gb313));clear HO307;clear BK313;clear HB;have HO307:=n0_;have BK313:=n1_;have HB:=n2_;have BK314:=n3_;have GW314:=n4_;have GE314:=n5_;have NB313_314:=n6_;have NB314_313:=n7_;clear n0_ n1_ n2_ n3_ n4_ n5_ n6_ n7_;clear hb hbox hg;obtain ⟨Ao102,co102,eo102⟩:=Kd.R_slice HO307.out;subst eo102;have hnb103:=NB313_314.out;have hnc103:=NB314_313.out;have hcz104_0:w101.cell? ⟨gb313,0,none⟩ = some (.slice none 0 0):=(un BK313.out 0).trans rfl;have hcz104_1:w101.cell? ⟨gb313,1,none⟩ = some (.int .i64 0):=(un BK313.out 1).trans rfl;have hcz104_2:w101.cell? ⟨gb313,2,none⟩ = some (.int .u64 0):=(un BK313.out 2).trans rfl;have hfz104_0:=um BK313.out 0;have hfz104_1:=um BK313.out 1;have hfz104_2:=um BK313.out 2;have hcz105_0:w101.cell? ⟨gb314,0,none⟩ = some (.int .i64 0):=(un BK314.out 0).trans rfl;have hcz105_1:w101.cell? ⟨gb314,1,none⟩ = some (.int .i64 0):=(un BK314.out 1).trans rfl;have hfz105_0:=um BK314.out 0;have hfz105_1:=um BK314.out 1) | ((with_reducible refine u1s (f:=6) rfl ?_);refine u2q (some 92) rfl rfl Tryd.func6 (by kernel_rfl) rfl #[.string ((((⟨#[123]⟩:ByteArray) ++ x9_1) ++ ((⟨#[125,32]⟩:ByteArray) ++ t304)) ++ (⟨#[32,53]⟩:ByteArray)),.int .i64 0] rfl (by (try simp only [List.map_toArray,List.map_cons,List.map_nil]);first | done | rfl | (simp only [List.length_drop,List.length_take];rfl)) ?_;(with_reducible refine (u1q.calls ((((⟨#[123]⟩:ByteArray) ++ x9_1) ++ ((⟨#[125,32]⟩:ByteArray) ++ t304)) ++ (⟨#[32,53]⟩:ByteArray)) 0 t315 t318 t319 true t321 t322 _ A64.out).mono ?_);rintro e w106 ⟨v316,rfl,ho0,hb⟩;refine ⟨_,rfl,?_⟩;have n0_:=Aside0.mk (Kd.R_elder' (by (with_reducible repeat (first | apply Kd.R_alloc | apply Kd.R_drewN | apply Kd.R_drew));exact (Kd.R_mono (Kd.R_mono (Kd.R_far (p:=⟨gb314,1,none⟩) (Kd.R_far (p:=⟨gb314,0,none⟩) (Kd.R_far (p:=⟨gb313,2,none⟩) (Kd.R_far (p:=⟨gb313,1,none⟩) (Kd.R_far (p:=⟨gb313,0,none⟩) (Kd.R_types (Kd.R_types HO307.out BK313.out (by decide)) BK314.out (by decide)) (fun _ hk => hk.1.2) (.slice Ao102 t305.length co102)) (fun _ hk => hk.1.2) (.int .i64 t308)) (fun _ hk => hk.1.2) (.int .u64 t309)) (fun _ hk => hk.2) (.int .i64 t311)) (fun _ hk => hk.2) (.int .i64 t312)) (fun _ h_ => h_.1)) (fun _ h_ => h_.1))) (Kd.R_base ho0) hb);have n1_:=Aside0.mk (Kd.R_lower (Kd.R_new' ho0 (Kd.R_lt (by (with_reducible repeat (first | apply Kd.R_alloc | apply Kd.R_drewN | apply Kd.R_drew));exact (Kd.R_mono (Kd.R_mono (Kd.R_far (p:=⟨gb314,1,none⟩) (Kd.R_far (p:=⟨gb314,0,none⟩) (Kd.R_far (p:=⟨gb313,2,none⟩) (Kd.R_far (p:=⟨gb313,1,none⟩) (Kd.R_far (p:=⟨gb313,0,none⟩) (Kd.R_types (Kd.R_types HO307.out BK313.out (by decide)) BK314.out (by decide)) (fun _ hk => hk.1.2) (.slice Ao102 t305.length co102)) (fun _ hk => hk.1.2) (.int .i64 t308)) (fun _ hk => hk.1.2) (.int .u64 t309)) (fun _ hk => hk.2) (.int .i64 t311)) (fun _ hk => hk.2) (.int .i64 t312)) (fun _ h_ => h_.1)) (fun _ h_ => h_.1))))) (us (by repeat (first | (with_reducible first | exact HB.out | apply uc | apply ub | apply ud | refine uh ?_ GE313.out | refine uh ?_ GE314.out) | exact HB.out))));have n2_:=Aside0.mk (uz (g:=gb313) (o:=.cells #[.slice Ao102 t305.length co102,.int .i64 t308,.int .u64 t309] 25 (0,0)) (by (with_reducible repeat (first | refine uf ?_ _ | refine ug ?_ | refine ue ?_ _));refine u1t ?_ NB313_314.out _;(with_reducible repeat (first | refine uf ?_ _ | refine ug ?_ | refine ue ?_ _));refine u1t ?_ NB313_314.out _;(with_reducible repeat (first | refine uf ?_ _ | refine ug ?_ | refine ue ?_ _));refine u2b (cs:=#[.slice Ao102 t305.length co102,.int .i64 t308,.int .u64 0]) ?_ 2 _ rfl;(with_reducible repeat (first | refine uf ?_ _ | refine ug ?_ | refine ue ?_ _));refine u2b (cs:=#[.slice Ao102 t305.length co102,.int .i64 0,.int .u64 0]) ?_ 1 _ rfl;(with_reducible repeat (first | refine uf ?_ _ | refine ug ?_ | refine ue ?_ _));refine u2b (cs:=#[.slice none 0 0,.int .i64 0,.int .u64 0]) ?_ 0 _ rfl;(with_reducible repeat (first | refine uf ?_ _ | refine ug ?_ | refine ue ?_ _));exact BK313.out) hb);have n3_:=Aside0.mk (uz (g:=gb314) (o:=.cells #[.int .i64 t311,.int .i64 t312] 28 (0,0)) (by (with_reducible repeat (first | refine uf ?_ _ | refine ug ?_ | refine ue ?_ _));refine u2b (cs:=#[.int .i64 t311,.int .i64 0]) ?_ 1 _ rfl;(with_reducible repeat (first | refine uf ?_ _ | refine ug ?_ | refine ue ?_ _));refine u2b (cs:=#[.int .i64 0,.int .i64 0]) ?_ 0 _ rfl;(with_reducible repeat (first | refine uf ?_ _ | refine ug ?_ | refine ue ?_ _));refine u1t ?_ NB314_313.out _;(with_reducible repeat (first | refine uf ?_ _ | refine ug ?_ | refine ue ?_ _));refine u1t ?_ NB314_313.out _;(with_reducible repeat (first | refine uf ?_ _ | refine ug ?_ | refine ue ?_ _));refine u1t ?_ NB314_313.out _;(with_reducible repeat (first | refine uf ?_ _ | refine ug ?_ | refine ue ?_ _));exact BK314.out) hb);have n4_:=Aside0.mk (uw (by repeat (first | (with_reducible first | exact HB.out | apply uc | apply ub | apply ud | refine uh ?_ GE313.out | refine uh ?_ GE314.out) | exact HB.out)) hb);clear HO307;clear BK313;clear BK314;clear HB;have HO307:=n0_;have HO317:=n1_;have BK313:=n2_;have BK314:=n3_;have HB:=n4_;clear n0_ n1_ n2_ n3_ n4_;(try clear hb);(try clear hb2);(try clear hk);(try clear hi);(try clear ho0)) | ((with_reducible refine u2e (N:=17) rfl ?_);refine u1y ?hg (N:=17) ?hd (cs:=#[.slice none 0 0,.int .i64 0,.int .u64 0]) (t:=25) ?hr ?_;(case hd => rfl);(case hg => rfl);(case hr => first | (go_simp;done) | (go_simp;rfl));intro gb323 hg w107 hbox hb;have n0_:=Aside0.mk (Kd.R_below (by (with_reducible repeat (first | apply Kd.R_alloc | apply Kd.R_drewN | apply Kd.R_drew));exact HO307.out) hb);have n1_:=Aside0.mk (Kd.R_below (by (with_reducible repeat (first | apply Kd.R_alloc | apply Kd.R_drewN | apply Kd.R_drew));exact HO317.out) hb);have n2_:=Aside0.mk (uz (g:=gb313) (o:=.cells #[.slice Ao102 t305.length co102,.int .i64 t308,.int .u64 t309] 25 (0,0)) (by (with_reducible repeat (first | refine uf ?_ _ | refine ug ?_ | refine ue ?_ _));exact BK313.out) hb);have n3_:=Aside0.mk (uz (g:=gb314) (o:=.cells #[.int .i64 t311,.int .i64 t312] 28 (0,0)) (by (with_reducible repeat (first | refine uf ?_ _ | refine ug ?_ | refine ue ?_ _));exact BK314.out) hb);have n4_:=Aside0.mk (uw (by repeat (first | (with_reducible first | exact HB.out | apply uc | apply ub | apply ud | refine uh ?_ GE313.out | refine uh ?_ GE314.out) | exact HB.out)) hb);have n5_:=Aside0.mk (hbox);have n6_:=Aside0.mk ((by rw [hg];exact (us (by repeat (first | (with_reducible first | exact HB.out | apply uc | apply ub | apply ud | refine uh ?_ GE313.out | refine uh ?_ GE314.out) | exact HB.out))):w.heap.size ≤ gb323));have n7_:=Aside0.mk ((by rw [hg];exact (us (by repeat (first | (with_reducible first | exact HB.out | apply uc | apply ub | apply ud | refine uh ?_ GE313.out | refine uh ?_ GE314.out) | exact HB.out))):w.heap.size ≤ gb323));have n8_:=Aside0.mk ((by rw [hg];exact Nat.ne_of_lt (u1n (g:=gb313) (o:=.cells #[.slice Ao102 t305.length co102,.int .i64 t308,.int .u64 t309] 25 (0,0)) (by (with_reducible repeat (first | refine uf ?_ _ | refine ug ?_ | refine ue ?_ _));exact BK313.out)):gb313 ≠ gb323));have n9_:=Aside0.mk ((by rw [hg];exact Nat.ne_of_gt (u1n (g:=gb313) (o:=.cells #[.slice Ao102 t305.length co102,.int .i64 t308,.int .u64 t309] 25 (0,0)) (by (with_reducible repeat (first | refine uf ?_ _ | refine ug ?_ | refine ue ?_ _));exact BK313.out)):gb323 ≠ gb313));have n10_:=Aside0.mk ((by rw [hg];exact Nat.ne_of_lt (u1n (g:=gb314) (o:=.cells #[.int .i64 t311,.int .i64 t312] 28 (0,0)) (by (with_reducible repeat (first | refine uf ?_ _ | refine ug ?_ | refine ue ?_ _));exact BK314.out)):gb314 ≠ gb323));have n11_:=Aside0.mk ((by rw [hg];exact Nat.ne_of_gt (u1n (g:=gb314) (o:=.cells #[.int .i64 t311,.int .i64 t312] 28 (0,0)) (by (with_reducible repeat (first | refine uf ?_ _ | refine ug ?_ | refine ue ?_ _));exact BK314.out)):gb323 ≠ gb314));clear HO307;clear HO317;clear BK313;clear BK314;clear HB;have HO307:=n0_;have HO317:=n1_;have BK313:=n2_;have BK314:=n3_;have HB:=n4_;have BK323:=n5_;have GW323:=n6_;have GE323:=n7_;have NB313_323:=n8_;have NB323_313:=n9_;have NB314_323:=n10_;have NB323_314:=n11_;clear n0_ n1_ n2_ n3_ n4_ n5_ n6_ n7_ n8_ n9_ n10_ n11_;clear hb hbox hg) | ((with_reducible refine u2e (N:=19) rfl ?_);refine u1y ?hg (N:=19) ?hd (cs:=#[.int .i64 0,.int .i64 0]) (t:=28) ?hr ?_;(case hd => rfl);(case hg => rfl);(case hr => first | (go_simp;done) | (go_simp;rfl));intro gb324 hg w108 hbox hb;have n0_:=Aside0.mk (Kd.R_below (by (with_reducible repeat (first | apply Kd.R_alloc | apply Kd.R_drewN | apply Kd.R_drew));exact HO307.out) hb);have n1_:=Aside0.mk (Kd.R_below (by (with_reducible repeat (first | apply Kd.R_alloc | apply Kd.R_drewN | apply Kd.R_drew));exact HO317.out) hb);have n2_:=Aside0.mk (uz (g:=gb313) (o:=.cells #[.slice Ao102 t305.length co102,.int .i64 t308,.int .u64 t309] 25 (0,0)) (by (with_reducible repeat (first | refine uf ?_ _ | refine ug ?_ | refine ue ?_ _));exact BK313.out) hb);have n3_:=Aside0.mk (uz (g:=gb314) (o:=.cells #[.int .i64 t311,.int .i64 t312] 28 (0,0)) (by (with_reducible repeat (first | refine uf ?_ _ | refine ug ?_ | refine ue ?_ _));exact BK314.out) hb);have n4_:=Aside0.mk (uz (g:=gb323) (o:=.cells #[.slice none 0 0,.int .i64 0,.int .u64 0] 25 (0,0)) (by (with_reducible repeat (first | refine uf ?_ _ | refine ug ?_ | refine ue ?_ _));exact BK323.out) hb);have n5_:=Aside0.mk (uw (by repeat (first | (with_reducible first | exact HB.out | apply uc | apply ub | apply ud | refine uh ?_ GE313.out | refine uh ?_ GE314.out | refine uh ?_ GE323.out) | exact HB.out)) hb);have n6_:=Aside0.mk (hbox);have n7_:=Aside0.mk ((by rw [hg];exact (us (by repeat (first | (with_reducible first | exact HB.out | apply uc | apply ub | apply ud | refine uh ?_ GE313.out | refine uh ?_ GE314.out | refine uh ?_ GE323.out) | exact HB.out))):w.heap.size ≤ gb324));have n8_:=Aside0.mk ((by rw [hg];exact (us (by repeat (first | (with_reducible first | exact HB.out | apply uc | apply ub | apply ud | refine uh ?_ GE313.out | refine uh ?_ GE314.out | refine uh ?_ GE323.out) | exact HB.out))):w.heap.size ≤ gb324));have n9_:=Aside0.mk ((by rw [hg];exact Nat.ne_of_lt (u1n (g:=gb313) (o:=.cells #[.slice Ao102 t305.length co102,.int .i64 t308,.int .u64 t309] 25 (0,0)) (by (with_reducible repeat (first | refine uf ?_ _ | refine ug ?_ | refine ue ?_ _));exact BK313.out)):gb313 ≠ gb324));have n10_:=Aside0.mk ((by rw [hg];exact Nat.ne_of_gt (u1n (g:=gb313) (o:=.cells #[.slice Ao102 t305.length co102,.int .i64 t308,.int .u64 t309] 25 (0,0)) (by (with_reducible repeat (first | refine uf ?_ _ | refine ug ?_ | refine ue ?_ _));exact BK313.out)):gb324 ≠ gb313));have n11_:=Aside0.mk ((by rw [hg];exact Nat.ne_of_lt (u1n (g:=gb314) (o:=.cells #[.int .i64 t311,.int .i64 t312] 28 (0,0)) (by (with_reducible repeat (first | refine uf ?_ _ | refine ug ?_ | refine ue ?_ _));exact BK314.out)):gb314 ≠ gb324));have n12_:=Aside0.mk ((by rw [hg];exact Nat.ne_of_gt (u1n (g:=gb314) (o:=.cells #[.int .i64 t311,.int .i64 t312] 28 (0,0)) (by (with_reducible repeat (first | refine uf ?_ _ | refine ug ?_ | refine ue ?_ _));exact BK314.out)):gb324 ≠ gb314));have n13_:=Aside0.mk ((by rw [hg];exact Nat.ne_of_lt (u1n (g:=gb323) (o:=.cells #[.slice none 0 0,.int .i64 0,.int .u64 0] 25 (0,0)) (by (with_reducible repeat (first | refine uf ?_ _ | refine ug ?_ | refine ue ?_ _));exact BK323.out)):gb323 ≠ gb324));have n14_:=Aside0.mk ((by rw [hg];exact Nat.ne_of_gt (u1n (g:=gb323) (o:=.cells #[.slice none 0 0,.int .i64 0,.int .u64 0] 25 (0,0)) (by (with_reducible repeat (first | refine uf ?_ _ | refine ug ?_ | refine ue ?_ _));exact BK323.out)):gb324 ≠ gb323));clear HO307;clear HO317;clear BK313;clear BK314;clear BK323;clear HB;have HO307:=n0_;have HO317:=n1_;have BK313:=n2_;have BK314:=n3_;have BK323:=n4_;have HB:=n5_;have BK324:=n6_;have GW324:=n7_;have GE324:=n8_;have NB313_324:=n9_;have NB324_313:=n10_;have NB314_324:=n11_;have NB324_314:=n12_;have NB323_324:=n13_;have NB324_323:=n14_;clear n0_ n1_ n2_ n3_ n4_ n5_ n6_ n7_ n8_ n9_ n10_ n11_ n12_ n13_ n14_;clear hb hbox hg;obtain ⟨Ao109,co109,eo109⟩:=Kd.R_slice HO317.out;subst eo109;have hnb110:=NB323_313.out;have hnc110:=NB313_323.out;have hnb111:=NB323_314.out;have hnc111:=NB314_323.out;have hnb112:=NB323_324.out;have hnc112:=NB324_323.out;have hcz113_0:w108.cell? ⟨gb323,0,none⟩ = some (.slice none 0 0):=(un BK323.out 0).trans rfl;have hcz113_1:w108.cell? ⟨gb323,1,none⟩ = some (.int .i64 0):=(un BK323.out 1).trans rfl;have hcz113_2:w108.cell? ⟨gb323,2,none⟩ = some (.int .u64 0):=(un BK323.out 2).trans rfl;have hfz113_0:=um BK323.out 0;have hfz113_1:=um BK323.out 1;have hfz113_2:=um BK323.out 2) | ((with_reducible refine gate_store (t:=25) (p:=17) rfl ?_);refine store_event (t:=25) (p:=17) (v:=?vo_w114) (w1:=(((w108.setCell ⟨gb323,0,none⟩ (.slice Ao109 t315.length co109)).setCell ⟨gb323,1,none⟩ (.int .i64 t318)).setCell ⟨gb323,2,none⟩ (.int .u64 t319))) ?hg ?ho ?hn ?hr ?_;(case ho => rfl);(case hg => rfl);(case hn => rfl);(case hr => first | (go_simp;done) | (go_simp;rfl));intro w114 hw;have n0_:Aside0 (Kd.R k37 37 w114 w.heap.size (fun k_ => some k_ ≠ (.slice Ao109 t315.length co109:Value).ownBlock) (.slice Ao102 t305.length co102) t305):=⟨(by rw [hw];exact (by (with_reducible repeat (first | apply Kd.R_alloc | apply Kd.R_drewN | apply Kd.R_drew));exact Kd.R_mono (Kd.R_far (p:=⟨gb323,2,none⟩) (Kd.R_far (p:=⟨gb323,1,none⟩) (Kd.R_far (p:=⟨gb323,0,none⟩) (Kd.R_types HO307.out BK323.out (by decide)) (fun _ hk => hk.2) (.slice Ao109 t315.length co109)) (fun _ hk => hk.2) (.int .i64 t318)) (fun _ hk => hk.2) (.int .u64 t319)) (fun _ hk => hk.1.2)))⟩;have n1_:Aside0 (Kd.R k37 37 w114 w.heap.size (fun k_ => some k_ ≠ (.slice Ao102 t305.length co102:Value).ownBlock) (.slice Ao109 t315.length co109) t315):=⟨(by rw [hw];exact (by (with_reducible repeat (first | apply Kd.R_alloc | apply Kd.R_drewN | apply Kd.R_drew));exact Kd.R_mono (Kd.R_far (p:=⟨gb323,2,none⟩) (Kd.R_far (p:=⟨gb323,1,none⟩) (Kd.R_far (p:=⟨gb323,0,none⟩) (Kd.R_types HO317.out BK323.out (by decide)) (fun _ hk => hk.2) (.slice Ao109 t315.length co109)) (fun _ hk => hk.2) (.int .i64 t318)) (fun _ hk => hk.2) (.int .u64 t319)) (fun _ hk => hk.1.2)))⟩;have n2_:Aside0 (w114.heap[gb313]? = some (.cells #[.slice Ao102 t305.length co102,.int .i64 t308,.int .u64 t309] 25 (0,0))):=⟨(by rw [hw];exact (by (with_reducible repeat (first | refine uf ?_ _ | refine ug ?_ | refine ue ?_ _));refine u1t ?_ NB313_323.out _;(with_reducible repeat (first | refine uf ?_ _ | refine ug ?_ | refine ue ?_ _));refine u1t ?_ NB313_323.out _;(with_reducible repeat (first | refine uf ?_ _ | refine ug ?_ | refine ue ?_ _));refine u1t ?_ NB313_323.out _;(with_reducible repeat (first | refine uf ?_ _ | refine ug ?_ | refine ue ?_ _));exact BK313.out))⟩;have n3_:Aside0 (w114.heap[gb314]? = some (.cells #[.int .i64 t311,.int .i64 t312] 28 (0,0))):=⟨(by rw [hw];exact (by (with_reducible repeat (first | refine uf ?_ _ | refine ug ?_ | refine ue ?_ _));refine u1t ?_ NB314_323.out _;(with_reducible repeat (first | refine uf ?_ _ | refine ug ?_ | refine ue ?_ _));refine u1t ?_ NB314_323.out _;(with_reducible repeat (first | refine uf ?_ _ | refine ug ?_ | refine ue ?_ _));refine u1t ?_ NB314_323.out _;(with_reducible repeat (first | refine uf ?_ _ | refine ug ?_ | refine ue ?_ _));exact BK314.out))⟩;have n4_:Aside0 (w114.heap[gb323]? = some (.cells #[.slice Ao109 t315.length co109,.int .i64 t318,.int .u64 t319] 25 (0,0))):=⟨(by rw [hw];exact (by (with_reducible repeat (first | refine uf ?_ _ | refine ug ?_ | refine ue ?_ _));refine u2b (cs:=#[.slice Ao109 t315.length co109,.int .i64 t318,.int .u64 0]) ?_ 2 _ rfl;(with_reducible repeat (first | refine uf ?_ _ | refine ug ?_ | refine ue ?_ _));refine u2b (cs:=#[.slice Ao109 t315.length co109,.int .i64 0,.int .u64 0]) ?_ 1 _ rfl;(with_reducible repeat (first | refine uf ?_ _ | refine ug ?_ | refine ue ?_ _));refine u2b (cs:=#[.slice none 0 0,.int .i64 0,.int .u64 0]) ?_ 0 _ rfl;(with_reducible repeat (first | refine uf ?_ _ | refine ug ?_ | refine ue ?_ _));exact BK323.out))⟩;have n5_:Aside0 (w114.heap[gb324]? = some (.cells #[.int .i64 0,.int .i64 0] 28 (0,0))):=⟨(by rw [hw];exact (by (with_reducible repeat (first | refine uf ?_ _ | refine ug ?_ | refine ue ?_ _));refine u1t ?_ NB324_323.out _;(with_reducible repeat (first | refine uf ?_ _ | refine ug ?_ | refine ue ?_ _));refine u1t ?_ NB324_323.out _;(with_reducible repeat (first | refine uf ?_ _ | refine ug ?_ | refine ue ?_ _));refine u1t ?_ NB324_323.out _;(with_reducible repeat (first | refine uf ?_ _ | refine ug ?_ | refine ue ?_ _));exact BK324.out))⟩;have n6_:Aside0 (Below w.heap.size w w114):=⟨(by rw [hw];exact (by repeat (first | (with_reducible first | exact HB.out | apply uc | apply ub | apply ud | refine uh ?_ GE313.out | refine uh ?_ GE314.out | refine uh ?_ GE323.out | refine uh ?_ GE324.out) | exact HB.out)))⟩;clear hw;clear HO307;clear HO317;clear BK313;clear BK314;clear BK323;clear BK324;clear HB;have HO307:=n0_;have HO317:=n1_;have BK313:=n2_;have BK314:=n3_;have BK323:=n4_;have BK324:=n5_;have HB:=n6_;clear n0_ n1_ n2_ n3_ n4_ n5_ n6_;have hnb115:=NB324_313.out;have hnc115:=NB313_324.out;have hnb116:=NB324_314.out;have hnc116:=NB314_324.out;have hcz117_0:w114.cell? ⟨gb324,0,none⟩ = some (.int .i64 0):=(un BK324.out 0).trans rfl;have hcz117_1:w114.cell? ⟨gb324,1,none⟩ = some (.int .i64 0):=(un BK324.out 1).trans rfl;have hfz117_0:=um BK324.out 0;have hfz117_1:=um BK324.out 1) | ((with_reducible refine gate_store (t:=28) (p:=19) rfl ?_);refine store_event (t:=28) (p:=19) (v:=?vo_w118) (w1:=((w114.setCell ⟨gb324,0,none⟩ (.int .i64 t321)).setCell ⟨gb324,1,none⟩ (.int .i64 t322))) ?hg ?ho ?hn ?hr ?_;(case ho => rfl);(case hg => rfl);(case hn => rfl);(case hr => first | (go_simp;done) | (go_simp;rfl));intro w118 hw;have n0_:Aside0 (Kd.R k37 37 w118 w.heap.size (fun k_ => some k_ ≠ (.slice Ao109 t315.length co109:Value).ownBlock) (.slice Ao102 t305.length co102) t305):=⟨(by rw [hw];exact (by (with_reducible repeat (first | apply Kd.R_alloc | apply Kd.R_drewN | apply Kd.R_drew));exact Kd.R_mono (Kd.R_far (p:=⟨gb324,1,none⟩) (Kd.R_far (p:=⟨gb324,0,none⟩) (Kd.R_types HO307.out BK324.out (by decide)) (fun _ hk => hk.2) (.int .i64 t321)) (fun _ hk => hk.2) (.int .i64 t322)) (fun _ hk => hk.1)))⟩;have n1_:Aside0 (Kd.R k37 37 w118 w.heap.size (fun k_ => some k_ ≠ (.slice Ao102 t305.length co102:Value).ownBlock) (.slice Ao109 t315.length co109) t315):=⟨(by rw [hw];exact (by (with_reducible repeat (first | apply Kd.R_alloc | apply Kd.R_drewN | apply Kd.R_drew));exact Kd.R_mono (Kd.R_far (p:=⟨gb324,1,none⟩) (Kd.R_far (p:=⟨gb324,0,none⟩) (Kd.R_types HO317.out BK324.out (by decide)) (fun _ hk => hk.2) (.int .i64 t321)) (fun _ hk => hk.2) (.int .i64 t322)) (fun _ hk => hk.1)))⟩;have n2_:Aside0 (w118.heap[gb313]? = some (.cells #[.slice Ao102 t305.length co102,.int .i64 t308,.int .u64 t309] 25 (0,0))):=⟨(by rw [hw];exact (by (with_reducible repeat (first | refine uf ?_ _ | refine ug ?_ | refine ue ?_ _));refine u1t ?_ NB313_324.out _;(with_reducible repeat (first | refine uf ?_ _ | refine ug ?_ | refine ue ?_ _));refine u1t ?_ NB313_324.out _;(with_reducible repeat (first | refine uf ?_ _ | refine ug ?_ | refine ue ?_ _));exact BK313.out))⟩;have n3_:Aside0 (w118.heap[gb314]? = some (.cells #[.int .i64 t311,.int .i64 t312] 28 (0,0))):=⟨(by rw [hw];exact (by (with_reducible repeat (first | refine uf ?_ _ | refine ug ?_ | refine ue ?_ _));refine u1t ?_ NB314_324.out _;(with_reducible repeat (first | refine uf ?_ _ | refine ug ?_ | refine ue ?_ _));refine u1t ?_ NB314_324.out _;(with_reducible repeat (first | refine uf ?_ _ | refine ug ?_ | refine ue ?_ _));exact BK314.out))⟩;have n4_:Aside0 (w118.heap[gb323]? = some (.cells #[.slice Ao109 t315.length co109,.int .i64 t318,.int .u64 t319] 25 (0,0))):=⟨(by rw [hw];exact (by (with_reducible repeat (first | refine uf ?_ _ | refine ug ?_ | refine ue ?_ _));refine u1t ?_ NB323_324.out _;(with_reducible repeat (first | refine uf ?_ _ | refine ug ?_ | refine ue ?_ _));refine u1t ?_ NB323_324.out _;(with_reducible repeat (first | refine uf ?_ _ | refine ug ?_ | refine ue ?_ _));exact BK323.out))⟩;have n5_:Aside0 (w118.heap[gb324]? = some (.cells #[.int .i64 t321,.int .i64 t322] 28 (0,0))):=⟨(by rw [hw];exact (by (with_reducible repeat (first | refine uf ?_ _ | refine ug ?_ | refine ue ?_ _));refine u2b (cs:=#[.int .i64 t321,.int .i64 0]) ?_ 1 _ rfl;(with_reducible repeat (first | refine uf ?_ _ | refine ug ?_ | refine ue ?_ _));refine u2b (cs:=#[.int .i64 0,.int .i64 0]) ?_ 0 _ rfl;(with_reducible repeat (first | refine uf ?_ _ | refine ug ?_ | refine ue ?_ _));exact BK324.out))⟩;have n6_:Aside0 (Below w.heap.size w w118):=⟨(by rw [hw];exact (by repeat (first | (with_reducible first | exact HB.out | apply uc | apply ub | apply ud | refine uh ?_ GE313.out | refine uh ?_ GE314.out | refine uh ?_ GE323.out | refine uh ?_ GE324.out) | exact HB.out)))⟩;clear hw;clear HO307;clear HO317;clear BK313;clear BK314;clear BK323;clear BK324;clear HB;have HO307:=n0_;have HO317:=n1_;have BK313:=n2_;have BK314:=n3_;have BK323:=n4_;have BK324:=n5_;have HB:=n6_;clear n0_ n1_ n2_ n3_ n4_ n5_ n6_;have hcz119_0:w118.cell? ⟨gb314,0,none⟩ = some (.int .i64 t311):=(un BK314.out 0).trans rfl;have hcz119_1:w118.cell? ⟨gb314,1,none⟩ = some (.int .i64 t312):=(un BK314.out 1).trans rfl;have hfz119_0:=um BK314.out 0;have hfz119_1:=um BK314.out 1;have hcz120_0:w118.cell? ⟨gb324,0,none⟩ = some (.int .i64 t321):=(un BK324.out 0).trans rfl;have hcz120_1:w118.cell? ⟨gb324,1,none⟩ = some (.int .i64 t322):=(un BK324.out 1).trans rfl;have hfz120_0:=um BK324.out 0;have hfz120_1:=um BK324.out 1;have hcz121_0:w118.cell? ⟨gb313,0,none⟩ = some (.slice Ao102 t305.length co102):=(un BK313.out 0).trans rfl;have hcz121_1:w118.cell? ⟨gb313,1,none⟩ = some (.int .i64 t308):=(un BK313.out 1).trans rfl;have hcz121_2:w118.cell? ⟨gb313,2,none⟩ = some (.int .u64 t309):=(un BK313.out 2).trans rfl;have hfz121_0:=um BK313.out 0;have hfz121_1:=um BK313.out 1;have hfz121_2:=um BK313.out 2;have hcz122_0:w118.cell? ⟨gb323,0,none⟩ = some (.slice Ao109 t315.length co109):=(un BK323.out 0).trans rfl;have hcz122_1:w118.cell? ⟨gb323,1,none⟩ = some (.int .i64 t318):=(un BK323.out 1).trans rfl;have hcz122_2:w118.cell? ⟨gb323,2,none⟩ = some (.int .u64 t319):=(un BK323.out 2).trans rfl;have hfz122_0:=um BK323.out 0;have hfz122_1:=um BK323.out 1;have hfz122_2:=um BK323.out 2) | (go_at_call 8;(with_reducible refine (u1u.calls k1 (fun k_ => some k_ = (.slice Ao102 t305.length co102:Value).ownBlock) _ _ t305 t308 t309 (fun k_ => some k_ = (.slice Ao109 t315.length co109:Value).ownBlock) _ _ t315 t318 t319 false _ ?side1 ?side2 A69.out).mono ?_);(case side1 => exact Kd.R_V (Kd.R_tight rfl (Kd.R_types (Kd.R_types (Kd.R_types (Kd.R_types (HO307.out) BK313.out (by decide)) BK314.out (by decide)) BK323.out (by decide)) BK324.out (by decide))));(case side2 => exact Kd.R_V (Kd.R_tight rfl (Kd.R_types (Kd.R_types (Kd.R_types (Kd.R_types (HO317.out) BK313.out (by decide)) BK314.out (by decide)) BK323.out (by decide)) BK324.out (by decide))));rintro e w123 ⟨rfl,hb⟩;have n0_:=Aside0.mk (Kd.R_below (by (with_reducible repeat (first | apply Kd.R_alloc | apply Kd.R_drewN | apply Kd.R_drew));exact HO307.out) hb);have n1_:=Aside0.mk (Kd.R_below (by (with_reducible repeat (first | apply Kd.R_alloc | apply Kd.R_drewN | apply Kd.R_drew));exact HO317.out) hb);have n2_:=Aside0.mk (uz (g:=gb313) (o:=.cells #[.slice Ao102 t305.length co102,.int .i64 t308,.int .u64 t309] 25 (0,0)) (by (with_reducible repeat (first | refine uf ?_ _ | refine ug ?_ | refine ue ?_ _));exact BK313.out) hb);have n3_:=Aside0.mk (uz (g:=gb314) (o:=.cells #[.int .i64 t311,.int .i64 t312] 28 (0,0)) (by (with_reducible repeat (first | refine uf ?_ _ | refine ug ?_ | refine ue ?_ _));exact BK314.out) hb);have n4_:=Aside0.mk (uz (g:=gb323) (o:=.cells #[.slice Ao109 t315.length co109,.int .i64 t318,.int .u64 t319] 25 (0,0)) (by (with_reducible repeat (first | refine uf ?_ _ | refine ug ?_ | refine ue ?_ _));exact BK323.out) hb);have n5_:=Aside0.mk (uz (g:=gb324) (o:=.cells #[.int .i64 t321,.int .i64 t322] 28 (0,0)) (by (with_reducible repeat (first | refine uf ?_ _ | refine ug ?_ | refine ue ?_ _));exact BK324.out) hb);have n6_:=Aside0.mk (uw (by repeat (first | (with_reducible first | exact HB.out | apply uc | apply ub | apply ud | refine uh ?_ GE313.out | refine uh ?_ GE314.out | refine uh ?_ GE323.out | refine uh ?_ GE324.out) | exact HB.out)) hb);clear HO307;clear HO317;clear BK313;clear BK314;clear BK323;clear BK324;clear HB;have HO307:=n0_;have HO317:=n1_;have BK313:=n2_;have BK314:=n3_;have BK323:=n4_;have BK324:=n5_;have HB:=n6_;clear n0_ n1_ n2_ n3_ n4_ n5_ n6_;(try clear hb);(try clear hb2);(try clear hk);(try clear hi)))
                 go_ret
                 exact ⟨by first | rfl | (simp [u1w,u1v] <;> rfl) | (simp [*,u1w,u1v] <;> rfl),by repeat (first | (with_reducible first | exact HB.out | apply uc | apply ub | apply ud | refine uh ?_ GE313.out | refine uh ?_ GE314.out | refine uh ?_ GE323.out | refine uh ?_ GE324.out) | exact HB.out)⟩
               ·rw [if_neg c68] at H
                have c68b0:(t311 == 0) = false:=beq_eq_false_iff_ne.mpr c68
                have c68b1:(t311 != 0) = true:=bne_iff_ne.mpr c68
                obtain rfl:=Option.some.inj H
                go_wp2_with (first | ((with_reducible refine u1s (f:=12) rfl ?_);refine u2q (some 75) rfl rfl Tryd.func12 (by kernel_rfl) rfl #[.int .u64 a1] rfl (by (try simp only [List.map_toArray,List.map_cons,List.map_nil]);first | done | rfl | (simp only [List.length_drop,List.length_take];rfl)) ?_;(with_reducible refine (u2g.calls k1 a1 t304 _ A56.out).mono ?_);rintro e w' ⟨rfl,⟨nd,rfl⟩⟩;refine ⟨_,rfl,?_⟩;(try (rw [drewN_self wr];generalize hq_:World.drewN wr _ = wr;have n0_:Aside0 (Below w.heap.size w wr):=⟨by rw [← hq_];exact (by repeat (first | (with_reducible first | exact HB.out | apply uc | apply ub | apply ud) | exact HB.out))⟩;clear HB hq_;have HB:=n0_;clear n0_))) | ((with_reducible refine u1s (f:=6) rfl ?_);refine u2q (some 82) rfl rfl Tryd.func6 (by kernel_rfl) rfl #[.string (((⟨#[123]⟩:ByteArray) ++ x8_1) ++ ((⟨#[125,32]⟩:ByteArray) ++ t304)),.int .i64 5] rfl (by (try simp only [List.map_toArray,List.map_cons,List.map_nil]);first | done | rfl | (simp only [List.length_drop,List.length_take];rfl)) ?_;(with_reducible refine (u1q.calls (((⟨#[123]⟩:ByteArray) ++ x8_1) ++ ((⟨#[125,32]⟩:ByteArray) ++ t304)) 5 t305 t308 t309 true t311 t312 _ A60.out).mono ?_);rintro e w124 ⟨v306,rfl,ho0,hb⟩;refine ⟨_,rfl,?_⟩;have n0_:=Aside0.mk (Kd.R_lower ho0 (us (by repeat (first | (with_reducible first | exact HB.out | apply uc | apply ub | apply ud) | exact HB.out))));have n1_:=Aside0.mk (uw (by repeat (first | (with_reducible first | exact HB.out | apply uc | apply ub | apply ud) | exact HB.out)) hb);clear HB;have HO307:=n0_;have HB:=n1_;clear n0_ n1_;(try clear hb);(try clear hb2);(try clear hk);(try clear hi);(try clear ho0)) | ((with_reducible refine u2e (N:=14) rfl ?_);refine u1y ?hg (N:=14) ?hd (cs:=#[.slice none 0 0,.int .i64 0,.int .u64 0]) (t:=25) ?hr ?_;(case hd => rfl);(case hg => rfl);(case hr => first | (go_simp;done) | (go_simp;rfl));intro gb313 hg w125 hbox hb;have n0_:=Aside0.mk (Kd.R_below (by (with_reducible repeat (first | apply Kd.R_alloc | apply Kd.R_drewN | apply Kd.R_drew));exact HO307.out) hb);have n1_:=Aside0.mk (uw (by repeat (first | (with_reducible first | exact HB.out | apply uc | apply ub | apply ud) | exact HB.out)) hb);have n2_:=Aside0.mk (hbox);have n3_:=Aside0.mk ((by rw [hg];exact (us (by repeat (first | (with_reducible first | exact HB.out | apply uc | apply ub | apply ud) | exact HB.out))):w.heap.size ≤ gb313));have n4_:=Aside0.mk ((by rw [hg];exact (us (by repeat (first | (with_reducible first | exact HB.out | apply uc | apply ub | apply ud) | exact HB.out))):w.heap.size ≤ gb313));clear HO307;clear HB;have HO307:=n0_;have HB:=n1_;have BK313:=n2_;have GW313:=n3_;have GE313:=n4_;clear n0_ n1_ n2_ n3_ n4_;clear hb hbox hg) | ((with_reducible refine u2e (N:=16) rfl ?_);refine u1y ?hg (N:=16) ?hd (cs:=#[.int .i64 0,.int .i64 0]) (t:=28) ?hr ?_;(case hd => rfl);(case hg => rfl);(case hr => first | (go_simp;done) | (go_simp;rfl));intro gb314 hg w126 hbox hb;have n0_:=Aside0.mk (Kd.R_below (by (with_reducible repeat (first | apply Kd.R_alloc | apply Kd.R_drewN | apply Kd.R_drew));exact HO307.out) hb);have n1_:=Aside0.mk (uz (g:=gb313) (o:=.cells #[.slice none 0 0,.int .i64 0,.int .u64 0] 25 (0,0)) (by (with_reducible repeat (first | refine uf ?_ _ | refine ug ?_ | refine ue ?_ _));exact BK313.out) hb);have n2_:=Aside0.mk (uw (by repeat (first | (with_reducible first | exact HB.out | apply uc | apply ub | apply ud | refine uh ?_ GE313.out) | exact HB.out)) hb);have n3_:=Aside0.mk (hbox);have n4_:=Aside0.mk ((by rw [hg];exact (us (by repeat (first | (with_reducible first | exact HB.out | apply uc | apply ub | apply ud | refine uh ?_ GE313.out) | exact HB.out))):w.heap.size ≤ gb314));have n5_:=Aside0.mk ((by rw [hg];exact (us (by repeat (first | (with_reducible first | exact HB.out | apply uc | apply ub | apply ud | refine uh ?_ GE313.out) | exact HB.out))):w.heap.size ≤ gb314));have n6_:=Aside0.mk ((by rw [hg];exact Nat.ne_of_lt (u1n (g:=gb313) (o:=.cells #[.slice none 0 0,.int .i64 0,.int .u64 0] 25 (0,0)) (by (with_reducible repeat (first | refine uf ?_ _ | refine ug ?_ | refine ue ?_ _));exact BK313.out)):gb313 ≠ gb314));have n7_:=Aside0.mk ((by rw [hg];exact Nat.ne_of_gt (u1n (g:=gb313) (o:=.cells #[.slice none 0 0,.int .i64 0,.int .u64 0] 25 (0,0)) (by (with_reducible repeat (first | refine uf ?_ _ | refine ug ?_ | refine ue ?_ _));exact BK313.out)):gb314 ≠ gb313));clear HO307;clear BK313;clear HB;have HO307:=n0_;have BK313:=n1_;have HB:=n2_;have BK314:=n3_;have GW314:=n4_;have GE314:=n5_;have NB313_314:=n6_;have NB314_313:=n7_;clear n0_ n1_ n2_ n3_ n4_ n5_ n6_ n7_;clear hb hbox hg;obtain ⟨Ao127,co127,eo127⟩:=Kd.R_slice HO307.out;subst eo127;have hnb128:=NB313_314.out;have hnc128:=NB314_313.out;have hcz129_0:w126.cell? ⟨gb313,0,none⟩ = some (.slice none 0 0):=(un BK313.out 0).trans rfl;have hcz129_1:w126.cell? ⟨gb313,1,none⟩ = some (.int .i64 0):=(un BK313.out 1).trans rfl;have hcz129_2:w126.cell? ⟨gb313,2,none⟩ = some (.int .u64 0):=(un BK313.out 2).trans rfl;have hfz129_0:=um BK313.out 0;have hfz129_1:=um BK313.out 1;have hfz129_2:=um BK313.out 2;have hcz130_0:w126.cell? ⟨gb314,0,none⟩ = some (.int .i64 0):=(un BK314.out 0).trans rfl;have hcz130_1:w126.cell? ⟨gb314,1,none⟩ = some (.int .i64 0):=(un BK314.out 1).trans rfl;have hfz130_0:=um BK314.out 0;have hfz130_1:=um BK314.out 1) | ((with_reducible refine u1s (f:=6) rfl ?_);refine u2q (some 92) rfl rfl Tryd.func6 (by kernel_rfl) rfl #[.string ((((⟨#[123]⟩:ByteArray) ++ x9_1) ++ ((⟨#[125,32]⟩:ByteArray) ++ t304)) ++ (⟨#[32,53]⟩:ByteArray)),.int .i64 0] rfl (by (try simp only [List.map_toArray,List.map_cons,List.map_nil]);first | done | rfl | (simp only [List.length_drop,List.length_take];rfl)) ?_;(with_reducible refine (u1q.calls ((((⟨#[123]⟩:ByteArray) ++ x9_1) ++ ((⟨#[125,32]⟩:ByteArray) ++ t304)) ++ (⟨#[32,53]⟩:ByteArray)) 0 t315 t318 t319 true t321 t322 _ A64.out).mono ?_);rintro e w131 ⟨v316,rfl,ho0,hb⟩;refine ⟨_,rfl,?_⟩;have n0_:=Aside0.mk (Kd.R_elder' (by (with_reducible repeat (first | apply Kd.R_alloc | apply Kd.R_drewN | apply Kd.R_drew));exact (Kd.R_mono (Kd.R_mono (Kd.R_far (p:=⟨gb314,1,none⟩) (Kd.R_far (p:=⟨gb314,0,none⟩) (Kd.R_far (p:=⟨gb313,2,none⟩) (Kd.R_far (p:=⟨gb313,1,none⟩) (Kd.R_far (p:=⟨gb313,0,none⟩) (Kd.R_types (Kd.R_types HO307.out BK313.out (by decide)) BK314.out (by decide)) (fun _ hk => hk.1.2) (.slice Ao127 t305.length co127)) (fun _ hk => hk.1.2) (.int .i64 t308)) (fun _ hk => hk.1.2) (.int .u64 t309)) (fun _ hk => hk.2) (.int .i64 t311)) (fun _ hk => hk.2) (.int .i64 t312)) (fun _ h_ => h_.1)) (fun _ h_ => h_.1))) (Kd.R_base ho0) hb);have n1_:=Aside0.mk (Kd.R_lower (Kd.R_new' ho0 (Kd.R_lt (by (with_reducible repeat (first | apply Kd.R_alloc | apply Kd.R_drewN | apply Kd.R_drew));exact (Kd.R_mono (Kd.R_mono (Kd.R_far (p:=⟨gb314,1,none⟩) (Kd.R_far (p:=⟨gb314,0,none⟩) (Kd.R_far (p:=⟨gb313,2,none⟩) (Kd.R_far (p:=⟨gb313,1,none⟩) (Kd.R_far (p:=⟨gb313,0,none⟩) (Kd.R_types (Kd.R_types HO307.out BK313.out (by decide)) BK314.out (by decide)) (fun _ hk => hk.1.2) (.slice Ao127 t305.length co127)) (fun _ hk => hk.1.2) (.int .i64 t308)) (fun _ hk => hk.1.2) (.int .u64 t309)) (fun _ hk => hk.2) (.int .i64 t311)) (fun _ hk => hk.2) (.int .i64 t312)) (fun _ h_ => h_.1)) (fun _ h_ => h_.1))))) (us (by repeat (first | (with_reducible first | exact HB.out | apply uc | apply ub | apply ud | refine uh ?_ GE313.out | refine uh ?_ GE314.out) | exact HB.out))));have n2_:=Aside0.mk (uz (g:=gb313) (o:=.cells #[.slice Ao127 t305.length co127,.int .i64 t308,.int .u64 t309] 25 (0,0)) (by (with_reducible repeat (first | refine uf ?_ _ | refine ug ?_ | refine ue ?_ _));refine u1t ?_ NB313_314.out _;(with_reducible repeat (first | refine uf ?_ _ | refine ug ?_ | refine ue ?_ _));refine u1t ?_ NB313_314.out _;(with_reducible repeat (first | refine uf ?_ _ | refine ug ?_ | refine ue ?_ _));refine u2b (cs:=#[.slice Ao127 t305.length co127,.int .i64 t308,.int .u64 0]) ?_ 2 _ rfl;(with_reducible repeat (first | refine uf ?_ _ | refine ug ?_ | refine ue ?_ _));refine u2b (cs:=#[.slice Ao127 t305.length co127,.int .i64 0,.int .u64 0]) ?_ 1 _ rfl;(with_reducible repeat (first | refine uf ?_ _ | refine ug ?_ | refine ue ?_ _));refine u2b (cs:=#[.slice none 0 0,.int .i64 0,.int .u64 0]) ?_ 0 _ rfl;(with_reducible repeat (first | refine uf ?_ _ | refine ug ?_ | refine ue ?_ _));exact BK313.out) hb);have n3_:=Aside0.mk (uz (g:=gb314) (o:=.cells #[.int .i64 t311,.int .i64 t312] 28 (0,0)) (by (with_reducible repeat (first | refine uf ?_ _ | refine ug ?_ | refine ue ?_ _));refine u2b (cs:=#[.int .i64 t311,.int .i64 0]) ?_ 1 _ rfl;(with_reducible repeat (first | refine uf ?_ _ | refine ug ?_ | refine ue ?_ _));refine u2b (cs:=#[.int .i64 0,.int .i64 0]) ?_ 0 _ rfl;(with_reducible repeat (first | refine uf ?_ _ | refine ug ?_ | refine ue ?_ _));refine u1t ?_ NB314_313.out _;(with_reducible repeat (first | refine uf ?_ _ | refine ug ?_ | refine ue ?_ _));refine u1t ?_ NB314_313.out _;(with_reducible repeat (first | refine uf ?_ _ | refine ug ?_ | refine ue ?_ _));refine u1t ?_ NB314_313.out _;(with_reducible repeat (first | refine uf ?_ _ | refine ug ?_ | refine ue ?_ _));exact BK314.out) hb);have n4_:=Aside0.mk (uw (by repeat (first | (with_reducible first | exact HB.out | apply uc | apply ub | apply ud | refine uh ?_ GE313.out | refine uh ?_ GE314.out) | exact HB.out)) hb);clear HO307;clear BK313;clear BK314;clear HB;have HO307:=n0_;have HO317:=n1_;have BK313:=n2_;have BK314:=n3_;have HB:=n4_;clear n0_ n1_ n2_ n3_ n4_;(try clear hb);(try clear hb2);(try clear hk);(try clear hi);(try clear ho0)) | ((with_reducible refine u2e (N:=17) rfl ?_);refine u1y ?hg (N:=17) ?hd (cs:=#[.slice none 0 0,.int .i64 0,.int .u64 0]) (t:=25) ?hr ?_;(case hd => rfl);(case hg => rfl);(case hr => first | (go_simp;done) | (go_simp;rfl));intro gb323 hg w132 hbox hb;have n0_:=Aside0.mk (Kd.R_below (by (with_reducible repeat (first | apply Kd.R_alloc | apply Kd.R_drewN | apply Kd.R_drew));exact HO307.out) hb);have n1_:=Aside0.mk (Kd.R_below (by (with_reducible repeat (first | apply Kd.R_alloc | apply Kd.R_drewN | apply Kd.R_drew));exact HO317.out) hb);have n2_:=Aside0.mk (uz (g:=gb313) (o:=.cells #[.slice Ao127 t305.length co127,.int .i64 t308,.int .u64 t309] 25 (0,0)) (by (with_reducible repeat (first | refine uf ?_ _ | refine ug ?_ | refine ue ?_ _));exact BK313.out) hb);have n3_:=Aside0.mk (uz (g:=gb314) (o:=.cells #[.int .i64 t311,.int .i64 t312] 28 (0,0)) (by (with_reducible repeat (first | refine uf ?_ _ | refine ug ?_ | refine ue ?_ _));exact BK314.out) hb);have n4_:=Aside0.mk (uw (by repeat (first | (with_reducible first | exact HB.out | apply uc | apply ub | apply ud | refine uh ?_ GE313.out | refine uh ?_ GE314.out) | exact HB.out)) hb);have n5_:=Aside0.mk (hbox);have n6_:=Aside0.mk ((by rw [hg];exact (us (by repeat (first | (with_reducible first | exact HB.out | apply uc | apply ub | apply ud | refine uh ?_ GE313.out | refine uh ?_ GE314.out) | exact HB.out))):w.heap.size ≤ gb323));have n7_:=Aside0.mk ((by rw [hg];exact (us (by repeat (first | (with_reducible first | exact HB.out | apply uc | apply ub | apply ud | refine uh ?_ GE313.out | refine uh ?_ GE314.out) | exact HB.out))):w.heap.size ≤ gb323));have n8_:=Aside0.mk ((by rw [hg];exact Nat.ne_of_lt (u1n (g:=gb313) (o:=.cells #[.slice Ao127 t305.length co127,.int .i64 t308,.int .u64 t309] 25 (0,0)) (by (with_reducible repeat (first | refine uf ?_ _ | refine ug ?_ | refine ue ?_ _));exact BK313.out)):gb313 ≠ gb323));have n9_:=Aside0.mk ((by rw [hg];exact Nat.ne_of_gt (u1n (g:=gb313) (o:=.cells #[.slice Ao127 t305.length co127,.int .i64 t308,.int .u64 t309] 25 (0,0)) (by (with_reducible repeat (first | refine uf ?_ _ | refine ug ?_ | refine ue ?_ _));exact BK313.out)):gb323 ≠ gb313));have n10_:=Aside0.mk ((by rw [hg];exact Nat.ne_of_lt (u1n (g:=gb314) (o:=.cells #[.int .i64 t311,.int .i64 t312] 28 (0,0)) (by (with_reducible repeat (first | refine uf ?_ _ | refine ug ?_ | refine ue ?_ _));exact BK314.out)):gb314 ≠ gb323));have n11_:=Aside0.mk ((by rw [hg];exact Nat.ne_of_gt (u1n (g:=gb314) (o:=.cells #[.int .i64 t311,.int .i64 t312] 28 (0,0)) (by (with_reducible repeat (first | refine uf ?_ _ | refine ug ?_ | refine ue ?_ _));exact BK314.out)):gb323 ≠ gb314));clear HO307;clear HO317;clear BK313;clear BK314;clear HB;have HO307:=n0_;have HO317:=n1_;have BK313:=n2_;have BK314:=n3_;have HB:=n4_;have BK323:=n5_;have GW323:=n6_;have GE323:=n7_;have NB313_323:=n8_;have NB323_313:=n9_;have NB314_323:=n10_;have NB323_314:=n11_;clear n0_ n1_ n2_ n3_ n4_ n5_ n6_ n7_ n8_ n9_ n10_ n11_;clear hb hbox hg) | ((with_reducible refine u2e (N:=19) rfl ?_);refine u1y ?hg (N:=19) ?hd (cs:=#[.int .i64 0,.int .i64 0]) (t:=28) ?hr ?_;(case hd => rfl);(case hg => rfl);(case hr => first | (go_simp;done) | (go_simp;rfl));intro gb324 hg w133 hbox hb;have n0_:=Aside0.mk (Kd.R_below (by (with_reducible repeat (first | apply Kd.R_alloc | apply Kd.R_drewN | apply Kd.R_drew));exact HO307.out) hb);have n1_:=Aside0.mk (Kd.R_below (by (with_reducible repeat (first | apply Kd.R_alloc | apply Kd.R_drewN | apply Kd.R_drew));exact HO317.out) hb);have n2_:=Aside0.mk (uz (g:=gb313) (o:=.cells #[.slice Ao127 t305.length co127,.int .i64 t308,.int .u64 t309] 25 (0,0)) (by (with_reducible repeat (first | refine uf ?_ _ | refine ug ?_ | refine ue ?_ _));exact BK313.out) hb);have n3_:=Aside0.mk (uz (g:=gb314) (o:=.cells #[.int .i64 t311,.int .i64 t312] 28 (0,0)) (by (with_reducible repeat (first | refine uf ?_ _ | refine ug ?_ | refine ue ?_ _));exact BK314.out) hb);have n4_:=Aside0.mk (uz (g:=gb323) (o:=.cells #[.slice none 0 0,.int .i64 0,.int .u64 0] 25 (0,0)) (by (with_reducible repeat (first | refine uf ?_ _ | refine ug ?_ | refine ue ?_ _));exact BK323.out) hb);have n5_:=Aside0.mk (uw (by repeat (first | (with_reducible first | exact HB.out | apply uc | apply ub | apply ud | refine uh ?_ GE313.out | refine uh ?_ GE314.out | refine uh ?_ GE323.out) | exact HB.out)) hb);have n6_:=Aside0.mk (hbox);have n7_:=Aside0.mk ((by rw [hg];exact (us (by repeat (first | (with_reducible first | exact HB.out | apply uc | apply ub | apply ud | refine uh ?_ GE313.out | refine uh ?_ GE314.out | refine uh ?_ GE323.out) | exact HB.out))):w.heap.size ≤ gb324));have n8_:=Aside0.mk ((by rw [hg];exact (us (by repeat (first | (with_reducible first | exact HB.out | apply uc | apply ub | apply ud | refine uh ?_ GE313.out | refine uh ?_ GE314.out | refine uh ?_ GE323.out) | exact HB.out))):w.heap.size ≤ gb324));have n9_:=Aside0.mk ((by rw [hg];exact Nat.ne_of_lt (u1n (g:=gb313) (o:=.cells #[.slice Ao127 t305.length co127,.int .i64 t308,.int .u64 t309] 25 (0,0)) (by (with_reducible repeat (first | refine uf ?_ _ | refine ug ?_ | refine ue ?_ _));exact BK313.out)):gb313 ≠ gb324));have n10_:=Aside0.mk ((by rw [hg];exact Nat.ne_of_gt (u1n (g:=gb313) (o:=.cells #[.slice Ao127 t305.length co127,.int .i64 t308,.int .u64 t309] 25 (0,0)) (by (with_reducible repeat (first | refine uf ?_ _ | refine ug ?_ | refine ue ?_ _));exact BK313.out)):gb324 ≠ gb313));have n11_:=Aside0.mk ((by rw [hg];exact Nat.ne_of_lt (u1n (g:=gb314) (o:=.cells #[.int .i64 t311,.int .i64 t312] 28 (0,0)) (by (with_reducible repeat (first | refine uf ?_ _ | refine ug ?_ | refine ue ?_ _));exact BK314.out)):gb314 ≠ gb324));have n12_:=Aside0.mk ((by rw [hg];exact Nat.ne_of_gt (u1n (g:=gb314) (o:=.cells #[.int .i64 t311,.int .i64 t312] 28 (0,0)) (by (with_reducible repeat (first | refine uf ?_ _ | refine ug ?_ | refine ue ?_ _));exact BK314.out)):gb324 ≠ gb314));have n13_:=Aside0.mk ((by rw [hg];exact Nat.ne_of_lt (u1n (g:=gb323) (o:=.cells #[.slice none 0 0,.int .i64 0,.int .u64 0] 25 (0,0)) (by (with_reducible repeat (first | refine uf ?_ _ | refine ug ?_ | refine ue ?_ _));exact BK323.out)):gb323 ≠ gb324));have n14_:=Aside0.mk ((by rw [hg];exact Nat.ne_of_gt (u1n (g:=gb323) (o:=.cells #[.slice none 0 0,.int .i64 0,.int .u64 0] 25 (0,0)) (by (with_reducible repeat (first | refine uf ?_ _ | refine ug ?_ | refine ue ?_ _));exact BK323.out)):gb324 ≠ gb323));clear HO307;clear HO317;clear BK313;clear BK314;clear BK323;clear HB;have HO307:=n0_;have HO317:=n1_;have BK313:=n2_;have BK314:=n3_;have BK323:=n4_;have HB:=n5_;have BK324:=n6_;have GW324:=n7_;have GE324:=n8_;have NB313_324:=n9_;have NB324_313:=n10_;have NB314_324:=n11_;have NB324_314:=n12_;have NB323_324:=n13_;have NB324_323:=n14_;clear n0_ n1_ n2_ n3_ n4_ n5_ n6_ n7_ n8_ n9_ n10_ n11_ n12_ n13_ n14_;clear hb hbox hg;obtain ⟨Ao134,co134,eo134⟩:=Kd.R_slice HO317.out;subst eo134;have hnb135:=NB323_313.out;have hnc135:=NB313_323.out;have hnb136:=NB323_314.out;have hnc136:=NB314_323.out;have hnb137:=NB323_324.out;have hnc137:=NB324_323.out;have hcz138_0:w133.cell? ⟨gb323,0,none⟩ = some (.slice none 0 0):=(un BK323.out 0).trans rfl;have hcz138_1:w133.cell? ⟨gb323,1,none⟩ = some (.int .i64 0):=(un BK323.out 1).trans rfl;have hcz138_2:w133.cell? ⟨gb323,2,none⟩ = some (.int .u64 0):=(un BK323.out 2).trans rfl;have hfz138_0:=um BK323.out 0;have hfz138_1:=um BK323.out 1;have hfz138_2:=um BK323.out 2;have hnb139:=NB324_313.out;have hnc139:=NB313_324.out;have hnb140:=NB324_314.out;have hnc140:=NB314_324.out;have hcz141_0:w133.cell? ⟨gb324,0,none⟩ = some (.int .i64 0):=(un BK324.out 0).trans rfl;have hcz141_1:w133.cell? ⟨gb324,1,none⟩ = some (.int .i64 0):=(un BK324.out 1).trans rfl;have hfz141_0:=um BK324.out 0;have hfz141_1:=um BK324.out 1;have hcz142_0:w133.cell? ⟨gb314,0,none⟩ = some (.int .i64 t311):=(un BK314.out 0).trans rfl;have hcz142_1:w133.cell? ⟨gb314,1,none⟩ = some (.int .i64 t312):=(un BK314.out 1).trans rfl;have hfz142_0:=um BK314.out 0;have hfz142_1:=um BK314.out 1))
                go_ret
                exact ⟨by first | rfl | (simp [u1w,u1v] <;> rfl) | (simp [*,u1w,u1v] <;> rfl),by repeat (first | (with_reducible first | exact HB.out | apply uc | apply ub | apply ud | refine uh ?_ GE313.out | refine uh ?_ GE314.out | refine uh ?_ GE323.out | refine uh ?_ GE324.out) | exact HB.out)⟩
              ·rw [if_neg c67] at H
               have c67b0:(t311 == t321 && (t312 == t322)) = false:=by simpa using c67
               (try (have c67b1:decide (t311 = t321 && (t312 == t322)) = false:=by simpa using c67))
               (try (have c67b2:(t311 == t321 && (t312 == t322)) = false:=by simpa using c67))
               (try (have c67b3:¬ (t311 = t321 && (t312 == t322)):=by simpa using c67))
               clear c67
               obtain rfl:=Option.some.inj H
               go_wp2_with (first | ((with_reducible refine u1s (f:=12) rfl ?_);refine u2q (some 75) rfl rfl Tryd.func12 (by kernel_rfl) rfl #[.int .u64 a1] rfl (by (try simp only [List.map_toArray,List.map_cons,List.map_nil]);first | done | rfl | (simp only [List.length_drop,List.length_take];rfl)) ?_;(with_reducible refine (u2g.calls k1 a1 t304 _ A56.out).mono ?_);rintro e w' ⟨rfl,⟨nd,rfl⟩⟩;refine ⟨_,rfl,?_⟩;(try (rw [drewN_self wr];generalize hq_:World.drewN wr _ = wr;have n0_:Aside0 (Below w.heap.size w wr):=⟨by rw [← hq_];exact (by repeat (first | (with_reducible first | exact HB.out | apply uc | apply ub | apply ud) | exact HB.out))⟩;clear HB hq_;have HB:=n0_;clear n0_))) | ((with_reducible refine u1s (f:=6) rfl ?_);refine u2q (some 82) rfl rfl Tryd.func6 (by kernel_rfl) rfl #[.string (((⟨#[123]⟩:ByteArray) ++ x8_1) ++ ((⟨#[125,32]⟩:ByteArray) ++ t304)),.int .i64 5] rfl (by (try simp only [List.map_toArray,List.map_cons,List.map_nil]);first | done | rfl | (simp only [List.length_drop,List.length_take];rfl)) ?_;(with_reducible refine (u1q.calls (((⟨#[123]⟩:ByteArray) ++ x8_1) ++ ((⟨#[125,32]⟩:ByteArray) ++ t304)) 5 t305 t308 t309 true t311 t312 _ A60.out).mono ?_);rintro e w143 ⟨v306,rfl,ho0,hb⟩;refine ⟨_,rfl,?_⟩;have n0_:=Aside0.mk (Kd.R_lower ho0 (us (by repeat (first | (with_reducible first | exact HB.out | apply uc | apply ub | apply ud) | exact HB.out))));have n1_:=Aside0.mk (uw (by repeat (first | (with_reducible first | exact HB.out | apply uc | apply ub | apply ud) | exact HB.out)) hb);clear HB;have HO307:=n0_;have HB:=n1_;clear n0_ n1_;(try clear hb);(try clear hb2);(try clear hk);(try clear hi);(try clear ho0)) | ((with_reducible refine u2e (N:=14) rfl ?_);refine u1y ?hg (N:=14) ?hd (cs:=#[.slice none 0 0,.int .i64 0,.int .u64 0]) (t:=25) ?hr ?_;(case hd => rfl);(case hg => rfl);(case hr => first | (go_simp;done) | (go_simp;rfl));intro gb313 hg w144 hbox hb;have n0_:=Aside0.mk (Kd.R_below (by (with_reducible repeat (first | apply Kd.R_alloc | apply Kd.R_drewN | apply Kd.R_drew));exact HO307.out) hb);have n1_:=Aside0.mk (uw (by repeat (first | (with_reducible first | exact HB.out | apply uc | apply ub | apply ud) | exact HB.out)) hb);have n2_:=Aside0.mk (hbox);have n3_:=Aside0.mk ((by rw [hg];exact (us (by repeat (first | (with_reducible first | exact HB.out | apply uc | apply ub | apply ud) | exact HB.out))):w.heap.size ≤ gb313));have n4_:=Aside0.mk ((by rw [hg];exact (us (by repeat (first | (with_reducible first | exact HB.out | apply uc | apply ub | apply ud) | exact HB.out))):w.heap.size ≤ gb313));clear HO307;clear HB;have HO307:=n0_;have HB:=n1_;have BK313:=n2_;have GW313:=n3_;have GE313:=n4_;clear n0_ n1_ n2_ n3_ n4_;clear hb hbox hg) | ((with_reducible refine u2e (N:=16) rfl ?_);refine u1y ?hg (N:=16) ?hd (cs:=#[.int .i64 0,.int .i64 0]) (t:=28) ?hr ?_;(case hd => rfl);(case hg => rfl);(case hr => first | (go_simp;done) | (go_simp;rfl));intro gb314 hg w145 hbox hb;have n0_:=Aside0.mk (Kd.R_below (by (with_reducible repeat (first | apply Kd.R_alloc | apply Kd.R_drewN | apply Kd.R_drew));exact HO307.out) hb);have n1_:=Aside0.mk (uz (g:=gb313) (o:=.cells #[.slice none 0 0,.int .i64 0,.int .u64 0] 25 (0,0)) (by (with_reducible repeat (first | refine uf ?_ _ | refine ug ?_ | refine ue ?_ _));exact BK313.out) hb);have n2_:=Aside0.mk (uw (by repeat (first | (with_reducible first | exact HB.out | apply uc | apply ub | apply ud | refine uh ?_ GE313.out) | exact HB.out)) hb);have n3_:=Aside0.mk (hbox);have n4_:=Aside0.mk ((by rw [hg];exact (us (by repeat (first | (with_reducible first | exact HB.out | apply uc | apply ub | apply ud | refine uh ?_ GE313.out) | exact HB.out))):w.heap.size ≤ gb314));have n5_:=Aside0.mk ((by rw [hg];exact (us (by repeat (first | (with_reducible first | exact HB.out | apply uc | apply ub | apply ud | refine uh ?_ GE313.out) | exact HB.out))):w.heap.size ≤ gb314));have n6_:=Aside0.mk ((by rw [hg];exact Nat.ne_of_lt (u1n (g:=gb313) (o:=.cells #[.slice none 0 0,.int .i64 0,.int .u64 0] 25 (0,0)) (by (with_reducible repeat (first | refine uf ?_ _ | refine ug ?_ | refine ue ?_ _));exact BK313.out)):gb313 ≠ gb314));have n7_:=Aside0.mk ((by rw [hg];exact Nat.ne_of_gt (u1n (g:=gb313) (o:=.cells #[.slice none 0 0,.int .i64 0,.int .u64 0] 25 (0,0)) (by (with_reducible repeat (first | refine uf ?_ _ | refine ug ?_ | refine ue ?_ _));exact BK313.out)):gb314 ≠ gb313));clear HO307;clear BK313;clear HB;have HO307:=n0_;have BK313:=n1_;have HB:=n2_;have BK314:=n3_;have GW314:=n4_;have GE314:=n5_;have NB313_314:=n6_;have NB314_313:=n7_;clear n0_ n1_ n2_ n3_ n4_ n5_ n6_ n7_;clear hb hbox hg;obtain ⟨Ao146,co146,eo146⟩:=Kd.R_slice HO307.out;subst eo146;have hnb147:=NB313_314.out;have hnc147:=NB314_313.out;have hcz148_0:w145.cell? ⟨gb313,0,none⟩ = some (.slice none 0 0):=(un BK313.out 0).trans rfl;have hcz148_1:w145.cell? ⟨gb313,1,none⟩ = some (.int .i64 0):=(un BK313.out 1).trans rfl;have hcz148_2:w145.cell? ⟨gb313,2,none⟩ = some (.int .u64 0):=(un BK313.out 2).trans rfl;have hfz148_0:=um BK313.out 0;have hfz148_1:=um BK313.out 1;have hfz148_2:=um BK313.out 2;have hcz149_0:w145.cell? ⟨gb314,0,none⟩ = some (.int .i64 0):=(un BK314.out 0).trans rfl;have hcz149_1:w145.cell? ⟨gb314,1,none⟩ = some (.int .i64 0):=(un BK314.out 1).trans rfl;have hfz149_0:=um BK314.out 0;have hfz149_1:=um BK314.out 1) | ((with_reducible refine u1s (f:=6) rfl ?_);refine u2q (some 92) rfl rfl Tryd.func6 (by kernel_rfl) rfl #[.string ((((⟨#[123]⟩:ByteArray) ++ x9_1) ++ ((⟨#[125,32]⟩:ByteArray) ++ t304)) ++ (⟨#[32,53]⟩:ByteArray)),.int .i64 0] rfl (by (try simp only [List.map_toArray,List.map_cons,List.map_nil]);first | done | rfl | (simp only [List.length_drop,List.length_take];rfl)) ?_;(with_reducible refine (u1q.calls ((((⟨#[123]⟩:ByteArray) ++ x9_1) ++ ((⟨#[125,32]⟩:ByteArray) ++ t304)) ++ (⟨#[32,53]⟩:ByteArray)) 0 t315 t318 t319 true t321 t322 _ A64.out).mono ?_);rintro e w150 ⟨v316,rfl,ho0,hb⟩;refine ⟨_,rfl,?_⟩;have n0_:=Aside0.mk (Kd.R_elder' (by (with_reducible repeat (first | apply Kd.R_alloc | apply Kd.R_drewN | apply Kd.R_drew));exact (Kd.R_mono (Kd.R_mono (Kd.R_far (p:=⟨gb314,1,none⟩) (Kd.R_far (p:=⟨gb314,0,none⟩) (Kd.R_far (p:=⟨gb313,2,none⟩) (Kd.R_far (p:=⟨gb313,1,none⟩) (Kd.R_far (p:=⟨gb313,0,none⟩) (Kd.R_types (Kd.R_types HO307.out BK313.out (by decide)) BK314.out (by decide)) (fun _ hk => hk.1.2) (.slice Ao146 t305.length co146)) (fun _ hk => hk.1.2) (.int .i64 t308)) (fun _ hk => hk.1.2) (.int .u64 t309)) (fun _ hk => hk.2) (.int .i64 t311)) (fun _ hk => hk.2) (.int .i64 t312)) (fun _ h_ => h_.1)) (fun _ h_ => h_.1))) (Kd.R_base ho0) hb);have n1_:=Aside0.mk (Kd.R_lower (Kd.R_new' ho0 (Kd.R_lt (by (with_reducible repeat (first | apply Kd.R_alloc | apply Kd.R_drewN | apply Kd.R_drew));exact (Kd.R_mono (Kd.R_mono (Kd.R_far (p:=⟨gb314,1,none⟩) (Kd.R_far (p:=⟨gb314,0,none⟩) (Kd.R_far (p:=⟨gb313,2,none⟩) (Kd.R_far (p:=⟨gb313,1,none⟩) (Kd.R_far (p:=⟨gb313,0,none⟩) (Kd.R_types (Kd.R_types HO307.out BK313.out (by decide)) BK314.out (by decide)) (fun _ hk => hk.1.2) (.slice Ao146 t305.length co146)) (fun _ hk => hk.1.2) (.int .i64 t308)) (fun _ hk => hk.1.2) (.int .u64 t309)) (fun _ hk => hk.2) (.int .i64 t311)) (fun _ hk => hk.2) (.int .i64 t312)) (fun _ h_ => h_.1)) (fun _ h_ => h_.1))))) (us (by repeat (first | (with_reducible first | exact HB.out | apply uc | apply ub | apply ud | refine uh ?_ GE313.out | refine uh ?_ GE314.out) | exact HB.out))));have n2_:=Aside0.mk (uz (g:=gb313) (o:=.cells #[.slice Ao146 t305.length co146,.int .i64 t308,.int .u64 t309] 25 (0,0)) (by (with_reducible repeat (first | refine uf ?_ _ | refine ug ?_ | refine ue ?_ _));refine u1t ?_ NB313_314.out _;(with_reducible repeat (first | refine uf ?_ _ | refine ug ?_ | refine ue ?_ _));refine u1t ?_ NB313_314.out _;(with_reducible repeat (first | refine uf ?_ _ | refine ug ?_ | refine ue ?_ _));refine u2b (cs:=#[.slice Ao146 t305.length co146,.int .i64 t308,.int .u64 0]) ?_ 2 _ rfl;(with_reducible repeat (first | refine uf ?_ _ | refine ug ?_ | refine ue ?_ _));refine u2b (cs:=#[.slice Ao146 t305.length co146,.int .i64 0,.int .u64 0]) ?_ 1 _ rfl;(with_reducible repeat (first | refine uf ?_ _ | refine ug ?_ | refine ue ?_ _));refine u2b (cs:=#[.slice none 0 0,.int .i64 0,.int .u64 0]) ?_ 0 _ rfl;(with_reducible repeat (first | refine uf ?_ _ | refine ug ?_ | refine ue ?_ _));exact BK313.out) hb);have n3_:=Aside0.mk (uz (g:=gb314) (o:=.cells #[.int .i64 t311,.int .i64 t312] 28 (0,0)) (by (with_reducible repeat (first | refine uf ?_ _ | refine ug ?_ | refine ue ?_ _));refine u2b (cs:=#[.int .i64 t311,.int .i64 0]) ?_ 1 _ rfl;(with_reducible repeat (first | refine uf ?_ _ | refine ug ?_ | refine ue ?_ _));refine u2b (cs:=#[.int .i64 0,.int .i64 0]) ?_ 0 _ rfl;(with_reducible repeat (first | refine uf ?_ _ | refine ug ?_ | refine ue ?_ _));refine u1t ?_ NB314_313.out _;(with_reducible repeat (first | refine uf ?_ _ | refine ug ?_ | refine ue ?_ _));refine u1t ?_ NB314_313.out _;(with_reducible repeat (first | refine uf ?_ _ | refine ug ?_ | refine ue ?_ _));refine u1t ?_ NB314_313.out _;(with_reducible repeat (first | refine uf ?_ _ | refine ug ?_ | refine ue ?_ _));exact BK314.out) hb);have n4_:=Aside0.mk (uw (by repeat (first | (with_reducible first | exact HB.out | apply uc | apply ub | apply ud | refine uh ?_ GE313.out | refine uh ?_ GE314.out) | exact HB.out)) hb);clear HO307;clear BK313;clear BK314;clear HB;have HO307:=n0_;have HO317:=n1_;have BK313:=n2_;have BK314:=n3_;have HB:=n4_;clear n0_ n1_ n2_ n3_ n4_;(try clear hb);(try clear hb2);(try clear hk);(try clear hi);(try clear ho0)) | ((with_reducible refine u2e (N:=17) rfl ?_);refine u1y ?hg (N:=17) ?hd (cs:=#[.slice none 0 0,.int .i64 0,.int .u64 0]) (t:=25) ?hr ?_;(case hd => rfl);(case hg => rfl);(case hr => first | (go_simp;done) | (go_simp;rfl));intro gb323 hg w151 hbox hb;have n0_:=Aside0.mk (Kd.R_below (by (with_reducible repeat (first | apply Kd.R_alloc | apply Kd.R_drewN | apply Kd.R_drew));exact HO307.out) hb);have n1_:=Aside0.mk (Kd.R_below (by (with_reducible repeat (first | apply Kd.R_alloc | apply Kd.R_drewN | apply Kd.R_drew));exact HO317.out) hb);have n2_:=Aside0.mk (uz (g:=gb313) (o:=.cells #[.slice Ao146 t305.length co146,.int .i64 t308,.int .u64 t309] 25 (0,0)) (by (with_reducible repeat (first | refine uf ?_ _ | refine ug ?_ | refine ue ?_ _));exact BK313.out) hb);have n3_:=Aside0.mk (uz (g:=gb314) (o:=.cells #[.int .i64 t311,.int .i64 t312] 28 (0,0)) (by (with_reducible repeat (first | refine uf ?_ _ | refine ug ?_ | refine ue ?_ _));exact BK314.out) hb);have n4_:=Aside0.mk (uw (by repeat (first | (with_reducible first | exact HB.out | apply uc | apply ub | apply ud | refine uh ?_ GE313.out | refine uh ?_ GE314.out) | exact HB.out)) hb);have n5_:=Aside0.mk (hbox);have n6_:=Aside0.mk ((by rw [hg];exact (us (by repeat (first | (with_reducible first | exact HB.out | apply uc | apply ub | apply ud | refine uh ?_ GE313.out | refine uh ?_ GE314.out) | exact HB.out))):w.heap.size ≤ gb323));have n7_:=Aside0.mk ((by rw [hg];exact (us (by repeat (first | (with_reducible first | exact HB.out | apply uc | apply ub | apply ud | refine uh ?_ GE313.out | refine uh ?_ GE314.out) | exact HB.out))):w.heap.size ≤ gb323));have n8_:=Aside0.mk ((by rw [hg];exact Nat.ne_of_lt (u1n (g:=gb313) (o:=.cells #[.slice Ao146 t305.length co146,.int .i64 t308,.int .u64 t309] 25 (0,0)) (by (with_reducible repeat (first | refine uf ?_ _ | refine ug ?_ | refine ue ?_ _));exact BK313.out)):gb313 ≠ gb323));have n9_:=Aside0.mk ((by rw [hg];exact Nat.ne_of_gt (u1n (g:=gb313) (o:=.cells #[.slice Ao146 t305.length co146,.int .i64 t308,.int .u64 t309] 25 (0,0)) (by (with_reducible repeat (first | refine uf ?_ _ | refine ug ?_ | refine ue ?_ _));exact BK313.out)):gb323 ≠ gb313));have n10_:=Aside0.mk ((by rw [hg];exact Nat.ne_of_lt (u1n (g:=gb314) (o:=.cells #[.int .i64 t311,.int .i64 t312] 28 (0,0)) (by (with_reducible repeat (first | refine uf ?_ _ | refine ug ?_ | refine ue ?_ _));exact BK314.out)):gb314 ≠ gb323));have n11_:=Aside0.mk ((by rw [hg];exact Nat.ne_of_gt (u1n (g:=gb314) (o:=.cells #[.int .i64 t311,.int .i64 t312] 28 (0,0)) (by (with_reducible repeat (first | refine uf ?_ _ | refine ug ?_ | refine ue ?_ _));exact BK314.out)):gb323 ≠ gb314));clear HO307;clear HO317;clear BK313;clear BK314;clear HB;have HO307:=n0_;have HO317:=n1_;have BK313:=n2_;have BK314:=n3_;have HB:=n4_;have BK323:=n5_;have GW323:=n6_;have GE323:=n7_;have NB313_323:=n8_;have NB323_313:=n9_;have NB314_323:=n10_;have NB323_314:=n11_;clear n0_ n1_ n2_ n3_ n4_ n5_ n6_ n7_ n8_ n9_ n10_ n11_;clear hb hbox hg) | ((with_reducible refine u2e (N:=19) rfl ?_);refine u1y ?hg (N:=19) ?hd (cs:=#[.int .i64 0,.int .i64 0]) (t:=28) ?hr ?_;(case hd => rfl);(case hg => rfl);(case hr => first | (go_simp;done) | (go_simp;rfl));intro gb324 hg w152 hbox hb;have n0_:=Aside0.mk (Kd.R_below (by (with_reducible repeat (first | apply Kd.R_alloc | apply Kd.R_drewN | apply Kd.R_drew));exact HO307.out) hb);have n1_:=Aside0.mk (Kd.R_below (by (with_reducible repeat (first | apply Kd.R_alloc | apply Kd.R_drewN | apply Kd.R_drew));exact HO317.out) hb);have n2_:=Aside0.mk (uz (g:=gb313) (o:=.cells #[.slice Ao146 t305.length co146,.int .i64 t308,.int .u64 t309] 25 (0,0)) (by (with_reducible repeat (first | refine uf ?_ _ | refine ug ?_ | refine ue ?_ _));exact BK313.out) hb);have n3_:=Aside0.mk (uz (g:=gb314) (o:=.cells #[.int .i64 t311,.int .i64 t312] 28 (0,0)) (by (with_reducible repeat (first | refine uf ?_ _ | refine ug ?_ | refine ue ?_ _));exact BK314.out) hb);have n4_:=Aside0.mk (uz (g:=gb323) (o:=.cells #[.slice none 0 0,.int .i64 0,.int .u64 0] 25 (0,0)) (by (with_reducible repeat (first | refine uf ?_ _ | refine ug ?_ | refine ue ?_ _));exact BK323.out) hb);have n5_:=Aside0.mk (uw (by repeat (first | (with_reducible first | exact HB.out | apply uc | apply ub | apply ud | refine uh ?_ GE313.out | refine uh ?_ GE314.out | refine uh ?_ GE323.out) | exact HB.out)) hb);have n6_:=Aside0.mk (hbox);have n7_:=Aside0.mk ((by rw [hg];exact (us (by repeat (first | (with_reducible first | exact HB.out | apply uc | apply ub | apply ud | refine uh ?_ GE313.out | refine uh ?_ GE314.out | refine uh ?_ GE323.out) | exact HB.out))):w.heap.size ≤ gb324));have n8_:=Aside0.mk ((by rw [hg];exact (us (by repeat (first | (with_reducible first | exact HB.out | apply uc | apply ub | apply ud | refine uh ?_ GE313.out | refine uh ?_ GE314.out | refine uh ?_ GE323.out) | exact HB.out))):w.heap.size ≤ gb324));have n9_:=Aside0.mk ((by rw [hg];exact Nat.ne_of_lt (u1n (g:=gb313) (o:=.cells #[.slice Ao146 t305.length co146,.int .i64 t308,.int .u64 t309] 25 (0,0)) (by (with_reducible repeat (first | refine uf ?_ _ | refine ug ?_ | refine ue ?_ _));exact BK313.out)):gb313 ≠ gb324));have n10_:=Aside0.mk ((by rw [hg];exact Nat.ne_of_gt (u1n (g:=gb313) (o:=.cells #[.slice Ao146 t305.length co146,.int .i64 t308,.int .u64 t309] 25 (0,0)) (by (with_reducible repeat (first | refine uf ?_ _ | refine ug ?_ | refine ue ?_ _));exact BK313.out)):gb324 ≠ gb313));have n11_:=Aside0.mk ((by rw [hg];exact Nat.ne_of_lt (u1n (g:=gb314) (o:=.cells #[.int .i64 t311,.int .i64 t312] 28 (0,0)) (by (with_reducible repeat (first | refine uf ?_ _ | refine ug ?_ | refine ue ?_ _));exact BK314.out)):gb314 ≠ gb324));have n12_:=Aside0.mk ((by rw [hg];exact Nat.ne_of_gt (u1n (g:=gb314) (o:=.cells #[.int .i64 t311,.int .i64 t312] 28 (0,0)) (by (with_reducible repeat (first | refine uf ?_ _ | refine ug ?_ | refine ue ?_ _));exact BK314.out)):gb324 ≠ gb314));have n13_:=Aside0.mk ((by rw [hg];exact Nat.ne_of_lt (u1n (g:=gb323) (o:=.cells #[.slice none 0 0,.int .i64 0,.int .u64 0] 25 (0,0)) (by (with_reducible repeat (first | refine uf ?_ _ | refine ug ?_ | refine ue ?_ _));exact BK323.out)):gb323 ≠ gb324));have n14_:=Aside0.mk ((by rw [hg];exact Nat.ne_of_gt (u1n (g:=gb323) (o:=.cells #[.slice none 0 0,.int .i64 0,.int .u64 0] 25 (0,0)) (by (with_reducible repeat (first | refine uf ?_ _ | refine ug ?_ | refine ue ?_ _));exact BK323.out)):gb324 ≠ gb323));clear HO307;clear HO317;clear BK313;clear BK314;clear BK323;clear HB;have HO307:=n0_;have HO317:=n1_;have BK313:=n2_;have BK314:=n3_;have BK323:=n4_;have HB:=n5_;have BK324:=n6_;have GW324:=n7_;have GE324:=n8_;have NB313_324:=n9_;have NB324_313:=n10_;have NB314_324:=n11_;have NB324_314:=n12_;have NB323_324:=n13_;have NB324_323:=n14_;clear n0_ n1_ n2_ n3_ n4_ n5_ n6_ n7_ n8_ n9_ n10_ n11_ n12_ n13_ n14_;clear hb hbox hg;obtain ⟨Ao153,co153,eo153⟩:=Kd.R_slice HO317.out;subst eo153;have hnb154:=NB323_313.out;have hnc154:=NB313_323.out;have hnb155:=NB323_314.out;have hnc155:=NB314_323.out;have hnb156:=NB323_324.out;have hnc156:=NB324_323.out;have hcz157_0:w152.cell? ⟨gb323,0,none⟩ = some (.slice none 0 0):=(un BK323.out 0).trans rfl;have hcz157_1:w152.cell? ⟨gb323,1,none⟩ = some (.int .i64 0):=(un BK323.out 1).trans rfl;have hcz157_2:w152.cell? ⟨gb323,2,none⟩ = some (.int .u64 0):=(un BK323.out 2).trans rfl;have hfz157_0:=um BK323.out 0;have hfz157_1:=um BK323.out 1;have hfz157_2:=um BK323.out 2;have hnb158:=NB324_313.out;have hnc158:=NB313_324.out;have hnb159:=NB324_314.out;have hnc159:=NB314_324.out;have hcz160_0:w152.cell? ⟨gb324,0,none⟩ = some (.int .i64 0):=(un BK324.out 0).trans rfl;have hcz160_1:w152.cell? ⟨gb324,1,none⟩ = some (.int .i64 0):=(un BK324.out 1).trans rfl;have hfz160_0:=um BK324.out 0;have hfz160_1:=um BK324.out 1;have hcz161_0:w152.cell? ⟨gb314,0,none⟩ = some (.int .i64 t311):=(un BK314.out 0).trans rfl;have hcz161_1:w152.cell? ⟨gb314,1,none⟩ = some (.int .i64 t312):=(un BK314.out 1).trans rfl;have hfz161_0:=um BK314.out 0;have hfz161_1:=um BK314.out 1))
               go_ret
               exact ⟨by first | rfl | (simp [u1w,u1v] <;> rfl) | (simp [*,u1w,u1v] <;> rfl),by repeat (first | (with_reducible first | exact HB.out | apply uc | apply ub | apply ud | refine uh ?_ GE313.out | refine uh ?_ GE314.out | refine uh ?_ GE323.out | refine uh ?_ GE324.out) | exact HB.out)⟩
             ·replace c66:=Bool.eq_false_iff.mpr c66
              subst c66
              have H1:(some false) = some r:=by rw [if_neg (show ¬ (false = true) by decide)] at H;exact H
              clear H
              have H:=H1
              clear H1
              obtain rfl:=Option.some.inj H
              go_wp2_with (first | ((with_reducible refine u1s (f:=12) rfl ?_);refine u2q (some 75) rfl rfl Tryd.func12 (by kernel_rfl) rfl #[.int .u64 a1] rfl (by (try simp only [List.map_toArray,List.map_cons,List.map_nil]);first | done | rfl | (simp only [List.length_drop,List.length_take];rfl)) ?_;(with_reducible refine (u2g.calls k1 a1 t304 _ A56.out).mono ?_);rintro e w' ⟨rfl,⟨nd,rfl⟩⟩;refine ⟨_,rfl,?_⟩;(try (rw [drewN_self wr];generalize hq_:World.drewN wr _ = wr;have n0_:Aside0 (Below w.heap.size w wr):=⟨by rw [← hq_];exact (by repeat (first | (with_reducible first | exact HB.out | apply uc | apply ub | apply ud) | exact HB.out))⟩;clear HB hq_;have HB:=n0_;clear n0_))) | ((with_reducible refine u1s (f:=6) rfl ?_);refine u2q (some 82) rfl rfl Tryd.func6 (by kernel_rfl) rfl #[.string (((⟨#[123]⟩:ByteArray) ++ x8_1) ++ ((⟨#[125,32]⟩:ByteArray) ++ t304)),.int .i64 5] rfl (by (try simp only [List.map_toArray,List.map_cons,List.map_nil]);first | done | rfl | (simp only [List.length_drop,List.length_take];rfl)) ?_;(with_reducible refine (u1q.calls (((⟨#[123]⟩:ByteArray) ++ x8_1) ++ ((⟨#[125,32]⟩:ByteArray) ++ t304)) 5 t305 t308 t309 true t311 t312 _ A60.out).mono ?_);rintro e w162 ⟨v306,rfl,ho0,hb⟩;refine ⟨_,rfl,?_⟩;have n0_:=Aside0.mk (Kd.R_lower ho0 (us (by repeat (first | (with_reducible first | exact HB.out | apply uc | apply ub | apply ud) | exact HB.out))));have n1_:=Aside0.mk (uw (by repeat (first | (with_reducible first | exact HB.out | apply uc | apply ub | apply ud) | exact HB.out)) hb);clear HB;have HO307:=n0_;have HB:=n1_;clear n0_ n1_;(try clear hb);(try clear hb2);(try clear hk);(try clear hi);(try clear ho0)) | ((with_reducible refine u2e (N:=14) rfl ?_);refine u1y ?hg (N:=14) ?hd (cs:=#[.slice none 0 0,.int .i64 0,.int .u64 0]) (t:=25) ?hr ?_;(case hd => rfl);(case hg => rfl);(case hr => first | (go_simp;done) | (go_simp;rfl));intro gb313 hg w163 hbox hb;have n0_:=Aside0.mk (Kd.R_below (by (with_reducible repeat (first | apply Kd.R_alloc | apply Kd.R_drewN | apply Kd.R_drew));exact HO307.out) hb);have n1_:=Aside0.mk (uw (by repeat (first | (with_reducible first | exact HB.out | apply uc | apply ub | apply ud) | exact HB.out)) hb);have n2_:=Aside0.mk (hbox);have n3_:=Aside0.mk ((by rw [hg];exact (us (by repeat (first | (with_reducible first | exact HB.out | apply uc | apply ub | apply ud) | exact HB.out))):w.heap.size ≤ gb313));have n4_:=Aside0.mk ((by rw [hg];exact (us (by repeat (first | (with_reducible first | exact HB.out | apply uc | apply ub | apply ud) | exact HB.out))):w.heap.size ≤ gb313));clear HO307;clear HB;have HO307:=n0_;have HB:=n1_;have BK313:=n2_;have GW313:=n3_;have GE313:=n4_;clear n0_ n1_ n2_ n3_ n4_;clear hb hbox hg) | ((with_reducible refine u2e (N:=16) rfl ?_);refine u1y ?hg (N:=16) ?hd (cs:=#[.int .i64 0,.int .i64 0]) (t:=28) ?hr ?_;(case hd => rfl);(case hg => rfl);(case hr => first | (go_simp;done) | (go_simp;rfl));intro gb314 hg w164 hbox hb;have n0_:=Aside0.mk (Kd.R_below (by (with_reducible repeat (first | apply Kd.R_alloc | apply Kd.R_drewN | apply Kd.R_drew));exact HO307.out) hb);have n1_:=Aside0.mk (uz (g:=gb313) (o:=.cells #[.slice none 0 0,.int .i64 0,.int .u64 0] 25 (0,0)) (by (with_reducible repeat (first | refine uf ?_ _ | refine ug ?_ | refine ue ?_ _));exact BK313.out) hb);have n2_:=Aside0.mk (uw (by repeat (first | (with_reducible first | exact HB.out | apply uc | apply ub | apply ud | refine uh ?_ GE313.out) | exact HB.out)) hb);have n3_:=Aside0.mk (hbox);have n4_:=Aside0.mk ((by rw [hg];exact (us (by repeat (first | (with_reducible first | exact HB.out | apply uc | apply ub | apply ud | refine uh ?_ GE313.out) | exact HB.out))):w.heap.size ≤ gb314));have n5_:=Aside0.mk ((by rw [hg];exact (us (by repeat (first | (with_reducible first | exact HB.out | apply uc | apply ub | apply ud | refine uh ?_ GE313.out) | exact HB.out))):w.heap.size ≤ gb314));have n6_:=Aside0.mk ((by rw [hg];exact Nat.ne_of_lt (u1n (g:=gb313) (o:=.cells #[.slice none 0 0,.int .i64 0,.int .u64 0] 25 (0,0)) (by (with_reducible repeat (first | refine uf ?_ _ | refine ug ?_ | refine ue ?_ _));exact BK313.out)):gb313 ≠ gb314));have n7_:=Aside0.mk ((by rw [hg];exact Nat.ne_of_gt (u1n (g:=gb313) (o:=.cells #[.slice none 0 0,.int .i64 0,.int .u64 0] 25 (0,0)) (by (with_reducible repeat (first | refine uf ?_ _ | refine ug ?_ | refine ue ?_ _));exact BK313.out)):gb314 ≠ gb313));clear HO307;clear BK313;clear HB;have HO307:=n0_;have BK313:=n1_;have HB:=n2_;have BK314:=n3_;have GW314:=n4_;have GE314:=n5_;have NB313_314:=n6_;have NB314_313:=n7_;clear n0_ n1_ n2_ n3_ n4_ n5_ n6_ n7_;clear hb hbox hg;obtain ⟨Ao165,co165,eo165⟩:=Kd.R_slice HO307.out;subst eo165;have hnb166:=NB313_314.out;have hnc166:=NB314_313.out;have hcz167_0:w164.cell? ⟨gb313,0,none⟩ = some (.slice none 0 0):=(un BK313.out 0).trans rfl;have hcz167_1:w164.cell? ⟨gb313,1,none⟩ = some (.int .i64 0):=(un BK313.out 1).trans rfl;have hcz167_2:w164.cell? ⟨gb313,2,none⟩ = some (.int .u64 0):=(un BK313.out 2).trans rfl;have hfz167_0:=um BK313.out 0;have hfz167_1:=um BK313.out 1;have hfz167_2:=um BK313.out 2;have hcz168_0:w164.cell? ⟨gb314,0,none⟩ = some (.int .i64 0):=(un BK314.out 0).trans rfl;have hcz168_1:w164.cell? ⟨gb314,1,none⟩ = some (.int .i64 0):=(un BK314.out 1).trans rfl;have hfz168_0:=um BK314.out 0;have hfz168_1:=um BK314.out 1) | ((with_reducible refine u1s (f:=6) rfl ?_);refine u2q (some 92) rfl rfl Tryd.func6 (by kernel_rfl) rfl #[.string ((((⟨#[123]⟩:ByteArray) ++ x9_1) ++ ((⟨#[125,32]⟩:ByteArray) ++ t304)) ++ (⟨#[32,53]⟩:ByteArray)),.int .i64 0] rfl (by (try simp only [List.map_toArray,List.map_cons,List.map_nil]);first | done | rfl | (simp only [List.length_drop,List.length_take];rfl)) ?_;(with_reducible refine (u1q.calls ((((⟨#[123]⟩:ByteArray) ++ x9_1) ++ ((⟨#[125,32]⟩:ByteArray) ++ t304)) ++ (⟨#[32,53]⟩:ByteArray)) 0 t315 t318 t319 false t321 t322 _ A64.out).mono ?_);rintro e w169 ⟨v316,rfl,ho0,hb⟩;refine ⟨_,rfl,?_⟩;have n0_:=Aside0.mk (Kd.R_elder' (by (with_reducible repeat (first | apply Kd.R_alloc | apply Kd.R_drewN | apply Kd.R_drew));exact (Kd.R_mono (Kd.R_mono (Kd.R_far (p:=⟨gb314,1,none⟩) (Kd.R_far (p:=⟨gb314,0,none⟩) (Kd.R_far (p:=⟨gb313,2,none⟩) (Kd.R_far (p:=⟨gb313,1,none⟩) (Kd.R_far (p:=⟨gb313,0,none⟩) (Kd.R_types (Kd.R_types HO307.out BK313.out (by decide)) BK314.out (by decide)) (fun _ hk => hk.1.2) (.slice Ao165 t305.length co165)) (fun _ hk => hk.1.2) (.int .i64 t308)) (fun _ hk => hk.1.2) (.int .u64 t309)) (fun _ hk => hk.2) (.int .i64 t311)) (fun _ hk => hk.2) (.int .i64 t312)) (fun _ h_ => h_.1)) (fun _ h_ => h_.1))) (Kd.R_base ho0) hb);have n1_:=Aside0.mk (Kd.R_lower (Kd.R_new' ho0 (Kd.R_lt (by (with_reducible repeat (first | apply Kd.R_alloc | apply Kd.R_drewN | apply Kd.R_drew));exact (Kd.R_mono (Kd.R_mono (Kd.R_far (p:=⟨gb314,1,none⟩) (Kd.R_far (p:=⟨gb314,0,none⟩) (Kd.R_far (p:=⟨gb313,2,none⟩) (Kd.R_far (p:=⟨gb313,1,none⟩) (Kd.R_far (p:=⟨gb313,0,none⟩) (Kd.R_types (Kd.R_types HO307.out BK313.out (by decide)) BK314.out (by decide)) (fun _ hk => hk.1.2) (.slice Ao165 t305.length co165)) (fun _ hk => hk.1.2) (.int .i64 t308)) (fun _ hk => hk.1.2) (.int .u64 t309)) (fun _ hk => hk.2) (.int .i64 t311)) (fun _ hk => hk.2) (.int .i64 t312)) (fun _ h_ => h_.1)) (fun _ h_ => h_.1))))) (us (by repeat (first | (with_reducible first | exact HB.out | apply uc | apply ub | apply ud | refine uh ?_ GE313.out | refine uh ?_ GE314.out) | exact HB.out))));have n2_:=Aside0.mk (uz (g:=gb313) (o:=.cells #[.slice Ao165 t305.length co165,.int .i64 t308,.int .u64 t309] 25 (0,0)) (by (with_reducible repeat (first | refine uf ?_ _ | refine ug ?_ | refine ue ?_ _));refine u1t ?_ NB313_314.out _;(with_reducible repeat (first | refine uf ?_ _ | refine ug ?_ | refine ue ?_ _));refine u1t ?_ NB313_314.out _;(with_reducible repeat (first | refine uf ?_ _ | refine ug ?_ | refine ue ?_ _));refine u2b (cs:=#[.slice Ao165 t305.length co165,.int .i64 t308,.int .u64 0]) ?_ 2 _ rfl;(with_reducible repeat (first | refine uf ?_ _ | refine ug ?_ | refine ue ?_ _));refine u2b (cs:=#[.slice Ao165 t305.length co165,.int .i64 0,.int .u64 0]) ?_ 1 _ rfl;(with_reducible repeat (first | refine uf ?_ _ | refine ug ?_ | refine ue ?_ _));refine u2b (cs:=#[.slice none 0 0,.int .i64 0,.int .u64 0]) ?_ 0 _ rfl;(with_reducible repeat (first | refine uf ?_ _ | refine ug ?_ | refine ue ?_ _));exact BK313.out) hb);have n3_:=Aside0.mk (uz (g:=gb314) (o:=.cells #[.int .i64 t311,.int .i64 t312] 28 (0,0)) (by (with_reducible repeat (first | refine uf ?_ _ | refine ug ?_ | refine ue ?_ _));refine u2b (cs:=#[.int .i64 t311,.int .i64 0]) ?_ 1 _ rfl;(with_reducible repeat (first | refine uf ?_ _ | refine ug ?_ | refine ue ?_ _));refine u2b (cs:=#[.int .i64 0,.int .i64 0]) ?_ 0 _ rfl;(with_reducible repeat (first | refine uf ?_ _ | refine ug ?_ | refine ue ?_ _));refine u1t ?_ NB314_313.out _;(with_reducible repeat (first | refine uf ?_ _ | refine ug ?_ | refine ue ?_ _));refine u1t ?_ NB314_313.out _;(with_reducible repeat (first | refine uf ?_ _ | refine ug ?_ | refine ue ?_ _));refine u1t ?_ NB314_313.out _;(with_reducible repeat (first | refine uf ?_ _ | refine ug ?_ | refine ue ?_ _));exact BK314.out) hb);have n4_:=Aside0.mk (uw (by repeat (first | (with_reducible first | exact HB.out | apply uc | apply ub | apply ud | refine uh ?_ GE313.out | refine uh ?_ GE314.out) | exact HB.out)) hb);clear HO307;clear BK313;clear BK314;clear HB;have HO307:=n0_;have HO317:=n1_;have BK313:=n2_;have BK314:=n3_;have HB:=n4_;clear n0_ n1_ n2_ n3_ n4_;(try clear hb);(try clear hb2);(try clear hk);(try clear hi);(try clear ho0)) | ((with_reducible refine u2e (N:=17) rfl ?_);refine u1y ?hg (N:=17) ?hd (cs:=#[.slice none 0 0,.int .i64 0,.int .u64 0]) (t:=25) ?hr ?_;(case hd => rfl);(case hg => rfl);(case hr => first | (go_simp;done) | (go_simp;rfl));intro gb323 hg w170 hbox hb;have n0_:=Aside0.mk (Kd.R_below (by (with_reducible repeat (first | apply Kd.R_alloc | apply Kd.R_drewN | apply Kd.R_drew));exact HO307.out) hb);have n1_:=Aside0.mk (Kd.R_below (by (with_reducible repeat (first | apply Kd.R_alloc | apply Kd.R_drewN | apply Kd.R_drew));exact HO317.out) hb);have n2_:=Aside0.mk (uz (g:=gb313) (o:=.cells #[.slice Ao165 t305.length co165,.int .i64 t308,.int .u64 t309] 25 (0,0)) (by (with_reducible repeat (first | refine uf ?_ _ | refine ug ?_ | refine ue ?_ _));exact BK313.out) hb);have n3_:=Aside0.mk (uz (g:=gb314) (o:=.cells #[.int .i64 t311,.int .i64 t312] 28 (0,0)) (by (with_reducible repeat (first | refine uf ?_ _ | refine ug ?_ | refine ue ?_ _));exact BK314.out) hb);have n4_:=Aside0.mk (uw (by repeat (first | (with_reducible first | exact HB.out | apply uc | apply ub | apply ud | refine uh ?_ GE313.out | refine uh ?_ GE314.out) | exact HB.out)) hb);have n5_:=Aside0.mk (hbox);have n6_:=Aside0.mk ((by rw [hg];exact (us (by repeat (first | (with_reducible first | exact HB.out | apply uc | apply ub | apply ud | refine uh ?_ GE313.out | refine uh ?_ GE314.out) | exact HB.out))):w.heap.size ≤ gb323));have n7_:=Aside0.mk ((by rw [hg];exact (us (by repeat (first | (with_reducible first | exact HB.out | apply uc | apply ub | apply ud | refine uh ?_ GE313.out | refine uh ?_ GE314.out) | exact HB.out))):w.heap.size ≤ gb323));have n8_:=Aside0.mk ((by rw [hg];exact Nat.ne_of_lt (u1n (g:=gb313) (o:=.cells #[.slice Ao165 t305.length co165,.int .i64 t308,.int .u64 t309] 25 (0,0)) (by (with_reducible repeat (first | refine uf ?_ _ | refine ug ?_ | refine ue ?_ _));exact BK313.out)):gb313 ≠ gb323));have n9_:=Aside0.mk ((by rw [hg];exact Nat.ne_of_gt (u1n (g:=gb313) (o:=.cells #[.slice Ao165 t305.length co165,.int .i64 t308,.int .u64 t309] 25 (0,0)) (by (with_reducible repeat (first | refine uf ?_ _ | refine ug ?_ | refine ue ?_ _));exact BK313.out)):gb323 ≠ gb313));have n10_:=Aside0.mk ((by rw [hg];exact Nat.ne_of_lt (u1n (g:=gb314) (o:=.cells #[.int .i64 t311,.int .i64 t312] 28 (0,0)) (by (with_reducible repeat (first | refine uf ?_ _ | refine ug ?_ | refine ue ?_ _));exact BK314.out)):gb314 ≠ gb323));have n11_:=Aside0.mk ((by rw [hg];exact Nat.ne_of_gt (u1n (g:=gb314) (o:=.cells #[.int .i64 t311,.int .i64 t312] 28 (0,0)) (by (with_reducible repeat (first | refine uf ?_ _ | refine ug ?_ | refine ue ?_ _));exact BK314.out)):gb323 ≠ gb314));clear HO307;clear HO317;clear BK313;clear BK314;clear HB;have HO307:=n0_;have HO317:=n1_;have BK313:=n2_;have BK314:=n3_;have HB:=n4_;have BK323:=n5_;have GW323:=n6_;have GE323:=n7_;have NB313_323:=n8_;have NB323_313:=n9_;have NB314_323:=n10_;have NB323_314:=n11_;clear n0_ n1_ n2_ n3_ n4_ n5_ n6_ n7_ n8_ n9_ n10_ n11_;clear hb hbox hg) | ((with_reducible refine u2e (N:=19) rfl ?_);refine u1y ?hg (N:=19) ?hd (cs:=#[.int .i64 0,.int .i64 0]) (t:=28) ?hr ?_;(case hd => rfl);(case hg => rfl);(case hr => first | (go_simp;done) | (go_simp;rfl));intro gb324 hg w171 hbox hb;have n0_:=Aside0.mk (Kd.R_below (by (with_reducible repeat (first | apply Kd.R_alloc | apply Kd.R_drewN | apply Kd.R_drew));exact HO307.out) hb);have n1_:=Aside0.mk (Kd.R_below (by (with_reducible repeat (first | apply Kd.R_alloc | apply Kd.R_drewN | apply Kd.R_drew));exact HO317.out) hb);have n2_:=Aside0.mk (uz (g:=gb313) (o:=.cells #[.slice Ao165 t305.length co165,.int .i64 t308,.int .u64 t309] 25 (0,0)) (by (with_reducible repeat (first | refine uf ?_ _ | refine ug ?_ | refine ue ?_ _));exact BK313.out) hb);have n3_:=Aside0.mk (uz (g:=gb314) (o:=.cells #[.int .i64 t311,.int .i64 t312] 28 (0,0)) (by (with_reducible repeat (first | refine uf ?_ _ | refine ug ?_ | refine ue ?_ _));exact BK314.out) hb);have n4_:=Aside0.mk (uz (g:=gb323) (o:=.cells #[.slice none 0 0,.int .i64 0,.int .u64 0] 25 (0,0)) (by (with_reducible repeat (first | refine uf ?_ _ | refine ug ?_ | refine ue ?_ _));exact BK323.out) hb);have n5_:=Aside0.mk (uw (by repeat (first | (with_reducible first | exact HB.out | apply uc | apply ub | apply ud | refine uh ?_ GE313.out | refine uh ?_ GE314.out | refine uh ?_ GE323.out) | exact HB.out)) hb);have n6_:=Aside0.mk (hbox);have n7_:=Aside0.mk ((by rw [hg];exact (us (by repeat (first | (with_reducible first | exact HB.out | apply uc | apply ub | apply ud | refine uh ?_ GE313.out | refine uh ?_ GE314.out | refine uh ?_ GE323.out) | exact HB.out))):w.heap.size ≤ gb324));have n8_:=Aside0.mk ((by rw [hg];exact (us (by repeat (first | (with_reducible first | exact HB.out | apply uc | apply ub | apply ud | refine uh ?_ GE313.out | refine uh ?_ GE314.out | refine uh ?_ GE323.out) | exact HB.out))):w.heap.size ≤ gb324));have n9_:=Aside0.mk ((by rw [hg];exact Nat.ne_of_lt (u1n (g:=gb313) (o:=.cells #[.slice Ao165 t305.length co165,.int .i64 t308,.int .u64 t309] 25 (0,0)) (by (with_reducible repeat (first | refine uf ?_ _ | refine ug ?_ | refine ue ?_ _));exact BK313.out)):gb313 ≠ gb324));have n10_:=Aside0.mk ((by rw [hg];exact Nat.ne_of_gt (u1n (g:=gb313) (o:=.cells #[.slice Ao165 t305.length co165,.int .i64 t308,.int .u64 t309] 25 (0,0)) (by (with_reducible repeat (first | refine uf ?_ _ | refine ug ?_ | refine ue ?_ _));exact BK313.out)):gb324 ≠ gb313));have n11_:=Aside0.mk ((by rw [hg];exact Nat.ne_of_lt (u1n (g:=gb314) (o:=.cells #[.int .i64 t311,.int .i64 t312] 28 (0,0)) (by (with_reducible repeat (first | refine uf ?_ _ | refine ug ?_ | refine ue ?_ _));exact BK314.out)):gb314 ≠ gb324));have n12_:=Aside0.mk ((by rw [hg];exact Nat.ne_of_gt (u1n (g:=gb314) (o:=.cells #[.int .i64 t311,.int .i64 t312] 28 (0,0)) (by (with_reducible repeat (first | refine uf ?_ _ | refine ug ?_ | refine ue ?_ _));exact BK314.out)):gb324 ≠ gb314));have n13_:=Aside0.mk ((by rw [hg];exact Nat.ne_of_lt (u1n (g:=gb323) (o:=.cells #[.slice none 0 0,.int .i64 0,.int .u64 0] 25 (0,0)) (by (with_reducible repeat (first | refine uf ?_ _ | refine ug ?_ | refine ue ?_ _));exact BK323.out)):gb323 ≠ gb324));have n14_:=Aside0.mk ((by rw [hg];exact Nat.ne_of_gt (u1n (g:=gb323) (o:=.cells #[.slice none 0 0,.int .i64 0,.int .u64 0] 25 (0,0)) (by (with_reducible repeat (first | refine uf ?_ _ | refine ug ?_ | refine ue ?_ _));exact BK323.out)):gb324 ≠ gb323));clear HO307;clear HO317;clear BK313;clear BK314;clear BK323;clear HB;have HO307:=n0_;have HO317:=n1_;have BK313:=n2_;have BK314:=n3_;have BK323:=n4_;have HB:=n5_;have BK324:=n6_;have GW324:=n7_;have GE324:=n8_;have NB313_324:=n9_;have NB324_313:=n10_;have NB314_324:=n11_;have NB324_314:=n12_;have NB323_324:=n13_;have NB324_323:=n14_;clear n0_ n1_ n2_ n3_ n4_ n5_ n6_ n7_ n8_ n9_ n10_ n11_ n12_ n13_ n14_;clear hb hbox hg;obtain ⟨Ao172,co172,eo172⟩:=Kd.R_slice HO317.out;subst eo172;have hnb173:=NB323_313.out;have hnc173:=NB313_323.out;have hnb174:=NB323_314.out;have hnc174:=NB314_323.out;have hnb175:=NB323_324.out;have hnc175:=NB324_323.out;have hcz176_0:w171.cell? ⟨gb323,0,none⟩ = some (.slice none 0 0):=(un BK323.out 0).trans rfl;have hcz176_1:w171.cell? ⟨gb323,1,none⟩ = some (.int .i64 0):=(un BK323.out 1).trans rfl;have hcz176_2:w171.cell? ⟨gb323,2,none⟩ = some (.int .u64 0):=(un BK323.out 2).trans rfl;have hfz176_0:=um BK323.out 0;have hfz176_1:=um BK323.out 1;have hfz176_2:=um BK323.out 2;have hnb177:=NB324_313.out;have hnc177:=NB313_324.out;have hnb178:=NB324_314.out;have hnc178:=NB314_324.out;have hcz179_0:w171.cell? ⟨gb324,0,none⟩ = some (.int .i64 0):=(un BK324.out 0).trans rfl;have hcz179_1:w171.cell? ⟨gb324,1,none⟩ = some (.int .i64 0):=(un BK324.out 1).trans rfl;have hfz179_0:=um BK324.out 0;have hfz179_1:=um BK324.out 1))
              go_ret
              exact ⟨by first | rfl | (simp [u1w,u1v] <;> rfl) | (simp [*,u1w,u1v] <;> rfl),by repeat (first | (with_reducible first | exact HB.out | apply uc | apply ub | apply ud | refine uh ?_ GE313.out | refine uh ?_ GE314.out | refine uh ?_ GE323.out | refine uh ?_ GE324.out) | exact HB.out)⟩
            ·replace c65:=Bool.eq_false_iff.mpr c65
             subst c65
             have H1:(some false) = some r:=by rw [if_neg (show ¬ (false = true) by decide)] at H;exact H
             clear H
             have H:=H1
             clear H1
             obtain rfl:=Option.some.inj H
             go_wp2_with (first | ((with_reducible refine u1s (f:=12) rfl ?_);refine u2q (some 75) rfl rfl Tryd.func12 (by kernel_rfl) rfl #[.int .u64 a1] rfl (by (try simp only [List.map_toArray,List.map_cons,List.map_nil]);first | done | rfl | (simp only [List.length_drop,List.length_take];rfl)) ?_;(with_reducible refine (u2g.calls k1 a1 t304 _ A56.out).mono ?_);rintro e w' ⟨rfl,⟨nd,rfl⟩⟩;refine ⟨_,rfl,?_⟩;(try (rw [drewN_self wr];generalize hq_:World.drewN wr _ = wr;have n0_:Aside0 (Below w.heap.size w wr):=⟨by rw [← hq_];exact (by repeat (first | (with_reducible first | exact HB.out | apply uc | apply ub | apply ud) | exact HB.out))⟩;clear HB hq_;have HB:=n0_;clear n0_))) | ((with_reducible refine u1s (f:=6) rfl ?_);refine u2q (some 82) rfl rfl Tryd.func6 (by kernel_rfl) rfl #[.string (((⟨#[123]⟩:ByteArray) ++ x8_1) ++ ((⟨#[125,32]⟩:ByteArray) ++ t304)),.int .i64 5] rfl (by (try simp only [List.map_toArray,List.map_cons,List.map_nil]);first | done | rfl | (simp only [List.length_drop,List.length_take];rfl)) ?_;(with_reducible refine (u1q.calls (((⟨#[123]⟩:ByteArray) ++ x8_1) ++ ((⟨#[125,32]⟩:ByteArray) ++ t304)) 5 t305 t308 t309 false t311 t312 _ A60.out).mono ?_);rintro e w180 ⟨v306,rfl,ho0,hb⟩;refine ⟨_,rfl,?_⟩;have n0_:=Aside0.mk (Kd.R_lower ho0 (us (by repeat (first | (with_reducible first | exact HB.out | apply uc | apply ub | apply ud) | exact HB.out))));have n1_:=Aside0.mk (uw (by repeat (first | (with_reducible first | exact HB.out | apply uc | apply ub | apply ud) | exact HB.out)) hb);clear HB;have HO307:=n0_;have HB:=n1_;clear n0_ n1_;(try clear hb);(try clear hb2);(try clear hk);(try clear hi);(try clear ho0)) | ((with_reducible refine u2e (N:=14) rfl ?_);refine u1y ?hg (N:=14) ?hd (cs:=#[.slice none 0 0,.int .i64 0,.int .u64 0]) (t:=25) ?hr ?_;(case hd => rfl);(case hg => rfl);(case hr => first | (go_simp;done) | (go_simp;rfl));intro gb313 hg w181 hbox hb;have n0_:=Aside0.mk (Kd.R_below (by (with_reducible repeat (first | apply Kd.R_alloc | apply Kd.R_drewN | apply Kd.R_drew));exact HO307.out) hb);have n1_:=Aside0.mk (uw (by repeat (first | (with_reducible first | exact HB.out | apply uc | apply ub | apply ud) | exact HB.out)) hb);have n2_:=Aside0.mk (hbox);have n3_:=Aside0.mk ((by rw [hg];exact (us (by repeat (first | (with_reducible first | exact HB.out | apply uc | apply ub | apply ud) | exact HB.out))):w.heap.size ≤ gb313));have n4_:=Aside0.mk ((by rw [hg];exact (us (by repeat (first | (with_reducible first | exact HB.out | apply uc | apply ub | apply ud) | exact HB.out))):w.heap.size ≤ gb313));clear HO307;clear HB;have HO307:=n0_;have HB:=n1_;have BK313:=n2_;have GW313:=n3_;have GE313:=n4_;clear n0_ n1_ n2_ n3_ n4_;clear hb hbox hg) | ((with_reducible refine u2e (N:=16) rfl ?_);refine u1y ?hg (N:=16) ?hd (cs:=#[.int .i64 0,.int .i64 0]) (t:=28) ?hr ?_;(case hd => rfl);(case hg => rfl);(case hr => first | (go_simp;done) | (go_simp;rfl));intro gb314 hg w182 hbox hb;have n0_:=Aside0.mk (Kd.R_below (by (with_reducible repeat (first | apply Kd.R_alloc | apply Kd.R_drewN | apply Kd.R_drew));exact HO307.out) hb);have n1_:=Aside0.mk (uz (g:=gb313) (o:=.cells #[.slice none 0 0,.int .i64 0,.int .u64 0] 25 (0,0)) (by (with_reducible repeat (first | refine uf ?_ _ | refine ug ?_ | refine ue ?_ _));exact BK313.out) hb);have n2_:=Aside0.mk (uw (by repeat (first | (with_reducible first | exact HB.out | apply uc | apply ub | apply ud | refine uh ?_ GE313.out) | exact HB.out)) hb);have n3_:=Aside0.mk (hbox);have n4_:=Aside0.mk ((by rw [hg];exact (us (by repeat (first | (with_reducible first | exact HB.out | apply uc | apply ub | apply ud | refine uh ?_ GE313.out) | exact HB.out))):w.heap.size ≤ gb314));have n5_:=Aside0.mk ((by rw [hg];exact (us (by repeat (first | (with_reducible first | exact HB.out | apply uc | apply ub | apply ud | refine uh ?_ GE313.out) | exact HB.out))):w.heap.size ≤ gb314));have n6_:=Aside0.mk ((by rw [hg];exact Nat.ne_of_lt (u1n (g:=gb313) (o:=.cells #[.slice none 0 0,.int .i64 0,.int .u64 0] 25 (0,0)) (by (with_reducible repeat (first | refine uf ?_ _ | refine ug ?_ | refine ue ?_ _));exact BK313.out)):gb313 ≠ gb314));have n7_:=Aside0.mk ((by rw [hg];exact Nat.ne_of_gt (u1n (g:=gb313) (o:=.cells #[.slice none 0 0,.int .i64 0,.int .u64 0] 25 (0,0)) (by (with_reducible repeat (first | refine uf ?_ _ | refine ug ?_ | refine ue ?_ _));exact BK313.out)):gb314 ≠ gb313));clear HO307;clear BK313;clear HB;have HO307:=n0_;have BK313:=n1_;have HB:=n2_;have BK314:=n3_;have GW314:=n4_;have GE314:=n5_;have NB313_314:=n6_;have NB314_313:=n7_;clear n0_ n1_ n2_ n3_ n4_ n5_ n6_ n7_;clear hb hbox hg;obtain ⟨Ao183,co183,eo183⟩:=Kd.R_slice HO307.out;subst eo183;have hnb184:=NB313_314.out;have hnc184:=NB314_313.out;have hcz185_0:w182.cell? ⟨gb313,0,none⟩ = some (.slice none 0 0):=(un BK313.out 0).trans rfl;have hcz185_1:w182.cell? ⟨gb313,1,none⟩ = some (.int .i64 0):=(un BK313.out 1).trans rfl;have hcz185_2:w182.cell? ⟨gb313,2,none⟩ = some (.int .u64 0):=(un BK313.out 2).trans rfl;have hfz185_0:=um BK313.out 0;have hfz185_1:=um BK313.out 1;have hfz185_2:=um BK313.out 2;have hcz186_0:w182.cell? ⟨gb314,0,none⟩ = some (.int .i64 0):=(un BK314.out 0).trans rfl;have hcz186_1:w182.cell? ⟨gb314,1,none⟩ = some (.int .i64 0):=(un BK314.out 1).trans rfl;have hfz186_0:=um BK314.out 0;have hfz186_1:=um BK314.out 1) | ((with_reducible refine u1s (f:=6) rfl ?_);refine u2q (some 92) rfl rfl Tryd.func6 (by kernel_rfl) rfl #[.string ((((⟨#[123]⟩:ByteArray) ++ x9_1) ++ ((⟨#[125,32]⟩:ByteArray) ++ t304)) ++ (⟨#[32,53]⟩:ByteArray)),.int .i64 0] rfl (by (try simp only [List.map_toArray,List.map_cons,List.map_nil]);first | done | rfl | (simp only [List.length_drop,List.length_take];rfl)) ?_;(with_reducible refine (u1q.calls ((((⟨#[123]⟩:ByteArray) ++ x9_1) ++ ((⟨#[125,32]⟩:ByteArray) ++ t304)) ++ (⟨#[32,53]⟩:ByteArray)) 0 t315 t318 t319 t320 t321 t322 _ A64.out).mono ?_);rintro e w187 ⟨v316,rfl,ho0,hb⟩;refine ⟨_,rfl,?_⟩;have n0_:=Aside0.mk (Kd.R_elder' (by (with_reducible repeat (first | apply Kd.R_alloc | apply Kd.R_drewN | apply Kd.R_drew));exact (Kd.R_mono (Kd.R_mono (Kd.R_far (p:=⟨gb314,1,none⟩) (Kd.R_far (p:=⟨gb314,0,none⟩) (Kd.R_far (p:=⟨gb313,2,none⟩) (Kd.R_far (p:=⟨gb313,1,none⟩) (Kd.R_far (p:=⟨gb313,0,none⟩) (Kd.R_types (Kd.R_types HO307.out BK313.out (by decide)) BK314.out (by decide)) (fun _ hk => hk.1.2) (.slice Ao183 t305.length co183)) (fun _ hk => hk.1.2) (.int .i64 t308)) (fun _ hk => hk.1.2) (.int .u64 t309)) (fun _ hk => hk.2) (.int .i64 t311)) (fun _ hk => hk.2) (.int .i64 t312)) (fun _ h_ => h_.1)) (fun _ h_ => h_.1))) (Kd.R_base ho0) hb);have n1_:=Aside0.mk (Kd.R_lower (Kd.R_new' ho0 (Kd.R_lt (by (with_reducible repeat (first | apply Kd.R_alloc | apply Kd.R_drewN | apply Kd.R_drew));exact (Kd.R_mono (Kd.R_mono (Kd.R_far (p:=⟨gb314,1,none⟩) (Kd.R_far (p:=⟨gb314,0,none⟩) (Kd.R_far (p:=⟨gb313,2,none⟩) (Kd.R_far (p:=⟨gb313,1,none⟩) (Kd.R_far (p:=⟨gb313,0,none⟩) (Kd.R_types (Kd.R_types HO307.out BK313.out (by decide)) BK314.out (by decide)) (fun _ hk => hk.1.2) (.slice Ao183 t305.length co183)) (fun _ hk => hk.1.2) (.int .i64 t308)) (fun _ hk => hk.1.2) (.int .u64 t309)) (fun _ hk => hk.2) (.int .i64 t311)) (fun _ hk => hk.2) (.int .i64 t312)) (fun _ h_ => h_.1)) (fun _ h_ => h_.1))))) (us (by repeat (first | (with_reducible first | exact HB.out | apply uc | apply ub | apply ud | refine uh ?_ GE313.out | refine uh ?_ GE314.out) | exact HB.out))));have n2_:=Aside0.mk (uz (g:=gb313) (o:=.cells #[.slice Ao183 t305.length co183,.int .i64 t308,.int .u64 t309] 25 (0,0)) (by (with_reducible repeat (first | refine uf ?_ _ | refine ug ?_ | refine ue ?_ _));refine u1t ?_ NB313_314.out _;(with_reducible repeat (first | refine uf ?_ _ | refine ug ?_ | refine ue ?_ _));refine u1t ?_ NB313_314.out _;(with_reducible repeat (first | refine uf ?_ _ | refine ug ?_ | refine ue ?_ _));refine u2b (cs:=#[.slice Ao183 t305.length co183,.int .i64 t308,.int .u64 0]) ?_ 2 _ rfl;(with_reducible repeat (first | refine uf ?_ _ | refine ug ?_ | refine ue ?_ _));refine u2b (cs:=#[.slice Ao183 t305.length co183,.int .i64 0,.int .u64 0]) ?_ 1 _ rfl;(with_reducible repeat (first | refine uf ?_ _ | refine ug ?_ | refine ue ?_ _));refine u2b (cs:=#[.slice none 0 0,.int .i64 0,.int .u64 0]) ?_ 0 _ rfl;(with_reducible repeat (first | refine uf ?_ _ | refine ug ?_ | refine ue ?_ _));exact BK313.out) hb);have n3_:=Aside0.mk (uz (g:=gb314) (o:=.cells #[.int .i64 t311,.int .i64 t312] 28 (0,0)) (by (with_reducible repeat (first | refine uf ?_ _ | refine ug ?_ | refine ue ?_ _));refine u2b (cs:=#[.int .i64 t311,.int .i64 0]) ?_ 1 _ rfl;(with_reducible repeat (first | refine uf ?_ _ | refine ug ?_ | refine ue ?_ _));refine u2b (cs:=#[.int .i64 0,.int .i64 0]) ?_ 0 _ rfl;(with_reducible repeat (first | refine uf ?_ _ | refine ug ?_ | refine ue ?_ _));refine u1t ?_ NB314_313.out _;(with_reducible repeat (first | refine uf ?_ _ | refine ug ?_ | refine ue ?_ _));refine u1t ?_ NB314_313.out _;(with_reducible repeat (first | refine uf ?_ _ | refine ug ?_ | refine ue ?_ _));refine u1t ?_ NB314_313.out _;(with_reducible repeat (first | refine uf ?_ _ | refine ug ?_ | refine ue ?_ _));exact BK314.out) hb);have n4_:=Aside0.mk (uw (by repeat (first | (with_reducible first | exact HB.out | apply uc | apply ub | apply ud | refine uh ?_ GE313.out | refine uh ?_ GE314.out) | exact HB.out)) hb);clear HO307;clear BK313;clear BK314;clear HB;have HO307:=n0_;have HO317:=n1_;have BK313:=n2_;have BK314:=n3_;have HB:=n4_;clear n0_ n1_ n2_ n3_ n4_;(try clear hb);(try clear hb2);(try clear hk);(try clear hi);(try clear ho0)) | ((with_reducible refine u2e (N:=17) rfl ?_);refine u1y ?hg (N:=17) ?hd (cs:=#[.slice none 0 0,.int .i64 0,.int .u64 0]) (t:=25) ?hr ?_;(case hd => rfl);(case hg => rfl);(case hr => first | (go_simp;done) | (go_simp;rfl));intro gb323 hg w188 hbox hb;have n0_:=Aside0.mk (Kd.R_below (by (with_reducible repeat (first | apply Kd.R_alloc | apply Kd.R_drewN | apply Kd.R_drew));exact HO307.out) hb);have n1_:=Aside0.mk (Kd.R_below (by (with_reducible repeat (first | apply Kd.R_alloc | apply Kd.R_drewN | apply Kd.R_drew));exact HO317.out) hb);have n2_:=Aside0.mk (uz (g:=gb313) (o:=.cells #[.slice Ao183 t305.length co183,.int .i64 t308,.int .u64 t309] 25 (0,0)) (by (with_reducible repeat (first | refine uf ?_ _ | refine ug ?_ | refine ue ?_ _));exact BK313.out) hb);have n3_:=Aside0.mk (uz (g:=gb314) (o:=.cells #[.int .i64 t311,.int .i64 t312] 28 (0,0)) (by (with_reducible repeat (first | refine uf ?_ _ | refine ug ?_ | refine ue ?_ _));exact BK314.out) hb);have n4_:=Aside0.mk (uw (by repeat (first | (with_reducible first | exact HB.out | apply uc | apply ub | apply ud | refine uh ?_ GE313.out | refine uh ?_ GE314.out) | exact HB.out)) hb);have n5_:=Aside0.mk (hbox);have n6_:=Aside0.mk ((by rw [hg];exact (us (by repeat (first | (with_reducible first | exact HB.out | apply uc | apply ub | apply ud | refine uh ?_ GE313.out | refine uh ?_ GE314.out) | exact HB.out))):w.heap.size ≤ gb323));have n7_:=Aside0.mk ((by rw [hg];exact (us (by repeat (first | (with_reducible first | exact HB.out | apply uc | apply ub | apply ud | refine uh ?_ GE313.out | refine uh ?_ GE314.out) | exact HB.out))):w.heap.size ≤ gb323));have n8_:=Aside0.mk ((by rw [hg];exact Nat.ne_of_lt (u1n (g:=gb313) (o:=.cells #[.slice Ao183 t305.length co183,.int .i64 t308,.int .u64 t309] 25 (0,0)) (by (with_reducible repeat (first | refine uf ?_ _ | refine ug ?_ | refine ue ?_ _));exact BK313.out)):gb313 ≠ gb323));have n9_:=Aside0.mk ((by rw [hg];exact Nat.ne_of_gt (u1n (g:=gb313) (o:=.cells #[.slice Ao183 t305.length co183,.int .i64 t308,.int .u64 t309] 25 (0,0)) (by (with_reducible repeat (first | refine uf ?_ _ | refine ug ?_ | refine ue ?_ _));exact BK313.out)):gb323 ≠ gb313));have n10_:=Aside0.mk ((by rw [hg];exact Nat.ne_of_lt (u1n (g:=gb314) (o:=.cells #[.int .i64 t311,.int .i64 t312] 28 (0,0)) (by (with_reducible repeat (first | refine uf ?_ _ | refine ug ?_ | refine ue ?_ _));exact BK314.out)):gb314 ≠ gb323));have n11_:=Aside0.mk ((by rw [hg];exact Nat.ne_of_gt (u1n (g:=gb314) (o:=.cells #[.int .i64 t311,.int .i64 t312] 28 (0,0)) (by (with_reducible repeat (first | refine uf ?_ _ | refine ug ?_ | refine ue ?_ _));exact BK314.out)):gb323 ≠ gb314));clear HO307;clear HO317;clear BK313;clear BK314;clear HB;have HO307:=n0_;have HO317:=n1_;have BK313:=n2_;have BK314:=n3_;have HB:=n4_;have BK323:=n5_;have GW323:=n6_;have GE323:=n7_;have NB313_323:=n8_;have NB323_313:=n9_;have NB314_323:=n10_;have NB323_314:=n11_;clear n0_ n1_ n2_ n3_ n4_ n5_ n6_ n7_ n8_ n9_ n10_ n11_;clear hb hbox hg) | ((with_reducible refine u2e (N:=19) rfl ?_);refine u1y ?hg (N:=19) ?hd (cs:=#[.int .i64 0,.int .i64 0]) (t:=28) ?hr ?_;(case hd => rfl);(case hg => rfl);(case hr => first | (go_simp;done) | (go_simp;rfl));intro gb324 hg w189 hbox hb;have n0_:=Aside0.mk (Kd.R_below (by (with_reducible repeat (first | apply Kd.R_alloc | apply Kd.R_drewN | apply Kd.R_drew));exact HO307.out) hb);have n1_:=Aside0.mk (Kd.R_below (by (with_reducible repeat (first | apply Kd.R_alloc | apply Kd.R_drewN | apply Kd.R_drew));exact HO317.out) hb);have n2_:=Aside0.mk (uz (g:=gb313) (o:=.cells #[.slice Ao183 t305.length co183,.int .i64 t308,.int .u64 t309] 25 (0,0)) (by (with_reducible repeat (first | refine uf ?_ _ | refine ug ?_ | refine ue ?_ _));exact BK313.out) hb);have n3_:=Aside0.mk (uz (g:=gb314) (o:=.cells #[.int .i64 t311,.int .i64 t312] 28 (0,0)) (by (with_reducible repeat (first | refine uf ?_ _ | refine ug ?_ | refine ue ?_ _));exact BK314.out) hb);have n4_:=Aside0.mk (uz (g:=gb323) (o:=.cells #[.slice none 0 0,.int .i64 0,.int .u64 0] 25 (0,0)) (by (with_reducible repeat (first | refine uf ?_ _ | refine ug ?_ | refine ue ?_ _));exact BK323.out) hb);have n5_:=Aside0.mk (uw (by repeat (first | (with_reducible first | exact HB.out | apply uc | apply ub | apply ud | refine uh ?_ GE313.out | refine uh ?_ GE314.out | refine uh ?_ GE323.out) | exact HB.out)) hb);have n6_:=Aside0.mk (hbox);have n7_:=Aside0.mk ((by rw [hg];exact (us (by repeat (first | (with_reducible first | exact HB.out | apply uc | apply ub | apply ud | refine uh ?_ GE313.out | refine uh ?_ GE314.out | refine uh ?_ GE323.out) | exact HB.out))):w.heap.size ≤ gb324));have n8_:=Aside0.mk ((by rw [hg];exact (us (by repeat (first | (with_reducible first | exact HB.out | apply uc | apply ub | apply ud | refine uh ?_ GE313.out | refine uh ?_ GE314.out | refine uh ?_ GE323.out) | exact HB.out))):w.heap.size ≤ gb324));have n9_:=Aside0.mk ((by rw [hg];exact Nat.ne_of_lt (u1n (g:=gb313) (o:=.cells #[.slice Ao183 t305.length co183,.int .i64 t308,.int .u64 t309] 25 (0,0)) (by (with_reducible repeat (first | refine uf ?_ _ | refine ug ?_ | refine ue ?_ _));exact BK313.out)):gb313 ≠ gb324));have n10_:=Aside0.mk ((by rw [hg];exact Nat.ne_of_gt (u1n (g:=gb313) (o:=.cells #[.slice Ao183 t305.length co183,.int .i64 t308,.int .u64 t309] 25 (0,0)) (by (with_reducible repeat (first | refine uf ?_ _ | refine ug ?_ | refine ue ?_ _));exact BK313.out)):gb324 ≠ gb313));have n11_:=Aside0.mk ((by rw [hg];exact Nat.ne_of_lt (u1n (g:=gb314) (o:=.cells #[.int .i64 t311,.int .i64 t312] 28 (0,0)) (by (with_reducible repeat (first | refine uf ?_ _ | refine ug ?_ | refine ue ?_ _));exact BK314.out)):gb314 ≠ gb324));have n12_:=Aside0.mk ((by rw [hg];exact Nat.ne_of_gt (u1n (g:=gb314) (o:=.cells #[.int .i64 t311,.int .i64 t312] 28 (0,0)) (by (with_reducible repeat (first | refine uf ?_ _ | refine ug ?_ | refine ue ?_ _));exact BK314.out)):gb324 ≠ gb314));have n13_:=Aside0.mk ((by rw [hg];exact Nat.ne_of_lt (u1n (g:=gb323) (o:=.cells #[.slice none 0 0,.int .i64 0,.int .u64 0] 25 (0,0)) (by (with_reducible repeat (first | refine uf ?_ _ | refine ug ?_ | refine ue ?_ _));exact BK323.out)):gb323 ≠ gb324));have n14_:=Aside0.mk ((by rw [hg];exact Nat.ne_of_gt (u1n (g:=gb323) (o:=.cells #[.slice none 0 0,.int .i64 0,.int .u64 0] 25 (0,0)) (by (with_reducible repeat (first | refine uf ?_ _ | refine ug ?_ | refine ue ?_ _));exact BK323.out)):gb324 ≠ gb323));clear HO307;clear HO317;clear BK313;clear BK314;clear BK323;clear HB;have HO307:=n0_;have HO317:=n1_;have BK313:=n2_;have BK314:=n3_;have BK323:=n4_;have HB:=n5_;have BK324:=n6_;have GW324:=n7_;have GE324:=n8_;have NB313_324:=n9_;have NB324_313:=n10_;have NB314_324:=n11_;have NB324_314:=n12_;have NB323_324:=n13_;have NB324_323:=n14_;clear n0_ n1_ n2_ n3_ n4_ n5_ n6_ n7_ n8_ n9_ n10_ n11_ n12_ n13_ n14_;clear hb hbox hg;obtain ⟨Ao190,co190,eo190⟩:=Kd.R_slice HO317.out;subst eo190;have hnb191:=NB323_313.out;have hnc191:=NB313_323.out;have hnb192:=NB323_314.out;have hnc192:=NB314_323.out;have hnb193:=NB323_324.out;have hnc193:=NB324_323.out;have hcz194_0:w189.cell? ⟨gb323,0,none⟩ = some (.slice none 0 0):=(un BK323.out 0).trans rfl;have hcz194_1:w189.cell? ⟨gb323,1,none⟩ = some (.int .i64 0):=(un BK323.out 1).trans rfl;have hcz194_2:w189.cell? ⟨gb323,2,none⟩ = some (.int .u64 0):=(un BK323.out 2).trans rfl;have hfz194_0:=um BK323.out 0;have hfz194_1:=um BK323.out 1;have hfz194_2:=um BK323.out 2;have hnb195:=NB324_313.out;have hnc195:=NB313_324.out;have hnb196:=NB324_314.out;have hnc196:=NB314_324.out;have hcz197_0:w189.cell? ⟨gb324,0,none⟩ = some (.int .i64 0):=(un BK324.out 0).trans rfl;have hcz197_1:w189.cell? ⟨gb324,1,none⟩ = some (.int .i64 0):=(un BK324.out 1).trans rfl;have hfz197_0:=um BK324.out 0;have hfz197_1:=um BK324.out 1))
             go_ret
             exact ⟨by first | rfl | (simp [u1w,u1v] <;> rfl) | (simp [*,u1w,u1v] <;> rfl),by repeat (first | (with_reducible first | exact HB.out | apply uc | apply ub | apply ud | refine uh ?_ GE313.out | refine uh ?_ GE314.out | refine uh ?_ GE323.out | refine uh ?_ GE324.out) | exact HB.out)⟩
           ·rw [if_neg c63] at H
            exact absurd H (by simp)
          ·rw [if_neg c62] at H
           exact absurd H (by simp)
         ·rw [if_neg c61] at H
          exact absurd H (by simp)
        ·rw [if_neg c59] at H
         exact absurd H (by simp)
       ·rw [if_neg c58] at H
        exact absurd H (by simp)
      ·rw [if_neg c57] at H
       exact absurd H (by simp)
 ·replace c5:=Bool.eq_false_iff.mpr c5
  subst c5
  have H1:((u2o.f).bind fun t295 => (some t295)) = some r:=by rw [if_neg (show ¬ (false = true) by decide)] at H;exact H
  clear H
  have H:=H1
  clear H1
  replace H:=Option.bind_eq_some_iff.mp H
  obtain ⟨t295,A1980,H⟩:=H
  replace H:(some t295) = some r:=H
  have A198:=Aside0.mk A1980
  clear A1980
  obtain rfl:=Option.some.inj H
  go_enter Tryd.func4,Tryd.ntmps4
  go_wp2_with (first | ((with_reducible refine u1s (f:=10) rfl ?_);refine u2q (some 21) rfl rfl Tryd.func10 (by kernel_rfl) rfl #[.slice A0 l0.length c0] rfl (by (try simp only [List.map_toArray,List.map_cons,List.map_nil]);first | done | rfl | (simp only [List.length_drop,List.length_take];rfl)) ?_;(with_reducible refine (ut.calls k _ _ l0 false _ ?side1 ?side2 A4.out).mono ?_);(case side1 => repeat (first | exact HR0.out | (with_reducible refine Kd.C_alloc ?_ _) | (with_reducible refine Kd.C_drewN ?_ _) | (with_reducible refine Kd.C_drew ?_)));(case side2 => exact HC0.out);rintro e w199 ⟨rfl,hb⟩;refine ⟨_,rfl,?_⟩;have n0_:=Aside0.mk (uw (by repeat (first | (with_reducible first | exact HB.out | apply uc | apply ub | apply ud) | exact HB.out)) hb);clear HB;have HB:=n0_;clear n0_;(try clear hb);(try clear hb2);(try clear hk);(try clear hi)) | ((with_reducible refine u1s (f:=9) rfl ?_);refine u2q (some 23) rfl rfl Tryd.func9 (by kernel_rfl) rfl #[] rfl (by (try simp only [List.map_toArray,List.map_cons,List.map_nil]);first | done | rfl | (simp only [List.length_drop,List.length_take];rfl)) ?_;(with_reducible refine (u2o.calls  t295 _ A198.out).mono ?_);rintro e w200 ⟨rfl,hb⟩;refine ⟨_,rfl,?_⟩;have n0_:=Aside0.mk (uw (by repeat (first | (with_reducible first | exact HB.out | apply uc | apply ub | apply ud) | exact HB.out)) hb);clear HB;have HB:=n0_;clear n0_;(try clear hb);(try clear hb2);(try clear hk);(try clear hi)))
  go_ret
  exact ⟨by first | rfl | (simp [u1w,u1v] <;> rfl) | (simp [*,u1w,u1v] <;> rfl),by repeat (first | (with_reducible first | exact HB.out | apply uc | apply ub | apply ud) | exact HB.out)⟩
end Go.Proofs.YtmcpeifhapekoaaDoor.PAll
