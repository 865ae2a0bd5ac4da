/- Texts of this seat, joined in the order in which they build. -/
import Derived.Test.YtgnehcgaplnfkaaGreatDoorBv1
import Derived.Test.YtgnehcgaplnfkaaGreatDoorBv2
import Derived.Test.YtgnehcgaplnfkaaGreatDoorBv6
import Derived.Test.YtgnehcgaplnfkaaGreatDoorBv4
import Derived.Test.YtgnehcgaplnfkaaGreatDoorBv3
import Derived.Test.YtgnehcgaplnfkaaGreatDoorGx44Bv
import Derived.Test.YtgnehcgaplnfkaaGreatDoorGx40Bv
namespace Go.Proofs.YtgnehcgaplnfkaaGreatDoor.PAll
open Go.RowKit Go.Proofs.YtgnehcgaplnfkaaGreatDoorW.PrintWords Go.Proofs.YtgnehcgaplnfkaaGreatDoorW.PrintLast Go.Proofs.YtgnehcgaplnfkaaGreatDoorW.PrintMore
attribute [local go_sem] u3o u3n u3x u3w u3j u3i u3p u3q
set_option linter.unusedVariables false
set_option linter.unusedSimpArgs false
noncomputable def u3b.l0:Nat → List Int → List (S79) → Int → Int → Option (List Int × Int)
 | 0,_,_,_,_ => none
 | k + 1,x4,x14,x15,x16 => if x16 < x15 then (if 0 ≤ x16 then (if x16 < (x14.length:Int) then ((some (([((u1w x14 x16).f0) % 256,((((u1w x14 x16).f1).size:Int)) % 256]:List Int):List Int)).bind fun y130 => (if x4.length + y130.length < 140737488355328 then ((some (x4 ++ y130:List Int)).bind fun y133 => (if y133.length + ((u1w x14 x16).f1).size < 140737488355328 then ((some (y133 ++ u3g ((u1w x14 x16).f1):List Int)).bind fun y136 => (if y136.length < 140737488355328 then ((some (y136 ++ [((((u1w x14 x16).f2).size:Int)) % 256]:List Int)).bind fun y139 => (if y139.length + ((u1w x14 x16).f2).size < 140737488355328 then (u3b.l0 k (y139 ++ u3g ((u1w x14 x16).f2)) x14 x15 (wrap64 (x16 + 1))) else (none))) else (none))) else (none))) else (none))) else (none)) else (none)) else (some (x4,0))
noncomputable def u3b.f (k:Nat) (l0:List (S79)):Option (List Int × Int):=(u1m.f l0).bind fun t124 => (if t124 = true then (u3b.l0 k (([((l0.length:Int)) % 256]:List Int)) l0 (l0.length:Int) 0) else (some (([]:List Int),1)))
set_option maxHeartbeats 8000000 in
set_option maxRecDepth 100000 in
theorem u3b.calls (k:Nat) (A0:Option Addr) (c0:Nat) (l0:List (S79)) (r1:List Int) (r2:Int) (w:World) (hr0:Kd.C k79 w A0 l0.length l0) (hc0:l0.length ≤ c0) (hG:strings_ToValidUTF8.Gd w) (h:u3b.f k l0 = some (r1,r2)) :
 Calls Tryz.prog 32 #[.slice A0 l0.length c0] w fun e w' => ∃ v0_:Value,e = .returned (.tuple #[v0_,.int .i64 r2]) ∧ Kd.R (Kd.int .u8) 5 w' w.heap.size (fun _ => True) v0_ r1 ∧ Below w.heap.size w w':=by
 have hu79:=Tryz.underlying79
 have HR0:=Aside0.mk hr0
 have HC0:=Aside0.mk hc0
 clear hr0 hc0
 have HG:=Aside0.mk hG
 clear hG
 have HB:=Aside0.mk (Below.refl w.heap.size w)
 have H:((u1m.f l0).bind fun t124 => (if t124 = true then (u3b.l0 k (([((l0.length:Int)) % 256]:List Int)) l0 (l0.length:Int) 0) else (some (([]:List Int),1)))) = some (r1,r2):=h
 clear h
 replace H:=Option.bind_eq_some_iff.mp H
 obtain ⟨t124,A20,H⟩:=H
 replace H:(if t124 = true then (u3b.l0 k (([((l0.length:Int)) % 256]:List Int)) l0 (l0.length:Int) 0) else (some (([]:List Int),1))) = some (r1,r2):=H
 have A2:=Aside0.mk A20
 clear A20
 by_cases c3:t124 = true
 · subst c3
   have H1:(u3b.l0 k (([((l0.length:Int)) % 256]:List Int)) l0 (l0.length:Int) 0) = some (r1,r2):=by rw [if_pos rfl] at H;exact H
   clear H
   have H:=H1
   clear H1
   obtain ⟨y125,hy125⟩:∃ y_:List Int,y_ = (([((l0.length:Int)) % 256]:List Int)):=⟨_,rfl⟩
   replace H:(u3b.l0 k y125 l0 (l0.length:Int) 0) = some (r1,r2):=by first | (rw [hy125];with_reducible exact H) | (have H2_:=(Option.bind_some _ _).symm.trans H;rw [hy125];with_reducible exact H2_) | (have H2_:=(Option.bind_some _ _).symm.trans H;with_reducible exact H2_) | with_reducible exact H | (rw [hy125];exact H) | exact H
   have Ny125:=Aside0.mk hy125
   clear hy125
   have H':=Aside0.mk H
   clear H
   go_enter Tryz.func32,Tryz.ntmps32
   go_wp2_with (first | ((with_reducible refine u3m (f:=36) rfl ?_);refine goesL_ (some 8) rfl rfl Tryz.func36 (by kernel_rfl) rfl #[.slice A0 l0.length c0] rfl (by (try simp only [List.map_toArray,List.map_cons,List.map_nil]);first | done | rfl | (simp only [List.length_drop,List.length_take];rfl)) ?_;(with_reducible refine (u1m.callsP _ _ l0 true _ ?side1 ?side2 ?side3 A2.out).mono ?_);(case side1 => repeat (first | exact HR0.out | (with_reducible refine Kd.C_alloc ?_ _) | (with_reducible refine Kd.C_drewN ?_ _) | (with_reducible refine Kd.C_drew ?_)));(case side2 => exact HC0.out);(case side3 => exact HG.out.below (by repeat (first | (with_reducible first | exact HB.out | apply uj | apply ui | apply ur) | exact HB.out)));rintro e w4 ⟨rfl,hb⟩;refine ⟨_,rfl,?_⟩;have n0_:=Aside0.mk (u2k (by repeat (first | (with_reducible first | exact HB.out | apply uj | apply ui | apply ur) | exact HB.out)) hb);clear HB;have HB:=n0_;clear n0_;(try clear hb);(try clear hb2);(try clear hk);(try clear hi)) | ((with_reducible refine u4a (N:=13) rfl ?_);refine Kd.R_lit (Kd.int .u8) _ 5 ?hg (N:=13) ?hd (xs:=([((l0.length:Int)) % 256]:List Int)) (inner:=[.int .u8 (((l0.length:Int)) % 256)]) (ok:=fun _ => True) (okp:=fun _ => True) ?hr ?hp (fun _ hk => hk) trivial (Below.refl _ _) (Nat.le_refl _) (by simp) ?_;(case hd => rfl);(case hg => rfl);(case hr => first | (go_simp;done) | (go_simp;rfl));(case hp => exact (Reps.one (show Kd.M (Kd.int .u8) _ _ _ (((l0.length:Int)) % 256) [.int .u8 (((l0.length:Int)) % 256)] from rfl) (Reps.none _ _)));intro v126 w5 ho6 hb hg_ hnew_;clear hg_ hnew_;(first | rw [← Ny125.out] at ho6 | (simp only [Int.reduceToNat] at ho6;rw [← Ny125.out] at ho6));have n0_:=Aside0.mk (Kd.R_lower ho6 (u2p (by repeat (first | (with_reducible first | exact HB.out | apply uj | apply ui | apply ur) | exact HB.out))));have n1_:=Aside0.mk (u2k (by repeat (first | (with_reducible first | exact HB.out | apply uj | apply ui | apply ur) | exact HB.out)) hb);clear HB;have HO127:=n0_;have HB:=n1_;clear n0_ n1_;clear hb ho6))
   go_loopg [4,16] k (fun kq v4 v16 w' => ∃ (x4_1:List Int) (x16_1:Int),v16 = .int .i64 x16_1 ∧ Aside0 (u3b.l0 kq x4_1 l0 (l0.length:Int) x16_1 = some (r1,r2)) ∧ Aside0 (kq ≤ k) ∧ Aside0 (Kd.R (Kd.int .u8) 5 w' w.heap.size (fun _ => True) v4 x4_1) ∧ Aside0 (Below w.heap.size w w'))
   case atStart => exact ⟨(y125),(0),(by first | rfl | (simp;done) | (simp [*];done)),H',⟨Nat.le_refl _⟩,⟨by (with_reducible repeat (first | apply Kd.R_alloc | apply Kd.R_drewN | apply Kd.R_drew));exact HO127.out⟩,⟨by repeat (first | (with_reducible first | exact HB.out | apply uj | apply ui | apply ur) | exact HB.out)⟩⟩
   case round =>
    clear H'
    try clear p2
    try clear c3
    obtain ⟨x4_1,x16_1,rfl,HA,HK1,HO_4,HB⟩:=hrel
    cases gk with
    | zero => exact absurd HA.out (by simp [u3b.l0])
    | succ k1 =>
      have H:=HA.out
      clear HA
      simp only [u3b.l0] at H
      by_cases c7:x16_1 < (l0.length:Int)
      · rw [if_pos c7] at H
        have c7b0:decide (x16_1 < (l0.length:Int)) = true:=decide_eq_true c7
        clear c7
        by_cases c8:0 ≤ x16_1
        · rw [if_pos c8] at H
          have c8b0:decide (0 ≤ x16_1) = true:=decide_eq_true c8
          clear c8
          by_cases c9:x16_1 < (l0.length:Int)
          · rw [if_pos c9] at H
            have c9b0:decide (x16_1 < (l0.length:Int)) = true:=decide_eq_true c9
            clear c9
            obtain ⟨y130,hy130⟩:∃ y_:List Int,y_ = (([((u1w l0 x16_1).f0) % 256,((((u1w l0 x16_1).f1).size:Int)) % 256]:List Int)):=⟨_,rfl⟩
            replace H:(if x4_1.length + y130.length < 140737488355328 then ((some (x4_1 ++ y130:List Int)).bind fun y133 => (if y133.length + ((u1w l0 x16_1).f1).size < 140737488355328 then ((some (y133 ++ u3g ((u1w l0 x16_1).f1):List Int)).bind fun y136 => (if y136.length < 140737488355328 then ((some (y136 ++ [((((u1w l0 x16_1).f2).size:Int)) % 256]:List Int)).bind fun y139 => (if y139.length + ((u1w l0 x16_1).f2).size < 140737488355328 then (u3b.l0 k1 (y139 ++ u3g ((u1w l0 x16_1).f2)) l0 (l0.length:Int) (wrap64 (x16_1 + 1))) else (none))) else (none))) else (none))) else (none)) = some (r1,r2):=by first | (rw [hy130];with_reducible exact H) | (have H2_:=(Option.bind_some _ _).symm.trans H;rw [hy130];with_reducible exact H2_) | (have H2_:=(Option.bind_some _ _).symm.trans H;with_reducible exact H2_) | with_reducible exact H | (rw [hy130];exact H) | exact H
            have Ny130:=Aside0.mk hy130
            clear hy130
            by_cases c10:x4_1.length + y130.length < 140737488355328
            · rw [if_pos c10] at H
              have LMc10:=Aside0.mk c10
              clear c10
              obtain ⟨y133,hy133⟩:∃ y_:List Int,y_ = (x4_1 ++ y130):=⟨_,rfl⟩
              replace H:(if y133.length + ((u1w l0 x16_1).f1).size < 140737488355328 then ((some (y133 ++ u3g ((u1w l0 x16_1).f1):List Int)).bind fun y136 => (if y136.length < 140737488355328 then ((some (y136 ++ [((((u1w l0 x16_1).f2).size:Int)) % 256]:List Int)).bind fun y139 => (if y139.length + ((u1w l0 x16_1).f2).size < 140737488355328 then (u3b.l0 k1 (y139 ++ u3g ((u1w l0 x16_1).f2)) l0 (l0.length:Int) (wrap64 (x16_1 + 1))) else (none))) else (none))) else (none)) = some (r1,r2):=by first | (rw [hy133];with_reducible exact H) | (have H2_:=(Option.bind_some _ _).symm.trans H;rw [hy133];with_reducible exact H2_) | (have H2_:=(Option.bind_some _ _).symm.trans H;with_reducible exact H2_) | with_reducible exact H | (rw [hy133];exact H) | exact H
              have Ny133:=Aside0.mk hy133
              clear hy133
              by_cases c11:y133.length + ((u1w l0 x16_1).f1).size < 140737488355328
              · rw [if_pos c11] at H
                have LMc11:=Aside0.mk c11
                clear c11
                obtain ⟨y136,hy136⟩:∃ y_:List Int,y_ = (y133 ++ u3g ((u1w l0 x16_1).f1)):=⟨_,rfl⟩
                replace H:(if y136.length < 140737488355328 then ((some (y136 ++ [((((u1w l0 x16_1).f2).size:Int)) % 256]:List Int)).bind fun y139 => (if y139.length + ((u1w l0 x16_1).f2).size < 140737488355328 then (u3b.l0 k1 (y139 ++ u3g ((u1w l0 x16_1).f2)) l0 (l0.length:Int) (wrap64 (x16_1 + 1))) else (none))) else (none)) = some (r1,r2):=by first | (rw [hy136];with_reducible exact H) | (have H2_:=(Option.bind_some _ _).symm.trans H;rw [hy136];with_reducible exact H2_) | (have H2_:=(Option.bind_some _ _).symm.trans H;with_reducible exact H2_) | with_reducible exact H | (rw [hy136];exact H) | exact H
                have Ny136:=Aside0.mk hy136
                clear hy136
                by_cases c12:y136.length < 140737488355328
                · rw [if_pos c12] at H
                  have LMc12:=Aside0.mk c12
                  clear c12
                  obtain ⟨y139,hy139⟩:∃ y_:List Int,y_ = (y136 ++ [((((u1w l0 x16_1).f2).size:Int)) % 256]):=⟨_,rfl⟩
                  replace H:(if y139.length + ((u1w l0 x16_1).f2).size < 140737488355328 then (u3b.l0 k1 (y139 ++ u3g ((u1w l0 x16_1).f2)) l0 (l0.length:Int) (wrap64 (x16_1 + 1))) else (none)) = some (r1,r2):=by first | (rw [hy139];with_reducible exact H) | (have H2_:=(Option.bind_some _ _).symm.trans H;rw [hy139];with_reducible exact H2_) | (have H2_:=(Option.bind_some _ _).symm.trans H;with_reducible exact H2_) | with_reducible exact H | (rw [hy139];exact H) | exact H
                  have Ny139:=Aside0.mk hy139
                  clear hy139
                  by_cases c13:y139.length + ((u1w l0 x16_1).f2).size < 140737488355328
                  · rw [if_pos c13] at H
                    have LMc13:=Aside0.mk c13
                    clear c13
                    obtain ⟨y142,hy142⟩:∃ y_:List Int,y_ = (y139 ++ u3g ((u1w l0 x16_1).f2)):=⟨_,rfl⟩
                    replace H:(u3b.l0 k1 y142 l0 (l0.length:Int) (wrap64 (x16_1 + 1))) = some (r1,r2):=by first | (rw [hy142];with_reducible exact H) | (have H2_:=(Option.bind_some _ _).symm.trans H;rw [hy142];with_reducible exact H2_) | (have H2_:=(Option.bind_some _ _).symm.trans H;with_reducible exact H2_) | with_reducible exact H | (rw [hy142];exact H) | exact H
                    have Ny142:=Aside0.mk hy142
                    clear hy142
                    have H':=Aside0.mk H
                    clear H
                    have p128:0 ≤ (x16_1:Int):=of_decide_eq_true (by first | (with_reducible assumption) | assumption)
                    have q128:x16_1 < (l0.length:Int):=of_decide_eq_true (by first | (with_reducible assumption) | assumption)
                    obtain ⟨ad128,e128,hx128_0,hx128_1,hx128_2⟩:=at_T79 HR0.out x16_1 p128 q128
                    cases e128
                    replace hx128_0:=(HB.out.cell (World.block_lt_of_cell? w _ hx128_0)).trans hx128_0
                    replace hx128_1:=(HB.out.cell (World.block_lt_of_cell? w _ hx128_1)).trans hx128_1
                    replace hx128_2:=(HB.out.cell (World.block_lt_of_cell? w _ hx128_2)).trans hx128_2
                    replace p128:=eq_true p128
                    replace q128:=eq_true q128
                    go_wp2_with (first | ((with_reducible refine u4a (N:=6) rfl ?_);refine u4c ?hg (N:=6) ?hd (cs:=#[.int .i64 0,.string (⟨#[]⟩:ByteArray),.string (⟨#[]⟩:ByteArray)]) (t:=79) ?hr ?_;(case hd => rfl);(case hg => rfl);(case hr => first | (go_simp;done) | (go_simp;rfl));intro gb129 hg w14 hbox hb;have n0_:=Aside0.mk (Kd.R_below (by (with_reducible repeat (first | apply Kd.R_alloc | apply Kd.R_drewN | apply Kd.R_drew));exact HO_4.out) hb);have n1_:=Aside0.mk (u2k (by repeat (first | (with_reducible first | exact HB.out | apply uj | apply ui | apply ur) | exact HB.out)) hb);have n2_:=Aside0.mk (hbox);have n3_:=Aside0.mk ((by rw [hg];exact (u2p (by repeat (first | (with_reducible first | exact HB.out | apply uj | apply ui | apply ur) | exact HB.out))):w.heap.size ≤ gb129));have n4_:=Aside0.mk ((by rw [hg];exact (u2p (by repeat (first | (with_reducible first | exact HB.out | apply uj | apply ui | apply ur) | exact HB.out))):w.heap.size ≤ gb129));clear HO_4;clear HB;have HO_4:=n0_;have HB:=n1_;have BK129:=n2_;have GW129:=n3_;have GE129:=n4_;clear n0_ n1_ n2_ n3_ n4_;clear hb hbox hg;have hcz15_0:w14.cell? ⟨gb129,0,none⟩ = some (.int .i64 0):=(uk BK129.out 0).trans rfl;have hcz15_1:w14.cell? ⟨gb129,1,none⟩ = some (.string (⟨#[]⟩:ByteArray)):=(uk BK129.out 1).trans rfl;have hcz15_2:w14.cell? ⟨gb129,2,none⟩ = some (.string (⟨#[]⟩:ByteArray)):=(uk BK129.out 2).trans rfl;have hfz15_0:=uq BK129.out 0;have hfz15_1:=uq BK129.out 1;have hfz15_2:=uq BK129.out 2) | ((with_reducible refine u4a (N:=28) rfl ?_);refine Kd.R_lit (Kd.int .u8) _ 5 ?hg (N:=28) ?hd (xs:=([((u1w l0 x16_1).f0) % 256,((((u1w l0 x16_1).f1).size:Int)) % 256]:List Int)) (inner:=[.int .u8 (((u1w l0 x16_1).f0) % 256),.int .u8 (((((u1w l0 x16_1).f1).size:Int)) % 256)]) (ok:=fun _ => True) (okp:=fun _ => True) ?hr ?hp (fun _ hk => hk) trivial (Below.refl _ _) (Nat.le_refl _) (by simp) ?_;(case hd => rfl);(case hg => rfl);(case hr => first | (go_simp;done) | (go_simp;rfl));(case hp => exact (Reps.one (show Kd.M (Kd.int .u8) _ _ _ (((u1w l0 x16_1).f0) % 256) [.int .u8 (((u1w l0 x16_1).f0) % 256)] from rfl) (Reps.one (show Kd.M (Kd.int .u8) _ _ _ (((((u1w l0 x16_1).f1).size:Int)) % 256) [.int .u8 (((((u1w l0 x16_1).f1).size:Int)) % 256)] from rfl) (Reps.none _ _))));intro v131 w16 ho17 hb hg_ hnew_;clear hg_ hnew_;(first | rw [← Ny130.out] at ho17 | (simp only [Int.reduceToNat] at ho17;rw [← Ny130.out] at ho17));have n0_:=Aside0.mk (Kd.R_elder' (by (with_reducible repeat (first | apply Kd.R_alloc | apply Kd.R_drewN | apply Kd.R_drew));exact (Kd.R_mono (Kd.R_far (p:=⟨gb129,2,none⟩) (Kd.R_far (p:=⟨gb129,1,none⟩) (Kd.R_far (p:=⟨gb129,0,none⟩) (Kd.R_types HO_4.out BK129.out (by decide)) (fun _ hk => hk.2) (.int .i64 ((u1w l0 x16_1).f0))) (fun _ hk => hk.2) (.string ((u1w l0 x16_1).f1))) (fun _ hk => hk.2) (.string ((u1w l0 x16_1).f2))) (fun _ h_ => h_.1))) (Kd.R_base ho17) hb);have n1_:=Aside0.mk (Kd.R_lower (Kd.R_new' ho17 (Kd.R_lt (by (with_reducible repeat (first | apply Kd.R_alloc | apply Kd.R_drewN | apply Kd.R_drew));exact (Kd.R_mono (Kd.R_far (p:=⟨gb129,2,none⟩) (Kd.R_far (p:=⟨gb129,1,none⟩) (Kd.R_far (p:=⟨gb129,0,none⟩) (Kd.R_types HO_4.out BK129.out (by decide)) (fun _ hk => hk.2) (.int .i64 ((u1w l0 x16_1).f0))) (fun _ hk => hk.2) (.string ((u1w l0 x16_1).f1))) (fun _ hk => hk.2) (.string ((u1w l0 x16_1).f2))) (fun _ h_ => h_.1))))) (u2p (by repeat (first | (with_reducible first | exact HB.out | apply uj | apply ui | apply ur | refine u1y ?_ GE129.out) | exact HB.out))));have n2_:=Aside0.mk (u1a (g:=gb129) (o:=.cells #[.int .i64 ((u1w l0 x16_1).f0),.string ((u1w l0 x16_1).f1),.string ((u1w l0 x16_1).f2)] 79 (0,0)) (by (with_reducible repeat (first | refine u2b ?_ _ | refine u1z ?_ | refine u1k ?_ _));refine blk_put (cs:=#[.int .i64 ((u1w l0 x16_1).f0),.string ((u1w l0 x16_1).f1),.string (⟨#[]⟩:ByteArray)]) ?_ 2 _ rfl;(with_reducible repeat (first | refine u2b ?_ _ | refine u1z ?_ | refine u1k ?_ _));refine blk_put (cs:=#[.int .i64 ((u1w l0 x16_1).f0),.string (⟨#[]⟩:ByteArray),.string (⟨#[]⟩:ByteArray)]) ?_ 1 _ rfl;(with_reducible repeat (first | refine u2b ?_ _ | refine u1z ?_ | refine u1k ?_ _));refine blk_put (cs:=#[.int .i64 0,.string (⟨#[]⟩:ByteArray),.string (⟨#[]⟩:ByteArray)]) ?_ 0 _ rfl;(with_reducible repeat (first | refine u2b ?_ _ | refine u1z ?_ | refine u1k ?_ _));exact BK129.out) hb);have n3_:=Aside0.mk (u2k (by repeat (first | (with_reducible first | exact HB.out | apply uj | apply ui | apply ur | refine u1y ?_ GE129.out) | exact HB.out)) hb);clear HO_4;clear BK129;clear HB;have HO_4:=n0_;have HO132:=n1_;have BK129:=n2_;have HB:=n3_;clear n0_ n1_ n2_ n3_;clear hb ho17;obtain ⟨Ao19,co19,eo19⟩:=Kd.R_slice HO132.out;subst eo19) | ((with_reducible refine u2z (b:=.append) (xs:=#[.tmp 20,.tmp 28]) rfl ?_);at_builtin;refine Kd.R_append_rows (Kd.int .u8) (w0:=w) w.heap.size rfl (.tmp 20) (.tmp 28) 22 5 (.int .u8 0) 1 rfl Tryz.underlying22 info5 rfl (by decide) (by omega) u4 x4_1 y130 _ _ _ (fun k_ => some k_ ≠ (.slice Ao19 y130.length co19:Value).ownBlock) (fun _ => False) rfl rfl ?aO ?aR (fun _ _ h => h) (fun _ h => h.elim) ?aF ?aB ?aS ?aL ?_;(case aR => repeat (first | exact (Kd.R_reads' HO132.out).2.2 | (with_reducible refine Kd.C_alloc ?_ _) | (with_reducible refine Kd.C_drewN ?_ _) | (with_reducible refine Kd.C_drew ?_)));(case aB => exact (by repeat (first | (with_reducible first | exact HB.out | apply uj | apply ui | apply ur | refine u1y ?_ GE129.out) | exact HB.out)));(case aF => exact (fun k_ hk => Kd.fresh' (Kd.R_lt (by (with_reducible repeat (first | apply Kd.R_alloc | apply Kd.R_drewN | apply Kd.R_drew));exact HO132.out)) k_ hk));(case aO => exact (by (with_reducible repeat (first | apply Kd.R_alloc | apply Kd.R_drewN | apply Kd.R_drew));exact Kd.R_mono HO_4.out (fun _ hk => hk.2)));(case aS => exact (u2p (by repeat (first | (with_reducible first | exact HB.out | apply uj | apply ui | apply ur | refine u1y ?_ GE129.out) | exact HB.out))));(case aL => have:=LMc10.out;omega);intro v134 w18 ho hb hg hat;rw [← Ny133.out] at ho;have n0_:=Aside0.mk (blk_grown (g:=gb129) (o:=.cells #[.int .i64 ((u1w l0 x16_1).f0),.string ((u1w l0 x16_1).f1),.string ((u1w l0 x16_1).f2)] 79 (0,0)) (by (with_reducible repeat (first | refine u2b ?_ _ | refine u1z ?_ | refine u1k ?_ _));exact BK129.out) hg (Kd.R_ne HO_4.out BK129.out (by decide)));have n1_:=Aside0.mk (Kd.R_after (ok:=(fun _ => True)) (by (with_reducible repeat (first | apply Kd.R_alloc | apply Kd.R_drewN | apply Kd.R_drew));exact HO132.out) hg hat);have n2_:=Aside0.mk (hb);have n3_:=Aside0.mk (ho);clear BK129;clear HO132;clear HB;clear HO_4;have BK129:=n0_;have HO132:=n1_;have HB:=n2_;have HO135:=n3_;clear n0_ n1_ n2_ n3_;clear ho hb hg hat;have hcz20_0:w18.cell? ⟨gb129,0,none⟩ = some (.int .i64 ((u1w l0 x16_1).f0)):=(uk BK129.out 0).trans rfl;have hcz20_1:w18.cell? ⟨gb129,1,none⟩ = some (.string ((u1w l0 x16_1).f1)):=(uk BK129.out 1).trans rfl;have hcz20_2:w18.cell? ⟨gb129,2,none⟩ = some (.string ((u1w l0 x16_1).f2)):=(uk BK129.out 2).trans rfl;have hfz20_0:=uq BK129.out 0;have hfz20_1:=uq BK129.out 1;have hfz20_2:=uq BK129.out 2) | (at_builtin;refine print_append_str (w0:=w) w.heap.size rfl (.tmp 30) _ 22 9 5 rfl Tryz.underlying22 Tryz.underlying9 info5 v134 y133 ((u1w l0 x16_1).f1) rfl rfl ?aO ?aB ?aS ?aL ?_;(case aB => exact (by repeat (first | (with_reducible first | exact HB.out | apply uj | apply ui | apply ur | refine u1y ?_ GE129.out) | exact HB.out)));(case aO => exact (Kd.own_of_R (by (with_reducible repeat (first | apply Kd.R_alloc | apply Kd.R_drewN | apply Kd.R_drew));exact Kd.R_mono HO135.out (fun _ hk => trivial))));(case aS => exact (u2p (by repeat (first | (with_reducible first | exact HB.out | apply uj | apply ui | apply ur | refine u1y ?_ GE129.out) | exact HB.out))));(case aL => have:=LMc11.out;omega);intro v137 w21 ho0 hb hg;have ho:=Kd.R_of_own (h1:=fun _ => rfl) (ok:=fun _ => True) ho0 (fun _ _ => trivial);clear ho0;have hat:=True.intro;rw [← Ny136.out] at ho;change Kd.R (Kd.int .u8) 5 w21 w.heap.size (fun _ => True) v137 y136 at ho;have n0_:=Aside0.mk (blk_grown (g:=gb129) (o:=.cells #[.int .i64 ((u1w l0 x16_1).f0),.string ((u1w l0 x16_1).f1),.string ((u1w l0 x16_1).f2)] 79 (0,0)) (by (with_reducible repeat (first | refine u2b ?_ _ | refine u1z ?_ | refine u1k ?_ _));exact BK129.out) hg (Kd.R_ne HO135.out BK129.out (by decide)));have n1_:=Aside0.mk (hb);have n2_:=Aside0.mk (ho);clear BK129;clear HB;clear HO135;have BK129:=n0_;have HB:=n1_;have HO138:=n2_;clear n0_ n1_ n2_;clear ho hb hg hat;have hcz22_0:w21.cell? ⟨gb129,0,none⟩ = some (.int .i64 ((u1w l0 x16_1).f0)):=(uk BK129.out 0).trans rfl;have hcz22_1:w21.cell? ⟨gb129,1,none⟩ = some (.string ((u1w l0 x16_1).f1)):=(uk BK129.out 1).trans rfl;have hcz22_2:w21.cell? ⟨gb129,2,none⟩ = some (.string ((u1w l0 x16_1).f2)):=(uk BK129.out 2).trans rfl;have hfz22_0:=uq BK129.out 0;have hfz22_1:=uq BK129.out 1;have hfz22_2:=uq BK129.out 2) | ((with_reducible refine u2z (b:=.append) (xs:=#[.tmp 34,.tmp 39]) rfl ?_);at_builtin;refine Kd.R_append (Kd.int .u8) (w0:=w) w.heap.size rfl (.tmp 34) (.tmp 39) 22 5 (.int .u8 0) 1 rfl Tryz.underlying22 info5 rfl (by decide) (by omega) v137 y136 (((((u1w l0 x16_1).f2).size:Int)) % 256) [.int .u8 (((((u1w l0 x16_1).f2).size:Int)) % 256)] (fun _ => True) (fun _ => False) rfl rfl ?aP (fun _ hk => hk.elim) ?aF ?aO ?aB ?aS ?aL ?_;(case aP => exact rfl);(case aB => exact (by repeat (first | (with_reducible first | exact HB.out | apply uj | apply ui | apply ur | refine u1y ?_ GE129.out) | exact HB.out)));(case aF => exact (fun _ _ => trivial));(case aO => exact (by (with_reducible repeat (first | apply Kd.R_alloc | apply Kd.R_drewN | apply Kd.R_drew));exact HO138.out));(case aS => exact (u2p (by repeat (first | (with_reducible first | exact HB.out | apply uj | apply ui | apply ur | refine u1y ?_ GE129.out) | exact HB.out))));(case aL => have:=LMc12.out;omega);intro v140 w23 ho hb hg hat;rw [← Ny139.out] at ho;have n0_:=Aside0.mk (blk_grown (g:=gb129) (o:=.cells #[.int .i64 ((u1w l0 x16_1).f0),.string ((u1w l0 x16_1).f1),.string ((u1w l0 x16_1).f2)] 79 (0,0)) (by (with_reducible repeat (first | refine u2b ?_ _ | refine u1z ?_ | refine u1k ?_ _));exact BK129.out) hg (Kd.R_ne HO138.out BK129.out (by decide)));have n1_:=Aside0.mk (hb);have n2_:=Aside0.mk (ho);clear BK129;clear HB;clear HO138;have BK129:=n0_;have HB:=n1_;have HO141:=n2_;clear n0_ n1_ n2_;clear ho hb hg hat;have hcz24_0:w23.cell? ⟨gb129,0,none⟩ = some (.int .i64 ((u1w l0 x16_1).f0)):=(uk BK129.out 0).trans rfl;have hcz24_1:w23.cell? ⟨gb129,1,none⟩ = some (.string ((u1w l0 x16_1).f1)):=(uk BK129.out 1).trans rfl;have hcz24_2:w23.cell? ⟨gb129,2,none⟩ = some (.string ((u1w l0 x16_1).f2)):=(uk BK129.out 2).trans rfl;have hfz24_0:=uq BK129.out 0;have hfz24_1:=uq BK129.out 1;have hfz24_2:=uq BK129.out 2) | (at_builtin;refine print_append_str (w0:=w) w.heap.size rfl (.tmp 41) _ 22 9 5 rfl Tryz.underlying22 Tryz.underlying9 info5 v140 y139 ((u1w l0 x16_1).f2) rfl rfl ?aO ?aB ?aS ?aL ?_;(case aB => exact (by repeat (first | (with_reducible first | exact HB.out | apply uj | apply ui | apply ur | refine u1y ?_ GE129.out) | exact HB.out)));(case aO => exact (Kd.own_of_R (by (with_reducible repeat (first | apply Kd.R_alloc | apply Kd.R_drewN | apply Kd.R_drew));exact HO141.out)));(case aS => exact (u2p (by repeat (first | (with_reducible first | exact HB.out | apply uj | apply ui | apply ur | refine u1y ?_ GE129.out) | exact HB.out))));(case aL => have:=LMc13.out;omega);intro v143 w25 ho0 hb hg;have ho:=Kd.R_of_own (h1:=fun _ => rfl) (ok:=fun _ => True) ho0 (fun _ _ => trivial);clear ho0;have hat:=True.intro;rw [← Ny142.out] at ho;change Kd.R (Kd.int .u8) 5 w25 w.heap.size (fun _ => True) v143 y142 at ho;have n0_:=Aside0.mk (blk_grown (g:=gb129) (o:=.cells #[.int .i64 ((u1w l0 x16_1).f0),.string ((u1w l0 x16_1).f1),.string ((u1w l0 x16_1).f2)] 79 (0,0)) (by (with_reducible repeat (first | refine u2b ?_ _ | refine u1z ?_ | refine u1k ?_ _));exact BK129.out) hg (Kd.R_ne HO141.out BK129.out (by decide)));have n1_:=Aside0.mk (hb);have n2_:=Aside0.mk (ho);clear BK129;clear HB;clear HO141;have BK129:=n0_;have HB:=n1_;have HO144:=n2_;clear n0_ n1_ n2_;clear ho hb hg hat))
                    go_roundg k1
                    case measure => have:=HK1.out;omega
                    case rel => exact ⟨(y142),(wrap64 (x16_1 + 1)),(by first | rfl | (simp;done) | (simp [*];done)),H',⟨by have:=HK1.out;omega⟩,⟨by (with_reducible repeat (first | apply Kd.R_alloc | apply Kd.R_drewN | apply Kd.R_drew));exact HO144.out⟩,⟨by repeat (first | (with_reducible first | exact HB.out | apply uj | apply ui | apply ur | refine u1y ?_ GE129.out) | exact HB.out)⟩⟩
                  · rw [if_neg c13] at H
                    exact absurd H (by simp)
                · rw [if_neg c12] at H
                  exact absurd H (by simp)
              · rw [if_neg c11] at H
                exact absurd H (by simp)
            · rw [if_neg c10] at H
              exact absurd H (by simp)
          · rw [if_neg c9] at H
            exact absurd H (by simp)
        · rw [if_neg c8] at H
          exact absurd H (by simp)
      · rw [if_neg c7] at H
        have c7b0:decide (x16_1 < (l0.length:Int)) = false:=decide_eq_false c7
        clear c7
        simp only [Option.some.injEq,Prod.mk.injEq] at H
        obtain ⟨rfl,rfl⟩:=H
        go_wp2
        go_ret2
        exact ⟨_,by first | rfl | (simp [u2i,u2j] <;> rfl) | (simp [*,u2i,u2j] <;> rfl),by (with_reducible repeat (first | apply Kd.R_alloc | apply Kd.R_drewN | apply Kd.R_drew));exact HO_4.out,by repeat (first | (with_reducible first | exact HB.out | apply uj | apply ui | apply ur) | exact HB.out)⟩
 · replace c3:=Bool.eq_false_iff.mpr c3
   subst c3
   have H1:(some (([]:List Int),1)) = some (r1,r2):=by rw [if_neg (show ¬ (false = true) by decide)] at H;exact H
   clear H
   have H:=H1
   clear H1
   simp only [Option.some.injEq,Prod.mk.injEq] at H
   obtain ⟨rfl,rfl⟩:=H
   go_enter Tryz.func32,Tryz.ntmps32
   go_wp2_with (first | ((with_reducible refine u3m (f:=36) rfl ?_);refine goesL_ (some 8) rfl rfl Tryz.func36 (by kernel_rfl) rfl #[.slice A0 l0.length c0] rfl (by (try simp only [List.map_toArray,List.map_cons,List.map_nil]);first | done | rfl | (simp only [List.length_drop,List.length_take];rfl)) ?_;(with_reducible refine (u1m.callsP _ _ l0 false _ ?side1 ?side2 ?side3 A2.out).mono ?_);(case side1 => repeat (first | exact HR0.out | (with_reducible refine Kd.C_alloc ?_ _) | (with_reducible refine Kd.C_drewN ?_ _) | (with_reducible refine Kd.C_drew ?_)));(case side2 => exact HC0.out);(case side3 => exact HG.out.below (by repeat (first | (with_reducible first | exact HB.out | apply uj | apply ui | apply ur) | exact HB.out)));rintro e w26 ⟨rfl,hb⟩;refine ⟨_,rfl,?_⟩;have n0_:=Aside0.mk (u2k (by repeat (first | (with_reducible first | exact HB.out | apply uj | apply ui | apply ur) | exact HB.out)) hb);clear HB;have HB:=n0_;clear n0_;(try clear hb);(try clear hb2);(try clear hk);(try clear hi)))
   go_ret2
   exact ⟨_,by first | rfl | (simp [u2i,u2j] <;> rfl) | (simp [*,u2i,u2j] <;> rfl),by first | exact Kd.R_nil _ _ _ _ _ | exact Kd.N_nil _ _ _ _ _ | exact Kd.V_nil _ _ _ _ _ | exact Kd.Q_nil _ _ _ _ _ | exact Kd.S_nil _ _ _ _ _,by repeat (first | (with_reducible first | exact HB.out | apply uj | apply ui | apply ur) | exact HB.out)⟩
end Go.Proofs.YtgnehcgaplnfkaaGreatDoor.PAll
namespace Go.Proofs.YtgnehcgaplnfkaaGreatDoor.Laws
open Go.RowKit Go.Proofs.YtgnehcgaplnfkaaGreatDoor.PAll Go.Proofs.YtgnehcgaplnfkaaGreatDoorW.PrintWords Go.Proofs.YtgnehcgaplnfkaaGreatDoorW.PrintLast
set_option linter.unusedVariables false
set_option linter.unusedSimpArgs false
abbrev SS:=ue.SS
theorem str_nums (xs:List Int) (hb:∀ y ∈ xs,u2o y):u3g (strOfNums xs) = xs:=by
 rw [u3g,strOfNums_data,List.map_map]
 conv => rhs;rw [← List.map_id xs]
 apply List.map_congr_left
 intro c hc
 have h:=hb c hc
 unfold u2o at h
 show (((UInt8.ofNat c.toNat).toNat:Nat):Int) = c
 rw [UInt8.toNat_ofNat']
 omega
theorem one_inv {b q:List Int} {s:ByteArray} (hb:∀ y ∈ b,u2o y) (h:uo.one b = some (s,q)):b = us.piece s ++ q ∧ s.size < 256 ∧ ∀ y ∈ q,u2o y:=by
 cases b with
 | nil => cases h
 | cons c r =>
   simp only [uo.one] at h
   have hc:=hb c (List.mem_cons_self ..)
   unfold u2o at hc
   split at h
   · rename_i hle
     obtain ⟨h1,h2⟩:=Prod.mk.inj (Option.some.inj h)
     have hbt:∀ y ∈ r.take c.toNat,u2o y:=fun y hy => hb y (List.mem_cons_of_mem _ (List.mem_of_mem_take hy))
     have hs:s.size = c.toNat:=by rw [← h1,strOfNums_size,List.length_take];omega
     refine ⟨?_,by omega,fun y hy => hb y (List.mem_cons_of_mem _ (by rw [← h2] at hy;exact List.mem_of_mem_drop hy))⟩
     rw [us.piece,List.cons_append,hs,← h1,str_nums _ hbt,← h2,List.take_append_drop]
     congr 1
     omega
   · cases h
theorem all_inv:∀ (n:Nat) (b q:List Int) (l:List S111),(∀ y ∈ b,u2o y) → uo.all n b = some (l,q) → b = l.flatMap us.pieces ++ q ∧ ∀ y ∈ q,u2o y
 | 0,b,q,l,hb,h => by
   obtain ⟨h1,h2⟩:=Prod.mk.inj (Option.some.inj h)
   subst h1 h2
   exact ⟨rfl,hb⟩
 | n + 1,b,q,l,hb,h => by
   obtain ⟨⟨s0,b1⟩,h1,h⟩:=Option.bind_eq_some_iff.1 h
   obtain ⟨⟨s1,b2⟩,h2,h⟩:=Option.bind_eq_some_iff.1 h
   obtain ⟨⟨l2,q2⟩,h3,h⟩:=Option.map_eq_some_iff.1 h
   obtain ⟨e1,e2⟩:=Prod.mk.inj h
   subst e1 e2
   obtain ⟨i1,_,i2⟩:=one_inv hb h1
   obtain ⟨j1,_,j2⟩:=one_inv i2 h2
   obtain ⟨k1,k2⟩:=all_inv n b2 q2 l2 j2 h3
   refine ⟨?_,k2⟩
   rw [i1,j1,k1]
   simp [us.pieces]
theorem decL_inv {b q:List Int} {l:List S111} (hb:∀ y ∈ b,u2o y) (h:decL b = (l,q,0)):b = us.enc l ++ q ∧ canB l = true ∧ ∀ y ∈ q,u2o y:=by
 cases b with
 | nil => cases h
 | cons c r =>
   unfold decL at h
   have hc:=hb c (List.mem_cons_self ..)
   unfold u2o at hc
   cases ha:uo.all c.toNat r with
   | none =>
     simp only [ha] at h
     cases h
   | some p =>
     obtain ⟨l2,q2⟩:=p
     simp only [ha] at h
     by_cases hcn:canB l2 = true
     · rw [if_pos hcn] at h
       obtain ⟨h1,h2⟩:=Prod.mk.inj h
       obtain ⟨h2,_⟩:=Prod.mk.inj h2
       subst h1 h2
       obtain ⟨i1,i2⟩:=all_inv _ _ _ _ (fun y hy => hb y (List.mem_cons_of_mem _ hy)) ha
       have hn:=(all_sizes _ _ _ _ ha).1
       refine ⟨?_,hcn,i2⟩
       rw [us.enc,hn,List.cons_append,← i1]
       congr 1
       omega
     · rw [if_neg hcn] at h
       cases h
def mEnc (m:Mt):List Int:=m.f0 % 256 :: (us.piece m.f1 ++ us.piece m.f2)
def mAll (l:List Mt):List Int:=(l.length:Int) % 256 :: l.flatMap mEnc
theorem byt_bad (b:List Int):ul.byt ⟨b,true⟩ = (0,⟨b,true⟩):=by cases b <;> rfl
theorem txt_bad (b:List Int):ux.txt ⟨b,true⟩ = (⟨#[]⟩,⟨b,true⟩):=by
 unfold ux.txt
 rw [byt_bad,if_pos (Or.inl rfl)]
theorem mat_bad (b:List Int):(u1l.mat ⟨b,true⟩).2.bad = true:=by
 unfold u1l.mat
 simp only [byt_bad,txt_bad]
theorem mats_bad:∀ (n:Nat) (s:SS) (l:List Mt),s.bad = true → (uy.mats n s l).2.bad = true
 | 0,s,l,h => h
 | n + 1,⟨b,bad⟩,l,h => by
   simp only at h
   subst h
   exact mats_bad n _ _ (mat_bad b)
theorem txt_one (b:List Int) (hb:∀ y ∈ b,u2o y):(uo.one b = none ∧ (ux.txt ⟨b,false⟩).2.bad = true) ∨ ∃ s q,uo.one b = some (s,q) ∧ ux.txt ⟨b,false⟩ = (s,⟨q,false⟩):=by
 cases b with
 | nil => exact Or.inl ⟨rfl,rfl⟩
 | cons c r =>
   have hc:=hb c (List.mem_cons_self ..)
   unfold u2o at hc
   simp only [uo.one]
   unfold ux.txt
   have e:ul.byt ⟨c :: r,false⟩ = (c,⟨r,false⟩):=rfl
   rw [e]
   by_cases h:c ≤ (r.length:Int)
   · right
     rw [if_pos h,if_neg (by rintro (h9 | h9);cases h9;simp only at h9;omega)]
     exact ⟨_,_,rfl,rfl⟩
   · left
     rw [if_neg h,if_pos (Or.inr (by simp only;omega))]
     exact ⟨rfl,rfl⟩
theorem txt_bad2 (b:List Int):(ux.txt ⟨b,true⟩).2.bad = true:=by rw [txt_bad]
theorem rone9 (b:List Int):u3u.one b = uo.one b:=by cases b <;> rfl
theorem mats_is:∀ (n:Nat) (b:List Int) (l:List Mt),(∀ y ∈ b,u2o y) → (u2g.mats n b l = none ∧ (uy.mats n ⟨b,false⟩ l).2.bad = true) ∨
 ∃ l2 q,u2g.mats n b l = some (l ++ l2,q) ∧ uy.mats n ⟨b,false⟩ l = (l ++ l2,⟨q,false⟩) ∧ l2.length = n ∧ b = l2.flatMap mEnc ++ q ∧ (∀ y ∈ q,u2o y) ∧ ∀ m ∈ l2,m.f1.size < 256 ∧ m.f2.size < 256
 | 0,b,l,hb => Or.inr ⟨[],b,by simp [u2g.mats],by simp [uy.mats],rfl,rfl,hb,fun m hm => by cases hm⟩
 | n + 1,[],l,hb => Or.inl ⟨rfl,by
     show (uy.mats n (u1l.mat ⟨[],false⟩).2 _).2.bad = true
     exact mats_bad _ _ _ (by rfl)⟩
 | n + 1,c :: r,l,hb => by
   have hc:=hb c (List.mem_cons_self ..)
   have hr:∀ y ∈ r,u2o y:=fun y hy => hb y (List.mem_cons_of_mem _ hy)
   have e:ul.byt ⟨c :: r,false⟩ = (c,⟨r,false⟩):=rfl
   have hm:uy.mats (n + 1) ⟨c :: r,false⟩ l = uy.mats n (u1l.mat ⟨c :: r,false⟩).2 (l ++ [(u1l.mat ⟨c :: r,false⟩).1]):=rfl
   have hrm:u2g.mats (n + 1) (c :: r) l = (u3u.one r).bind fun x => (u3u.one x.2).bind fun y => u2g.mats n y.2 (l ++ [⟨c,x.1,y.1⟩]):=rfl
   rw [hm,hrm,rone9]
   unfold u1l.mat
   simp only [e]
   rcases txt_one r hr with ⟨h1,h2⟩ | ⟨s1,q1,h1,h2⟩
   · left
     rw [h1]
     refine ⟨rfl,mats_bad _ _ _ ?_⟩
     obtain ⟨x,y,z⟩:∃ x y,ux.txt ⟨r,false⟩ = (x,⟨y,true⟩):=by
      obtain ⟨⟨p1,⟨p2,p3⟩⟩,hp⟩:∃ p,ux.txt ⟨r,false⟩ = p:=⟨_,rfl⟩
      rw [hp] at h2
      simp only at h2
      subst h2
      exact ⟨_,_,hp⟩
     rw [z]
     exact txt_bad2 _
   · obtain ⟨i1,i2,i3⟩:=one_inv hr h1
     rw [h1,Option.bind_some,h2]
     simp only [rone9]
     rcases txt_one q1 i3 with ⟨h3,h4⟩ | ⟨s2,q2,h3,h4⟩
     · left
       rw [h3]
       exact ⟨rfl,mats_bad _ _ _ h4⟩
     · obtain ⟨j1,j2,j3⟩:=one_inv i3 h3
       rw [h3,Option.bind_some,h4]
       simp only
       rcases mats_is n q2 (l ++ [⟨c,s1,s2⟩]) j3 with ⟨k1,k2⟩ | ⟨l2,q,k1,k2,k3,k4,k5,k6⟩
       · exact Or.inl ⟨k1,k2⟩
       · refine Or.inr ⟨⟨c,s1,s2⟩ :: l2,q,by rw [k1];simp,by rw [k2];simp,by simp [k3],?_,k5,fun m hm => ?_⟩
         · rw [i1,j1,k4]
           unfold u2o at hc
           have:c % 256 = c:=by omega
           simp [mEnc,this]
         · rcases List.mem_cons.1 hm with rfl | h9
           · exact ⟨i2,j2⟩
           · exact k6 m h9
theorem out_good (l:List Mt) (q:List Int):uy.out (l,⟨q,false⟩) = if u1m.CanB l = true then (l,q,0) else ([],[],5):=by
 unfold uy.out
 simp only [Bool.false_eq_true,if_false]
 cases u1m.CanB l <;> rfl
theorem okB9_of {b:List Int} (h1:b.length ≤ 140737488355328) (h2:∀ y ∈ b,u2o y):u2g.okB b = true:=by
 unfold u2g.okB
 rw [Bool.and_eq_true,decide_eq_true_eq,List.all_eq_true]
 refine ⟨h1,fun y hy => ?_⟩
 have:=h2 y hy
 unfold u2o at this
 simp only [Bool.and_eq_true,decide_eq_true_eq]
 exact this
theorem mdec_ev (b:List Int) (hl:b.length ≤ 140737488355328) (hb:∀ y ∈ b,u2o y):Ev (fun k => u2g.f k b) (uy.dec b):=by
 have ho:=okB9_of hl hb
 cases b with
 | nil => exact Ev.congr (fun k => by unfold u2g.f;rw [if_pos ho];rfl) (Ev.now _)
 | cons c r =>
   have hc:=hb c (List.mem_cons_self ..)
   have hr:∀ y ∈ r,u2o y:=fun y hy => hb y (List.mem_cons_of_mem _ hy)
   have hd:uy.dec (c :: r) = uy.out (uy.mats c.toNat ⟨r,false⟩ []):=rfl
   rw [hd]
   rcases mats_is c.toNat r [] hr with ⟨h1,h2⟩ | ⟨l2,q,h1,h2,h3,h4,h5,h6⟩
   · have ho2:uy.out (uy.mats c.toNat ⟨r,false⟩ []) = ([],[],3):=if_pos h2
     rw [ho2]
     exact Ev.congr (fun k => by unfold u2g.f;rw [if_pos ho];simp only [h1]) (Ev.now _)
   · simp only [List.nil_append] at h1 h2
     unfold u2o at hc
     have hcan:=r9Can_ev l2 (by omega) (fun y hy => by have:=h6 y hy;omega)
     rw [h2]
     refine Ev.congr (f:=fun k => (u2q.f k l2).bind fun b => if b = true then some (l2,q,0) else some ([],[],5)) (fun k => by unfold u2g.f;rw [if_pos ho];simp only [h1]) (Ev.bind hcan ?_)
     rw [out_good]
     cases u1m.CanB l2 with
     | true => exact Ev.congr (fun k => by simp) (Ev.now _)
     | false => exact Ev.congr (fun k => by simp) (Ev.now _)
theorem mdec_inv {b q:List Int} {l:List Mt} (hb:∀ y ∈ b,u2o y) (h:uy.dec b = (l,q,0)):b = mAll l ++ q ∧ u1m.CanB l = true ∧ ∀ y ∈ q,u2o y:=by
 cases b with
 | nil => cases h
 | cons c r =>
   have hc:=hb c (List.mem_cons_self ..)
   unfold u2o at hc
   have hr:∀ y ∈ r,u2o y:=fun y hy => hb y (List.mem_cons_of_mem _ hy)
   have hd:uy.dec (c :: r) = uy.out (uy.mats c.toNat ⟨r,false⟩ []):=rfl
   rw [hd] at h
   unfold uy.out at h
   rcases mats_is c.toNat r [] hr with ⟨h1,h2⟩ | ⟨l2,q2,h1,h2,h3,h4,h5,h6⟩
   · rw [if_pos h2] at h
     cases h
   · rw [h2] at h
     simp only [List.nil_append] at h
     rw [if_neg (by intro h9;cases h9)] at h
     cases hcn:u1m.CanB l2 with
     | false =>
       rw [if_pos hcn] at h
       cases h
     | true =>
       rw [if_neg (by rw [hcn];intro h9;cases h9)] at h
       obtain ⟨e1,e2⟩:=Prod.mk.inj h
       obtain ⟨e2,_⟩:=Prod.mk.inj e2
       subst e1 e2
       refine ⟨?_,hcn,h5⟩
       rw [mAll,h3,List.cons_append,← h4]
       congr 1
       omega
theorem menc_l0 (l:List Mt) (hl:l.length < 4611686018427387904):∀ (r:List Mt) (i:Nat) (acc:List Int),l.drop i = r → i ≤ l.length → (acc ++ r.flatMap mEnc).length < 140737488355328 → Ev (fun k => u3b.l0 k acc l (l.length:Int) (i:Int)) (acc ++ r.flatMap mEnc,0)
 | [],i,acc,h,hi,hb => by
   have:l.length ≤ i:=List.drop_eq_nil_iff.1 h
   refine Ev.step (f:=fun _ => some (acc ++ ([]:List Mt).flatMap mEnc,(0:Int))) (fun k => ?_) (Ev.now _)
   simp only [u3b.l0]
   rw [if_neg (by omega)]
   simp
 | x :: r,i,acc,h,hi,hb => by
   have hlt:i < l.length:=by
    rcases Nat.lt_or_ge i l.length with h9 | h9
    · exact h9
    · rw [List.drop_eq_nil_of_le h9] at h
      cases h
   rw [List.drop_eq_getElem_cons hlt] at h
   obtain ⟨h1,h2⟩:=List.cons.inj h
   have hx:u1w l (i:Int) = x:=by simp [u1w,hlt,h1]
   have e:acc ++ (x :: r).flatMap mEnc = acc ++ [x.f0 % 256,(x.f1.size:Int) % 256] ++ u3g x.f1 ++ [(x.f2.size:Int) % 256] ++ u3g x.f2 ++ r.flatMap mEnc:=by simp [mEnc,us.piece]
   rw [e] at hb ⊢
   have ih:=menc_l0 l hl r (i + 1) _ h2 (by omega) hb
   simp only [List.length_append,List.length_cons,List.length_nil,u2x] at hb
   refine Ev.step (f:=fun k => u3b.l0 k (acc ++ [x.f0 % 256,(x.f1.size:Int) % 256] ++ u3g x.f1 ++ [(x.f2.size:Int) % 256] ++ u3g x.f2) l (l.length:Int) ((i + 1:Nat):Int)) (fun k => ?_) ih
   simp only [u3b.l0]
   rw [if_pos (by omega),if_pos (by omega),if_pos (by omega),hx,show wrap64 ((i:Int) + 1) = ((i + 1:Nat):Int) by unfold wrap64;omega]
   simp only [Option.bind_some,List.length_append,List.length_cons,List.length_nil,u2x]
   rw [if_pos (by omega),if_pos (by omega),if_pos (by omega),if_pos (by omega)]
theorem menc_ev (l:List Mt) (hl:(mAll l).length < 140737488355328) (hc:u1m.CanB l = true):Ev (fun k => u3b.f k l) (mAll l,0):=by
 have h6:l.length ≤ 6:=by
  unfold u1m.CanB at hc
  rw [Bool.and_eq_true,decide_eq_true_eq] at hc
  exact hc.1
 have h:=menc_l0 l (by omega) l 0 [(l.length:Int) % 256] rfl (Nat.zero_le _) hl
 refine Ev.congr (fun k => ?_) h
 unfold u3b.f u1m.f
 rw [Option.bind_some,hc,if_pos rfl]
 rfl
end Go.Proofs.YtgnehcgaplnfkaaGreatDoor.Laws
namespace Go.Proofs.YtgnehcgaplnfkaaGreatDoor.PAll
open Go.RowKit Go.Proofs.YtgnehcgaplnfkaaGreatDoorW.PrintWords Go.Proofs.YtgnehcgaplnfkaaGreatDoorW.PrintLast Go.Proofs.YtgnehcgaplnfkaaGreatDoorW.PrintMore
attribute [local go_sem] u3o u3n u3x u3w u3j u3i u3p u3q
set_option linter.unusedVariables false
set_option linter.unusedSimpArgs false
abbrev un.Rw:=S59
def un.put8 (n:Int):List Int:=u1p.put (IntKind.u64.wrap n) 8
noncomputable def un.rowsE (k:Nat):List un.Rw → Option (List Int)
 | [] => some []
 | x :: r => (us.f k x.f0).bind fun e => (un.rowsE k r).map fun t => e.1 ++ (un.put8 x.f1 ++ (u1p.put x.f2 8 ++ t))
def un.lim (b:List Int):Option (List Int × Int):=if b.length ≤ 140737488355328 then some (b,0) else none
noncomputable def un.f (k:Nat) (a0:Int) (l1:List un.Rw) (l2:List S79) (a3 a4 a5:Int):Option (List Int × Int) :=
 (u1t.f k a0 l1 l2 a3 a4 a5).bind fun c => if c = true then (if a0 = 1 then (un.rowsE k l1).bind fun t => un.lim (1 :: (u1p.put (IntKind.u64.wrap (l1.length:Int)) 2 ++ t))
   else if a0 = 2 then (u3b.f k l2).bind fun m => un.lim (2 :: (m.1 ++ (un.put8 a3 ++ un.put8 a4)))
   else if a0 = 3 then un.lim (3 :: un.put8 a5) else none) else some ([],1)
theorem un.info:(Tryz.prog.info? 5).map (fun i => (i.zero,i.size,i.bytes)) = some (some (.int .u8 0),1,1):=by kernel_rfl
theorem un.cells {w:World} {g:Nat} {a b c d e f:Value} {t:TypeId} (h:w.heap[g]? = some (.cells #[a,b,c,d,e,f] t (0,0))):w.cell? ⟨g,0,none⟩ = some a ∧ w.cell? ⟨g,1,none⟩ = some b ∧ w.cell? ⟨g,2,none⟩ = some c ∧ w.cell? ⟨g,3,none⟩ = some d ∧ w.cell? ⟨g,4,none⟩ = some e ∧ w.cell? ⟨g,5,none⟩ = some f:=by
 have h0:=uk h 0
 have h1:=uk h 1
 have h2:=uk h 2
 have h3:=uk h 3
 have h4:=uk h 4
 have h5:=uk h 5
 simp only [List.size_toArray,List.length_cons,List.length_nil,List.getElem?_toArray,List.getElem?_cons_zero,List.getElem?_cons_succ] at h0 h1 h2 h3 h4 h5
 exact ⟨h0,h1,h2,h3,h4,h5⟩
theorem un.c34 {w:World} {g:Nat} {a b c d e f:Value} {t:TypeId} (h:w.heap[g]? = some (.cells #[a,b,c,d,e,f] t (0,0))):w.cell? ⟨g,3,none⟩ = some d ∧ w.cell? ⟨g,4,none⟩ = some e:=⟨(un.cells h).2.2.2.1,(un.cells h).2.2.2.2.1⟩
theorem un.c12 {w:World} {g:Nat} {a b c:Value} {t:TypeId} (h:w.heap[g]? = some (.cells #[a,b,c] t (0,0))):w.cell? ⟨g,1,none⟩ = some b ∧ w.cell? ⟨g,2,none⟩ = some c:=⟨(uk h 1).trans rfl,(uk h 2).trans rfl⟩
theorem un.k_step {n g x:Nat} (h:n ≤ g + 1 + x):n ≤ g + (x + 1):=by omega
theorem un.len_of {k:Nat} {l1:List un.Rw} {l2:List S79} {x y z:Int} (h:u1t.f k 1 l1 l2 x y z = some true):l1.length ≤ 200:=by
 unfold u1t.f at h
 rw [if_pos rfl] at h
 split at h
 · rename_i h9
   exact h9.2
 · cases h
theorem un.lit {W:World} {base:Nat} (x:Int) (hb:base ≤ W.heap.size):Kd.R (Kd.int .u8) 5 (W.alloc (.cells #[.int .u8 x] 5)) base (fun _ => True) (.slice (some ⟨W.heap.size,0,none⟩) 1 1) [x] :=
 Kd.R_of_own (own_lit W base 5 .u8 [x] hb (by simp)) (fun _ _ => trivial)
theorem un.long_at (n:Int) (w:World):Calls Tryz.prog 31 #[.int .i64 n] w fun e w' => ∃ A c,e = .returned (.slice A 8 c) ∧ Kd.R (Kd.int .u8) 5 w' w.heap.size (fun _ => True) (.slice A 8 c) (un.put8 n) ∧ Below w.heap.size w w':=by
 refine (record_long.calls n (un.put8 n) w rfl).mono ?_
 rintro e w' ⟨v,rfl,hR,hB⟩
 obtain ⟨A,c,e⟩:=Kd.R_slice hR
 subst e
 exact ⟨A,c,rfl,hR,hB⟩
theorem un.put_at (n:Int) (w:World):Calls Tryz.prog 28 #[.int .u64 n,.int .i64 8] w fun e w' => ∃ A c,e = .returned (.slice A 8 c) ∧ Kd.R (Kd.int .u8) 5 w' w.heap.size (fun _ => True) (.slice A 8 c) (u1p.put n 8) ∧ Below w.heap.size w w':=by
 refine (u1p.calls8 n w).mono ?_
 rintro e w' ⟨v,rfl,hR,hB⟩
 obtain ⟨A,c,e⟩:=Kd.R_slice hR
 subst e
 exact ⟨A,c,rfl,hR,hB⟩
theorem un.cat (W:World) (base:Nat) (v0 v1 v2 v3:Value) (x0 x1 x2 x3:List Int) (hb:base ≤ W.heap.size) (h0:Kd.R (Kd.int .u8) 5 W base (fun _ => True) v0 x0) (h1:Kd.R (Kd.int .u8) 5 W base (fun _ => True) v1 x1) (h2:Kd.R (Kd.int .u8) 5 W base (fun _ => True) v2 x2) (h3:Kd.R (Kd.int .u8) 5 W base (fun _ => True) v3 x3) (hl:(x0 ++ (x1 ++ (x2 ++ x3))).length ≤ 140737488355328) :
 Calls Tryz.prog 30 #[.slice (some ⟨W.heap.size,0,none⟩) 4 4] (W.alloc (.cells #[v0,v1,v2,v3] 22)) fun e w' => ∃ v,e = .returned v ∧ Kd.R (Kd.int .u8) 5 w' base (fun _ => True) v (x0 ++ (x1 ++ (x2 ++ x3))) ∧ Below (W.heap.size + 1) (W.alloc (.cells #[v0,v1,v2,v3] 22)) w':=by
 have hp:∀ (v:Value) (x:List Int),Kd.R (Kd.int .u8) 5 W base (fun _ => True) v x → ∃ A c,v = .slice A x.length c ∧ x.length ≤ c ∧ Kd.C (Kd.int .u8) (W.alloc (.cells #[v0,v1,v2,v3] 22)) A x.length x:=fun v x hv => by
  obtain ⟨A,c,rfl⟩:=Kd.R_slice hv
  exact ⟨A,c,rfl,(Kd.R_reads' hv).2.1,(Kd.R_reads' (Kd.R_alloc hv _)).2.2⟩
 refine (u1b.callsG W.heap.size [(v0,x0),(v1,x1),(v2,x2),(v3,x3)] _ (u3d W _) ?_ (by simp) (by simpa [u1b.len] using hl)).mono ?_
 · intro p hm
   simp only [List.mem_cons,List.mem_nil_iff,or_false] at hm
   rcases hm with rfl | rfl | rfl | rfl
   · exact hp _ _ h0
   · exact hp _ _ h1
   · exact hp _ _ h2
   · exact hp _ _ h3
 · rintro e w' ⟨v,rfl,hR,hB⟩
   refine ⟨v,rfl,?_,by simpa using hB⟩
   have h9:=Kd.R_lower hR (Nat.le_trans hb (by simp))
   simpa using h9
set_option maxHeartbeats 8000000 in
set_option maxRecDepth 10000 in
theorem un.callsP (k:Nat) (a0:Int) (A1:Option Addr) (c1:Nat) (l1:List un.Rw) (A2:Option Addr) (c2:Nat) (l2:List S79) (a3 a4 a5:Int) (r1:List Int) (r2:Int) (w:World) (hr1:Kd.C k59 w A1 l1.length l1) (hc1:l1.length ≤ c1) (hr2:Kd.C k79 w A2 l2.length l2) (hc2:l2.length ≤ c2) (hG:strings_ToValidUTF8.Gd w) (h:un.f k a0 l1 l2 a3 a4 a5 = some (r1,r2)) :
 Calls Tryz.prog 9 #[.agg #[.int .i64 a0,.slice A1 l1.length c1,.slice A2 l2.length c2,.int .i64 a3,.int .i64 a4,.int .i64 a5]] w fun e w' => ∃ v0_:Value,e = .returned (.tuple #[v0_,.int .i64 r2]) ∧ Kd.R (Kd.int .u8) 5 w' w.heap.size (fun _ => True) v0_ r1 ∧ Below w.heap.size w w':=by
 obtain ⟨c,hcn,h2⟩:=Option.bind_eq_some_iff.1 h
 obtain ⟨W0,hW0⟩:∃ W0,Aside0 (w.alloc (.cells #[.int .i64 a0,.slice A1 l1.length c1,.slice A2 l2.length c2,.int .i64 a3,.int .i64 a4,.int .i64 a5] 26) = W0):=⟨_,⟨rfl⟩⟩
 have hb0:Below w.heap.size w W0:=by rw [← hW0.out];exact uj (Below.refl _ _) _
 have HX:Aside0 (W0.heap[w.heap.size]? = some (.cells #[.int .i64 a0,.slice A1 l1.length c1,.slice A2 l2.length c2,.int .i64 a3,.int .i64 a4,.int .i64 a5] 26 (0,0))):=⟨by rw [← hW0.out];exact u3d _ _⟩
 have HB0:=Aside0.mk hb0
 have HR1:=Aside0.mk (Kd.C_below hr1 hb0)
 have HR2:=Aside0.mk (Kd.C_below hr2 hb0)
 have HG0:=Aside0.mk (hG.below hb0)
 have HC1:=Aside0.mk hc1
 have HRW:=Aside0.mk hr1
 have HC2:=Aside0.mk hc2
 have HCN:=Aside0.mk hcn
 clear hr1 hr2 hG hb0 hc1 hc2 hcn h
 cases c with
 | false =>
   have h3:some (([]:List Int),(1:Int)) = some (r1,r2):=by
    rw [if_neg (by intro h9;cases h9)] at h2
    exact h2
   obtain ⟨rfl,rfl⟩:=Prod.mk.inj (Option.some.inj h3)
   clear h2 h3
   go_enter Tryz.func9,Tryz.ntmps9
   go_wp2_with (go_at_call 11;rw [hW0.out];(with_reducible refine (u1t.callsP k a0 A1 c1 l1 A2 c2 l2 a3 a4 a5 false W0 HR1.out HC1.out HR2.out HC2.out HG0.out HCN.out).mono ?_);rintro e W1 ⟨rfl,hB1⟩;have HX1:=Aside0.mk (u1a HX.out hB1);obtain ⟨p0,p1,p2,p3,p4,p5⟩:=un.cells HX1.out;have HB1:=Aside0.mk (u1c HB0.out HB0.out.size hB1);clear hB1)
   go_ret2
   exact ⟨_,rfl,Kd.R_nil _ _ _ _ _,HB1.out⟩
 | true =>
   rw [if_pos rfl] at h2
   by_cases hk1:a0 = 1
   · skip
     subst hk1
     rw [if_pos rfl] at h2
     obtain ⟨T,hT,h2⟩:=Option.bind_eq_some_iff.1 h2
     have h200:=un.len_of HCN.out
     have hwl:IntKind.u64.wrap (l1.length:Int) = (l1.length:Int):=by
      show (l1.length:Int) % 18446744073709551616 = _
      exact Int.emod_eq_of_lt (by omega) (by omega)
     rw [hwl] at h2
     have hlim:(1 :: (u1p.put (l1.length:Int) 2 ++ T)).length ≤ 140737488355328 ∧ (1 :: (u1p.put (l1.length:Int) 2 ++ T)) = r1 ∧ 0 = r2:=by
      unfold un.lim at h2
      split at h2
      · rename_i h9
        exact ⟨h9,(Prod.mk.inj (Option.some.inj h2)).1,(Prod.mk.inj (Option.some.inj h2)).2⟩
      · cases h2
     obtain ⟨hlim,rfl,rfl⟩:=hlim
     have HL:=Aside0.mk hlim
     clear hlim h2
     have HT:=Aside0.mk hT
     have H200:=Aside0.mk h200
     clear hT h200
     go_enter Tryz.func9,Tryz.ntmps9
     go_wp2_with (first
      | (go_at_call 11;rw [hW0.out];(with_reducible refine (u1t.callsP k 1 A1 c1 l1 A2 c2 l2 a3 a4 a5 true W0 HR1.out HC1.out HR2.out HC2.out HG0.out HCN.out).mono ?_);rintro e W1 ⟨rfl,hB1⟩;have HX1:=Aside0.mk (u1a HX.out hB1);obtain ⟨p0,p1,p2,p3,p4,p5⟩:=un.cells HX1.out;have HB1:=Aside0.mk (u1c HB0.out HB0.out.size hB1);have q0:∀ o,(W1.alloc o).cell? ⟨w.heap.size,0,none⟩ = some (.int .i64 1):=fun o => ((uj (Below.refl W1.heap.size W1) o).cell (p:=⟨w.heap.size,0,none⟩) (u2m HX1.out)).trans p0;have q1:∀ o,(W1.alloc o).cell? ⟨w.heap.size,1,none⟩ = some (.slice A1 l1.length c1):=fun o => ((uj (Below.refl W1.heap.size W1) o).cell (p:=⟨w.heap.size,1,none⟩) (u2m HX1.out)).trans p1;have HM:=Aside0.mk (un.lit (W:=W1) (base:=w.heap.size) 1 HB1.out.size);have HBm:=Aside0.mk (uj HB1.out (.cells #[.int .u8 1] 5));have HXm:=Aside0.mk (u1k HX1.out (.cells #[.int .u8 1] 5));clear hB1)
      | (go_at_call 28;(with_reducible refine (u1p.calls2 (l1.length:Int) _).mono ?_);rintro e W2 ⟨v8,rfl,hR8,hB8⟩;obtain ⟨A8,c8,e8⟩:=Kd.R_slice hR8;have e8:v8 = .slice A8 2 c8:=e8;subst e8;have HM2:=Aside0.mk (Kd.R_below HM.out hB8);have HB2:=Aside0.mk (u1c HBm.out HBm.out.size hB8);have HX2:=Aside0.mk (u1a HXm.out hB8);have HR8:=Aside0.mk (Kd.R_reads' hR8);clear hR8 hB8)
      | (at_builtin;refine Kd.R_append_row (w0:=w) (Value.int .u8) (0:Int) (h1:=fun _ => rfl) w.heap.size rfl (.tmp 22) (.tmp 27) 22 5 (.int .u8 0) 1 rfl Tryz.underlying22 un.info rfl (by decide) _ [1] (u1p.put (l1.length:Int) 2) A8 2 c8 (fun _ => True) rfl rfl (fun _ _ => trivial) HM2.out HR8.out.2.2 HB2.out HB2.out.size ?_ ?_))
     · have h7:=HL.out
       simp at h7 ⊢
     · intro v9 W3 hR9 hB9 hg9 _
       have hx3:=blk_grown HX2.out hg9 (by simp only [Value.ownBlock];have h1:=u2m HX1.out;intro he;have h3:=Option.some.inj he;omega)
       obtain ⟨p0,p1,p2,p3,p4,p5⟩:=un.cells hx3
       have HR9:=Aside0.mk hR9
       have HB9:=Aside0.mk hB9
       clear hR9 hB9 hg9 hx3 hwl
       go_wp2
       clear p0 p1 p2 p3 p4 p5
       go_loopg [4,32] (l1.length) (fun kq v4 v32 wr => ∃ (i:Nat) (acc t:List Int),i ≤ l1.length ∧ v32 = .int .i64 i ∧ Aside0 (Kd.R (Kd.int .u8) 5 wr w.heap.size (fun _ => True) v4 acc) ∧ Aside0 (un.rowsE k (l1.drop i) = some t ∧ acc ++ t = 1 :: (u1p.put (l1.length:Int) 2 ++ T)) ∧ l1.length ≤ kq + i ∧ Aside0 (Below w.heap.size w wr))
       case atStart => exact ⟨0,_,T,Nat.zero_le _,rfl,HR9,⟨HT.out,rfl⟩,by omega,HB9⟩
       case round =>
        clear HR9 HB9
        obtain ⟨i,acc,t,hi,rfl,HR,HN,hk,HB⟩:=hrel
        obtain ⟨Ab,cb,eb⟩:=Kd.R_slice HR.out
        subst eb
        by_cases hlt:i < l1.length
        · obtain ⟨ad,A3,c3,e,f0,f1,f2,g0,g1⟩:=at_T59 HRW.out (i:Int) (by omega) (by omega)
          subst e
          obtain ⟨x,hx⟩:∃ x,Aside0 (u3z l1 (i:Int) = x):=⟨_,⟨rfl⟩⟩
          rw [hx.out] at f0 f1 f2 g0 g1
          simp only [Int.toNat_natCast] at f0 f1 f2
          have q0:wr.cell? (ad.add (i * 3)) = _:=(HB.out.cell (World.block_lt_of_cell? w _ f0)).trans f0
          have q1:wr.cell? ⟨(ad.add (i * 3)).block,(ad.add (i * 3)).off + 1,none⟩ = _:=(HB.out.cell (World.block_lt_of_cell? w _ f1)).trans f1
          have q2:wr.cell? ⟨(ad.add (i * 3)).block,(ad.add (i * 3)).off + 2,none⟩ = _:=(HB.out.cell (World.block_lt_of_cell? w _ f2)).trans f2
          have HX:=Aside0.mk g0
          have HGX:=Aside0.mk g1
          have hdr:l1.drop i = x :: l1.drop (i + 1):=by
           rw [List.drop_eq_getElem_cons hlt]
           congr 1
           rw [← hx.out]
           simp [u3z,hlt]
          have h9:=HN.out
          rw [hdr] at h9
          obtain ⟨h9,h10⟩:=h9
          obtain ⟨⟨e,e9⟩,he,h9⟩:=Option.bind_eq_some_iff.1 h9
          obtain ⟨t2,ht2,h9⟩:=Option.map_eq_some_iff.1 h9
          have HE:=Aside0.mk he
          have HN2:Aside0 (un.rowsE k (l1.drop (i + 1)) = some t2 ∧ (acc ++ (e ++ (un.put8 x.f1 ++ u1p.put x.f2 8))) ++ t2 = 1 :: (u1p.put (l1.length:Int) 2 ++ T)):=⟨ht2,by rw [← h10,← h9];simp⟩
          have HLA:Aside0 ((acc ++ (e ++ (un.put8 x.f1 ++ u1p.put x.f2 8))).length ≤ 140737488355328):=⟨by have h7:=congrArg List.length HN2.out.2;have h6:=HL.out;rw [List.length_append] at h7;omega⟩
          clear f0 f1 f2 g0 g1 hdr h9 h10 he ht2 HN
          obtain ⟨g2,rfl⟩:∃ g2,gk = g2 + 1:=⟨gk - 1,by omega⟩
          obtain ⟨W4,hW4⟩:∃ W4,Aside0 (wr.alloc (.cells #[.slice A3 x.f0.length c3,.int .i64 x.f1,.int .u64 x.f2] 59) = W4):=⟨_,⟨rfl⟩⟩
          have HX4:Aside0 (W4.heap[wr.heap.size]? = some (.cells #[.slice A3 x.f0.length c3,.int .i64 x.f1,.int .u64 x.f2] 59 (0,0))):=⟨by rw [← hW4.out];exact u3d _ _⟩
          have HB4:Aside0 (Below w.heap.size w W4):=⟨by rw [← hW4.out];exact uj HB.out _⟩
          have HR4:Aside0 (Kd.R (Kd.int .u8) 5 W4 w.heap.size (fun _ => True) (.slice Ab acc.length cb) acc):=⟨by rw [← hW4.out];exact Kd.R_alloc HR.out _⟩
          go_wp2_with (go_at_call 29;rw [hW4.out];(with_reducible refine (us.calls k A3 c3 x.f0 e e9 W4 (Kd.C_below HGX.out HB4.out) HX.out HE.out).mono ?_);rintro e W5 ⟨ve,rfl,hRe,hB5⟩;have HM2:=Aside0.mk (Kd.R_below HR4.out hB5);have HZ:=Aside0.mk (u1c HB4.out HB4.out.size hB5);have HE2:=Aside0.mk (Kd.R_lower hRe HB4.out.size);have HX2:=Aside0.mk (u1a HX4.out hB5);clear hRe hB5)
          obtain ⟨Am,cm,em⟩:=Kd.R_slice HE2.out
          subst em
          have HD0:=Aside0.mk (u1z HX2.out)
          have HZ0:=Aside0.mk (ur HZ.out)
          have HM19:=Aside0.mk (Kd.R_drew HM2.out)
          have HE19:=Aside0.mk (Kd.R_drew HE2.out)
          clear q0 q1 q2
          refine startO_ (n:=11) (S:=fun w' => w'.cell? ⟨wr.heap.size,1,none⟩ = some (.int .i64 x.f1) ∧ w'.cell? ⟨wr.heap.size,2,none⟩ = some (.int .u64 x.f2)) (ds:=[]) [(0,42),(1,43),(2,44),(3,45),(5,47),(6,48),(4,0),(7,0),(8,0),(9,0),(10,4)] (by kernel_rfl) rfl (un.c12 HD0.out) (fun hHeld => ?_)
          iterate 3 (refine hd_ (v:=?_) (a':=?_) rfl rfl (by kernel_rfl) (Or.inl ⟨by kernel_rfl,?_⟩) ?_ ?_;rotate_left;(intro w';go_simp;with_reducible rfl);rotate_left;(simp only [Act.put,List.setIfInBounds_toArray,List.set_cons_zero,List.set_cons_succ,i64_w,i32_w];rfl))
          refine hdS_ (v:=?_) (a':=?_) rfl rfl (by kernel_rfl) (Or.inl ⟨by kernel_rfl,?_⟩) hHeld ?_ ?_
          rotate_left
          · rintro w' hS'
            obtain ⟨s0,s1⟩:=hS'
            go_simp
            (try with_reducible rfl)
          rotate_left
          · simp only [Act.put,List.setIfInBounds_toArray,List.set_cons_zero,List.set_cons_succ,i64_w,i32_w]
            rfl
          (refine hd_ (v:=?_) (a':=?_) rfl rfl (by kernel_rfl) (Or.inl ⟨by kernel_rfl,?_⟩) ?_ ?_;rotate_left;(intro w';go_simp;with_reducible rfl);rotate_left;(simp only [Act.put,List.setIfInBounds_toArray,List.set_cons_zero,List.set_cons_succ,i64_w,i32_w];rfl))
          refine hdS_ (v:=?_) (a':=?_) rfl rfl (by kernel_rfl) (Or.inl ⟨by kernel_rfl,?_⟩) hHeld ?_ ?_
          rotate_left
          · rintro w' hS'
            obtain ⟨s0,s1⟩:=hS'
            go_simp
            (try with_reducible rfl)
          rotate_left
          · simp only [Act.put,List.setIfInBounds_toArray,List.set_cons_zero,List.set_cons_succ,i64_w,i32_w]
            rfl
          refine oneO_ (N:=some 46) rfl rfl (by kernel_rfl) (by decide) (fun K hK => ?_)
          refine goes_ Tryz.func31 (by kernel_rfl) rfl #[.int .i64 x.f1] (by rfl) rfl rfl (by (try simp only [List.map_toArray,List.map_cons,List.map_nil]);first | done | rfl) ?_
          refine (un.long_at x.f1 _).mono ?_
          rintro e W20 ⟨B20,d20,rfl,hR20,hB20⟩
          refine ⟨_,rfl,?_⟩
          have HD1:=Aside0.mk (u1a HD0.out hB20)
          have HR20:=Aside0.mk (Kd.R_lower hR20 HZ0.out.size)
          have HM20:=Aside0.mk (Kd.R_below HM19.out hB20)
          have HE20:=Aside0.mk (Kd.R_below HE19.out hB20)
          have HZ1:=Aside0.mk (u1c HZ0.out HZ0.out.size hB20)
          clear hR20 hB20
          refine hK.out (Act.put _ (some 46) (.slice B20 8 d20)) _ (un.c12 HD1.out) (fun hNext => ?_)
          simp only [Act.put,List.setIfInBounds_toArray,List.set_cons_zero,List.set_cons_succ,i64_w,i32_w]
          clear hK hHeld K
          have hHeld:=hNext
          clear hNext
          refine oneO_ (N:=some 49) rfl rfl (by kernel_rfl) (by decide) (fun K hK => ?_)
          refine goes_ Tryz.func28 (by kernel_rfl) rfl #[.int .u64 x.f2,.int .i64 8] (by rfl) rfl rfl (by (try simp only [List.map_toArray,List.map_cons,List.map_nil]);first | done | rfl) ?_
          refine (un.put_at x.f2 _).mono ?_
          rintro e W21 ⟨B21,d21,rfl,hR21,hB21⟩
          refine ⟨_,rfl,?_⟩
          have HD2:=Aside0.mk (u1a HD1.out hB21)
          have HR21:=Aside0.mk (Kd.R_lower hR21 HZ1.out.size)
          have HM21:=Aside0.mk (Kd.R_below HM20.out hB21)
          have HE21:=Aside0.mk (Kd.R_below HE20.out hB21)
          have HZ2:=Aside0.mk (u1c HZ1.out HZ1.out.size hB21)
          have HRa:=Aside0.mk (Kd.R_below HR20.out hB21)
          clear hR21 hB21
          refine hK.out (Act.put _ (some 49) (.slice B21 8 d21)) _ (un.c12 HD2.out) (fun hNext => ?_)
          simp only [Act.put,List.setIfInBounds_toArray,List.set_cons_zero,List.set_cons_succ,i64_w,i32_w]
          clear hK hHeld K
          have hHeld:=hNext
          clear hNext
          refine oneO_ (N:=some 50) rfl rfl (by kernel_rfl) (by decide) (fun K hK => ?_)
          refine value_ (w1:=W21.alloc (.cells #[.slice Ab acc.length cb,.slice Am e.length cm,.slice B20 8 d20,.slice B21 8 d21] 22)) (v:=.slice (some ⟨W21.heap.size,0,none⟩) 4 4) (by rfl) rfl ?_ ?_
          · go_simp
          refine hK.out (Act.put _ (some 50) (.slice (some ⟨W21.heap.size,0,none⟩) 4 4)) _ (un.c12 (u1k HD2.out _)) (fun hNext => ?_)
          simp only [Act.put,List.setIfInBounds_toArray,List.set_cons_zero,List.set_cons_succ,i64_w,i32_w]
          clear hK hHeld K
          have hHeld:=hNext
          clear hNext
          refine oneO_ (N:=some 51) rfl rfl (by kernel_rfl) (by decide) (fun K hK => ?_)
          refine goes_ Tryz.func30 (by kernel_rfl) rfl #[.slice (some ⟨W21.heap.size,0,none⟩) 4 4] (by rfl) rfl rfl (by (try simp only [List.map_toArray,List.map_cons,List.map_nil]);first | done | rfl) ?_
          refine (un.cat W21 w.heap.size _ _ _ _ _ _ _ _ HZ2.out.size HM21.out HE21.out HRa.out HR21.out HLA.out).mono ?_
          rintro e W22 ⟨v22,rfl,hR22,hB22⟩
          refine ⟨_,rfl,?_⟩
          have HR22:=Aside0.mk hR22
          have HZ3:Aside0 (Below w.heap.size w W22):=⟨u1c (uj HZ2.out _) (by simp;have:=HZ2.out.size;omega) (by simpa using hB22)⟩
          have HD3:=Aside0.mk (u1a (u1k HD2.out (.cells #[.slice Ab acc.length cb,.slice Am e.length cm,.slice B20 8 d20,.slice B21 8 d21] 22)) (by simpa using hB22))
          clear hR22 hB22
          refine hK.out (Act.put _ (some 51) v22) _ (un.c12 HD3.out) (fun hNext => ?_)
          simp only [Act.put,List.setIfInBounds_toArray,List.set_cons_zero,List.set_cons_succ,i64_w,i32_w]
          clear hK hHeld K
          have hHeld:=hNext
          clear hNext
          (refine hd_ (v:=?_) (a':=?_) rfl rfl (by kernel_rfl) (Or.inl ⟨by kernel_rfl,?_⟩) ?_ ?_;rotate_left;(intro w';go_simp;with_reducible rfl);rotate_left;(simp only [Act.put,List.setIfInBounds_toArray,List.set_cons_zero,List.set_cons_succ,i64_w,i32_w];rfl))
          refine doneO_ (by kernel_rfl) ?_
          try go_wp2
          go_roundg g2
          case rel => exact ⟨i + 1,_,t2,hlt,congrArg (Value.int .i64) (show wrap64 ((i:Int) + 1) = ((i + 1:Nat):Int) by have h7:=H200.out;unfold wrap64;omega),HR22,HN2,un.k_step hk,HZ3⟩
          case measure => omega
        · have hie:i = l1.length:=by omega
          have HF:Aside0 (acc = 1 :: (u1p.put (l1.length:Int) 2 ++ T)):=⟨by
           have h9:=HN.out
           rw [hie,List.drop_length] at h9
           have h8 : [] = t:=Option.some.inj h9.1
           rw [← h9.2,← h8,List.append_nil]⟩
          clear hie
          go_wp2
          go_ret2
          exact ⟨_,rfl,by rw [← HF.out];exact HR.out,HB.out⟩
   · by_cases hk2:a0 = 2
     · skip
       subst hk2
       rw [if_neg hk1,if_pos rfl] at h2
       obtain ⟨⟨m,e9⟩,hm,h2⟩:=Option.bind_eq_some_iff.1 h2
       have HME:=Aside0.mk hm
       clear hm hk1
       have hlim:(2 :: (m ++ (un.put8 a3 ++ un.put8 a4))).length ≤ 140737488355328 ∧ (2 :: (m ++ (un.put8 a3 ++ un.put8 a4))) = r1 ∧ 0 = r2:=by
        unfold un.lim at h2
        split at h2
        · rename_i h9
          exact ⟨h9,(Prod.mk.inj (Option.some.inj h2)).1,(Prod.mk.inj (Option.some.inj h2)).2⟩
        · cases h2
       obtain ⟨hlim,rfl,rfl⟩:=hlim
       have HL:=Aside0.mk hlim
       clear hlim h2
       go_enter Tryz.func9,Tryz.ntmps9
       go_wp2_with (first
        | (go_at_call 11;rw [hW0.out];(with_reducible refine (u1t.callsP k 2 A1 c1 l1 A2 c2 l2 a3 a4 a5 true W0 HR1.out HC1.out HR2.out HC2.out HG0.out HCN.out).mono ?_);rintro e W1 ⟨rfl,hB1⟩;have HX1:=Aside0.mk (u1a HX.out hB1);obtain ⟨p0,p1,p2,p3,p4,p5⟩:=un.cells HX1.out;have HB1:=Aside0.mk (u1c HB0.out HB0.out.size hB1);have q0:∀ o,(W1.alloc o).cell? ⟨w.heap.size,0,none⟩ = some (.int .i64 2):=fun o => ((uj (Below.refl W1.heap.size W1) o).cell (p:=⟨w.heap.size,0,none⟩) (u2m HX1.out)).trans p0;have q2:∀ o,(W1.alloc o).cell? ⟨w.heap.size,2,none⟩ = some (.slice A2 l2.length c2):=fun o => ((uj (Below.refl W1.heap.size W1) o).cell (p:=⟨w.heap.size,2,none⟩) (u2m HX1.out)).trans p2;have HM:=Aside0.mk (un.lit (W:=W1) (base:=w.heap.size) 2 HB1.out.size);have HBm:=Aside0.mk (uj HB1.out (.cells #[.int .u8 2] 5));have HR2b:=Aside0.mk (Kd.C_below (Kd.C_below HR2.out hB1) (uj (Below.refl W1.heap.size W1) (.cells #[.int .u8 2] 5)));have HG1:=Aside0.mk ((HG0.out.below hB1).below (uj (Below.refl W1.heap.size W1) (.cells #[.int .u8 2] 5)));clear hB1)
        | (go_at_call 32;(with_reducible refine (u3b.calls k A2 c2 l2 m e9 _ HR2b.out HC2.out HG1.out HME.out).mono ?_);rintro e W2 ⟨vm,rfl,hRm,hB2⟩;have HM2:=Aside0.mk (Kd.R_below HM.out hB2);have HZ:=Aside0.mk (u1c HBm.out HBm.out.size hB2);have HE2:=Aside0.mk (Kd.R_lower hRm HBm.out.size);have HX2:=Aside0.mk (u1a (u1k HX1.out (.cells #[.int .u8 2] 5)) hB2);clear hRm hB2))
       obtain ⟨Am,cm,em⟩:=Kd.R_slice HE2.out
       subst em
       have HD0:=Aside0.mk (u1z HX2.out)
       have HZ0:=Aside0.mk (ur HZ.out)
       have HM19:=Aside0.mk (Kd.R_drew HM2.out)
       have HE19:=Aside0.mk (Kd.R_drew HE2.out)
       clear p0 p1 p2 p3 p4 p5
       refine startO_ (n:=11) (S:=fun w' => w'.cell? ⟨w.heap.size,3,none⟩ = some (.int .i64 a3) ∧ w'.cell? ⟨w.heap.size,4,none⟩ = some (.int .i64 a4)) (ds:=[]) [(0,61),(1,62),(2,63),(3,64),(5,66),(6,67),(4,0),(7,0),(8,0),(9,0),(10,4)] (by kernel_rfl) rfl (un.c34 HD0.out) (fun hHeld => ?_)
       iterate 3 (refine hd_ (v:=?_) (a':=?_) rfl rfl (by kernel_rfl) (Or.inl ⟨by kernel_rfl,?_⟩) ?_ ?_;rotate_left;(intro w';go_simp;with_reducible rfl);rotate_left;(simp only [Act.put,List.setIfInBounds_toArray,List.set_cons_zero,List.set_cons_succ,i64_w,i32_w];rfl))
       refine hdS_ (v:=?_) (a':=?_) rfl rfl (by kernel_rfl) (Or.inl ⟨by kernel_rfl,?_⟩) hHeld ?_ ?_
       rotate_left
       · rintro w' hS'
         obtain ⟨s0,s1⟩:=hS'
         go_simp
         (try with_reducible rfl)
       rotate_left
       · simp only [Act.put,List.setIfInBounds_toArray,List.set_cons_zero,List.set_cons_succ,i64_w,i32_w]
         rfl
       (refine hd_ (v:=?_) (a':=?_) rfl rfl (by kernel_rfl) (Or.inl ⟨by kernel_rfl,?_⟩) ?_ ?_;rotate_left;(intro w';go_simp;with_reducible rfl);rotate_left;(simp only [Act.put,List.setIfInBounds_toArray,List.set_cons_zero,List.set_cons_succ,i64_w,i32_w];rfl))
       refine hdS_ (v:=?_) (a':=?_) rfl rfl (by kernel_rfl) (Or.inl ⟨by kernel_rfl,?_⟩) hHeld ?_ ?_
       rotate_left
       · rintro w' hS'
         obtain ⟨s0,s1⟩:=hS'
         go_simp
         (try with_reducible rfl)
       rotate_left
       · simp only [Act.put,List.setIfInBounds_toArray,List.set_cons_zero,List.set_cons_succ,i64_w,i32_w]
         rfl
       refine oneO_ (N:=some 65) rfl rfl (by kernel_rfl) (by decide) (fun K hK => ?_)
       refine goes_ Tryz.func31 (by kernel_rfl) rfl #[.int .i64 a3] (by rfl) rfl rfl (by (try simp only [List.map_toArray,List.map_cons,List.map_nil]);first | done | rfl) ?_
       refine (un.long_at a3 _).mono ?_
       rintro e W20 ⟨B20,d20,rfl,hR20,hB20⟩
       refine ⟨_,rfl,?_⟩
       have HD1:=Aside0.mk (u1a HD0.out hB20)
       have HR20:=Aside0.mk (Kd.R_lower hR20 HZ0.out.size)
       have HM20:=Aside0.mk (Kd.R_below HM19.out hB20)
       have HE20:=Aside0.mk (Kd.R_below HE19.out hB20)
       have HZ1:=Aside0.mk (u1c HZ0.out HZ0.out.size hB20)
       clear hR20 hB20
       refine hK.out (Act.put _ (some 65) (.slice B20 8 d20)) _ (un.c34 HD1.out) (fun hNext => ?_)
       simp only [Act.put,List.setIfInBounds_toArray,List.set_cons_zero,List.set_cons_succ,i64_w,i32_w]
       clear hK hHeld K
       have hHeld:=hNext
       clear hNext
       refine oneO_ (N:=some 68) rfl rfl (by kernel_rfl) (by decide) (fun K hK => ?_)
       refine goes_ Tryz.func31 (by kernel_rfl) rfl #[.int .i64 a4] (by rfl) rfl rfl (by (try simp only [List.map_toArray,List.map_cons,List.map_nil]);first | done | rfl) ?_
       refine (un.long_at a4 _).mono ?_
       rintro e W21 ⟨B21,d21,rfl,hR21,hB21⟩
       refine ⟨_,rfl,?_⟩
       have HD2:=Aside0.mk (u1a HD1.out hB21)
       have HR21:=Aside0.mk (Kd.R_lower hR21 HZ1.out.size)
       have HM21:=Aside0.mk (Kd.R_below HM20.out hB21)
       have HE21:=Aside0.mk (Kd.R_below HE20.out hB21)
       have HZ2:=Aside0.mk (u1c HZ1.out HZ1.out.size hB21)
       have HRa:=Aside0.mk (Kd.R_below HR20.out hB21)
       clear hR21 hB21
       refine hK.out (Act.put _ (some 68) (.slice B21 8 d21)) _ (un.c34 HD2.out) (fun hNext => ?_)
       simp only [Act.put,List.setIfInBounds_toArray,List.set_cons_zero,List.set_cons_succ,i64_w,i32_w]
       clear hK hHeld K
       have hHeld:=hNext
       clear hNext
       refine oneO_ (N:=some 69) rfl rfl (by kernel_rfl) (by decide) (fun K hK => ?_)
       refine value_ (w1:=W21.alloc (.cells #[.slice (some ⟨W1.heap.size,0,none⟩) 1 1,.slice Am m.length cm,.slice B20 8 d20,.slice B21 8 d21] 22)) (v:=.slice (some ⟨W21.heap.size,0,none⟩) 4 4) (by rfl) rfl ?_ ?_
       · go_simp
       refine hK.out (Act.put _ (some 69) (.slice (some ⟨W21.heap.size,0,none⟩) 4 4)) _ (un.c34 (u1k HD2.out _)) (fun hNext => ?_)
       simp only [Act.put,List.setIfInBounds_toArray,List.set_cons_zero,List.set_cons_succ,i64_w,i32_w]
       clear hK hHeld K
       have hHeld:=hNext
       clear hNext
       refine oneO_ (N:=some 70) rfl rfl (by kernel_rfl) (by decide) (fun K hK => ?_)
       refine goes_ Tryz.func30 (by kernel_rfl) rfl #[.slice (some ⟨W21.heap.size,0,none⟩) 4 4] (by rfl) rfl rfl (by (try simp only [List.map_toArray,List.map_cons,List.map_nil]);first | done | rfl) ?_
       refine (un.cat W21 w.heap.size _ _ _ _ _ _ _ _ HZ2.out.size HM21.out HE21.out HRa.out HR21.out (by simpa using HL.out)).mono ?_
       rintro e W22 ⟨v22,rfl,hR22,hB22⟩
       refine ⟨_,rfl,?_⟩
       have HR22:=Aside0.mk hR22
       have HZ3:Aside0 (Below w.heap.size w W22):=⟨u1c (uj HZ2.out _) (by simp;have:=HZ2.out.size;omega) (by simpa using hB22)⟩
       have HD3:=Aside0.mk (u1a (u1k HD2.out (.cells #[.slice (some ⟨W1.heap.size,0,none⟩) 1 1,.slice Am m.length cm,.slice B20 8 d20,.slice B21 8 d21] 22)) (by simpa using hB22))
       clear hR22 hB22
       refine hK.out (Act.put _ (some 70) v22) _ (un.c34 HD3.out) (fun hNext => ?_)
       simp only [Act.put,List.setIfInBounds_toArray,List.set_cons_zero,List.set_cons_succ,i64_w,i32_w]
       clear hK hHeld K
       have hHeld:=hNext
       clear hNext
       (refine hd_ (v:=?_) (a':=?_) rfl rfl (by kernel_rfl) (Or.inl ⟨by kernel_rfl,?_⟩) ?_ ?_;rotate_left;(intro w';go_simp;with_reducible rfl);rotate_left;(simp only [Act.put,List.setIfInBounds_toArray,List.set_cons_zero,List.set_cons_succ,i64_w,i32_w];rfl))
       refine doneO_ (by kernel_rfl) ?_
       go_wp2
       go_ret2
       exact ⟨_,rfl,HR22.out,HZ3.out⟩
     · by_cases hk3:a0 = 3
       · skip
         subst hk3
         rw [if_neg hk1,if_neg hk2,if_pos rfl] at h2
         have hlim:(3 :: un.put8 a5).length ≤ 140737488355328 ∧ (3 :: un.put8 a5) = r1 ∧ 0 = r2:=by
          unfold un.lim at h2
          split at h2
          · rename_i h9
            exact ⟨h9,(Prod.mk.inj (Option.some.inj h2)).1,(Prod.mk.inj (Option.some.inj h2)).2⟩
          · cases h2
         obtain ⟨hlim,rfl,rfl⟩:=hlim
         have HL:=Aside0.mk hlim
         clear hlim h2
         clear hk1 hk2
         go_enter Tryz.func9,Tryz.ntmps9
         go_wp2_with (first
          | (go_at_call 11;rw [hW0.out];(with_reducible refine (u1t.callsP k 3 A1 c1 l1 A2 c2 l2 a3 a4 a5 true W0 HR1.out HC1.out HR2.out HC2.out HG0.out HCN.out).mono ?_);rintro e W1 ⟨rfl,hB1⟩;have HX1:=Aside0.mk (u1a HX.out hB1);obtain ⟨p0,p1,p2,p3,p4,p5⟩:=un.cells HX1.out;have HB1:=Aside0.mk (u1c HB0.out HB0.out.size hB1);have q0:∀ o,(W1.alloc o).cell? ⟨w.heap.size,0,none⟩ = some (.int .i64 3):=fun o => ((uj (Below.refl W1.heap.size W1) o).cell (p:=⟨w.heap.size,0,none⟩) (u2m HX1.out)).trans p0;have q5:∀ o,(W1.alloc o).cell? ⟨w.heap.size,5,none⟩ = some (.int .i64 a5):=fun o => ((uj (Below.refl W1.heap.size W1) o).cell (p:=⟨w.heap.size,5,none⟩) (u2m HX1.out)).trans p5;have HM:=Aside0.mk (un.lit (W:=W1) (base:=w.heap.size) 3 HB1.out.size);have HBm:=Aside0.mk (uj HB1.out (.cells #[.int .u8 3] 5));clear hB1)
          | (go_at_call 31;(with_reducible refine (un.long_at a5 _).mono ?_);rintro e W2 ⟨A8,c8,rfl,hR8,hB8⟩;have HM2:=Aside0.mk (Kd.R_below HM.out hB8);have HB2:=Aside0.mk (u1c HBm.out HBm.out.size hB8);have HR8:=Aside0.mk (Kd.R_reads' hR8);clear hR8 hB8)
          | (at_builtin;refine Kd.R_append_row (w0:=w) (Value.int .u8) (0:Int) (h1:=fun _ => rfl) w.heap.size rfl (.tmp 73) (.tmp 76) 22 5 (.int .u8 0) 1 rfl Tryz.underlying22 un.info rfl (by decide) _ [3] (un.put8 a5) A8 8 c8 (fun _ => True) rfl rfl (fun _ _ => trivial) HM2.out HR8.out.2.2 HB2.out HB2.out.size ?_ ?_))
         · have h7:=HL.out
           simp [un.put8] at h7 ⊢
         · intro v9 W3 hR9 hB9 _ _
           have HR9:=Aside0.mk hR9
           have HB9:=Aside0.mk hB9
           clear hR9 hB9
           go_wp2
           go_ret2
           exact ⟨_,rfl,HR9.out,HB9.out⟩
       · rw [if_neg hk1,if_neg hk2,if_neg hk3] at h2
         cases h2
noncomputable def dryrotlaw10_awake.f (k:Nat)  : Option (Bool):=(un.f k 3 ([]:List (S59)) ([]:List (S79)) 0 0 7).bind fun bt147 => (if bt147.2 = 0 then ((u1o.f k bt147.1 (([3,0,0,0,0,0,0,0,7]:List Int))).bind fun t154 => (some t154)) else (some false))
set_option maxHeartbeats 8000000 in
set_option maxRecDepth 100000 in
theorem dryrotlaw10_awake.calls (k:Nat)  (r:Bool) (w:World) (hG:strings_ToValidUTF8.Gd w) (h:dryrotlaw10_awake.f k  = some r) :
 Calls Tryz.prog 8 #[] w fun e w' => e = .returned (.bool r) ∧ Below w.heap.size w w':=by
 have hu26:=Tryz.underlying26
 have HG:=Aside0.mk hG
 clear hG
 have HB:=Aside0.mk (Below.refl w.heap.size w)
 have H:((un.f k 3 ([]:List (S59)) ([]:List (S79)) 0 0 7).bind fun bt147 => (if bt147.2 = 0 then ((u1o.f k bt147.1 (([3,0,0,0,0,0,0,0,7]:List Int))).bind fun t154 => (some t154)) else (some false))) = some r:=h
 clear h
 replace H:=Option.bind_eq_some_iff.mp H
 obtain ⟨⟨t147,t150⟩,A10,H⟩:=H
 replace H:(if t150 = 0 then ((u1o.f k t147 (([3,0,0,0,0,0,0,0,7]:List Int))).bind fun t154 => (some t154)) else (some false)) = some r:=H
 have A1:=Aside0.mk A10
 clear A10
 by_cases c2:t150 = 0
 · rw [if_pos c2] at H
   have c2b0:(t150 == 0) = true:=beq_iff_eq.mpr c2
   have c2b1:(t150 != 0) = false:=bne_eq_false_iff_eq.mpr c2
   clear c2
   obtain ⟨y151,hy151⟩:∃ y_:List Int,y_ = (([3,0,0,0,0,0,0,0,7]:List Int)):=⟨_,rfl⟩
   replace H:((u1o.f k t147 y151).bind fun t154 => (some t154)) = some r:=by first | (rw [hy151];with_reducible exact H) | (have H2_:=(Option.bind_some _ _).symm.trans H;rw [hy151];with_reducible exact H2_) | (have H2_:=(Option.bind_some _ _).symm.trans H;with_reducible exact H2_) | with_reducible exact H | (rw [hy151];exact H) | exact H
   have Ny151:=Aside0.mk hy151
   clear hy151
   replace H:=Option.bind_eq_some_iff.mp H
   obtain ⟨t154,A30,H⟩:=H
   replace H:(some t154) = some r:=H
   have A3:=Aside0.mk A30
   clear A30
   obtain rfl:=Option.some.inj H
   go_enter Tryz.func8,Tryz.ntmps8
   go_wp2_with (first | ((with_reducible refine u3m (f:=9) rfl ?_);refine goesL_ (some 5) rfl rfl Tryz.func9 (by kernel_rfl) rfl #[.agg #[.int .i64 3,.slice none 0 0,.slice none 0 0,.int .i64 0,.int .i64 0,.int .i64 7]] rfl (by (try simp only [List.map_toArray,List.map_cons,List.map_nil]);first | done | rfl | (simp only [List.length_drop,List.length_take];rfl)) ?_;(refine (un.callsP k 3 _ _ ([]:List (S59)) _ _ ([]:List (S79)) 0 0 7 t147 t150 _ ?side1 ?side2 ?side3 ?side4 ?side5 A1.out).mono ?_);(case side1 => exact Kd.C_nil _ _);(case side2 => exact Nat.le_refl _);(case side3 => exact Kd.C_nil _ _);(case side4 => exact Nat.le_refl _);(case side5 => exact HG.out.below (by repeat (first | (with_reducible first | exact HB.out | apply uj | apply ui | apply ur) | exact HB.out)));rintro e w4 ⟨v148,rfl,ho0,hb⟩;refine ⟨_,rfl,?_⟩;have n0_:=Aside0.mk (Kd.R_lower ho0 (u2p (by repeat (first | (with_reducible first | exact HB.out | apply uj | apply ui | apply ur) | exact HB.out))));have n1_:=Aside0.mk (u2k (by repeat (first | (with_reducible first | exact HB.out | apply uj | apply ui | apply ur) | exact HB.out)) hb);clear HB;have HO149:=n0_;have HB:=n1_;clear n0_ n1_;(try clear hb);(try clear hb2);(try clear hk);(try clear hi);(try clear ho0)) | ((with_reducible refine u4a (N:=12) rfl ?_);(try (refine gate_guard (by rfl) ?_;dsimp only));refine Kd.R_lit (Kd.int .u8) _ 5 ?hg (N:=12) ?hd (xs:=([3,0,0,0,0,0,0,0,7]:List Int)) (inner:=[.int .u8 3,.int .u8 0,.int .u8 0,.int .u8 0,.int .u8 0,.int .u8 0,.int .u8 0,.int .u8 0,.int .u8 7]) (ok:=fun _ => True) (okp:=fun _ => True) ?hr ?hp (fun _ hk => hk) trivial (Below.refl _ _) (Nat.le_refl _) (by simp) ?_;(case hd => rfl);(case hg => rfl);(case hr => first | (go_simp;done) | (go_simp;rfl));(case hp => exact (Reps.one (show Kd.M (Kd.int .u8) _ _ _ 3 [.int .u8 3] from rfl) (Reps.one (show Kd.M (Kd.int .u8) _ _ _ 0 [.int .u8 0] from rfl) (Reps.one (show Kd.M (Kd.int .u8) _ _ _ 0 [.int .u8 0] from rfl) (Reps.one (show Kd.M (Kd.int .u8) _ _ _ 0 [.int .u8 0] from rfl) (Reps.one (show Kd.M (Kd.int .u8) _ _ _ 0 [.int .u8 0] from rfl) (Reps.one (show Kd.M (Kd.int .u8) _ _ _ 0 [.int .u8 0] from rfl) (Reps.one (show Kd.M (Kd.int .u8) _ _ _ 0 [.int .u8 0] from rfl) (Reps.one (show Kd.M (Kd.int .u8) _ _ _ 0 [.int .u8 0] from rfl) (Reps.one (show Kd.M (Kd.int .u8) _ _ _ 7 [.int .u8 7] from rfl) (Reps.none _ _)))))))))));intro v152 w5 ho6 hb hg_ hnew_;clear hg_ hnew_;(first | rw [← Ny151.out] at ho6 | (simp only [Int.reduceToNat] at ho6;rw [← Ny151.out] at ho6));have n0_:=Aside0.mk (Kd.R_elder' (by (with_reducible repeat (first | apply Kd.R_alloc | apply Kd.R_drewN | apply Kd.R_drew));exact HO149.out) (Kd.R_base ho6) hb);have n1_:=Aside0.mk (Kd.R_lower (Kd.R_new' ho6 (Kd.R_lt (by (with_reducible repeat (first | apply Kd.R_alloc | apply Kd.R_drewN | apply Kd.R_drew));exact HO149.out))) (u2p (by repeat (first | (with_reducible first | exact HB.out | apply uj | apply ui | apply ur) | exact HB.out))));have n2_:=Aside0.mk (u2k (by repeat (first | (with_reducible first | exact HB.out | apply uj | apply ui | apply ur) | exact HB.out)) hb);clear HO149;clear HB;have HO149:=n0_;have HO153:=n1_;have HB:=n2_;clear n0_ n1_ n2_;clear hb ho6;obtain ⟨Ao7,co7,eo7⟩:=Kd.R_slice HO149.out;subst eo7;obtain ⟨Ao8,co8,eo8⟩:=Kd.R_slice HO153.out;subst eo8) | (go_at_call 10;(with_reducible refine (u1o.calls k _ _ t147 _ _ y151 t154 _ ?side1 ?side2 ?side3 ?side4 A3.out).mono ?_);(case side1 => repeat (first | exact (Kd.R_reads' HO149.out).2.2 | (with_reducible refine Kd.C_alloc ?_ _) | (with_reducible refine Kd.C_drewN ?_ _) | (with_reducible refine Kd.C_drew ?_)));(case side2 => exact (Kd.R_reads' HO149.out).2.1);(case side3 => repeat (first | exact (Kd.R_reads' HO153.out).2.2 | (with_reducible refine Kd.C_alloc ?_ _) | (with_reducible refine Kd.C_drewN ?_ _) | (with_reducible refine Kd.C_drew ?_)));(case side4 => exact (Kd.R_reads' HO153.out).2.1);rintro e w' ⟨rfl,⟨nd,rfl⟩⟩))
   go_ret
   exact ⟨by first | rfl | (simp [u2i,u2j] <;> rfl) | (simp [*,u2i,u2j] <;> rfl),by repeat (first | (with_reducible first | exact HB.out | apply uj | apply ui | apply ur) | exact HB.out)⟩
 · rw [if_neg c2] at H
   have c2b0:(t150 == 0) = false:=beq_eq_false_iff_ne.mpr c2
   have c2b1:(t150 != 0) = true:=bne_iff_ne.mpr c2
   obtain rfl:=Option.some.inj H
   go_enter Tryz.func8,Tryz.ntmps8
   go_wp2_with (first | ((with_reducible refine u3m (f:=9) rfl ?_);refine goesL_ (some 5) rfl rfl Tryz.func9 (by kernel_rfl) rfl #[.agg #[.int .i64 3,.slice none 0 0,.slice none 0 0,.int .i64 0,.int .i64 0,.int .i64 7]] rfl (by (try simp only [List.map_toArray,List.map_cons,List.map_nil]);first | done | rfl | (simp only [List.length_drop,List.length_take];rfl)) ?_;(refine (un.callsP k 3 _ _ ([]:List (S59)) _ _ ([]:List (S79)) 0 0 7 t147 t150 _ ?side1 ?side2 ?side3 ?side4 ?side5 A1.out).mono ?_);(case side1 => exact Kd.C_nil _ _);(case side2 => exact Nat.le_refl _);(case side3 => exact Kd.C_nil _ _);(case side4 => exact Nat.le_refl _);(case side5 => exact HG.out.below (by repeat (first | (with_reducible first | exact HB.out | apply uj | apply ui | apply ur) | exact HB.out)));rintro e w9 ⟨v148,rfl,ho0,hb⟩;refine ⟨_,rfl,?_⟩;have n0_:=Aside0.mk (Kd.R_lower ho0 (u2p (by repeat (first | (with_reducible first | exact HB.out | apply uj | apply ui | apply ur) | exact HB.out))));have n1_:=Aside0.mk (u2k (by repeat (first | (with_reducible first | exact HB.out | apply uj | apply ui | apply ur) | exact HB.out)) hb);clear HB;have HO149:=n0_;have HB:=n1_;clear n0_ n1_;(try clear hb);(try clear hb2);(try clear hk);(try clear hi);(try clear ho0)))
   go_ret
   exact ⟨by first | rfl | (simp [u2i,u2j] <;> rfl) | (simp [*,u2i,u2j] <;> rfl),by repeat (first | (with_reducible first | exact HB.out | apply uj | apply ui | apply ur) | exact HB.out)⟩
mutual
def uz.j0:Nat → Bool → Int → List (S59) → List (S79) → Int → Int → Int → Option (Bool)
 | 0,_,_,_,_,_,_,_ => none
 | k + 1,x18,x116000,x116001,x116002,x116003,x116004,x116005 => if x18 = true then (some false) else (uz.l0 k x116001 (x116001.length:Int) 0)
def uz.l0:Nat → List (S59) → Int → Int → Option (Bool)
 | 0,_,_,_ => none
 | k + 1,x20,x21,x22 => if x22 < x21 then (if 0 ≤ x22 then (if x22 < (x20.length:Int) then ((uv.f k ((u3z x20 x22).f0)).bind fun t118 => (if t118 = true then (uz.l0 k x20 x21 (wrap64 (x22 + 1))) else (some false))) else (none)) else (none)) else (some true)
end
def uz.f (k:Nat) (a0_0:Int) (l0_1:List (S59)) (l0_2:List (S79)) (a0_3:Int) (a0_4:Int) (a0_5:Int):Option (Bool):=if a0_0 = 1 then (if (l0_1.length:Int) < 1 then (uz.j0 k true a0_0 l0_1 l0_2 a0_3 a0_4 a0_5) else (uz.j0 k (decide ((l0_1.length:Int) > 200)) a0_0 l0_1 l0_2 a0_3 a0_4 a0_5)) else (if a0_0 = 2 then ((u2q.f k l0_2).bind fun t119 => (some t119)) else (if a0_0 = 3 then (if a0_5 ≥ 0 then (some (decide (a0_5 ≤ 4611686018427387904))) else (some false)) else (some false)))
set_option maxHeartbeats 8000000 in
set_option maxRecDepth 100000 in
theorem uz.calls (k:Nat) (a0_0:Int) (A0_1:Option Addr) (c0_1:Nat) (l0_1:List (S59)) (A0_2:Option Addr) (c0_2:Nat) (l0_2:List (S79)) (a0_3:Int) (a0_4:Int) (a0_5:Int) (r:Bool) (w:World) (hr0_1:Kd.C k59 w A0_1 l0_1.length l0_1) (hc0_1:l0_1.length ≤ c0_1) (hr0_2:Kd.C k79 w A0_2 l0_2.length l0_2) (hc0_2:l0_2.length ≤ c0_2) (h:uz.f k a0_0 l0_1 l0_2 a0_3 a0_4 a0_5 = some r) :
 Calls Tryz.prog 13 #[.agg #[.int .i64 a0_0,.slice A0_1 l0_1.length c0_1,.slice A0_2 l0_2.length c0_2,.int .i64 a0_3,.int .i64 a0_4,.int .i64 a0_5]] w fun e w' => e = .returned (.bool r) ∧ Below w.heap.size w w':=by
 have hu26:=Tryz.underlying26
 have hu59:=Tryz.underlying59
 have HR0_1:=Aside0.mk hr0_1
 have HC0_1:=Aside0.mk hc0_1
 clear hr0_1 hc0_1
 have HR0_2:=Aside0.mk hr0_2
 have HC0_2:=Aside0.mk hc0_2
 clear hr0_2 hc0_2
 have HB:=Aside0.mk (Below.refl w.heap.size w)
 have H:(if a0_0 = 1 then (if (l0_1.length:Int) < 1 then (uz.j0 k true a0_0 l0_1 l0_2 a0_3 a0_4 a0_5) else (uz.j0 k (decide ((l0_1.length:Int) > 200)) a0_0 l0_1 l0_2 a0_3 a0_4 a0_5)) else (if a0_0 = 2 then ((u2q.f k l0_2).bind fun t119 => (some t119)) else (if a0_0 = 3 then (if a0_5 ≥ 0 then (some (decide (a0_5 ≤ 4611686018427387904))) else (some false)) else (some false)))) = some r:=h
 clear h
 by_cases c2:a0_0 = 1
 · rw [if_pos c2] at H
   have c2b0:(a0_0 == 1) = true:=beq_iff_eq.mpr c2
   have c2b1:(a0_0 != 1) = false:=bne_eq_false_iff_eq.mpr c2
   clear c2
   have HC3:=Aside0.mk H
   clear H
   go_enter Tryz.func13,Tryz.ntmps13
   go_upto_region 3 with (first | ((with_reducible refine u4a (N:=1) rfl ?_);(try (refine gate_guard (by rfl) ?_;dsimp only));refine u4c ?hg (N:=1) ?hd (cs:=#[.int .i64 a0_0,.slice A0_1 l0_1.length c0_1,.slice A0_2 l0_2.length c0_2,.int .i64 a0_3,.int .i64 a0_4,.int .i64 a0_5]) (t:=26) ?hr ?_;(case hd => rfl);(case hg => rfl);(case hr => first | (go_simp;done) | (go_simp;rfl));intro gb115 hg w4 hbox hb;have n0_:=Aside0.mk (u2k (by repeat (first | (with_reducible first | exact HB.out | apply uj | apply ui | apply ur) | exact HB.out)) hb);have n1_:=Aside0.mk (hbox);have n2_:=Aside0.mk ((by rw [hg];exact (u2p (by repeat (first | (with_reducible first | exact HB.out | apply uj | apply ui | apply ur) | exact HB.out))):w.heap.size ≤ gb115));have n3_:=Aside0.mk ((by rw [hg];exact (u2p (by repeat (first | (with_reducible first | exact HB.out | apply uj | apply ui | apply ur) | exact HB.out))):w.heap.size ≤ gb115));clear HB;have HB:=n0_;have BK115:=n1_;have GW115:=n2_;have GE115:=n3_;clear n0_ n1_ n2_ n3_;clear hb hbox hg;have hcz5_0:w4.cell? ⟨gb115,0,none⟩ = some (.int .i64 a0_0):=(uk BK115.out 0).trans rfl;have hcz5_1:w4.cell? ⟨gb115,1,none⟩ = some (.slice A0_1 l0_1.length c0_1):=(uk BK115.out 1).trans rfl;have hcz5_2:w4.cell? ⟨gb115,2,none⟩ = some (.slice A0_2 l0_2.length c0_2):=(uk BK115.out 2).trans rfl;have hcz5_3:w4.cell? ⟨gb115,3,none⟩ = some (.int .i64 a0_3):=(uk BK115.out 3).trans rfl;have hcz5_4:w4.cell? ⟨gb115,4,none⟩ = some (.int .i64 a0_4):=(uk BK115.out 4).trans rfl;have hcz5_5:w4.cell? ⟨gb115,5,none⟩ = some (.int .i64 a0_5):=(uk BK115.out 5).trans rfl;have hfz5_0:=uq BK115.out 0;have hfz5_1:=uq BK115.out 1;have hfz5_2:=uq BK115.out 2;have hfz5_3:=uq BK115.out 3;have hfz5_4:=uq BK115.out 4;have hfz5_5:=uq BK115.out 5))
   (try simp only [Act.put,List.setIfInBounds_toArray,List.set_cons_zero,List.set_cons_succ])
   go_cut [18] (fun v18 wc => ∃ (kq:Nat) (x18_2:Bool),v18 = .bool x18_2 ∧ Aside0 (uz.j0 kq x18_2 a0_0 l0_1 l0_2 a0_3 a0_4 a0_5 = some r) ∧ Aside0 (kq ≤ k) ∧ Aside0 (wc.heap[gb115]? = some (.cells #[.int .i64 a0_0,(.slice A0_1 l0_1.length c0_1),(.slice A0_2 l0_2.length c0_2),.int .i64 a0_3,.int .i64 a0_4,.int .i64 a0_5] 26 (0,0))) ∧ Aside0 (Below w.heap.size w wc))
   case first =>
    have H:=HC3.out
    clear HC3
    by_cases c6:(l0_1.length:Int) < 1
    · rw [if_pos c6] at H
      have c6b0:decide ((l0_1.length:Int) < 1) = true:=decide_eq_true c6
      have c6b1:decide (l0_1.length < 1) = true:=decide_eq_true (by omega)
      clear c6
      (first | rw [c6b0] | (simp only [i64_w,i32_w];rw [c6b0]) | skip)
      have H':=Aside0.mk H
      clear H
      have hcz7_0:w4.cell? ⟨gb115,0,none⟩ = some (.int .i64 a0_0):=(uk BK115.out 0).trans rfl
      have hcz7_1:w4.cell? ⟨gb115,1,none⟩ = some (.slice A0_1 l0_1.length c0_1):=(uk BK115.out 1).trans rfl
      have hcz7_2:w4.cell? ⟨gb115,2,none⟩ = some (.slice A0_2 l0_2.length c0_2):=(uk BK115.out 2).trans rfl
      have hcz7_3:w4.cell? ⟨gb115,3,none⟩ = some (.int .i64 a0_3):=(uk BK115.out 3).trans rfl
      have hcz7_4:w4.cell? ⟨gb115,4,none⟩ = some (.int .i64 a0_4):=(uk BK115.out 4).trans rfl
      have hcz7_5:w4.cell? ⟨gb115,5,none⟩ = some (.int .i64 a0_5):=(uk BK115.out 5).trans rfl
      have hfz7_0:=uq BK115.out 0
      have hfz7_1:=uq BK115.out 1
      have hfz7_2:=uq BK115.out 2
      have hfz7_3:=uq BK115.out 3
      have hfz7_4:=uq BK115.out 4
      have hfz7_5:=uq BK115.out 5
      go_wp2
      go_meet
      case rel => exact ⟨_,(true),(by first | rfl | (simp;done) | (simp [*];done)),H',⟨by first | omega | exact Nat.le_refl _⟩,⟨by (with_reducible repeat (first | refine u2b ?_ _ | refine u1z ?_ | refine u1k ?_ _));exact BK115.out⟩,⟨by repeat (first | (with_reducible first | exact HB.out | apply uj | apply ui | apply ur | refine u1y ?_ GE115.out) | exact HB.out)⟩⟩
    · rw [if_neg c6] at H
      have c6b0:decide ((l0_1.length:Int) < 1) = false:=decide_eq_false c6
      have c6b1:decide (l0_1.length < 1) = false:=decide_eq_false (by omega)
      clear c6
      (first | rw [c6b0] | (simp only [i64_w,i32_w];rw [c6b0]) | skip)
      have H':=Aside0.mk H
      clear H
      have hcz8_0:w4.cell? ⟨gb115,0,none⟩ = some (.int .i64 a0_0):=(uk BK115.out 0).trans rfl
      have hcz8_1:w4.cell? ⟨gb115,1,none⟩ = some (.slice A0_1 l0_1.length c0_1):=(uk BK115.out 1).trans rfl
      have hcz8_2:w4.cell? ⟨gb115,2,none⟩ = some (.slice A0_2 l0_2.length c0_2):=(uk BK115.out 2).trans rfl
      have hcz8_3:w4.cell? ⟨gb115,3,none⟩ = some (.int .i64 a0_3):=(uk BK115.out 3).trans rfl
      have hcz8_4:w4.cell? ⟨gb115,4,none⟩ = some (.int .i64 a0_4):=(uk BK115.out 4).trans rfl
      have hcz8_5:w4.cell? ⟨gb115,5,none⟩ = some (.int .i64 a0_5):=(uk BK115.out 5).trans rfl
      have hfz8_0:=uq BK115.out 0
      have hfz8_1:=uq BK115.out 1
      have hfz8_2:=uq BK115.out 2
      have hfz8_3:=uq BK115.out 3
      have hfz8_4:=uq BK115.out 4
      have hfz8_5:=uq BK115.out 5
      go_wp2
      go_meet
      case rel => exact ⟨_,(decide ((l0_1.length:Int) > 200)),(by first | rfl | (simp;done) | (simp [*];done)),H',⟨by first | omega | exact Nat.le_refl _⟩,⟨by (with_reducible repeat (first | refine u2b ?_ _ | refine u1z ?_ | refine u1k ?_ _));exact BK115.out⟩,⟨by repeat (first | (with_reducible first | exact HB.out | apply uj | apply ui | apply ur | refine u1y ?_ GE115.out) | exact HB.out)⟩⟩
   case rest =>
    clear HC3
    try clear c1
    try clear c2
    try clear c2b0
    try clear c2b1
    try clear p2
    try clear c6
    try clear c6b0
    try clear c6b1
    try clear hcz5_0
    try clear hcz5_1
    try clear hcz5_2
    try clear hcz5_3
    try clear hcz5_4
    try clear hcz5_5
    try clear hcz7_0
    try clear hcz7_1
    try clear hcz7_2
    try clear hcz7_3
    try clear hcz7_4
    try clear hcz7_5
    try clear hcz8_0
    try clear hcz8_1
    try clear hcz8_2
    try clear hcz8_3
    try clear hcz8_4
    try clear hcz8_5
    try clear hfz5_0
    try clear hfz5_1
    try clear hfz5_2
    try clear hfz5_3
    try clear hfz5_4
    try clear hfz5_5
    try clear hfz7_0
    try clear hfz7_1
    try clear hfz7_2
    try clear hfz7_3
    try clear hfz7_4
    try clear hfz7_5
    try clear hfz8_0
    try clear hfz8_1
    try clear hfz8_2
    try clear hfz8_3
    try clear hfz8_4
    try clear hfz8_5
    obtain ⟨kq,x18_2,rfl,HA,HJ2,BK115,HB⟩:=hcut
    cases kq with
    | zero => exact absurd HA.out (by simp [uz.j0])
    | succ kj2 =>
      have H:=HA.out
      clear HA
      simp only [uz.j0] at H
      by_cases c9:x18_2 = true
      · subst c9
        have H1:(some false) = some r:=by rw [if_pos rfl] at H;exact H
        clear H
        have H:=H1
        clear H1
        obtain rfl:=Option.some.inj H
        go_wp2
        go_ret
        exact ⟨by first | rfl | (simp [u2i,u2j] <;> rfl) | (simp [*,u2i,u2j] <;> rfl),by repeat (first | (with_reducible first | exact HB.out | apply uj | apply ui | apply ur | refine u1y ?_ GE115.out) | exact HB.out)⟩
      · replace c9:=Bool.eq_false_iff.mpr c9
        subst c9
        have H1:(uz.l0 kj2 l0_1 (l0_1.length:Int) 0) = some r:=by rw [if_neg (show ¬ (false = true) by decide)] at H;exact H
        clear H
        have H:=H1
        clear H1
        have H':=Aside0.mk H
        clear H
        have hcz10_0:wc.cell? ⟨gb115,0,none⟩ = some (.int .i64 a0_0):=(uk BK115.out 0).trans rfl
        have hcz10_1:wc.cell? ⟨gb115,1,none⟩ = some (.slice A0_1 l0_1.length c0_1):=(uk BK115.out 1).trans rfl
        have hcz10_2:wc.cell? ⟨gb115,2,none⟩ = some (.slice A0_2 l0_2.length c0_2):=(uk BK115.out 2).trans rfl
        have hcz10_3:wc.cell? ⟨gb115,3,none⟩ = some (.int .i64 a0_3):=(uk BK115.out 3).trans rfl
        have hcz10_4:wc.cell? ⟨gb115,4,none⟩ = some (.int .i64 a0_4):=(uk BK115.out 4).trans rfl
        have hcz10_5:wc.cell? ⟨gb115,5,none⟩ = some (.int .i64 a0_5):=(uk BK115.out 5).trans rfl
        have hfz10_0:=uq BK115.out 0
        have hfz10_1:=uq BK115.out 1
        have hfz10_2:=uq BK115.out 2
        have hfz10_3:=uq BK115.out 3
        have hfz10_4:=uq BK115.out 4
        have hfz10_5:=uq BK115.out 5
        go_wp2
        go_loopg [22] kj2 (fun kq v22 w' => ∃ (x22_2:Int),v22 = .int .i64 x22_2 ∧ Aside0 (uz.l0 kq l0_1 (l0_1.length:Int) x22_2 = some r) ∧ Aside0 (kq ≤ kj2) ∧ Aside0 (w'.heap[gb115]? = some (.cells #[.int .i64 a0_0,(.slice A0_1 l0_1.length c0_1),(.slice A0_2 l0_2.length c0_2),.int .i64 a0_3,.int .i64 a0_4,.int .i64 a0_5] 26 (0,0))) ∧ Aside0 (Below w.heap.size w w'))
        case atStart => exact ⟨(0),(by first | rfl | (simp;done) | (simp [*];done)),H',⟨Nat.le_refl _⟩,⟨by (with_reducible repeat (first | refine u2b ?_ _ | refine u1z ?_ | refine u1k ?_ _));exact BK115.out⟩,⟨by repeat (first | (with_reducible first | exact HB.out | apply uj | apply ui | apply ur | refine u1y ?_ GE115.out) | exact HB.out)⟩⟩
        case round =>
         clear H'
         try clear c1
         try clear c2
         try clear c2b0
         try clear c2b1
         try clear p2
         try clear c6
         try clear c6b0
         try clear c6b1
         try clear c9
         try clear hcz10_0
         try clear hcz10_1
         try clear hcz10_2
         try clear hcz10_3
         try clear hcz10_4
         try clear hcz10_5
         try clear hcz5_0
         try clear hcz5_1
         try clear hcz5_2
         try clear hcz5_3
         try clear hcz5_4
         try clear hcz5_5
         try clear hcz7_0
         try clear hcz7_1
         try clear hcz7_2
         try clear hcz7_3
         try clear hcz7_4
         try clear hcz7_5
         try clear hcz8_0
         try clear hcz8_1
         try clear hcz8_2
         try clear hcz8_3
         try clear hcz8_4
         try clear hcz8_5
         try clear hfz10_0
         try clear hfz10_1
         try clear hfz10_2
         try clear hfz10_3
         try clear hfz10_4
         try clear hfz10_5
         try clear hfz5_0
         try clear hfz5_1
         try clear hfz5_2
         try clear hfz5_3
         try clear hfz5_4
         try clear hfz5_5
         try clear hfz7_0
         try clear hfz7_1
         try clear hfz7_2
         try clear hfz7_3
         try clear hfz7_4
         try clear hfz7_5
         try clear hfz8_0
         try clear hfz8_1
         try clear hfz8_2
         try clear hfz8_3
         try clear hfz8_4
         try clear hfz8_5
         try clear p2
         obtain ⟨x22_2,rfl,HA,HK2,BK115,HB⟩:=hrel
         cases gk with
         | zero => exact absurd HA.out (by simp [uz.l0])
         | succ k2 =>
           have H:=HA.out
           clear HA
           simp only [uz.l0] at H
           by_cases c11:x22_2 < (l0_1.length:Int)
           · rw [if_pos c11] at H
             have c11b0:decide (x22_2 < (l0_1.length:Int)) = true:=decide_eq_true c11
             clear c11
             by_cases c12:0 ≤ x22_2
             · rw [if_pos c12] at H
               have c12b0:decide (0 ≤ x22_2) = true:=decide_eq_true c12
               clear c12
               by_cases c13:x22_2 < (l0_1.length:Int)
               · rw [if_pos c13] at H
                 have c13b0:decide (x22_2 < (l0_1.length:Int)) = true:=decide_eq_true c13
                 clear c13
                 replace H:=Option.bind_eq_some_iff.mp H
                 obtain ⟨t118,A140,H⟩:=H
                 replace H:(if t118 = true then (uz.l0 k2 l0_1 (l0_1.length:Int) (wrap64 (x22_2 + 1))) else (some false)) = some r:=H
                 have A14:=Aside0.mk A140
                 clear A140
                 by_cases c15:t118 = true
                 · subst c15
                   have H1:(uz.l0 k2 l0_1 (l0_1.length:Int) (wrap64 (x22_2 + 1))) = some r:=by rw [if_pos rfl] at H;exact H
                   clear H
                   have H:=H1
                   clear H1
                   have H':=Aside0.mk H
                   clear H
                   have p116:0 ≤ (x22_2:Int):=of_decide_eq_true (by first | (with_reducible assumption) | assumption)
                   have q116:x22_2 < (l0_1.length:Int):=of_decide_eq_true (by first | (with_reducible assumption) | assumption)
                   obtain ⟨ad116,A116_0,c116_0,e116,hx116_0,hx116_1,hx116_2,hl116_0,hi116_0⟩:=at_T59 HR0_1.out x22_2 p116 q116
                   cases e116
                   replace hx116_0:=(HB.out.cell (World.block_lt_of_cell? w _ hx116_0)).trans hx116_0
                   replace hx116_1:=(HB.out.cell (World.block_lt_of_cell? w _ hx116_1)).trans hx116_1
                   replace hx116_2:=(HB.out.cell (World.block_lt_of_cell? w _ hx116_2)).trans hx116_2
                   have HR116_0:=Aside0.mk hi116_0
                   have HC116_0:=Aside0.mk hl116_0
                   clear hi116_0 hl116_0
                   replace p116:=eq_true p116
                   replace q116:=eq_true q116
                   go_wp2_with (first | ((with_reducible refine u4a (N:=4) rfl ?_);(try (refine gate_guard (by rfl) ?_;dsimp only));refine u4c ?hg (N:=4) ?hd (cs:=#[.slice none 0 0,.int .i64 0,.int .u64 0]) (t:=59) ?hr ?_;(case hd => rfl);(case hg => rfl);(case hr => first | (go_simp;done) | (go_simp;rfl));intro gb117 hg w16 hbox hb;have n0_:=Aside0.mk (u1a (g:=gb115) (o:=.cells #[.int .i64 a0_0,.slice (some ad116) l0_1.length c0_1,.slice A0_2 l0_2.length c0_2,.int .i64 a0_3,.int .i64 a0_4,.int .i64 a0_5] 26 (0,0)) (by (with_reducible repeat (first | refine u2b ?_ _ | refine u1z ?_ | refine u1k ?_ _));exact BK115.out) hb);have n1_:=Aside0.mk (u2k (by repeat (first | (with_reducible first | exact HB.out | apply uj | apply ui | apply ur | refine u1y ?_ GE115.out) | exact HB.out)) hb);have n2_:=Aside0.mk (hbox);have n3_:=Aside0.mk ((by rw [hg];exact (u2p (by repeat (first | (with_reducible first | exact HB.out | apply uj | apply ui | apply ur | refine u1y ?_ GE115.out) | exact HB.out))):w.heap.size ≤ gb117));have n4_:=Aside0.mk ((by rw [hg];exact (u2p (by repeat (first | (with_reducible first | exact HB.out | apply uj | apply ui | apply ur | refine u1y ?_ GE115.out) | exact HB.out))):w.heap.size ≤ gb117));have n5_:=Aside0.mk ((by rw [hg];exact Nat.ne_of_lt (u2m (g:=gb115) (o:=.cells #[.int .i64 a0_0,.slice (some ad116) l0_1.length c0_1,.slice A0_2 l0_2.length c0_2,.int .i64 a0_3,.int .i64 a0_4,.int .i64 a0_5] 26 (0,0)) (by (with_reducible repeat (first | refine u2b ?_ _ | refine u1z ?_ | refine u1k ?_ _));exact BK115.out)):gb115 ≠ gb117));have n6_:=Aside0.mk ((by rw [hg];exact Nat.ne_of_gt (u2m (g:=gb115) (o:=.cells #[.int .i64 a0_0,.slice (some ad116) l0_1.length c0_1,.slice A0_2 l0_2.length c0_2,.int .i64 a0_3,.int .i64 a0_4,.int .i64 a0_5] 26 (0,0)) (by (with_reducible repeat (first | refine u2b ?_ _ | refine u1z ?_ | refine u1k ?_ _));exact BK115.out)):gb117 ≠ gb115));clear BK115;clear HB;have BK115:=n0_;have HB:=n1_;have BK117:=n2_;have GW117:=n3_;have GE117:=n4_;have NB115_117:=n5_;have NB117_115:=n6_;clear n0_ n1_ n2_ n3_ n4_ n5_ n6_;clear hb hbox hg;have hnb17:=NB117_115.out;have hnc17:=NB115_117.out;have hcz18_0:w16.cell? ⟨gb117,0,none⟩ = some (.slice none 0 0):=(uk BK117.out 0).trans rfl;have hcz18_1:w16.cell? ⟨gb117,1,none⟩ = some (.int .i64 0):=(uk BK117.out 1).trans rfl;have hcz18_2:w16.cell? ⟨gb117,2,none⟩ = some (.int .u64 0):=(uk BK117.out 2).trans rfl;have hfz18_0:=uq BK117.out 0;have hfz18_1:=uq BK117.out 1;have hfz18_2:=uq BK117.out 2) | ((with_reducible refine u3m (f:=37) rfl ?_);refine goesL_ (some 28) rfl rfl Tryz.func37 (by kernel_rfl) rfl #[.slice A116_0 ((u3z l0_1 x22_2).f0).length c116_0] rfl (by (try simp only [List.map_toArray,List.map_cons,List.map_nil]);first | done | rfl | (simp only [List.length_drop,List.length_take];rfl)) ?_;(with_reducible refine (uv.calls k2 _ _ ((u3z l0_1 x22_2).f0) true _ ?side1 ?side2 A14.out).mono ?_);(case side1 => exact Kd.C_below HR116_0.out (by repeat (first | (with_reducible first | exact HB.out | apply uj | apply ui | apply ur | refine u1y ?_ GE115.out | refine u1y ?_ GE117.out) | exact HB.out)));(case side2 => exact HC116_0.out);rintro e w19 ⟨rfl,hb⟩;refine ⟨_,rfl,?_⟩;have n0_:=Aside0.mk (u1a (g:=gb115) (o:=.cells #[.int .i64 a0_0,.slice (some ad116) l0_1.length c0_1,.slice A0_2 l0_2.length c0_2,.int .i64 a0_3,.int .i64 a0_4,.int .i64 a0_5] 26 (0,0)) (by (with_reducible repeat (first | refine u2b ?_ _ | refine u1z ?_ | refine u1k ?_ _));refine blk_far ?_ NB115_117.out _;(with_reducible repeat (first | refine u2b ?_ _ | refine u1z ?_ | refine u1k ?_ _));refine blk_far ?_ NB115_117.out _;(with_reducible repeat (first | refine u2b ?_ _ | refine u1z ?_ | refine u1k ?_ _));refine blk_far ?_ NB115_117.out _;(with_reducible repeat (first | refine u2b ?_ _ | refine u1z ?_ | refine u1k ?_ _));exact BK115.out) hb);have n1_:=Aside0.mk (u1a (g:=gb117) (o:=.cells #[.slice A116_0 ((u3z l0_1 x22_2).f0).length c116_0,.int .i64 ((u3z l0_1 x22_2).f1),.int .u64 ((u3z l0_1 x22_2).f2)] 59 (0,0)) (by (with_reducible repeat (first | refine u2b ?_ _ | refine u1z ?_ | refine u1k ?_ _));refine blk_put (cs:=#[.slice A116_0 ((u3z l0_1 x22_2).f0).length c116_0,.int .i64 ((u3z l0_1 x22_2).f1),.int .u64 0]) ?_ 2 _ rfl;(with_reducible repeat (first | refine u2b ?_ _ | refine u1z ?_ | refine u1k ?_ _));refine blk_put (cs:=#[.slice A116_0 ((u3z l0_1 x22_2).f0).length c116_0,.int .i64 0,.int .u64 0]) ?_ 1 _ rfl;(with_reducible repeat (first | refine u2b ?_ _ | refine u1z ?_ | refine u1k ?_ _));refine blk_put (cs:=#[.slice none 0 0,.int .i64 0,.int .u64 0]) ?_ 0 _ rfl;(with_reducible repeat (first | refine u2b ?_ _ | refine u1z ?_ | refine u1k ?_ _));exact BK117.out) hb);have n2_:=Aside0.mk (u2k (by repeat (first | (with_reducible first | exact HB.out | apply uj | apply ui | apply ur | refine u1y ?_ GE115.out | refine u1y ?_ GE117.out) | exact HB.out)) hb);clear BK115;clear BK117;clear HB;have BK115:=n0_;have BK117:=n1_;have HB:=n2_;clear n0_ n1_ n2_;(try clear hb);(try clear hb2);(try clear hk);(try clear hi)))
                   go_roundg k2
                   case measure => have:=HJ2.out;have:=HK2.out;omega
                   case rel => exact ⟨(wrap64 (x22_2 + 1)),(by first | rfl | (simp;done) | (simp [*];done)),H',⟨by have:=HJ2.out;have:=HK2.out;omega⟩,⟨by (with_reducible repeat (first | refine u2b ?_ _ | refine u1z ?_ | refine u1k ?_ _));exact BK115.out⟩,⟨by repeat (first | (with_reducible first | exact HB.out | apply uj | apply ui | apply ur | refine u1y ?_ GE115.out | refine u1y ?_ GE117.out) | exact HB.out)⟩⟩
                 · replace c15:=Bool.eq_false_iff.mpr c15
                   subst c15
                   have H1:(some false) = some r:=by rw [if_neg (show ¬ (false = true) by decide)] at H;exact H
                   clear H
                   have H:=H1
                   clear H1
                   obtain rfl:=Option.some.inj H
                   have p116:0 ≤ (x22_2:Int):=of_decide_eq_true (by first | (with_reducible assumption) | assumption)
                   have q116:x22_2 < (l0_1.length:Int):=of_decide_eq_true (by first | (with_reducible assumption) | assumption)
                   obtain ⟨ad116,A116_0,c116_0,e116,hx116_0,hx116_1,hx116_2,hl116_0,hi116_0⟩:=at_T59 HR0_1.out x22_2 p116 q116
                   cases e116
                   replace hx116_0:=(HB.out.cell (World.block_lt_of_cell? w _ hx116_0)).trans hx116_0
                   replace hx116_1:=(HB.out.cell (World.block_lt_of_cell? w _ hx116_1)).trans hx116_1
                   replace hx116_2:=(HB.out.cell (World.block_lt_of_cell? w _ hx116_2)).trans hx116_2
                   have HR116_0:=Aside0.mk hi116_0
                   have HC116_0:=Aside0.mk hl116_0
                   clear hi116_0 hl116_0
                   replace p116:=eq_true p116
                   replace q116:=eq_true q116
                   go_wp2_with (first | ((with_reducible refine u4a (N:=4) rfl ?_);(try (refine gate_guard (by rfl) ?_;dsimp only));refine u4c ?hg (N:=4) ?hd (cs:=#[.slice none 0 0,.int .i64 0,.int .u64 0]) (t:=59) ?hr ?_;(case hd => rfl);(case hg => rfl);(case hr => first | (go_simp;done) | (go_simp;rfl));intro gb117 hg w20 hbox hb;have n0_:=Aside0.mk (u1a (g:=gb115) (o:=.cells #[.int .i64 a0_0,.slice (some ad116) l0_1.length c0_1,.slice A0_2 l0_2.length c0_2,.int .i64 a0_3,.int .i64 a0_4,.int .i64 a0_5] 26 (0,0)) (by (with_reducible repeat (first | refine u2b ?_ _ | refine u1z ?_ | refine u1k ?_ _));exact BK115.out) hb);have n1_:=Aside0.mk (u2k (by repeat (first | (with_reducible first | exact HB.out | apply uj | apply ui | apply ur | refine u1y ?_ GE115.out) | exact HB.out)) hb);have n2_:=Aside0.mk (hbox);have n3_:=Aside0.mk ((by rw [hg];exact (u2p (by repeat (first | (with_reducible first | exact HB.out | apply uj | apply ui | apply ur | refine u1y ?_ GE115.out) | exact HB.out))):w.heap.size ≤ gb117));have n4_:=Aside0.mk ((by rw [hg];exact (u2p (by repeat (first | (with_reducible first | exact HB.out | apply uj | apply ui | apply ur | refine u1y ?_ GE115.out) | exact HB.out))):w.heap.size ≤ gb117));have n5_:=Aside0.mk ((by rw [hg];exact Nat.ne_of_lt (u2m (g:=gb115) (o:=.cells #[.int .i64 a0_0,.slice (some ad116) l0_1.length c0_1,.slice A0_2 l0_2.length c0_2,.int .i64 a0_3,.int .i64 a0_4,.int .i64 a0_5] 26 (0,0)) (by (with_reducible repeat (first | refine u2b ?_ _ | refine u1z ?_ | refine u1k ?_ _));exact BK115.out)):gb115 ≠ gb117));have n6_:=Aside0.mk ((by rw [hg];exact Nat.ne_of_gt (u2m (g:=gb115) (o:=.cells #[.int .i64 a0_0,.slice (some ad116) l0_1.length c0_1,.slice A0_2 l0_2.length c0_2,.int .i64 a0_3,.int .i64 a0_4,.int .i64 a0_5] 26 (0,0)) (by (with_reducible repeat (first | refine u2b ?_ _ | refine u1z ?_ | refine u1k ?_ _));exact BK115.out)):gb117 ≠ gb115));clear BK115;clear HB;have BK115:=n0_;have HB:=n1_;have BK117:=n2_;have GW117:=n3_;have GE117:=n4_;have NB115_117:=n5_;have NB117_115:=n6_;clear n0_ n1_ n2_ n3_ n4_ n5_ n6_;clear hb hbox hg;have hnb21:=NB117_115.out;have hnc21:=NB115_117.out;have hcz22_0:w20.cell? ⟨gb117,0,none⟩ = some (.slice none 0 0):=(uk BK117.out 0).trans rfl;have hcz22_1:w20.cell? ⟨gb117,1,none⟩ = some (.int .i64 0):=(uk BK117.out 1).trans rfl;have hcz22_2:w20.cell? ⟨gb117,2,none⟩ = some (.int .u64 0):=(uk BK117.out 2).trans rfl;have hfz22_0:=uq BK117.out 0;have hfz22_1:=uq BK117.out 1;have hfz22_2:=uq BK117.out 2) | ((with_reducible refine u3m (f:=37) rfl ?_);refine goesL_ (some 28) rfl rfl Tryz.func37 (by kernel_rfl) rfl #[.slice A116_0 ((u3z l0_1 x22_2).f0).length c116_0] rfl (by (try simp only [List.map_toArray,List.map_cons,List.map_nil]);first | done | rfl | (simp only [List.length_drop,List.length_take];rfl)) ?_;(with_reducible refine (uv.calls k2 _ _ ((u3z l0_1 x22_2).f0) false _ ?side1 ?side2 A14.out).mono ?_);(case side1 => exact Kd.C_below HR116_0.out (by repeat (first | (with_reducible first | exact HB.out | apply uj | apply ui | apply ur | refine u1y ?_ GE115.out | refine u1y ?_ GE117.out) | exact HB.out)));(case side2 => exact HC116_0.out);rintro e w23 ⟨rfl,hb⟩;refine ⟨_,rfl,?_⟩;have n0_:=Aside0.mk (u1a (g:=gb115) (o:=.cells #[.int .i64 a0_0,.slice (some ad116) l0_1.length c0_1,.slice A0_2 l0_2.length c0_2,.int .i64 a0_3,.int .i64 a0_4,.int .i64 a0_5] 26 (0,0)) (by (with_reducible repeat (first | refine u2b ?_ _ | refine u1z ?_ | refine u1k ?_ _));refine blk_far ?_ NB115_117.out _;(with_reducible repeat (first | refine u2b ?_ _ | refine u1z ?_ | refine u1k ?_ _));refine blk_far ?_ NB115_117.out _;(with_reducible repeat (first | refine u2b ?_ _ | refine u1z ?_ | refine u1k ?_ _));refine blk_far ?_ NB115_117.out _;(with_reducible repeat (first | refine u2b ?_ _ | refine u1z ?_ | refine u1k ?_ _));exact BK115.out) hb);have n1_:=Aside0.mk (u1a (g:=gb117) (o:=.cells #[.slice A116_0 ((u3z l0_1 x22_2).f0).length c116_0,.int .i64 ((u3z l0_1 x22_2).f1),.int .u64 ((u3z l0_1 x22_2).f2)] 59 (0,0)) (by (with_reducible repeat (first | refine u2b ?_ _ | refine u1z ?_ | refine u1k ?_ _));refine blk_put (cs:=#[.slice A116_0 ((u3z l0_1 x22_2).f0).length c116_0,.int .i64 ((u3z l0_1 x22_2).f1),.int .u64 0]) ?_ 2 _ rfl;(with_reducible repeat (first | refine u2b ?_ _ | refine u1z ?_ | refine u1k ?_ _));refine blk_put (cs:=#[.slice A116_0 ((u3z l0_1 x22_2).f0).length c116_0,.int .i64 0,.int .u64 0]) ?_ 1 _ rfl;(with_reducible repeat (first | refine u2b ?_ _ | refine u1z ?_ | refine u1k ?_ _));refine blk_put (cs:=#[.slice none 0 0,.int .i64 0,.int .u64 0]) ?_ 0 _ rfl;(with_reducible repeat (first | refine u2b ?_ _ | refine u1z ?_ | refine u1k ?_ _));exact BK117.out) hb);have n2_:=Aside0.mk (u2k (by repeat (first | (with_reducible first | exact HB.out | apply uj | apply ui | apply ur | refine u1y ?_ GE115.out | refine u1y ?_ GE117.out) | exact HB.out)) hb);clear BK115;clear BK117;clear HB;have BK115:=n0_;have BK117:=n1_;have HB:=n2_;clear n0_ n1_ n2_;(try clear hb);(try clear hb2);(try clear hk);(try clear hi)))
                   go_ret
                   exact ⟨by first | rfl | (simp [u2i,u2j] <;> rfl) | (simp [*,u2i,u2j] <;> rfl),by repeat (first | (with_reducible first | exact HB.out | apply uj | apply ui | apply ur | refine u1y ?_ GE115.out | refine u1y ?_ GE117.out) | exact HB.out)⟩
               · rw [if_neg c13] at H
                 exact absurd H (by simp)
             · rw [if_neg c12] at H
               exact absurd H (by simp)
           · rw [if_neg c11] at H
             have c11b0:decide (x22_2 < (l0_1.length:Int)) = false:=decide_eq_false c11
             clear c11
             obtain rfl:=Option.some.inj H
             go_wp2
             go_ret
             exact ⟨by first | rfl | (simp [u2i,u2j] <;> rfl) | (simp [*,u2i,u2j] <;> rfl),by repeat (first | (with_reducible first | exact HB.out | apply uj | apply ui | apply ur | refine u1y ?_ GE115.out) | exact HB.out)⟩
 · rw [if_neg c2] at H
   have c2b0:(a0_0 == 1) = false:=beq_eq_false_iff_ne.mpr c2
   have c2b1:(a0_0 != 1) = true:=bne_iff_ne.mpr c2
   by_cases c24:a0_0 = 2
   · rw [if_pos c24] at H
     have c24b0:(a0_0 == 2) = true:=beq_iff_eq.mpr c24
     have c24b1:(a0_0 != 2) = false:=bne_eq_false_iff_eq.mpr c24
     clear c24
     replace H:=Option.bind_eq_some_iff.mp H
     obtain ⟨t119,A250,H⟩:=H
     replace H:(some t119) = some r:=H
     have A25:=Aside0.mk A250
     clear A250
     obtain rfl:=Option.some.inj H
     go_enter Tryz.func13,Tryz.ntmps13
     go_wp2_with (first | ((with_reducible refine u4a (N:=1) rfl ?_);(try (refine gate_guard (by rfl) ?_;dsimp only));refine u4c ?hg (N:=1) ?hd (cs:=#[.int .i64 a0_0,.slice A0_1 l0_1.length c0_1,.slice A0_2 l0_2.length c0_2,.int .i64 a0_3,.int .i64 a0_4,.int .i64 a0_5]) (t:=26) ?hr ?_;(case hd => rfl);(case hg => rfl);(case hr => first | (go_simp;done) | (go_simp;rfl));intro gb115 hg w26 hbox hb;have n0_:=Aside0.mk (u2k (by repeat (first | (with_reducible first | exact HB.out | apply uj | apply ui | apply ur) | exact HB.out)) hb);have n1_:=Aside0.mk (hbox);have n2_:=Aside0.mk ((by rw [hg];exact (u2p (by repeat (first | (with_reducible first | exact HB.out | apply uj | apply ui | apply ur) | exact HB.out))):w.heap.size ≤ gb115));have n3_:=Aside0.mk ((by rw [hg];exact (u2p (by repeat (first | (with_reducible first | exact HB.out | apply uj | apply ui | apply ur) | exact HB.out))):w.heap.size ≤ gb115));clear HB;have HB:=n0_;have BK115:=n1_;have GW115:=n2_;have GE115:=n3_;clear n0_ n1_ n2_ n3_;clear hb hbox hg;have hcz27_0:w26.cell? ⟨gb115,0,none⟩ = some (.int .i64 a0_0):=(uk BK115.out 0).trans rfl;have hcz27_1:w26.cell? ⟨gb115,1,none⟩ = some (.slice A0_1 l0_1.length c0_1):=(uk BK115.out 1).trans rfl;have hcz27_2:w26.cell? ⟨gb115,2,none⟩ = some (.slice A0_2 l0_2.length c0_2):=(uk BK115.out 2).trans rfl;have hcz27_3:w26.cell? ⟨gb115,3,none⟩ = some (.int .i64 a0_3):=(uk BK115.out 3).trans rfl;have hcz27_4:w26.cell? ⟨gb115,4,none⟩ = some (.int .i64 a0_4):=(uk BK115.out 4).trans rfl;have hcz27_5:w26.cell? ⟨gb115,5,none⟩ = some (.int .i64 a0_5):=(uk BK115.out 5).trans rfl;have hfz27_0:=uq BK115.out 0;have hfz27_1:=uq BK115.out 1;have hfz27_2:=uq BK115.out 2;have hfz27_3:=uq BK115.out 3;have hfz27_4:=uq BK115.out 4;have hfz27_5:=uq BK115.out 5) | ((with_reducible refine u3m (f:=38) rfl ?_);refine goesL_ (some 35) rfl rfl Tryz.func38 (by kernel_rfl) rfl #[.slice A0_2 l0_2.length c0_2] rfl (by (try simp only [List.map_toArray,List.map_cons,List.map_nil]);first | done | rfl | (simp only [List.length_drop,List.length_take];rfl)) ?_;(with_reducible refine (u2q.calls k _ _ l0_2 t119 _ ?side1 ?side2 A25.out).mono ?_);(case side1 => repeat (first | exact (Kd.C_below HR0_2.out HB.out) | (with_reducible refine Kd.C_alloc ?_ _) | (with_reducible refine Kd.C_drewN ?_ _) | (with_reducible refine Kd.C_drew ?_)));(case side2 => exact HC0_2.out);rintro e w28 ⟨rfl,hb⟩;refine ⟨_,rfl,?_⟩;have n0_:=Aside0.mk (u1a (g:=gb115) (o:=.cells #[.int .i64 a0_0,.slice A0_1 l0_1.length c0_1,.slice A0_2 l0_2.length c0_2,.int .i64 a0_3,.int .i64 a0_4,.int .i64 a0_5] 26 (0,0)) (by (with_reducible repeat (first | refine u2b ?_ _ | refine u1z ?_ | refine u1k ?_ _));exact BK115.out) hb);have n1_:=Aside0.mk (u2k (by repeat (first | (with_reducible first | exact HB.out | apply uj | apply ui | apply ur | refine u1y ?_ GE115.out) | exact HB.out)) hb);clear BK115;clear HB;have BK115:=n0_;have HB:=n1_;clear n0_ n1_;(try clear hb);(try clear hb2);(try clear hk);(try clear hi)))
     go_ret
     exact ⟨by first | rfl | (simp [u2i,u2j] <;> rfl) | (simp [*,u2i,u2j] <;> rfl),by repeat (first | (with_reducible first | exact HB.out | apply uj | apply ui | apply ur | refine u1y ?_ GE115.out) | exact HB.out)⟩
   · rw [if_neg c24] at H
     have c24b0:(a0_0 == 2) = false:=beq_eq_false_iff_ne.mpr c24
     have c24b1:(a0_0 != 2) = true:=bne_iff_ne.mpr c24
     by_cases c29:a0_0 = 3
     · rw [if_pos c29] at H
       have c29b0:(a0_0 == 3) = true:=beq_iff_eq.mpr c29
       have c29b1:(a0_0 != 3) = false:=bne_eq_false_iff_eq.mpr c29
       clear c29
       by_cases c30:a0_5 ≥ 0
       · rw [if_pos c30] at H
         have c30b0:decide (0 ≤ a0_5) = true:=decide_eq_true c30
         clear c30
         obtain rfl:=Option.some.inj H
         go_enter Tryz.func13,Tryz.ntmps13
         go_wp2_with (first | ((with_reducible refine u4a (N:=1) rfl ?_);(try (refine gate_guard (by rfl) ?_;dsimp only));refine u4c ?hg (N:=1) ?hd (cs:=#[.int .i64 a0_0,.slice A0_1 l0_1.length c0_1,.slice A0_2 l0_2.length c0_2,.int .i64 a0_3,.int .i64 a0_4,.int .i64 a0_5]) (t:=26) ?hr ?_;(case hd => rfl);(case hg => rfl);(case hr => first | (go_simp;done) | (go_simp;rfl));intro gb115 hg w31 hbox hb;have n0_:=Aside0.mk (u2k (by repeat (first | (with_reducible first | exact HB.out | apply uj | apply ui | apply ur) | exact HB.out)) hb);have n1_:=Aside0.mk (hbox);have n2_:=Aside0.mk ((by rw [hg];exact (u2p (by repeat (first | (with_reducible first | exact HB.out | apply uj | apply ui | apply ur) | exact HB.out))):w.heap.size ≤ gb115));have n3_:=Aside0.mk ((by rw [hg];exact (u2p (by repeat (first | (with_reducible first | exact HB.out | apply uj | apply ui | apply ur) | exact HB.out))):w.heap.size ≤ gb115));clear HB;have HB:=n0_;have BK115:=n1_;have GW115:=n2_;have GE115:=n3_;clear n0_ n1_ n2_ n3_;clear hb hbox hg;have hcz32_0:w31.cell? ⟨gb115,0,none⟩ = some (.int .i64 a0_0):=(uk BK115.out 0).trans rfl;have hcz32_1:w31.cell? ⟨gb115,1,none⟩ = some (.slice A0_1 l0_1.length c0_1):=(uk BK115.out 1).trans rfl;have hcz32_2:w31.cell? ⟨gb115,2,none⟩ = some (.slice A0_2 l0_2.length c0_2):=(uk BK115.out 2).trans rfl;have hcz32_3:w31.cell? ⟨gb115,3,none⟩ = some (.int .i64 a0_3):=(uk BK115.out 3).trans rfl;have hcz32_4:w31.cell? ⟨gb115,4,none⟩ = some (.int .i64 a0_4):=(uk BK115.out 4).trans rfl;have hcz32_5:w31.cell? ⟨gb115,5,none⟩ = some (.int .i64 a0_5):=(uk BK115.out 5).trans rfl;have hfz32_0:=uq BK115.out 0;have hfz32_1:=uq BK115.out 1;have hfz32_2:=uq BK115.out 2;have hfz32_3:=uq BK115.out 3;have hfz32_4:=uq BK115.out 4;have hfz32_5:=uq BK115.out 5))
         go_ret
         exact ⟨by first | rfl | (simp [u2i,u2j] <;> rfl) | (simp [*,u2i,u2j] <;> rfl),by repeat (first | (with_reducible first | exact HB.out | apply uj | apply ui | apply ur | refine u1y ?_ GE115.out) | exact HB.out)⟩
       · rw [if_neg c30] at H
         have c30b0:decide (0 ≤ a0_5) = false:=decide_eq_false c30
         clear c30
         obtain rfl:=Option.some.inj H
         go_enter Tryz.func13,Tryz.ntmps13
         go_wp2_with (first | ((with_reducible refine u4a (N:=1) rfl ?_);(try (refine gate_guard (by rfl) ?_;dsimp only));refine u4c ?hg (N:=1) ?hd (cs:=#[.int .i64 a0_0,.slice A0_1 l0_1.length c0_1,.slice A0_2 l0_2.length c0_2,.int .i64 a0_3,.int .i64 a0_4,.int .i64 a0_5]) (t:=26) ?hr ?_;(case hd => rfl);(case hg => rfl);(case hr => first | (go_simp;done) | (go_simp;rfl));intro gb115 hg w33 hbox hb;have n0_:=Aside0.mk (u2k (by repeat (first | (with_reducible first | exact HB.out | apply uj | apply ui | apply ur) | exact HB.out)) hb);have n1_:=Aside0.mk (hbox);have n2_:=Aside0.mk ((by rw [hg];exact (u2p (by repeat (first | (with_reducible first | exact HB.out | apply uj | apply ui | apply ur) | exact HB.out))):w.heap.size ≤ gb115));have n3_:=Aside0.mk ((by rw [hg];exact (u2p (by repeat (first | (with_reducible first | exact HB.out | apply uj | apply ui | apply ur) | exact HB.out))):w.heap.size ≤ gb115));clear HB;have HB:=n0_;have BK115:=n1_;have GW115:=n2_;have GE115:=n3_;clear n0_ n1_ n2_ n3_;clear hb hbox hg;have hcz34_0:w33.cell? ⟨gb115,0,none⟩ = some (.int .i64 a0_0):=(uk BK115.out 0).trans rfl;have hcz34_1:w33.cell? ⟨gb115,1,none⟩ = some (.slice A0_1 l0_1.length c0_1):=(uk BK115.out 1).trans rfl;have hcz34_2:w33.cell? ⟨gb115,2,none⟩ = some (.slice A0_2 l0_2.length c0_2):=(uk BK115.out 2).trans rfl;have hcz34_3:w33.cell? ⟨gb115,3,none⟩ = some (.int .i64 a0_3):=(uk BK115.out 3).trans rfl;have hcz34_4:w33.cell? ⟨gb115,4,none⟩ = some (.int .i64 a0_4):=(uk BK115.out 4).trans rfl;have hcz34_5:w33.cell? ⟨gb115,5,none⟩ = some (.int .i64 a0_5):=(uk BK115.out 5).trans rfl;have hfz34_0:=uq BK115.out 0;have hfz34_1:=uq BK115.out 1;have hfz34_2:=uq BK115.out 2;have hfz34_3:=uq BK115.out 3;have hfz34_4:=uq BK115.out 4;have hfz34_5:=uq BK115.out 5))
         go_ret
         exact ⟨by first | rfl | (simp [u2i,u2j] <;> rfl) | (simp [*,u2i,u2j] <;> rfl),by repeat (first | (with_reducible first | exact HB.out | apply uj | apply ui | apply ur | refine u1y ?_ GE115.out) | exact HB.out)⟩
     · rw [if_neg c29] at H
       have c29b0:(a0_0 == 3) = false:=beq_eq_false_iff_ne.mpr c29
       have c29b1:(a0_0 != 3) = true:=bne_iff_ne.mpr c29
       obtain rfl:=Option.some.inj H
       go_enter Tryz.func13,Tryz.ntmps13
       go_wp2_with (first | ((with_reducible refine u4a (N:=1) rfl ?_);(try (refine gate_guard (by rfl) ?_;dsimp only));refine u4c ?hg (N:=1) ?hd (cs:=#[.int .i64 a0_0,.slice A0_1 l0_1.length c0_1,.slice A0_2 l0_2.length c0_2,.int .i64 a0_3,.int .i64 a0_4,.int .i64 a0_5]) (t:=26) ?hr ?_;(case hd => rfl);(case hg => rfl);(case hr => first | (go_simp;done) | (go_simp;rfl));intro gb115 hg w35 hbox hb;have n0_:=Aside0.mk (u2k (by repeat (first | (with_reducible first | exact HB.out | apply uj | apply ui | apply ur) | exact HB.out)) hb);have n1_:=Aside0.mk (hbox);have n2_:=Aside0.mk ((by rw [hg];exact (u2p (by repeat (first | (with_reducible first | exact HB.out | apply uj | apply ui | apply ur) | exact HB.out))):w.heap.size ≤ gb115));have n3_:=Aside0.mk ((by rw [hg];exact (u2p (by repeat (first | (with_reducible first | exact HB.out | apply uj | apply ui | apply ur) | exact HB.out))):w.heap.size ≤ gb115));clear HB;have HB:=n0_;have BK115:=n1_;have GW115:=n2_;have GE115:=n3_;clear n0_ n1_ n2_ n3_;clear hb hbox hg;have hcz36_0:w35.cell? ⟨gb115,0,none⟩ = some (.int .i64 a0_0):=(uk BK115.out 0).trans rfl;have hcz36_1:w35.cell? ⟨gb115,1,none⟩ = some (.slice A0_1 l0_1.length c0_1):=(uk BK115.out 1).trans rfl;have hcz36_2:w35.cell? ⟨gb115,2,none⟩ = some (.slice A0_2 l0_2.length c0_2):=(uk BK115.out 2).trans rfl;have hcz36_3:w35.cell? ⟨gb115,3,none⟩ = some (.int .i64 a0_3):=(uk BK115.out 3).trans rfl;have hcz36_4:w35.cell? ⟨gb115,4,none⟩ = some (.int .i64 a0_4):=(uk BK115.out 4).trans rfl;have hcz36_5:w35.cell? ⟨gb115,5,none⟩ = some (.int .i64 a0_5):=(uk BK115.out 5).trans rfl;have hfz36_0:=uq BK115.out 0;have hfz36_1:=uq BK115.out 1;have hfz36_2:=uq BK115.out 2;have hfz36_3:=uq BK115.out 3;have hfz36_4:=uq BK115.out 4;have hfz36_5:=uq BK115.out 5))
       go_ret
       exact ⟨by first | rfl | (simp [u2i,u2j] <;> rfl) | (simp [*,u2i,u2j] <;> rfl),by repeat (first | (with_reducible first | exact HB.out | apply uj | apply ui | apply ur | refine u1y ?_ GE115.out) | exact HB.out)⟩
abbrev u1d.Rw:=S59
abbrev u1d.Mt:=S79
theorem u1d.info:(Tryz.prog.info? 5).map (fun i => (i.zero,i.size,i.bytes)) = some (some (.int .u8 0),1,1):=by kernel_rfl
theorem u1d.set6 {W:World} {g:Nat} {y0 y1 y2 y3 y4 y5 x0 x1 x2 x3 x4 x5:Value} {t:TypeId} (h:W.heap[g]? = some (.cells #[y0,y1,y2,y3,y4,y5] t (0,0))):((((((W.setCell ⟨g,0,none⟩ x0).setCell ⟨g,1,none⟩ x1).setCell ⟨g,2,none⟩ x2).setCell ⟨g,3,none⟩ x3).setCell ⟨g,4,none⟩ x4).setCell ⟨g,5,none⟩ x5).heap[g]? = some (.cells #[x0,x1,x2,x3,x4,x5] t (0,0)):=by
 exact u3v (u3v (u3v (u3v (u3v (u3v h 0 x0) 1 x1) 2 x2) 3 x3) 4 x4) 5 x5
def u1d.SameH (o:ud.Ou) (a0:Int) (l1:List u1d.Rw) (l2:List u1d.Mt) (a3 a4 a5:Int):Prop:=∀ (W:World) (A1 A2 B1 B2:Option Addr) (c1 c2 d1 d2:Nat),Kd.C k59 W A1 o.rows.length o.rows → o.rows.length ≤ c1 → Kd.C k79 W A2 o.ms.length o.ms → o.ms.length ≤ c2 → Kd.C k59 W B1 l1.length l1 → l1.length ≤ d1 → Kd.C k79 W B2 l2.length l2 → l2.length ≤ d2 →
 Calls Tryz.prog 15 #[.agg #[.int .i64 o.kd,.slice A1 o.rows.length c1,.slice A2 o.ms.length c2,.int .i64 o.fr,.int .i64 o.to_,.int .i64 o.kp],.agg #[.int .i64 a0,.slice B1 l1.length d1,.slice B2 l2.length d2,.int .i64 a3,.int .i64 a4,.int .i64 a5]] W fun e W' => e = .returned (.bool true) ∧ Below W.heap.size W W'
theorem u1d.cut_C {w:World} {A:Option Addr} {l:List u1d.Rw} (h:Kd.C k59 w A l.length l):Kd.C k59 w A (u1x.cutR l).length (u1x.cutR l):=by
 unfold u1x.cutR
 split
 · exact Kd.C_take h (by omega)
 · exact h
theorem u1d.dec_at (k:Nat) (A:Option Addr) (c n:Nat) (l:List Int) (kd:Int) (rows:List u1d.Rw) (ms:List u1d.Mt) (fr to_ kp e9:Int) (W:World) (hn:l.length = n) (hC:Kd.C (Kd.int .u8) W A l.length l) (hc:n ≤ c) (hl:l.length ≤ 140737488355328) (h256:∀ y ∈ l,0 ≤ y ∧ y < 256) (hG:strings_ToValidUTF8.Gd W) (h:ud.dec k l = some (⟨kd,rows,ms,fr,to_,kp⟩,e9)) :
 Calls Tryz.prog 6 #[.slice A n c] W fun e W' => ∃ A1 c1 A2 c2,e = .returned (.tuple #[.agg #[.int .i64 kd,.slice A1 rows.length c1,.slice A2 ms.length c2,.int .i64 fr,.int .i64 to_,.int .i64 kp],.int .i64 e9]) ∧ (rows.length ≤ c1 ∧ Kd.C k59 W' A1 rows.length rows) ∧ (ms.length ≤ c2 ∧ Kd.C k79 W' A2 ms.length ms) ∧ Below W.heap.size W W':=by
 subst hn
 refine (ud.callsD k A c l _ W hC hc hl h256 hG h).mono ?_
 rintro e W' ⟨v1,v2,rfl,hR1,hR2,hB⟩
 obtain ⟨A1,c1,rfl⟩:=Kd.S_slice hR1
 obtain ⟨A2,c2,rfl⟩:=Kd.R_slice hR2
 exact ⟨A1,c1,A2,c2,rfl,⟨(Kd.S_reads' hR1).2.1,(Kd.S_reads' hR1).2.2⟩,⟨(Kd.R_reads' hR2).2.1,(Kd.R_reads' hR2).2.2⟩,hB⟩
set_option maxHeartbeats 8000000 in
set_option maxRecDepth 10000 in
theorem u1d.calls_bad (k:Nat) (a0:Int) (A1:Option Addr) (c1:Nat) (l1 L:List u1d.Rw) (A2:Option Addr) (c2:Nat) (l2:List u1d.Mt) (a3 a4 a5 x:Int) (e9:Int) (w:World) (hr1:Kd.C k59 w A1 l1.length l1) (hc1:l1.length ≤ c1) (hr2:Kd.C k79 w A2 l2.length l2) (hc2:l2.length ≤ c2) (hG:strings_ToValidUTF8.Gd w)
 (hL:u1x.cutR l1 = L) (he:un.f k a0 L l2 a3 a4 a5 = some ([],e9)) (hne:e9 ≠ 0) (hc:uz.f k a0 L l2 a3 a4 a5 = some false) (ha:dryrotlaw10_awake.f k = some true) :
 Calls Tryz.prog 4 #[.agg #[.int .i64 a0,.slice A1 l1.length c1,.slice A2 l2.length c2,.int .i64 a3,.int .i64 a4,.int .i64 a5],.int .u8 x] w fun e w' => e = .returned (.bool true) ∧ Below w.heap.size w w':=by
 have HL:=Aside0.mk hL
 have HR1:=Aside0.mk hr1
 have HR2:=Aside0.mk hr2
 have HC1:=Aside0.mk hc1
 have HC2:=Aside0.mk hc2
 have HG:=Aside0.mk hG
 have HE:=Aside0.mk he
 have HCN:=Aside0.mk hc
 have HA:=Aside0.mk ha
 have t1:(e9 != 0) = true:=by simp [hne]
 have t2:(e9 == 0) = false:=beq_eq_false_iff_ne.2 hne
 have HX0:=Aside0.mk (u3d w (.cells #[.int .i64 a0,.slice A1 l1.length c1,.slice A2 l2.length c2,.int .i64 a3,.int .i64 a4,.int .i64 a5] 26))
 clear hL hr1 hr2 hc1 hc2 hG he hc ha hne
 go_enter Tryz.func4,Tryz.ntmps4
 go_wp2_with (first
  | (go_at_call 12;(with_reducible refine (u1x.calls a0 A1 c1 l1 A2 l2.length c2 a3 a4 a5 _ (Kd.C_below HR1.out (uj (Below.refl _ _) _)) HC1.out).mono ?_);rw [HL.out];rintro e W1 ⟨rfl,hC1,hL1,hB1⟩;have HX1:=Aside0.mk (u1a HX0.out hB1);obtain ⟨⟨p0,p1,p2,p3,p4,p5⟩,⟨q0,q1,q2,q3,q4,q5⟩⟩:=ud.cells HX1.out;have hb1:=u1c (uj (Below.refl _ w) _) (uj (Below.refl _ w) _).size hB1;obtain ⟨W2,hW2⟩:∃ W2,Aside0 (((((((W1.setCell ⟨w.heap.size,0,none⟩ (.int .i64 a0)).setCell ⟨w.heap.size,1,none⟩ (.slice A1 L.length c1)).setCell ⟨w.heap.size,2,none⟩ (.slice A2 l2.length c2)).setCell ⟨w.heap.size,3,none⟩ (.int .i64 a3)).setCell ⟨w.heap.size,4,none⟩ (.int .i64 a4)).setCell ⟨w.heap.size,5,none⟩ (.int .i64 a5)) = W2):=⟨_,⟨rfl⟩⟩;have hb2:Below w.heap.size w W2:=(by rw [← hW2.out];exact ud.below6 hb1 _ _ _ _ _ _);have HX2:Aside0 (W2.heap[w.heap.size]? = some (.cells #[.int .i64 a0,.slice A1 L.length c1,.slice A2 l2.length c2,.int .i64 a3,.int .i64 a4,.int .i64 a5] 26 (0,0))):=⟨by rw [← hW2.out];exact u1d.set6 HX1.out⟩;have HRL:Aside0 (Kd.C k59 W2 A1 L.length L):=⟨by rw [← HL.out];exact Kd.C_below (u1d.cut_C HR1.out) hb2⟩;have HL1:=Aside0.mk hL1;have HRM:=Aside0.mk (Kd.C_below HR2.out hb2);have HB2:=Aside0.mk hb2;have HG2:=Aside0.mk (HG.out.below hb2);clear hC1 hL1 hB1 hb1 hb2 HX1)
  | (go_at_call 9;rw [hW2.out];clear p0 p1 p2 p3 p4 p5 q0 q1 q2 q3 q4 q5;(with_reducible refine (un.callsP k a0 A1 c1 L A2 c2 l2 a3 a4 a5 [] e9 W2 HRL.out HL1.out HRM.out HC2.out HG2.out HE.out).mono ?_);rintro e W3 ⟨v3,rfl,hR3,hB3⟩;obtain ⟨A9,c9,e3⟩:=Kd.R_slice hR3;subst e3;have HX3:=Aside0.mk (u1a HX2.out hB3);obtain ⟨⟨p0,p1,p2,p3,p4,p5⟩,_⟩:=ud.cells HX3.out;have HR3:=Aside0.mk (Kd.R_reads' hR3);have HB3:=Aside0.mk (u1c HB2.out HB2.out.size hB3);have HRL3:=Aside0.mk (Kd.C_below HRL.out hB3);have HRM3:=Aside0.mk (Kd.C_below HRM.out hB3);clear hR3 hB3)
  | (go_at_call 13;(with_reducible refine (uz.calls k a0 A1 c1 L A2 c2 l2 a3 a4 a5 false _ HRL3.out HL1.out HRM3.out HC2.out HCN.out).mono ?_);rintro e W4 ⟨rfl,hB4⟩;have HB4:=Aside0.mk (u1c HB3.out HB3.out.size hB4);clear hB4)
  | (go_at_call 8;(with_reducible refine (dryrotlaw10_awake.calls k true _ (HG.out.below HB4.out) HA.out).mono ?_);rintro e W5 ⟨rfl,hB5⟩;have HB5:=Aside0.mk (u1c HB4.out HB4.out.size hB5);clear hB5))
 go_ret
 exact ⟨rfl,HB5.out⟩
set_option maxHeartbeats 16000000 in
set_option maxRecDepth 10000 in
theorem u1d.calls_good (k:Nat) (a0:Int) (A1:Option Addr) (c1:Nat) (l1 L:List u1d.Rw) (A2:Option Addr) (c2:Nat) (l2:List u1d.Mt) (a3 a4 a5 x:Int) (b:List Int) (o:ud.Ou) (w:World) (hr1:Kd.C k59 w A1 l1.length l1) (hc1:l1.length ≤ c1) (hr2:Kd.C k79 w A2 l2.length l2) (hc2:l2.length ≤ c2) (hG:strings_ToValidUTF8.Gd w)
 (hL:u1x.cutR l1 = L) (he:un.f k a0 L l2 a3 a4 a5 = some (b,0)) (hb0:0 < b.length) (hbl:b.length ≤ 1000000) (h256:∀ y ∈ b,0 ≤ y ∧ y < 256) (hx:0 ≤ x ∧ x < 256)
 (hd1:ud.dec k b = some (o,0)) (hd2:ud.dec k (b ++ [x]) = some (⟨0,[],[],0,0,0⟩,5)) (hd3:ud.dec k (b.take (b.length - 1)) = some (⟨0,[],[],0,0,0⟩,5)) (hs:u1d.SameH o a0 L l2 a3 a4 a5) :
 Calls Tryz.prog 4 #[.agg #[.int .i64 a0,.slice A1 l1.length c1,.slice A2 l2.length c2,.int .i64 a3,.int .i64 a4,.int .i64 a5],.int .u8 x] w fun e w' => e = .returned (.bool true) ∧ Below w.heap.size w w':=by
 have HL:=Aside0.mk hL
 have HR1:=Aside0.mk hr1
 have HR2:=Aside0.mk hr2
 have HC1:=Aside0.mk hc1
 have HC2:=Aside0.mk hc2
 have HG:=Aside0.mk hG
 have HE:=Aside0.mk he
 have HBL:Aside0 (0 < b.length ∧ b.length ≤ 1000000):=⟨⟨hb0,hbl⟩⟩
 have H256:=Aside0.mk h256
 have H256x:Aside0 (∀ y ∈ b ++ [x],0 ≤ y ∧ y < 256):=⟨fun y hy => by rcases List.mem_append.1 hy with h9 | h9;exact h256 y h9;rcases List.mem_cons.1 h9 with rfl | h8;exact hx;cases h8⟩
 have H256t:Aside0 (∀ y ∈ b.take (b.length - 1),0 ≤ y ∧ y < 256):=⟨fun y hy => h256 y (List.mem_of_mem_take hy)⟩
 have HCL:Aside0 (u3h.f b = some b):=⟨if_pos (by omega)⟩
 have HLT:Aside0 ((b.take (b.length - 1)).length = b.length - 1):=⟨by rw [List.length_take];omega⟩
 have HD1:=Aside0.mk hd1
 have HD2:=Aside0.mk hd2
 have HD3:=Aside0.mk hd3
 have HS:=Aside0.mk hs
 have HX0:=Aside0.mk (u3d w (.cells #[.int .i64 a0,.slice A1 l1.length c1,.slice A2 l2.length c2,.int .i64 a3,.int .i64 a4,.int .i64 a5] 26))
 obtain ⟨okd,orows,oms,ofr,oto,okp⟩:=o
 clear hL hr1 hr2 hc1 hc2 hG he h256 hx hd1 hd2 hd3 hs hb0 hbl
 go_enter Tryz.func4,Tryz.ntmps4
 go_wp2_with (first
  | (go_at_call 12;(with_reducible refine (u1x.calls a0 A1 c1 l1 A2 l2.length c2 a3 a4 a5 _ (Kd.C_below HR1.out (uj (Below.refl _ _) _)) HC1.out).mono ?_);rw [HL.out];rintro e W1 ⟨rfl,hC1,hL1,hB1⟩;have HX1:=Aside0.mk (u1a HX0.out hB1);obtain ⟨⟨p0,p1,p2,p3,p4,p5⟩,⟨q0,q1,q2,q3,q4,q5⟩⟩:=ud.cells HX1.out;have hb1:=u1c (uj (Below.refl _ w) _) (uj (Below.refl _ w) _).size hB1;obtain ⟨W2,hW2⟩:∃ W2,Aside0 (((((((W1.setCell ⟨w.heap.size,0,none⟩ (.int .i64 a0)).setCell ⟨w.heap.size,1,none⟩ (.slice A1 L.length c1)).setCell ⟨w.heap.size,2,none⟩ (.slice A2 l2.length c2)).setCell ⟨w.heap.size,3,none⟩ (.int .i64 a3)).setCell ⟨w.heap.size,4,none⟩ (.int .i64 a4)).setCell ⟨w.heap.size,5,none⟩ (.int .i64 a5)) = W2):=⟨_,⟨rfl⟩⟩;have hb2:Below w.heap.size w W2:=(by rw [← hW2.out];exact ud.below6 hb1 _ _ _ _ _ _);have HX2:Aside0 (W2.heap[w.heap.size]? = some (.cells #[.int .i64 a0,.slice A1 L.length c1,.slice A2 l2.length c2,.int .i64 a3,.int .i64 a4,.int .i64 a5] 26 (0,0))):=⟨by rw [← hW2.out];exact u1d.set6 HX1.out⟩;have HRL:Aside0 (Kd.C k59 W2 A1 L.length L):=⟨by rw [← HL.out];exact Kd.C_below (u1d.cut_C HR1.out) hb2⟩;have HL1:=Aside0.mk hL1;have HRM:=Aside0.mk (Kd.C_below HR2.out hb2);have HB2:=Aside0.mk hb2;have HG2:=Aside0.mk (HG.out.below hb2);clear hC1 hL1 hB1 hb1 hb2 HX1)
  | (go_at_call 9;rw [hW2.out];clear p0 p1 p2 p3 p4 p5 q0 q1 q2 q3 q4 q5;(with_reducible refine (un.callsP k a0 A1 c1 L A2 c2 l2 a3 a4 a5 b 0 W2 HRL.out HL1.out HRM.out HC2.out HG2.out HE.out).mono ?_);rintro e W3 ⟨v3,rfl,hR3,hB3⟩;obtain ⟨A9,c9,e3⟩:=Kd.R_slice hR3;subst e3;have HX3:=Aside0.mk (u1a HX2.out hB3);obtain ⟨⟨p0,p1,p2,p3,p4,p5⟩,_⟩:=ud.cells HX3.out;have HR3:=Aside0.mk (Kd.R_reads' hR3);have HB3:=Aside0.mk (u1c HB2.out HB2.out.size hB3);have HRL3:=Aside0.mk (Kd.C_below HRL.out hB3);have HRM3:=Aside0.mk (Kd.C_below HRM.out hB3);clear hR3 hB3)
  | (go_at_call 6;(with_reducible refine (u1d.dec_at k A9 c9 b.length b okd orows oms ofr oto okp 0 W3 rfl HR3.out.2.2 HR3.out.2.1 (by have h9:=HBL.out;omega) H256.out (HG.out.below HB3.out) HD1.out).mono ?_);rintro e W4 ⟨D1,e1,D2,e2,rfl,⟨hq1,hS1⟩,⟨hq2,hS2⟩,hB4⟩;obtain ⟨W5,hW5⟩:∃ W5,Aside0 (W4.alloc (.cells #[.int .i64 okd,.slice D1 orows.length e1,.slice D2 oms.length e2,.int .i64 ofr,.int .i64 oto,.int .i64 okp] 26) = W5):=⟨_,⟨rfl⟩⟩;have hb5:Below W3.heap.size W3 W5:=(by rw [← hW5.out];exact uj hB4 _);have hB45:Below W4.heap.size W4 W5:=(by rw [← hW5.out];exact uj (Below.refl _ _) _);have HY5:Aside0 (W5.heap[W4.heap.size]? = some (.cells #[.int .i64 okd,.slice D1 orows.length e1,.slice D2 oms.length e2,.int .i64 ofr,.int .i64 oto,.int .i64 okp] 26 (0,0))):=⟨by rw [← hW5.out];exact u3d _ _⟩;have HX5:=Aside0.mk (u1a HX3.out hb5);have HB5:=Aside0.mk (u1c HB3.out HB3.out.size hb5);have HRb:=Aside0.mk (Kd.C_below HR3.out.2.2 hb5);have HRL5:=Aside0.mk (Kd.C_below HRL3.out hb5);have HRM5:=Aside0.mk (Kd.C_below HRM3.out hb5);have HS1:=Aside0.mk (Kd.C_below hS1 hB45);have HS2:=Aside0.mk (Kd.C_below hS2 hB45);have HQ1:=Aside0.mk hq1;have HQ2:=Aside0.mk hq2;clear p0 p1 p2 p3 p4 p5 hB4 hb5 hB45 hS1 hS2 hq1 hq2)
  | (go_at_call 14;rw [hW5.out];(with_reducible refine (u3h.calls A9 c9 b b W5 HRb.out HR3.out.2.1 HCL.out).mono ?_);rintro e W6 ⟨v6,rfl,hR6,hB6⟩;have HR6:=Aside0.mk hR6;have HB6:=Aside0.mk hB6;clear hR6 hB6)
  | (at_builtin;refine Kd.R_append (Kd.int .u8) (w0:=W5) (W:=W6) W5.heap.size rfl (.tmp 40) (.tmp 42) 22 5 (.int .u8 0) 1 rfl Tryz.underlying22 u1d.info rfl (by decide) (by decide) _ b x [.int .u8 x] (fun _ => True) (fun _ => False) rfl rfl rfl (fun _ hk => hk.elim) (fun _ _ => trivial) HR6.out HB6.out HB6.out.size ?hbig ?hgo))
 case hbig =>
  have h9:=HBL.out
  omega
 case hgo =>
  intro v7 W7 hR7 hB7 _ _
  obtain ⟨A7,c7,e7⟩:=Kd.R_slice hR7
  replace e7:v7 = .slice A7 (b.length + 1) c7:=by rw [e7,List.length_append];rfl
  have HR7:Aside0 (b.length + 1 ≤ c7 ∧ Kd.C (Kd.int .u8) W7 A7 (b ++ [x]).length (b ++ [x])):=⟨by
   rw [e7] at hR7
   have h9:=Kd.R_reads' hR7
   rw [h9.1] at h9
   refine ⟨?_,h9.2.2⟩
   have h8:=h9.2.1
   rw [List.length_append] at h8
   exact h8⟩
  subst e7
  have HX7:=Aside0.mk (u1a HX5.out hB7)
  have HY7:=Aside0.mk (u1a HY5.out hB7)
  have HB7:=Aside0.mk (u1c HB5.out HB5.out.size hB7)
  have HRb7:=Aside0.mk (Kd.C_below HRb.out hB7)
  have HRL7:=Aside0.mk (Kd.C_below HRL5.out hB7)
  have HRM7:=Aside0.mk (Kd.C_below HRM5.out hB7)
  have HS17:=Aside0.mk (Kd.C_below HS1.out hB7)
  have HS27:=Aside0.mk (Kd.C_below HS2.out hB7)
  clear hR7 hB7
  have hmn:min (1:Int) (b.length:Int) = 1:=by have h9:=HBL.out;omega
  have hmn2:(if (b.length:Int) < 1 then (b.length:Int) else 1) = 1:=by have h9:=HBL.out;split <;> omega
  have hwm:wrap64 ((b.length:Int) - 1) = ((b.length - 1:Nat):Int):=by have h9:=HBL.out;unfold wrap64;omega
  obtain ⟨i0,hi0,_,hsz,_⟩:=info_parts u1d.info
  have hcut:=cut_to (P:=Tryz.prog) 22 5 .i64 Tryz.underlying22 hi0 A9 b.length c9 ((b.length - 1:Nat):Int) (by omega) (by omega) HR3.out.2.1
  simp only [Int.toNat_natCast] at hcut
  go_wp2_with (first
   | (go_at_call 6;(with_reducible refine (u1d.dec_at k A7 c7 (b.length + 1) (b ++ [x]) 0 [] [] 0 0 0 5 W7 (by simp) HR7.out.2 HR7.out.1 (by have h9:=HBL.out;simp;omega) H256x.out (HG.out.below HB7.out) HD2.out).mono ?_);rintro e W8 ⟨F1,f1,F2,f2,rfl,_,_,hB8⟩;have hb9:Below W7.heap.size W7 (W8.alloc (.cells #[.int .i64 0,.slice F1 0 f1,.slice F2 0 f2,.int .i64 0,.int .i64 0,.int .i64 0] 26)):=uj hB8 _;have HX9:=Aside0.mk (u1a HX7.out hb9);have HY9:=Aside0.mk (u1a HY7.out hb9);have HB9:=Aside0.mk (u1c HB7.out HB7.out.size hb9);have HRb9:=Aside0.mk (Kd.C_below HRb7.out hb9);have HRL9:=Aside0.mk (Kd.C_below HRL7.out hb9);have HRM9:=Aside0.mk (Kd.C_below HRM7.out hb9);have HS19:=Aside0.mk (Kd.C_below HS17.out hb9);have HS29:=Aside0.mk (Kd.C_below HS27.out hb9);clear hb9 hB8)
   | (go_at_call 6;(with_reducible refine (u1d.dec_at k A9 c9 (b.length - 1) (b.take (b.length - 1)) 0 [] [] 0 0 0 5 _ HLT.out (Kd.C_take HRb9.out (Nat.sub_le _ _)) (Nat.le_trans (Nat.sub_le _ _) HR3.out.2.1) (by have h9:=HBL.out;have h8:=HLT.out;omega) H256t.out (HG.out.below HB9.out) HD3.out).mono ?_);rintro e W10 ⟨G1,g1,G2,g2,rfl,_,_,hB10⟩;have hb11:=uj hB10 (.cells #[.int .i64 0,.slice G1 0 g1,.slice G2 0 g2,.int .i64 0,.int .i64 0,.int .i64 0] 26);have HX11:=Aside0.mk (u1a HX9.out hb11);have HY11:=Aside0.mk (u1a HY9.out hb11);have HB11:=Aside0.mk (u1c HB9.out HB9.out.size hb11);have HRL11:=Aside0.mk (Kd.C_below HRL9.out hb11);have HRM11:=Aside0.mk (Kd.C_below HRM9.out hb11);have HS111:=Aside0.mk (Kd.C_below HS19.out hb11);have HS211:=Aside0.mk (Kd.C_below HS29.out hb11);obtain ⟨⟨p0,p1,p2,p3,p4,p5⟩,_⟩:=ud.cells HX11.out;obtain ⟨⟨r0,r1,r2,r3,r4,r5⟩,_⟩:=ud.cells HY11.out;clear hb11 hB10)
   | (go_at_call 15;have hsm:=HS.out (W10.alloc (.cells #[.int .i64 0,.slice G1 0 g1,.slice G2 0 g2,.int .i64 0,.int .i64 0,.int .i64 0] 26)) D1 D2 A1 A2 e1 e2 c1 c2 HS111.out HQ1.out HS211.out HQ2.out HRL11.out HL1.out HRM11.out HC2.out;dsimp only at hsm;(with_reducible refine hsm.mono ?_);clear hsm;rintro e W12 ⟨rfl,hB12⟩;have HB12:=Aside0.mk (u1c HB11.out HB11.out.size hB12);clear hB12))
  go_ret
  exact ⟨rfl,HB12.out⟩
end Go.Proofs.YtgnehcgaplnfkaaGreatDoor.PAll
