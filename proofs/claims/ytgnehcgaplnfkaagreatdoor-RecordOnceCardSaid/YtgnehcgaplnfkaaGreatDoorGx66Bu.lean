/- A text of this seat. -/
import Derived.Test.YtgnehcgaplnfkaaGreatDoorBu1
import Derived.Test.YtgnehcgaplnfkaaGreatDoorBu7
import Derived.Test.YtgnehcgaplnfkaaGreatDoorBu2
import Derived.Test.YtgnehcgaplnfkaaGreatDoorBu4
import Derived.Test.YtgnehcgaplnfkaaGreatDoorBu6
namespace Go.Proofs.YtgnehcgaplnfkaaGreatDoor.PAll
open Go.RowKit Go.Proofs.YtgnehcgaplnfkaaGreatDoorW.PrintWords Go.Proofs.YtgnehcgaplnfkaaGreatDoorW.PrintLast Go.Proofs.YtgnehcgaplnfkaaGreatDoorW.PrintMore
attribute [local go_sem] u3r u3o u3w u3x u3h u3g u3p u3q   -- for this text's walks alone
set_option linter.unusedVariables false
set_option linter.unusedSimpArgs false
-- uses dryrotref10_Int dryrotref10_rows dryrotref09_Decode dryrotref10_Can
def uk.f:Option Int:=none
def uk.fin (k:Nat) (a:Int) (l:List S59) (m:List S79) (x y z:Int) (q:List Int):Option Int :=
 if q ≠ [] then some 5 else (u1g.f k a l m x y z).bind fun c => some (if c = true then 0 else 5)
def uk.err (k:Nat):List Int → Option Int
 | [] => some 5
 | c :: r => if c = 1 then (u1o.top k r).bind fun z => match z with
     | none => some 5
     | some y => uk.fin k 1 y.1 [] 0 0 0 y.2
   else if c = 2 then (ux.f k r).bind fun z => if z.2.2 ≠ 0 then some 5 else match ut.int 8 z.2.1 with
    | none => some 5
    | some u => match ut.int 8 u.2 with
      | none => some 5
      | some v => uk.fin k 2 [] z.1 u.1 v.1 0 v.2
   else if c = 3 then (match ut.int 8 r with
    | none => some 5
    | some u => uk.fin k 3 [] [] 0 0 u.1 u.2)
   else some 5
theorem uk.err_cons (k:Nat) (c:Int) (r:List Int):uk.err k (c :: r) = (if c = 1 then (u1o.top k r).bind fun z => match z with
 | none => some 5
 | some y => uk.fin k 1 y.1 [] 0 0 0 y.2
 else if c = 2 then (ux.f k r).bind fun z => if z.2.2 ≠ 0 then some 5 else match ut.int 8 z.2.1 with
  | none => some 5
  | some u => match ut.int 8 u.2 with
    | none => some 5
    | some v => uk.fin k 2 [] z.1 u.1 v.1 0 v.2
 else if c = 3 then (match ut.int 8 r with
  | none => some 5
  | some u => uk.fin k 3 [] [] 0 0 u.1 u.2)
 else some 5):=rfl
structure uk.Inv (w W:World) (a:Int) (vR vM:Value) (x y z:Int):Prop where
 below:Below w.heap.size w W
 res:W.heap[w.heap.size]? = some (.cells #[.int .i64 0,.slice none 0 0,.slice none 0 0,.int .i64 0,.int .i64 0,.int .i64 0] 26 (0,0))
 cur:W.heap[w.heap.size + 1]? = some (.cells #[.int .i64 a,vR,vM,.int .i64 x,.int .i64 y,.int .i64 z] 26 (0,0))
theorem uk.Inv.more {w W W':World} {a x y z:Int} {vR vM:Value} (h:uk.Inv w W a vR vM x y z) (hb:Below W.heap.size W W'):uk.Inv w W' a vR vM x y z:=⟨u1j h.below h.below.size hb,u1k h.res hb,u1k h.cur hb⟩
theorem uk.Inv.store {w W:World} {a x y z:Int} {vR vM:Value} {a' x' y' z':Int} {vR' vM':Value} (h:uk.Inv w W a vR vM x y z) (i:Nat) (u:Value) (hc:(#[.int .i64 a,vR,vM,.int .i64 x,.int .i64 y,.int .i64 z]:Array Value).setIfInBounds i u = #[.int .i64 a',vR',vM',.int .i64 x',.int .i64 y',.int .i64 z']):uk.Inv w (W.setCell ⟨w.heap.size + 1,i,none⟩ u) a' vR' vM' x' y' z' :=
 ⟨h.below.setCell (Nat.le_succ _) _,blk_far h.res (by simp) _,by rw [u4a h.cur,hc]⟩
theorem uk.cells {w:World} {g:Nat} {a b c d e f:Value} {t:TypeId} (h:w.heap[g]? = some (.cells #[a,b,c,d,e,f] t (0,0))):(w.cell? ⟨g,0,none⟩ = some a ∧ w.cell? ⟨g,1,none⟩ = some b ∧ w.cell? ⟨g,2,none⟩ = some c ∧ w.cell? ⟨g,3,none⟩ = some d ∧ w.cell? ⟨g,4,none⟩ = some e ∧ w.cell? ⟨g,5,none⟩ = some f) ∧ (w.frozen? ⟨g,0,none⟩ = false ∧ w.frozen? ⟨g,1,none⟩ = false ∧ w.frozen? ⟨g,2,none⟩ = false ∧ w.frozen? ⟨g,3,none⟩ = false ∧ w.frozen? ⟨g,4,none⟩ = false ∧ w.frozen? ⟨g,5,none⟩ = false):=by
 have h0:=ul h 0
 have h1:=ul h 1
 have h2:=ul h 2
 have h3:=ul h 3
 have h4:=ul h 4
 have h5:=ul h 5
 simp only [List.size_toArray,List.length_cons,List.length_nil,List.getElem?_toArray,List.getElem?_cons_zero,List.getElem?_cons_succ] at h0 h1 h2 h3 h4 h5
 exact ⟨⟨h0,h1,h2,h3,h4,h5⟩,uq h 0,uq h 1,uq h 2,uq h 3,uq h 4,uq h 5⟩
theorem uk.Inv.init (w:World) (a:Int):uk.Inv w ((w.alloc (.cells #[.int .i64 0,.slice none 0 0,.slice none 0 0,.int .i64 0,.int .i64 0,.int .i64 0] 26)).alloc (.cells #[.int .i64 a,.slice none 0 0,.slice none 0 0,.int .i64 0,.int .i64 0,.int .i64 0] 26)) a (.slice none 0 0) (.slice none 0 0) 0 0 0:=by
 refine ⟨uj (uj (Below.refl _ _) _) _,u1k (u3c w _) (uj (Below.refl _ _) _),?_⟩
 have h9:=u3c (w.alloc (.cells #[.int .i64 0,.slice none 0 0,.slice none 0 0,.int .i64 0,.int .i64 0,.int .i64 0] 26)) (.cells #[.int .i64 a,.slice none 0 0,.slice none 0 0,.int .i64 0,.int .i64 0,.int .i64 0] 26)
 simp only [World.size_alloc] at h9
 exact h9
theorem uk.can_at (k:Nat) (a:Int) (l:List S59) (m:List S79) (x y z:Int) (vR vM:Value) (c:Bool) (W:World) (b b':Nat) (ok ok':Nat → Prop) (hR:Kd.R k59 59 W b ok vR l) (hM:Kd.R k79 79 W b' ok' vM m) (h:u1g.f k a l m x y z = some c) :
 Calls Tryz.prog 13 #[.agg #[.int .i64 a,vR,vM,.int .i64 x,.int .i64 y,.int .i64 z]] W fun e W' => e = .returned (.bool c) ∧ Below W.heap.size W W':=by
 obtain ⟨AR,cR,rfl⟩:=Kd.R_slice hR
 obtain ⟨AM,cM,rfl⟩:=Kd.R_slice hM
 exact u1g.calls k a AR cR l AM cM m x y z c W (Kd.R_reads' hR).2.2 (Kd.R_reads' hR).2.1 (Kd.R_reads' hM).2.2 (Kd.R_reads' hM).2.1 h
theorem uk.below6 {w W:World} (h:Below w.heap.size w W) (x0 x1 x2 x3 x4 x5:Value):Below w.heap.size w ((((((W.setCell ⟨w.heap.size,0,none⟩ x0).setCell ⟨w.heap.size,1,none⟩ x1).setCell ⟨w.heap.size,2,none⟩ x2).setCell ⟨w.heap.size,3,none⟩ x3).setCell ⟨w.heap.size,4,none⟩ x4).setCell ⟨w.heap.size,5,none⟩ x5) :=
 ((((((h.setCell (Nat.le_refl _) _).setCell (Nat.le_refl _) _).setCell (Nat.le_refl _) _).setCell (Nat.le_refl _) _).setCell (Nat.le_refl _) _).setCell (Nat.le_refl _) _)
def uk.Agg (v:Value):Prop:=∃ (x:Int) (A1:Option Addr) (n1 c1:Nat) (A2:Option Addr) (n2 c2:Nat) (y z u:Int),v = .agg #[.int .i64 x,.slice A1 n1 c1,.slice A2 n2 c2,.int .i64 y,.int .i64 z,.int .i64 u]
def uk.Ret (w w':World) (r:Int) (e:Ending):Prop:=(∃ v:Value,uk.Agg v ∧ e = .returned (.tuple #[v,.int .i64 r])) ∧ Below w.heap.size w w'
set_option maxHeartbeats 8000000 in
set_option maxRecDepth 10000 in
theorem uk.calls (k:Nat) (A0:Option Addr) (c0:Nat) (l0:List Int) (r:Int) (w:World) (hr0:Kd.C (Kd.int .u8) w A0 l0.length l0) (hc0:l0.length ≤ c0) (h256:∀ y ∈ l0,0 ≤ y ∧ y < 256) (h:uk.err k l0 = some r) :
 Calls Tryz.prog 7 #[.slice A0 l0.length c0] w fun e w' => uk.Ret w w' r e:=by
 cases l0 with
 | nil =>
   obtain rfl:5 = r:=Option.some.inj h
   clear hr0 h256 h
   go_enter Tryz.func7,Tryz.ntmps7
   go_wp2
   refine bodyPost_ret (v:=.tuple #[.agg #[.int .i64 0,.slice none 0 0,.slice none 0 0,.int .i64 0,.int .i64 0,.int .i64 0],.int .i64 5]) (by simp [results,Tryz.results7,go_sem]) rfl ?_
   exact ⟨⟨_,⟨_,_,_,_,_,_,_,_,_,_,rfl⟩,rfl⟩,uj (Below.refl _ _) _⟩
 | cons c q =>
   obtain ⟨n,rfl,hn⟩:∃ n:Nat,c = (n:Int) ∧ n < 256:=by
    have h9:=h256 c (List.mem_cons_self ..)
    exact ⟨c.toNat,by omega,by omega⟩
   have hq:∀ y ∈ q,0 ≤ y ∧ y < 256:=fun y hy => h256 y (List.mem_cons_of_mem _ hy)
   simp only [List.length_cons] at hc0
   obtain ⟨ad,A1,rfl,hx,hcut,hC1⟩:=ux.take1 hr0 hc0
   have HQ:=Aside0.mk hq
   have HC1:=Aside0.mk hC1
   have HF1:=Aside0.mk (Kd.C_F (Kd.heap_int .u8) hC1)
   have HL1:Aside0 (q.length ≤ c0 - 1):=⟨by omega⟩
   have H:=Aside0.mk h
   have d00:((q.length:Int) + 1 == 0) = false:=beq_eq_false_iff_ne.2 (by omega)
   have hw:wrap64 (n:Int) = n:=by unfold wrap64;omega
   have hlt:=World.block_lt_of_cell? w _ hx
   have hxa:∀ o,(w.alloc o).cell? ad = some (.int .u8 (n:Int)):=fun o => ((uj (Below.refl w.heap.size w) o).cell (p:=ad) hlt).trans hx
   clear h hq h256 hr0 hC1 hx hlt
   simp only [List.length_cons]
   obtain ⟨W1,hW1⟩:∃ W1,Aside0 ((w.alloc (.cells #[.int .i64 0,.slice none 0 0,.slice none 0 0,.int .i64 0,.int .i64 0,.int .i64 0] 26)).alloc (.cells #[.int .i64 (n:Int),.slice none 0 0,.slice none 0 0,.int .i64 0,.int .i64 0,.int .i64 0] 26) = W1):=⟨_,⟨rfl⟩⟩
   have hI:=uk.Inv.init w (n:Int)
   rw [hW1.out] at hI
   have HI:=Aside0.mk hI
   clear hI
   have ng1:w.heap.size ≠ w.heap.size + 1:=by omega
   have ng2:=ng1.symm
   by_cases hk1:(n:Int) = 1
   · skip
     have h9:=H.out
     rw [uk.err_cons,if_pos hk1] at h9
     obtain ⟨z,hz,h8⟩:=Option.bind_eq_some_iff.1 h9
     have HZ:=Aside0.mk hz
     clear h9 hz H
     have t1:((n:Int) == 1) = true:=beq_iff_eq.2 hk1
     have HKN:=Aside0.mk hk1
     clear hk1 hn
     cases z with
     | none =>
       obtain rfl:5 = r:=Option.some.inj h8
       clear h8
       go_enter Tryz.func7,Tryz.ntmps7
       go_wp2_with (first | (go_at_call 25;rw [hW1.out];(with_reducible refine (u1o.calls k A1 (c0 - 1) q _ W1 (Kd.F_now (Kd.F_below HF1.out HI.out.below)) HL1.out HQ.out HZ.out).mono ?_);rintro e W2 ⟨rfl,hB2⟩;have hI2:=HI.out.more hB2;obtain ⟨⟨e0,e1,e2,e3,e4,e5⟩,⟨z0,z1,z2,z3,z4,z5⟩⟩:=uk.cells hI2.res;obtain ⟨⟨p0,p1,p2,p3,p4,p5⟩,⟨y0,y1,y2,y3,y4,y5⟩⟩:=uk.cells hI2.cur;have HI3:=Aside0.mk (hI2.store (vR':=.slice none 0 0) 1 (.slice none 0 0) rfl);clear hB2 hI2))
       refine bodyPost_ret (v:=.tuple #[.agg #[.int .i64 0,.slice none 0 0,.slice none 0 0,.int .i64 0,.int .i64 0,.int .i64 0],.int .i64 5]) (by simp [results,Tryz.results7,go_sem,e0,e1,e2,e3,e4,e5,z0,z1,z2,z3,z4,z5]) rfl ?_
       exact ⟨⟨_,⟨_,_,_,_,_,_,_,_,_,_,rfl⟩,rfl⟩,uk.below6 HI3.out.below _ _ _ _ _ _⟩
     | some y =>
       obtain ⟨l,q2⟩:=y
       have HFN:Aside0 (uk.fin k (n:Int) l [] 0 0 0 q2 = some r):=⟨by rw [HKN.out];exact h8⟩
       clear h8
       cases q2 with
       | cons z9 q9 =>
         obtain rfl:5 = r:=by
          have h9:=HFN.out
          unfold uk.fin at h9
          rw [if_pos (by intro h8;cases h8)] at h9
          exact Option.some.inj h9
         have d1:decide ((q9.length:Int) + 1 > 0) = true:=decide_eq_true (by omega)
         have d2:decide (0 < (q9.length:Int) + 1) = true:=decide_eq_true (by omega)
         have d3:decide (0 < q9.length + 1) = true:=decide_eq_true (by omega)
         go_enter Tryz.func7,Tryz.ntmps7
         go_wp2_with (first | (go_at_call 25;rw [hW1.out];(with_reducible refine (u1o.calls k A1 (c0 - 1) q _ W1 (Kd.F_now (Kd.F_below HF1.out HI.out.below)) HL1.out HQ.out HZ.out).mono ?_);rintro e W2 ⟨⟨v2,A2,c2,rfl,hR2⟩,hB2⟩;obtain ⟨AR,cR,eR⟩:=Kd.R_slice hR2;subst eR;have hI2:=HI.out.more hB2;obtain ⟨⟨e0,e1,e2,e3,e4,e5⟩,⟨z0,z1,z2,z3,z4,z5⟩⟩:=uk.cells hI2.res;obtain ⟨⟨p0,p1,p2,p3,p4,p5⟩,⟨y0,y1,y2,y3,y4,y5⟩⟩:=uk.cells hI2.cur;have HI3:=Aside0.mk (hI2.store (vR':=.slice AR l.length cR) 1 (.slice AR l.length cR) rfl);have HR2:Aside0 (∀ j u,Kd.R k59 59 (W2.setCell ⟨w.heap.size + 1,j,none⟩ u) W1.heap.size (fun _ => True) (.slice AR l.length cR) l):=⟨fun j u => Kd.R_mono (Kd.R_far (p:=⟨w.heap.size + 1,j,none⟩) (Kd.R_bound hR2) (fun k9 hk9 => by have h1:=hk9.2.1;have h2:=u2j HI.out.cur;simp only;omega) u) (fun _ _ => trivial)⟩;clear hB2 hI2 hR2))
         refine bodyPost_ret (v:=.tuple #[.agg #[.int .i64 0,.slice none 0 0,.slice none 0 0,.int .i64 0,.int .i64 0,.int .i64 0],.int .i64 5]) (by simp [results,Tryz.results7,go_sem,e0,e1,e2,e3,e4,e5,z0,z1,z2,z3,z4,z5]) rfl ?_
         exact ⟨⟨_,⟨_,_,_,_,_,_,_,_,_,_,rfl⟩,rfl⟩,uk.below6 HI3.out.below _ _ _ _ _ _⟩
       | nil =>
         obtain ⟨c9,HC9,h8⟩:∃ c9,Aside0 (u1g.f k ((n:Int)) l [] 0 0 0 = some c9) ∧ (if c9 = true then (0:Int) else 5) = r:=by
          have h9:=HFN.out
          unfold uk.fin at h9
          rw [if_neg (by intro h8;exact h8 rfl)] at h9
          obtain ⟨c9,hc9,h8⟩:=Option.bind_eq_some_iff.1 h9
          exact ⟨c9,⟨hc9⟩,Option.some.inj h8⟩
         cases c9 with
         | true =>
           obtain rfl:0 = r:=by simpa using h8
           clear h8
           go_enter Tryz.func7,Tryz.ntmps7
           go_wp2_with (first | (go_at_call 25;rw [hW1.out];(with_reducible refine (u1o.calls k A1 (c0 - 1) q _ W1 (Kd.F_now (Kd.F_below HF1.out HI.out.below)) HL1.out HQ.out HZ.out).mono ?_);rintro e W2 ⟨⟨v2,A2,c2,rfl,hR2⟩,hB2⟩;obtain ⟨AR,cR,eR⟩:=Kd.R_slice hR2;subst eR;have hI2:=HI.out.more hB2;obtain ⟨⟨e0,e1,e2,e3,e4,e5⟩,⟨z0,z1,z2,z3,z4,z5⟩⟩:=uk.cells hI2.res;obtain ⟨⟨p0,p1,p2,p3,p4,p5⟩,⟨y0,y1,y2,y3,y4,y5⟩⟩:=uk.cells hI2.cur;have HI3:=Aside0.mk (hI2.store (vR':=.slice AR l.length cR) 1 (.slice AR l.length cR) rfl);have HR2:Aside0 (∀ j u,Kd.R k59 59 (W2.setCell ⟨w.heap.size + 1,j,none⟩ u) W1.heap.size (fun _ => True) (.slice AR l.length cR) l):=⟨fun j u => Kd.R_mono (Kd.R_far (p:=⟨w.heap.size + 1,j,none⟩) (Kd.R_bound hR2) (fun k9 hk9 => by have h1:=hk9.2.1;have h2:=u2j HI.out.cur;simp only;omega) u) (fun _ _ => trivial)⟩;clear hB2 hI2 hR2) | (go_at_call 13;(with_reducible refine (uk.can_at k ((n:Int)) l [] 0 0 0 _ _ true _ _ _ _ _ (HR2.out _ _) (Kd.R_nil k79 79 _ 0 (fun _ => True)) HC9.out).mono ?_);rintro e W9 ⟨rfl,hB9⟩;have hI9:=HI3.out.more hB9;(try clear e0 e1 e2 e3 e4 e5 z0 z1 z2 z3 z4 z5 p0 p1 p2 p3 p4 p5 y0 y1 y2 y3 y4 y5);obtain ⟨⟨e0,e1,e2,e3,e4,e5⟩,⟨z0,z1,z2,z3,z4,z5⟩⟩:=uk.cells hI9.res;obtain ⟨⟨p0,p1,p2,p3,p4,p5⟩,⟨y0,y1,y2,y3,y4,y5⟩⟩:=uk.cells hI9.cur;have HI9:=Aside0.mk hI9;clear hI9 hB9))
           refine bodyPost_ret (v:=.tuple #[.agg #[.int .i64 (n:Int),.slice AR l.length cR,.slice none 0 0,.int .i64 0,.int .i64 0,.int .i64 0],.int .i64 0]) (by simp [results,Tryz.results7,go_sem,e0,e1,e2,e3,e4,e5,z0,z1,z2,z3,z4,z5]) rfl ?_
           exact ⟨⟨_,⟨_,_,_,_,_,_,_,_,_,_,rfl⟩,rfl⟩,uk.below6 HI9.out.below _ _ _ _ _ _⟩
         | false =>
           obtain rfl:5 = r:=by simpa using h8
           clear h8
           go_enter Tryz.func7,Tryz.ntmps7
           go_wp2_with (first | (go_at_call 25;rw [hW1.out];(with_reducible refine (u1o.calls k A1 (c0 - 1) q _ W1 (Kd.F_now (Kd.F_below HF1.out HI.out.below)) HL1.out HQ.out HZ.out).mono ?_);rintro e W2 ⟨⟨v2,A2,c2,rfl,hR2⟩,hB2⟩;obtain ⟨AR,cR,eR⟩:=Kd.R_slice hR2;subst eR;have hI2:=HI.out.more hB2;obtain ⟨⟨e0,e1,e2,e3,e4,e5⟩,⟨z0,z1,z2,z3,z4,z5⟩⟩:=uk.cells hI2.res;obtain ⟨⟨p0,p1,p2,p3,p4,p5⟩,⟨y0,y1,y2,y3,y4,y5⟩⟩:=uk.cells hI2.cur;have HI3:=Aside0.mk (hI2.store (vR':=.slice AR l.length cR) 1 (.slice AR l.length cR) rfl);have HR2:Aside0 (∀ j u,Kd.R k59 59 (W2.setCell ⟨w.heap.size + 1,j,none⟩ u) W1.heap.size (fun _ => True) (.slice AR l.length cR) l):=⟨fun j u => Kd.R_mono (Kd.R_far (p:=⟨w.heap.size + 1,j,none⟩) (Kd.R_bound hR2) (fun k9 hk9 => by have h1:=hk9.2.1;have h2:=u2j HI.out.cur;simp only;omega) u) (fun _ _ => trivial)⟩;clear hB2 hI2 hR2) | (go_at_call 13;(with_reducible refine (uk.can_at k ((n:Int)) l [] 0 0 0 _ _ false _ _ _ _ _ (HR2.out _ _) (Kd.R_nil k79 79 _ 0 (fun _ => True)) HC9.out).mono ?_);rintro e W9 ⟨rfl,hB9⟩;have hI9:=HI3.out.more hB9;(try clear e0 e1 e2 e3 e4 e5 z0 z1 z2 z3 z4 z5 p0 p1 p2 p3 p4 p5 y0 y1 y2 y3 y4 y5);obtain ⟨⟨e0,e1,e2,e3,e4,e5⟩,⟨z0,z1,z2,z3,z4,z5⟩⟩:=uk.cells hI9.res;obtain ⟨⟨p0,p1,p2,p3,p4,p5⟩,⟨y0,y1,y2,y3,y4,y5⟩⟩:=uk.cells hI9.cur;have HI9:=Aside0.mk hI9;clear hI9 hB9))
           refine bodyPost_ret (v:=.tuple #[.agg #[.int .i64 0,.slice none 0 0,.slice none 0 0,.int .i64 0,.int .i64 0,.int .i64 0],.int .i64 5]) (by simp [results,Tryz.results7,go_sem,e0,e1,e2,e3,e4,e5,z0,z1,z2,z3,z4,z5]) rfl ?_
           exact ⟨⟨_,⟨_,_,_,_,_,_,_,_,_,_,rfl⟩,rfl⟩,uk.below6 HI9.out.below _ _ _ _ _ _⟩
   · by_cases hk2:(n:Int) = 2
     · skip
       have h9:=H.out
       rw [uk.err_cons,if_neg hk1,if_pos hk2] at h9
       obtain ⟨⟨m,q2,er⟩,hz,h8⟩:=Option.bind_eq_some_iff.1 h9
       simp only at h8
       have HZ:=Aside0.mk hz
       clear h9 hz H
       have t1:((n:Int) == 1) = false:=beq_eq_false_iff_ne.2 (by omega)
       have u1:(n == 1) = false:=beq_eq_false_iff_ne.2 (by omega)
       have t2:((n:Int) == 2) = true:=beq_iff_eq.2 hk2
       have HKN:=Aside0.mk hk2
       clear hk1 hk2 hn
       by_cases he2:er = 0
       rotate_left
       · have hq2:=ux.f_err HZ.out he2
         subst hq2
         rw [if_pos he2] at h8
         obtain rfl:5 = r:=Option.some.inj h8
         have b1:(er == 0) = false:=beq_eq_false_iff_ne.2 he2
         clear h8 he2
         go_enter Tryz.func7,Tryz.ntmps7
         go_wp2_with (first | (go_at_call 26;rw [hW1.out];(with_reducible refine (ux.calls k A1 (c0 - 1) q m [] er W1 (Kd.F_now (Kd.F_below HF1.out HI.out.below)) HL1.out HZ.out).mono ?_);rintro e W2 ⟨v2,vq,rfl,hR2,hRq,hB2⟩;obtain ⟨AM,cM,eM⟩:=Kd.R_slice hR2;subst eM;obtain ⟨Aq,cq,eq⟩:=Kd.R_slice hRq;subst eq;have HI2:=Aside0.mk (HI.out.more hB2);have HR2:=Aside0.mk (Kd.R_mono (Kd.R_bound hR2) (ok':=fun k9 => k9 ≠ w.heap.size + 1) (fun k9 hk9 => by have h1:=hk9.2.1;have h2:=u2j HI.out.cur;omega));have HRQ:=Aside0.mk hRq;clear hR2 hRq hB2) | (go_at_call 27;first | ((with_reducible refine (ut.zero8 Aq cq _).mono ?_);rintro e W3 ⟨rfl,hB3⟩;have HI3:=Aside0.mk (HI2.out.more hB3);clear hB3) | (((with_reducible refine (ut.nil8 _).mono ?_);rintro e W4 ⟨rfl,hB4⟩;have hI4:=HI3.out.more hB4;obtain ⟨⟨e0,e1,e2,e3,e4,e5⟩,⟨z0,z1,z2,z3,z4,z5⟩⟩:=uk.cells hI4.res;obtain ⟨⟨p0,p1,p2,p3,p4,p5⟩,⟨y0,y1,y2,y3,y4,y5⟩⟩:=uk.cells hI4.cur;have HI4:=Aside0.mk hI4;clear hB4 hI4);have HI9:=Aside0.mk (((HI4.out.store (vM':=.slice AM m.length cM) 2 (.slice AM m.length cM) rfl).store (x':=0) 3 (.int .i64 0) rfl).store (y':=0) 4 (.int .i64 0) rfl))))
         refine bodyPost_ret (v:=.tuple #[.agg #[.int .i64 0,.slice none 0 0,.slice none 0 0,.int .i64 0,.int .i64 0,.int .i64 0],.int .i64 5]) (by simp [results,Tryz.results7,go_sem,e0,e1,e2,e3,e4,e5,z0,z1,z2,z3,z4,z5]) rfl ?_
         exact ⟨⟨_,⟨_,_,_,_,_,_,_,_,_,_,rfl⟩,rfl⟩,uk.below6 HI9.out.below _ _ _ _ _ _⟩
       · subst he2
         rw [if_neg (fun h7 => h7 rfl)] at h8
         cases hi1:ut.int 8 q2 with
         | none =>
           rw [hi1] at h8
           obtain rfl:5 = r:=Option.some.inj h8
           have HI1:=Aside0.mk hi1
           clear h8 hi1
           go_enter Tryz.func7,Tryz.ntmps7
           go_wp2_with (first | (go_at_call 26;rw [hW1.out];(with_reducible refine (ux.calls k A1 (c0 - 1) q m q2 0 W1 (Kd.F_now (Kd.F_below HF1.out HI.out.below)) HL1.out HZ.out).mono ?_);rintro e W2 ⟨v2,vq,rfl,hR2,hRq,hB2⟩;obtain ⟨AM,cM,eM⟩:=Kd.R_slice hR2;subst eM;obtain ⟨Aq,cq,eq⟩:=Kd.R_slice hRq;subst eq;have HI2:=Aside0.mk (HI.out.more hB2);have HR2:=Aside0.mk (Kd.R_mono (Kd.R_bound hR2) (ok':=fun k9 => k9 ≠ w.heap.size + 1) (fun k9 hk9 => by have h1:=hk9.2.1;have h2:=u2j HI.out.cur;omega));have HRQ:=Aside0.mk hRq;clear hR2 hRq hB2) | (go_at_call 27;first | ((with_reducible refine (ut.none8 Aq cq q2 _ HI1.out).mono ?_);rintro e W3 ⟨rfl,hB3⟩;have HI3:=Aside0.mk (HI2.out.more hB3);clear hB3) | (((with_reducible refine (ut.nil8 _).mono ?_);rintro e W4 ⟨rfl,hB4⟩;have hI4:=HI3.out.more hB4;obtain ⟨⟨e0,e1,e2,e3,e4,e5⟩,⟨z0,z1,z2,z3,z4,z5⟩⟩:=uk.cells hI4.res;obtain ⟨⟨p0,p1,p2,p3,p4,p5⟩,⟨y0,y1,y2,y3,y4,y5⟩⟩:=uk.cells hI4.cur;have HI4:=Aside0.mk hI4;clear hB4 hI4);have HI9:=Aside0.mk (((HI4.out.store (vM':=.slice AM m.length cM) 2 (.slice AM m.length cM) rfl).store (x':=0) 3 (.int .i64 0) rfl).store (y':=0) 4 (.int .i64 0) rfl))))
           refine bodyPost_ret (v:=.tuple #[.agg #[.int .i64 0,.slice none 0 0,.slice none 0 0,.int .i64 0,.int .i64 0,.int .i64 0],.int .i64 5]) (by simp [results,Tryz.results7,go_sem,e0,e1,e2,e3,e4,e5,z0,z1,z2,z3,z4,z5]) rfl ?_
           exact ⟨⟨_,⟨_,_,_,_,_,_,_,_,_,_,rfl⟩,rfl⟩,uk.below6 HI9.out.below _ _ _ _ _ _⟩
         | some u =>
           obtain ⟨x3,q3⟩:=u
           rw [hi1] at h8
           simp only at h8
           have HI1:=Aside0.mk hi1
           clear hi1
           cases hi2:ut.int 8 q3 with
           | none =>
             rw [hi2] at h8
             obtain rfl:5 = r:=Option.some.inj h8
             have HI5:=Aside0.mk hi2
             clear h8 hi2
             go_enter Tryz.func7,Tryz.ntmps7
             go_wp2_with (first | (go_at_call 26;rw [hW1.out];(with_reducible refine (ux.calls k A1 (c0 - 1) q m q2 0 W1 (Kd.F_now (Kd.F_below HF1.out HI.out.below)) HL1.out HZ.out).mono ?_);rintro e W2 ⟨v2,vq,rfl,hR2,hRq,hB2⟩;obtain ⟨AM,cM,eM⟩:=Kd.R_slice hR2;subst eM;obtain ⟨Aq,cq,eq⟩:=Kd.R_slice hRq;subst eq;have HI2:=Aside0.mk (HI.out.more hB2);have HR2:=Aside0.mk (Kd.R_mono (Kd.R_bound hR2) (ok':=fun k9 => k9 ≠ w.heap.size + 1) (fun k9 hk9 => by have h1:=hk9.2.1;have h2:=u2j HI.out.cur;omega));have HRQ:=Aside0.mk hRq;clear hR2 hRq hB2) | (go_at_call 27;first | ((with_reducible refine (ut.some8 Aq cq q2 q3 x3 _ (Kd.R_reads' HRQ.out).2.2 (Kd.R_reads' HRQ.out).2.1 HI1.out).mono ?_);rintro e W3 ⟨A3,c3,rfl,hc3,hF3,hB3⟩;have HI3:=Aside0.mk (HI2.out.more hB3);have HR3:=Aside0.mk (Kd.R_below HR2.out hB3);have HF3:=Aside0.mk (Kd.F_below (hF3 _ _ (Kd.R_F (Kd.R_bound HRQ.out))) hB3);have HC3:=Aside0.mk hc3;clear hc3 hF3 hB3) | ((with_reducible refine (ut.none8 A3 c3 q3 _ HI5.out).mono ?_);rintro e W4 ⟨rfl,hB4⟩;have hI4:=HI3.out.more hB4;obtain ⟨⟨e0,e1,e2,e3,e4,e5⟩,⟨z0,z1,z2,z3,z4,z5⟩⟩:=uk.cells hI4.res;obtain ⟨⟨p0,p1,p2,p3,p4,p5⟩,⟨y0,y1,y2,y3,y4,y5⟩⟩:=uk.cells hI4.cur;have HI9:=Aside0.mk (((hI4.store (vM':=.slice AM m.length cM) 2 (.slice AM m.length cM) rfl).store (x':=x3) 3 (.int .i64 x3) rfl).store (y':=0) 4 (.int .i64 0) rfl);clear hB4 hI4)))
             refine bodyPost_ret (v:=.tuple #[.agg #[.int .i64 0,.slice none 0 0,.slice none 0 0,.int .i64 0,.int .i64 0,.int .i64 0],.int .i64 5]) (by simp [results,Tryz.results7,go_sem,e0,e1,e2,e3,e4,e5,z0,z1,z2,z3,z4,z5]) rfl ?_
             exact ⟨⟨_,⟨_,_,_,_,_,_,_,_,_,_,rfl⟩,rfl⟩,uk.below6 HI9.out.below _ _ _ _ _ _⟩
           | some u =>
             obtain ⟨x4,q4⟩:=u
             rw [hi2] at h8
             have HFN:Aside0 (uk.fin k (n:Int) [] m x3 x4 0 q4 = some r):=⟨by rw [HKN.out];exact h8⟩
             have HI5:=Aside0.mk hi2
             clear hi2 h8
             cases q4 with
             | cons z9 q9 =>
               obtain rfl:5 = r:=by
                have h9:=HFN.out
                unfold uk.fin at h9
                rw [if_pos (by intro h8;cases h8)] at h9
                exact Option.some.inj h9
               have d1:decide ((q9.length:Int) + 1 > 0) = true:=decide_eq_true (by omega)
               have d2:decide (0 < (q9.length:Int) + 1) = true:=decide_eq_true (by omega)
               have d3:decide (0 < q9.length + 1) = true:=decide_eq_true (by omega)
               go_enter Tryz.func7,Tryz.ntmps7
               go_wp2_with (first | (go_at_call 26;rw [hW1.out];(with_reducible refine (ux.calls k A1 (c0 - 1) q m q2 0 W1 (Kd.F_now (Kd.F_below HF1.out HI.out.below)) HL1.out HZ.out).mono ?_);rintro e W2 ⟨v2,vq,rfl,hR2,hRq,hB2⟩;obtain ⟨AM,cM,eM⟩:=Kd.R_slice hR2;subst eM;obtain ⟨Aq,cq,eq⟩:=Kd.R_slice hRq;subst eq;have HI2:=Aside0.mk (HI.out.more hB2);have HR2:=Aside0.mk (Kd.R_mono (Kd.R_bound hR2) (ok':=fun k9 => k9 ≠ w.heap.size + 1) (fun k9 hk9 => by have h1:=hk9.2.1;have h2:=u2j HI.out.cur;omega));have HRQ:=Aside0.mk hRq;clear hR2 hRq hB2) | (go_at_call 27;first | ((with_reducible refine (ut.some8 Aq cq q2 q3 x3 _ (Kd.R_reads' HRQ.out).2.2 (Kd.R_reads' HRQ.out).2.1 HI1.out).mono ?_);rintro e W3 ⟨A3,c3,rfl,hc3,hF3,hB3⟩;have HI3:=Aside0.mk (HI2.out.more hB3);have HR3:=Aside0.mk (Kd.R_below HR2.out hB3);have HF3:=Aside0.mk (Kd.F_below (hF3 _ _ (Kd.R_F (Kd.R_bound HRQ.out))) hB3);have HC3:=Aside0.mk hc3;clear hc3 hF3 hB3) | ((with_reducible refine (ut.some8 A3 c3 q3 _ x4 _ (Kd.F_now HF3.out) HC3.out HI5.out).mono ?_);rintro e W4 ⟨A4,c4,rfl,hc4,hF4,hB4⟩;have hI4:=HI3.out.more hB4;obtain ⟨⟨e0,e1,e2,e3,e4,e5⟩,⟨z0,z1,z2,z3,z4,z5⟩⟩:=uk.cells hI4.res;obtain ⟨⟨p0,p1,p2,p3,p4,p5⟩,⟨y0,y1,y2,y3,y4,y5⟩⟩:=uk.cells hI4.cur;have HI9:=Aside0.mk (((hI4.store (vM':=.slice AM m.length cM) 2 (.slice AM m.length cM) rfl).store (x':=x3) 3 (.int .i64 x3) rfl).store (y':=x4) 4 (.int .i64 x4) rfl);have HR4:=Aside0.mk (Kd.R_below HR3.out hB4);clear hB4 hI4 hc4 hF4)))
               refine bodyPost_ret (v:=.tuple #[.agg #[.int .i64 0,.slice none 0 0,.slice none 0 0,.int .i64 0,.int .i64 0,.int .i64 0],.int .i64 5]) (by simp [results,Tryz.results7,go_sem,e0,e1,e2,e3,e4,e5,z0,z1,z2,z3,z4,z5]) rfl ?_
               exact ⟨⟨_,⟨_,_,_,_,_,_,_,_,_,_,rfl⟩,rfl⟩,uk.below6 HI9.out.below _ _ _ _ _ _⟩
             | nil =>
               obtain ⟨c9,HC9,h8⟩:∃ c9,Aside0 (u1g.f k ((n:Int)) [] m x3 x4 0 = some c9) ∧ (if c9 = true then (0:Int) else 5) = r:=by
                have h9:=HFN.out
                unfold uk.fin at h9
                rw [if_neg (by intro h8;exact h8 rfl)] at h9
                obtain ⟨c9,hc9,h8⟩:=Option.bind_eq_some_iff.1 h9
                exact ⟨c9,⟨hc9⟩,Option.some.inj h8⟩
               cases c9 with
               | true =>
                 obtain rfl:0 = r:=by simpa using h8
                 clear h8
                 go_enter Tryz.func7,Tryz.ntmps7
                 go_wp2_with (first | (go_at_call 26;rw [hW1.out];(with_reducible refine (ux.calls k A1 (c0 - 1) q m q2 0 W1 (Kd.F_now (Kd.F_below HF1.out HI.out.below)) HL1.out HZ.out).mono ?_);rintro e W2 ⟨v2,vq,rfl,hR2,hRq,hB2⟩;obtain ⟨AM,cM,eM⟩:=Kd.R_slice hR2;subst eM;obtain ⟨Aq,cq,eq⟩:=Kd.R_slice hRq;subst eq;have HI2:=Aside0.mk (HI.out.more hB2);have HR2:=Aside0.mk (Kd.R_mono (Kd.R_bound hR2) (ok':=fun k9 => k9 ≠ w.heap.size + 1) (fun k9 hk9 => by have h1:=hk9.2.1;have h2:=u2j HI.out.cur;omega));have HRQ:=Aside0.mk hRq;clear hR2 hRq hB2) | (go_at_call 27;first | ((with_reducible refine (ut.some8 Aq cq q2 q3 x3 _ (Kd.R_reads' HRQ.out).2.2 (Kd.R_reads' HRQ.out).2.1 HI1.out).mono ?_);rintro e W3 ⟨A3,c3,rfl,hc3,hF3,hB3⟩;have HI3:=Aside0.mk (HI2.out.more hB3);have HR3:=Aside0.mk (Kd.R_below HR2.out hB3);have HF3:=Aside0.mk (Kd.F_below (hF3 _ _ (Kd.R_F (Kd.R_bound HRQ.out))) hB3);have HC3:=Aside0.mk hc3;clear hc3 hF3 hB3) | ((with_reducible refine (ut.some8 A3 c3 q3 _ x4 _ (Kd.F_now HF3.out) HC3.out HI5.out).mono ?_);rintro e W4 ⟨A4,c4,rfl,hc4,hF4,hB4⟩;have hI4:=HI3.out.more hB4;obtain ⟨⟨e0,e1,e2,e3,e4,e5⟩,⟨z0,z1,z2,z3,z4,z5⟩⟩:=uk.cells hI4.res;obtain ⟨⟨p0,p1,p2,p3,p4,p5⟩,⟨y0,y1,y2,y3,y4,y5⟩⟩:=uk.cells hI4.cur;have HI9:=Aside0.mk (((hI4.store (vM':=.slice AM m.length cM) 2 (.slice AM m.length cM) rfl).store (x':=x3) 3 (.int .i64 x3) rfl).store (y':=x4) 4 (.int .i64 x4) rfl);have HR4:=Aside0.mk (Kd.R_below HR3.out hB4);clear hB4 hI4 hc4 hF4)) | (go_at_call 13;(with_reducible refine (uk.can_at k ((n:Int)) [] m x3 x4 0 _ _ true _ _ _ _ _ (Kd.R_nil k59 59 _ 0 (fun _ => True)) (Kd.R_far (Kd.R_far (Kd.R_far HR4.out (fun _ hk9 => hk9) _) (fun _ hk9 => hk9) _) (fun _ hk9 => hk9) _) HC9.out).mono ?_);rintro e W9 ⟨rfl,hB9⟩;have hI9:=HI9.out.more hB9;(try clear e0 e1 e2 e3 e4 e5 z0 z1 z2 z3 z4 z5 p0 p1 p2 p3 p4 p5 y0 y1 y2 y3 y4 y5);obtain ⟨⟨e0,e1,e2,e3,e4,e5⟩,⟨z0,z1,z2,z3,z4,z5⟩⟩:=uk.cells hI9.res;obtain ⟨⟨p0,p1,p2,p3,p4,p5⟩,⟨y0,y1,y2,y3,y4,y5⟩⟩:=uk.cells hI9.cur;have HI9:=Aside0.mk hI9;clear hI9 hB9))
                 refine bodyPost_ret (v:=.tuple #[.agg #[.int .i64 (n:Int),.slice none 0 0,.slice AM m.length cM,.int .i64 x3,.int .i64 x4,.int .i64 0],.int .i64 0]) (by simp [results,Tryz.results7,go_sem,e0,e1,e2,e3,e4,e5,z0,z1,z2,z3,z4,z5]) rfl ?_
                 exact ⟨⟨_,⟨_,_,_,_,_,_,_,_,_,_,rfl⟩,rfl⟩,uk.below6 HI9.out.below _ _ _ _ _ _⟩
               | false =>
                 obtain rfl:5 = r:=by simpa using h8
                 clear h8
                 go_enter Tryz.func7,Tryz.ntmps7
                 go_wp2_with (first | (go_at_call 26;rw [hW1.out];(with_reducible refine (ux.calls k A1 (c0 - 1) q m q2 0 W1 (Kd.F_now (Kd.F_below HF1.out HI.out.below)) HL1.out HZ.out).mono ?_);rintro e W2 ⟨v2,vq,rfl,hR2,hRq,hB2⟩;obtain ⟨AM,cM,eM⟩:=Kd.R_slice hR2;subst eM;obtain ⟨Aq,cq,eq⟩:=Kd.R_slice hRq;subst eq;have HI2:=Aside0.mk (HI.out.more hB2);have HR2:=Aside0.mk (Kd.R_mono (Kd.R_bound hR2) (ok':=fun k9 => k9 ≠ w.heap.size + 1) (fun k9 hk9 => by have h1:=hk9.2.1;have h2:=u2j HI.out.cur;omega));have HRQ:=Aside0.mk hRq;clear hR2 hRq hB2) | (go_at_call 27;first | ((with_reducible refine (ut.some8 Aq cq q2 q3 x3 _ (Kd.R_reads' HRQ.out).2.2 (Kd.R_reads' HRQ.out).2.1 HI1.out).mono ?_);rintro e W3 ⟨A3,c3,rfl,hc3,hF3,hB3⟩;have HI3:=Aside0.mk (HI2.out.more hB3);have HR3:=Aside0.mk (Kd.R_below HR2.out hB3);have HF3:=Aside0.mk (Kd.F_below (hF3 _ _ (Kd.R_F (Kd.R_bound HRQ.out))) hB3);have HC3:=Aside0.mk hc3;clear hc3 hF3 hB3) | ((with_reducible refine (ut.some8 A3 c3 q3 _ x4 _ (Kd.F_now HF3.out) HC3.out HI5.out).mono ?_);rintro e W4 ⟨A4,c4,rfl,hc4,hF4,hB4⟩;have hI4:=HI3.out.more hB4;obtain ⟨⟨e0,e1,e2,e3,e4,e5⟩,⟨z0,z1,z2,z3,z4,z5⟩⟩:=uk.cells hI4.res;obtain ⟨⟨p0,p1,p2,p3,p4,p5⟩,⟨y0,y1,y2,y3,y4,y5⟩⟩:=uk.cells hI4.cur;have HI9:=Aside0.mk (((hI4.store (vM':=.slice AM m.length cM) 2 (.slice AM m.length cM) rfl).store (x':=x3) 3 (.int .i64 x3) rfl).store (y':=x4) 4 (.int .i64 x4) rfl);have HR4:=Aside0.mk (Kd.R_below HR3.out hB4);clear hB4 hI4 hc4 hF4)) | (go_at_call 13;(with_reducible refine (uk.can_at k ((n:Int)) [] m x3 x4 0 _ _ false _ _ _ _ _ (Kd.R_nil k59 59 _ 0 (fun _ => True)) (Kd.R_far (Kd.R_far (Kd.R_far HR4.out (fun _ hk9 => hk9) _) (fun _ hk9 => hk9) _) (fun _ hk9 => hk9) _) HC9.out).mono ?_);rintro e W9 ⟨rfl,hB9⟩;have hI9:=HI9.out.more hB9;(try clear e0 e1 e2 e3 e4 e5 z0 z1 z2 z3 z4 z5 p0 p1 p2 p3 p4 p5 y0 y1 y2 y3 y4 y5);obtain ⟨⟨e0,e1,e2,e3,e4,e5⟩,⟨z0,z1,z2,z3,z4,z5⟩⟩:=uk.cells hI9.res;obtain ⟨⟨p0,p1,p2,p3,p4,p5⟩,⟨y0,y1,y2,y3,y4,y5⟩⟩:=uk.cells hI9.cur;have HI9:=Aside0.mk hI9;clear hI9 hB9))
                 refine bodyPost_ret (v:=.tuple #[.agg #[.int .i64 0,.slice none 0 0,.slice none 0 0,.int .i64 0,.int .i64 0,.int .i64 0],.int .i64 5]) (by simp [results,Tryz.results7,go_sem,e0,e1,e2,e3,e4,e5,z0,z1,z2,z3,z4,z5]) rfl ?_
                 exact ⟨⟨_,⟨_,_,_,_,_,_,_,_,_,_,rfl⟩,rfl⟩,uk.below6 HI9.out.below _ _ _ _ _ _⟩
     · by_cases hk3:(n:Int) = 3
       · skip
         have h9:=H.out
         rw [uk.err_cons,if_neg hk1,if_neg hk2,if_pos hk3] at h9
         have H9:=Aside0.mk h9
         clear h9 H
         have t1:((n:Int) == 1) = false:=beq_eq_false_iff_ne.2 (by omega)
         have u1:(n == 1) = false:=beq_eq_false_iff_ne.2 (by omega)
         have t2:((n:Int) == 2) = false:=beq_eq_false_iff_ne.2 (by omega)
         have u2:(n == 2) = false:=beq_eq_false_iff_ne.2 (by omega)
         have t3:((n:Int) == 3) = true:=beq_iff_eq.2 hk3
         have HKN:=Aside0.mk hk3
         clear hk1 hk2 hk3 hn
         cases hi:ut.int 8 q with
         | none =>
           have HII:=Aside0.mk hi
           obtain rfl:5 = r:=by
            have h9:=H9.out
            rw [hi] at h9
            exact Option.some.inj h9
           clear hi
           go_enter Tryz.func7,Tryz.ntmps7
           go_wp2_with (first | (go_at_call 27;rw [hW1.out];(with_reducible refine (ut.none8 A1 (c0 - 1) q W1 HII.out).mono ?_);rintro e W2 ⟨rfl,hB2⟩;have hI2:=HI.out.more hB2;obtain ⟨⟨e0,e1,e2,e3,e4,e5⟩,⟨z0,z1,z2,z3,z4,z5⟩⟩:=uk.cells hI2.res;obtain ⟨⟨p0,p1,p2,p3,p4,p5⟩,⟨y0,y1,y2,y3,y4,y5⟩⟩:=uk.cells hI2.cur;have HI3:=Aside0.mk (hI2.store (z':=0) 5 (.int .i64 0) rfl);clear hB2 hI2))
           refine bodyPost_ret (v:=.tuple #[.agg #[.int .i64 0,.slice none 0 0,.slice none 0 0,.int .i64 0,.int .i64 0,.int .i64 0],.int .i64 5]) (by simp [results,Tryz.results7,go_sem,e0,e1,e2,e3,e4,e5,z0,z1,z2,z3,z4,z5]) rfl ?_
           exact ⟨⟨_,⟨_,_,_,_,_,_,_,_,_,_,rfl⟩,rfl⟩,uk.below6 HI3.out.below _ _ _ _ _ _⟩
         | some u =>
           obtain ⟨x2,q2⟩:=u
           have HFN:Aside0 (uk.fin k (n:Int) [] [] 0 0 x2 q2 = some r):=⟨by
            have h9:=H9.out
            rw [hi] at h9
            rw [HKN.out]
            exact h9⟩
           have HII:=Aside0.mk hi
           clear hi
           cases q2 with
           | cons z9 q9 =>
             obtain rfl:5 = r:=by
              have h9:=HFN.out
              unfold uk.fin at h9
              rw [if_pos (by intro h8;cases h8)] at h9
              exact Option.some.inj h9
             have d1:decide ((q9.length:Int) + 1 > 0) = true:=decide_eq_true (by omega)
             have d2:decide (0 < (q9.length:Int) + 1) = true:=decide_eq_true (by omega)
             have d3:decide (0 < q9.length + 1) = true:=decide_eq_true (by omega)
             go_enter Tryz.func7,Tryz.ntmps7
             go_wp2_with (first | (go_at_call 27;rw [hW1.out];(with_reducible refine (ut.some8 A1 (c0 - 1) q _ x2 W1 (Kd.F_now (Kd.F_below HF1.out HI.out.below)) HL1.out HII.out).mono ?_);rintro e W2 ⟨A2,c2,rfl,hc2,hF2,hB2⟩;have hI2:=HI.out.more hB2;obtain ⟨⟨e0,e1,e2,e3,e4,e5⟩,⟨z0,z1,z2,z3,z4,z5⟩⟩:=uk.cells hI2.res;obtain ⟨⟨p0,p1,p2,p3,p4,p5⟩,⟨y0,y1,y2,y3,y4,y5⟩⟩:=uk.cells hI2.cur;have HI3:=Aside0.mk (hI2.store (z':=x2) 5 (.int .i64 x2) rfl);clear hB2 hI2 hc2 hF2))
             refine bodyPost_ret (v:=.tuple #[.agg #[.int .i64 0,.slice none 0 0,.slice none 0 0,.int .i64 0,.int .i64 0,.int .i64 0],.int .i64 5]) (by simp [results,Tryz.results7,go_sem,e0,e1,e2,e3,e4,e5,z0,z1,z2,z3,z4,z5]) rfl ?_
             exact ⟨⟨_,⟨_,_,_,_,_,_,_,_,_,_,rfl⟩,rfl⟩,uk.below6 HI3.out.below _ _ _ _ _ _⟩
           | nil =>
             obtain ⟨c9,HC9,h8⟩:∃ c9,Aside0 (u1g.f k ((n:Int)) [] [] 0 0 x2 = some c9) ∧ (if c9 = true then (0:Int) else 5) = r:=by
              have h9:=HFN.out
              unfold uk.fin at h9
              rw [if_neg (by intro h8;exact h8 rfl)] at h9
              obtain ⟨c9,hc9,h8⟩:=Option.bind_eq_some_iff.1 h9
              exact ⟨c9,⟨hc9⟩,Option.some.inj h8⟩
             cases c9 with
             | true =>
               obtain rfl:0 = r:=by simpa using h8
               clear h8
               go_enter Tryz.func7,Tryz.ntmps7
               go_wp2_with (first | (go_at_call 27;rw [hW1.out];(with_reducible refine (ut.some8 A1 (c0 - 1) q _ x2 W1 (Kd.F_now (Kd.F_below HF1.out HI.out.below)) HL1.out HII.out).mono ?_);rintro e W2 ⟨A2,c2,rfl,hc2,hF2,hB2⟩;have hI2:=HI.out.more hB2;obtain ⟨⟨e0,e1,e2,e3,e4,e5⟩,⟨z0,z1,z2,z3,z4,z5⟩⟩:=uk.cells hI2.res;obtain ⟨⟨p0,p1,p2,p3,p4,p5⟩,⟨y0,y1,y2,y3,y4,y5⟩⟩:=uk.cells hI2.cur;have HI3:=Aside0.mk (hI2.store (z':=x2) 5 (.int .i64 x2) rfl);clear hB2 hI2 hc2 hF2) | (go_at_call 13;(with_reducible refine (uk.can_at k ((n:Int)) [] [] 0 0 x2 _ _ true _ _ _ _ _ (Kd.R_nil k59 59 _ 0 (fun _ => True)) (Kd.R_nil k79 79 _ 0 (fun _ => True)) HC9.out).mono ?_);rintro e W9 ⟨rfl,hB9⟩;have hI9:=HI3.out.more hB9;(try clear e0 e1 e2 e3 e4 e5 z0 z1 z2 z3 z4 z5 p0 p1 p2 p3 p4 p5 y0 y1 y2 y3 y4 y5);obtain ⟨⟨e0,e1,e2,e3,e4,e5⟩,⟨z0,z1,z2,z3,z4,z5⟩⟩:=uk.cells hI9.res;obtain ⟨⟨p0,p1,p2,p3,p4,p5⟩,⟨y0,y1,y2,y3,y4,y5⟩⟩:=uk.cells hI9.cur;have HI9:=Aside0.mk hI9;clear hI9 hB9))
               refine bodyPost_ret (v:=.tuple #[.agg #[.int .i64 (n:Int),.slice none 0 0,.slice none 0 0,.int .i64 0,.int .i64 0,.int .i64 x2],.int .i64 0]) (by simp [results,Tryz.results7,go_sem,e0,e1,e2,e3,e4,e5,z0,z1,z2,z3,z4,z5]) rfl ?_
               exact ⟨⟨_,⟨_,_,_,_,_,_,_,_,_,_,rfl⟩,rfl⟩,uk.below6 HI9.out.below _ _ _ _ _ _⟩
             | false =>
               obtain rfl:5 = r:=by simpa using h8
               clear h8
               go_enter Tryz.func7,Tryz.ntmps7
               go_wp2_with (first | (go_at_call 27;rw [hW1.out];(with_reducible refine (ut.some8 A1 (c0 - 1) q _ x2 W1 (Kd.F_now (Kd.F_below HF1.out HI.out.below)) HL1.out HII.out).mono ?_);rintro e W2 ⟨A2,c2,rfl,hc2,hF2,hB2⟩;have hI2:=HI.out.more hB2;obtain ⟨⟨e0,e1,e2,e3,e4,e5⟩,⟨z0,z1,z2,z3,z4,z5⟩⟩:=uk.cells hI2.res;obtain ⟨⟨p0,p1,p2,p3,p4,p5⟩,⟨y0,y1,y2,y3,y4,y5⟩⟩:=uk.cells hI2.cur;have HI3:=Aside0.mk (hI2.store (z':=x2) 5 (.int .i64 x2) rfl);clear hB2 hI2 hc2 hF2) | (go_at_call 13;(with_reducible refine (uk.can_at k ((n:Int)) [] [] 0 0 x2 _ _ false _ _ _ _ _ (Kd.R_nil k59 59 _ 0 (fun _ => True)) (Kd.R_nil k79 79 _ 0 (fun _ => True)) HC9.out).mono ?_);rintro e W9 ⟨rfl,hB9⟩;have hI9:=HI3.out.more hB9;(try clear e0 e1 e2 e3 e4 e5 z0 z1 z2 z3 z4 z5 p0 p1 p2 p3 p4 p5 y0 y1 y2 y3 y4 y5);obtain ⟨⟨e0,e1,e2,e3,e4,e5⟩,⟨z0,z1,z2,z3,z4,z5⟩⟩:=uk.cells hI9.res;obtain ⟨⟨p0,p1,p2,p3,p4,p5⟩,⟨y0,y1,y2,y3,y4,y5⟩⟩:=uk.cells hI9.cur;have HI9:=Aside0.mk hI9;clear hI9 hB9))
               refine bodyPost_ret (v:=.tuple #[.agg #[.int .i64 0,.slice none 0 0,.slice none 0 0,.int .i64 0,.int .i64 0,.int .i64 0],.int .i64 5]) (by simp [results,Tryz.results7,go_sem,e0,e1,e2,e3,e4,e5,z0,z1,z2,z3,z4,z5]) rfl ?_
               exact ⟨⟨_,⟨_,_,_,_,_,_,_,_,_,_,rfl⟩,rfl⟩,uk.below6 HI9.out.below _ _ _ _ _ _⟩
       · skip
         obtain rfl:5 = r:=by
          have h9:=H.out
          rw [uk.err_cons,if_neg hk1,if_neg hk2,if_neg hk3] at h9
          exact Option.some.inj h9
         have t1:((n:Int) == 1) = false:=beq_eq_false_iff_ne.2 (by omega)
         have u1:(n == 1) = false:=beq_eq_false_iff_ne.2 (by omega)
         have t2:((n:Int) == 2) = false:=beq_eq_false_iff_ne.2 (by omega)
         have u2:(n == 2) = false:=beq_eq_false_iff_ne.2 (by omega)
         have t3:((n:Int) == 3) = false:=beq_eq_false_iff_ne.2 (by omega)
         have u3:(n == 3) = false:=beq_eq_false_iff_ne.2 (by omega)
         clear hk1 hk2 hk3 hn hW1 HI
         go_enter Tryz.func7,Tryz.ntmps7
         go_wp2
         refine bodyPost_ret (v:=.tuple #[.agg #[.int .i64 0,.slice none 0 0,.slice none 0 0,.int .i64 0,.int .i64 0,.int .i64 0],.int .i64 5]) (by simp [results,Tryz.results7,go_sem]) rfl ?_
         refine ⟨⟨_,⟨_,_,_,_,_,_,_,_,_,_,rfl⟩,rfl⟩,?_⟩
         first | exact uj (uj (Below.refl _ _) _) _ | exact uk.below6 (uj (uj (Below.refl _ _) _) _) _ _ _ _ _ _
end Go.Proofs.YtgnehcgaplnfkaaGreatDoor.PAll
