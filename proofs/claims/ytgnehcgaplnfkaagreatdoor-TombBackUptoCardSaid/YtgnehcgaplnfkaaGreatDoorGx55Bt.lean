/- A text of this seat. -/
import Derived.Test.YtgnehcgaplnfkaaGreatDoorBt1
import Derived.Test.YtgnehcgaplnfkaaGreatDoorBt2
import Derived.Test.YtgnehcgaplnfkaaGreatDoorGx51Bt
import Derived.Test.YtgnehcgaplnfkaaGreatDoorGx52Bt
import Derived.Test.YtgnehcgaplnfkaaGreatDoorBt6
namespace Go.Proofs.YtgnehcgaplnfkaaGreatDoor.PAll
open Go.RowKit Go.Proofs.YtgnehcgaplnfkaaGreatDoorW.PrintWords Go.Proofs.YtgnehcgaplnfkaaGreatDoorW.PrintLast Go.Proofs.YtgnehcgaplnfkaaGreatDoorW.PrintMore
attribute [local go_sem] u3r u3t u4c u4b u3n u3o u3u u3s   -- for this text's walks alone
set_option linter.unusedVariables false
set_option linter.unusedSimpArgs false
-- uses dryrotref08_runes dryrotref08_one dryrotref08_reader_peek dryrotref08_reader_class dryrotref08_reader_atom dryrotref08_reader_alts
def uz.f:Option Int:=none
def uz.early (p:ByteArray):Bool:=decide (60 < p.size) || u1g.oneB 65533 (Base.runesOf p)
def uz.zn:Value:=.agg #[.int .i64 0,.slice none 0 0,.bool false,.int .i32 0,.slice none 0 0]
set_option maxHeartbeats 4000000 in
theorem uz.early_calls (p:ByteArray) (w:World) (hs:p.size ≤ 35184372088830) (h:uz.early p = true) :
 Calls Tryz.prog 97 #[.string p] w fun e w' => e = .returned (.tuple #[uz.zn,.bool false]) ∧ Below w.heap.size w w':=by
 have HE:=Aside0.mk h
 clear h
 obtain ⟨W0,hW0⟩:∃ W0,Aside0 (w.alloc (.cells #[.int .i64 0,.slice none 0 0,.bool false,.int .i32 0,.slice none 0 0] 148) = W0):=⟨_,⟨rfl⟩⟩
 have HB0:Aside0 (Below w.heap.size w W0):=⟨by rw [← hW0.out];exact uj (Below.refl _ _) _⟩
 have HX0:Aside0 (W0.heap[w.heap.size]? = some (.cells #[.int .i64 0,.slice none 0 0,.bool false,.int .i32 0,.slice none 0 0] 148 (0,0))):=⟨by rw [← hW0.out];exact u3l _ _⟩
 unfold uz.zn
 by_cases h60:60 < p.size
 · have hd:decide ((60:Int) < (p.size:Int)) = true:=decide_eq_true (by omega)
   clear h60
   go_enter Tryz.func97,Tryz.ntmps97
   go_wp2_with (
    (go_at_call 104;rw [hW0.out];(with_reducible refine (u3x.calls p W0 hs).mono ?_);rintro e W1 ⟨v1,rfl,hR1,hB1,_⟩
     have HB1:Aside0 (Below w.heap.size w W1):=⟨u1c HB0.out HB0.out.size hB1⟩
     have HX1:=Aside0.mk (u1h HX0.out hB1)
     have c0:=uk HX1.out 0
     have c1:=uk HX1.out 1
     have c2:=uk HX1.out 2
     have c3:=uk HX1.out 3
     have c4:=uk HX1.out 4
     simp only [List.size_toArray,List.length_cons,List.length_nil,List.getElem?_toArray,List.getElem?_cons_zero,List.getElem?_cons_succ] at c0 c1 c2 c3 c4
     have f0:=ut HX1.out 0
     have f1:=ut HX1.out 1
     have f2:=ut HX1.out 2
     have f3:=ut HX1.out 3
     have f4:=ut HX1.out 4
     clear hR1 hB1))
   refine bodyPost_ret (v:=.tuple #[.agg #[.int .i64 0,.slice none 0 0,.bool false,.int .i32 0,.slice none 0 0],.bool false]) (by simp [results,Tryz.results97,go_sem,c0,c1,c2,c3,c4]) rfl ⟨rfl,?_⟩
   have h9:=(((((HB1.out.setCell (p:=⟨w.heap.size,0,none⟩) (Nat.le_refl _) (.int .i64 0)).setCell (p:=⟨w.heap.size,1,none⟩) (Nat.le_refl _) (.slice none 0 0)).setCell (p:=⟨w.heap.size,2,none⟩) (Nat.le_refl _) (.bool false)).setCell (p:=⟨w.heap.size,3,none⟩) (Nat.le_refl _) (.int .i32 0)).setCell (p:=⟨w.heap.size,4,none⟩) (Nat.le_refl _) (.slice none 0 0))
   exact h9
 · have hd:decide ((60:Int) < (p.size:Int)) = false:=decide_eq_false (by omega)
   have HO:Aside0 (u1g.f 65533 p = some true):=⟨by have h9:=HE.out;unfold uz.early at h9;rw [decide_eq_false h60] at h9;unfold u1g.f;rw [← h9];rfl⟩
   clear h60
   go_enter Tryz.func97,Tryz.ntmps97
   go_wp2_with (first
    | (go_at_call 104;rw [hW0.out];(with_reducible refine (u3x.calls p W0 hs).mono ?_);rintro e W1 ⟨v1,rfl,hR1,hB1,_⟩
       have HB1:Aside0 (Below w.heap.size w W1):=⟨u1c HB0.out HB0.out.size hB1⟩
       have HX1:=Aside0.mk (u1h HX0.out hB1)
       clear hR1 hB1)
    | (go_at_call 105;(with_reducible refine (u1g.calls 65533 p true W1 HO.out).mono ?_);rintro e W2 ⟨rfl,hB2⟩
       have HB2:Aside0 (Below w.heap.size w W2):=⟨u1c HB1.out HB1.out.size hB2⟩
       have HX2:=Aside0.mk (u1h HX1.out hB2)
       have c0:=uk HX2.out 0
       have c1:=uk HX2.out 1
       have c2:=uk HX2.out 2
       have c3:=uk HX2.out 3
       have c4:=uk HX2.out 4
       simp only [List.size_toArray,List.length_cons,List.length_nil,List.getElem?_toArray,List.getElem?_cons_zero,List.getElem?_cons_succ] at c0 c1 c2 c3 c4
       have f0:=ut HX2.out 0
       have f1:=ut HX2.out 1
       have f2:=ut HX2.out 2
       have f3:=ut HX2.out 3
       have f4:=ut HX2.out 4
       clear hB2))
   refine bodyPost_ret (v:=.tuple #[.agg #[.int .i64 0,.slice none 0 0,.bool false,.int .i32 0,.slice none 0 0],.bool false]) (by simp [results,Tryz.results97,go_sem,c0,c1,c2,c3,c4]) rfl ⟨rfl,?_⟩
   have h9:=(((((HB2.out.setCell (p:=⟨w.heap.size,0,none⟩) (Nat.le_refl _) (.int .i64 0)).setCell (p:=⟨w.heap.size,1,none⟩) (Nat.le_refl _) (.slice none 0 0)).setCell (p:=⟨w.heap.size,2,none⟩) (Nat.le_refl _) (.bool false)).setCell (p:=⟨w.heap.size,3,none⟩) (Nat.le_refl _) (.int .i32 0)).setCell (p:=⟨w.heap.size,4,none⟩) (Nat.le_refl _) (.slice none 0 0))
   exact h9
def uz.runN (l:List Int):ua.RS:=uc.N l (4 * l.length + 3) 2 0 ⟨0,false⟩
def uz.okN (l:List Int):Bool:=!(uz.runN l).bad && decide ((uz.runN l).at_ = l.length)
theorem uz.five_keep (W:World) (b k:Nat) (u1 u2 u3 u4 u5:Value) (h:k ≠ b):(((((W.setCell ⟨b,0,none⟩ u1).setCell ⟨b,1,none⟩ u2).setCell ⟨b,2,none⟩ u3).setCell ⟨b,3,none⟩ u4).setCell ⟨b,4,none⟩ u5).heap[k]? = W.heap[k]? := by
 rw [Below.heap_setCell _ _ _ _ h,Below.heap_setCell _ _ _ _ h,Below.heap_setCell _ _ _ _ h,Below.heap_setCell _ _ _ _ h,Below.heap_setCell _ _ _ _ h]
theorem uz.rn_of {W:World} {base gi pos:Nat} {ok:Nat → Prop} {A:Option Addr} {n c:Nat} {l:List Int} {s:ByteArray} (hR:Kd.R (Kd.int .i32) 21 W base ok (.slice A n c) l) (hi:W.heap[gi]? = some (Obj.stringIter s pos)):∃ gp,ua.Rn W gp A l:=by
 obtain ⟨h0,inner,ho,hr⟩:=hR
 have mv:∀ W':World,(∀ k,(Value.slice A n c).ownBlock = some k → W'.heap[k]? = W.heap[k]?) → (Kd.int .i32).C W' A l.length l:=fun W' hm => by
  have hR2:Kd.R (Kd.int .i32) 21 W' base ok (.slice A n c) l:=⟨h0,inner,own_move ho hm,hr⟩
  obtain ⟨A2,c2,e,_,hC⟩:=Kd.R_reads hR2
  injection e with e1 e2 e3
  subst e1
  exact hC
 cases A with
 | none => exact ⟨gi,⟨_,hi,fun cs t f e => by cases e⟩,fun W' _ => mv W' (fun k hk => by simp [Value.ownBlock] at hk)⟩
 | some a =>
   rcases ho.2 with ⟨e,_⟩ | ⟨g,cap,cur,e,hg,hh,_⟩
   · cases e
   · injection e with e1 e2 e3
     injection e1 with e1
     subst e1
     refine ⟨g,⟨_,hh,fun cs t f e => by injection e with _ e;exact e.symm⟩,fun W' hW => mv W' (fun k hk => ?_)⟩
     have:g = k:=by simpa [Value.ownBlock] using hk
     rw [← this]
     exact hW
set_option maxHeartbeats 8000000 in
set_option maxRecDepth 20000 in
theorem uz.full_calls (p:ByteArray) (w:World) (h:uz.early p = false) :
 Calls Tryz.prog 97 #[.string p] w fun e w' => (∃ v,e = .returned (.tuple #[v,.bool (uz.okN (Base.runesOf p))]) ∧ ub.NodeV v) ∧ Below w.heap.size w w':=by
 obtain ⟨h60,h1⟩:¬ 60 < p.size ∧ u1g.oneB 65533 (Base.runesOf p) = false:=by
  unfold uz.early at h
  rw [Bool.or_eq_false_iff,decide_eq_false_iff_not] at h
  exact h
 have HO:Aside0 (u1g.f 65533 p = some false):=⟨by unfold u1g.f;rw [h1]⟩
 have hd:decide ((60:Int) < (p.size:Int)) = false:=decide_eq_false (by omega)
 obtain ⟨l,hl⟩:∃ l,Aside0 (Base.runesOf p = l):=⟨_,⟨rfl⟩⟩
 have hlen:l.length ≤ 60:=by
  rw [← hl.out]
  have h9:∀ (f pos:Nat),(Base.runesFrom p f pos).length ≤ f:=by
   intro f
   induction f with
   | zero => exact fun pos => Nat.le_refl _
   | succ f ih =>
     intro pos
     by_cases hp:pos < p.size
     · rw [Base.runesFrom_step p f pos hp,List.length_cons]
       exact Nat.succ_le_succ (ih _)
     · rw [Base.runesFrom_end p _ pos hp]
       exact Nat.zero_le _
  have:=h9 p.size 0
  unfold Base.runesOf
  omega
 have hs:p.size ≤ 60:=by omega
 rw [hl.out]
 obtain ⟨a2,b2,hs2⟩:∃ a2 b2,Aside0 (uz.runN l = ⟨a2,b2⟩):=⟨_,_,⟨rfl⟩⟩
 have HOK:Aside0 (uz.okN l = (!b2 && decide (a2 = l.length))):=⟨by unfold uz.okN;rw [hs2.out]⟩
 rw [HOK.out]
 obtain ⟨W0,hW0⟩:∃ W0,Aside0 (w.alloc (.cells #[.int .i64 0,.slice none 0 0,.bool false,.int .i32 0,.slice none 0 0] 148) = W0):=⟨_,⟨rfl⟩⟩
 have HB0:Aside0 (Below w.heap.size w W0):=⟨by rw [← hW0.out];exact uj (Below.refl _ _) _⟩
 have HX0:Aside0 (W0.heap[w.heap.size]? = some (.cells #[.int .i64 0,.slice none 0 0,.bool false,.int .i32 0,.slice none 0 0] 148 (0,0))):=⟨by rw [← hW0.out];exact u3l _ _⟩
 clear h h1 h60
 cases b2 with
 | true =>
   go_enter Tryz.func97,Tryz.ntmps97
   go_wp2_with (first
    | (go_at_call 104;rw [hW0.out];(with_reducible refine (u3x.calls p W0 (by omega)).mono ?_);rintro e W1 ⟨v1,rfl,hR1,hB1,gi,pos,hi1⟩;rw [hl.out] at hR1;obtain ⟨Av,cv,ev⟩:=Kd.R_slice hR1;subst ev;have HB1:Aside0 (Below w.heap.size w W1):=⟨u1c HB0.out HB0.out.size hB1⟩;have HX1:=Aside0.mk (u1h HX0.out hB1);have HRN:=Aside0.mk (uz.rn_of hR1 hi1);have HLC:Aside0 (l.length ≤ cv):=⟨by obtain ⟨A2,c2,e2,h2,_⟩:=Kd.R_reads hR1;injection e2 with e2 e3 e4;omega⟩;clear hR1 hB1 hi1)
    | (go_at_call 105;(with_reducible refine (u1g.calls 65533 p false W1 HO.out).mono ?_);rintro e W2 ⟨rfl,hB2⟩;have HB2:Aside0 (Below w.heap.size w W2):=⟨u1c HB1.out HB1.out.size hB2⟩;have HX2:=Aside0.mk (u1h HX1.out hB2);have HRN2:Aside0 (∃ gp,ua.Rn W2 gp Av l):=⟨by obtain ⟨gp,h9⟩:=HRN.out;exact ⟨gp,h9.move (hB2.block _ h9.lt)⟩⟩;obtain ⟨W3,hW3⟩:∃ W3,Aside0 (W2.alloc (.cells #[.slice Av l.length cv,.int .i64 0,.bool false] 169) = W3):=⟨_,⟨rfl⟩⟩;have hB3:Below W2.heap.size W2 W3:=(by rw [← hW3.out];exact uj (Below.refl _ _) _);have hx3:W3.heap[W2.heap.size]? = some (.cells #[.slice Av l.length cv,.int .i64 0,.bool false] 169 (0,0)):=(by rw [← hW3.out];exact u3l _ _);have HST:Aside0 (∃ gp,ua.St w W3 W2.heap.size gp l ⟨0,false⟩):=⟨by obtain ⟨gp,h9⟩:=HRN2.out;exact ⟨gp,⟨u1c HB2.out HB2.out.size hB3,HB2.out.size,Av,cv,hx3,HLC.out,h9.move (hB3.block _ h9.lt)⟩⟩⟩;have HX3:=Aside0.mk (u1h HX2.out hB3);clear hB2 hB3 hx3)
    | (go_at_call 106;rw [hW3.out];obtain ⟨gp,hst⟩:=HST.out;have hLd:=(u1f.all (4 * l.length + 3)).2.2 _ (Nat.le_refl _) w W3 W2.heap.size gp l ⟨0,false⟩ 0 hst (by omega) (by omega) (by simp only;omega) (Or.inr (by unfold uc.need;simp only;omega)) (fun h9 => absurd h9 (by decide));rw [show ((0:Nat):Int) = (0:Int) from rfl] at hLd;(with_reducible refine hLd.mono ?_);clear hLd;rintro e W4 ⟨⟨_,rfl,xk,xA,xn,xc,xb,xo,xB,xm,xd,rfl⟩,hS4,hK4⟩;have hS4':ua.St w W4 W2.heap.size gp l ⟨a2,true⟩:=(by have h9:=hS4;rw [show uc.N l (4 * l.length + 3) 2 0 ⟨0,false⟩ = uz.runN l from rfl,hs2.out] at h9;exact h9);obtain ⟨W5,hW5⟩:∃ W5,Aside0 (W4.alloc (.cells #[.int .i64 xk,.slice xA xn xc,.bool xb,.int .i32 xo,.slice xB xm xd] 148) = W5):=⟨_,⟨rfl⟩⟩;have hB5:Below W4.heap.size W4 W5:=(by rw [← hW5.out];exact uj (Below.refl _ _) _);have hx5:W5.heap[W4.heap.size]? = some (.cells #[.int .i64 xk,.slice xA xn xc,.bool xb,.int .i32 xo,.slice xB xm xd] 148 (0,0)):=(by rw [← hW5.out];exact u3l _ _);have hS5:=hS4'.more hB5;have HS5:=Aside0.mk hS5;have HX5:=Aside0.mk hx5;have HXR:Aside0 (W5.heap[w.heap.size]? = some (.cells #[.int .i64 0,.slice none 0 0,.bool false,.int .i32 0,.slice none 0 0] 148 (0,0))):=⟨(hB5.block _ (Nat.lt_of_lt_of_le (u3c HX3.out) hK4.1)).trans ((hK4.2 _ (u3c HX3.out) (by have:=u3c HX2.out;omega)).trans HX3.out)⟩;have HN5:Aside0 (W4.heap.size ≠ w.heap.size ∧ W2.heap.size ≠ w.heap.size):=⟨by have:=u3c HX3.out;have:=u3c HX2.out;have:=hK4.1;omega,by have:=u3c HX2.out;omega⟩;clear hS4 hS4' hK4 hB5 hx5 hS5 hst))
   rw [hW5.out]
   obtain ⟨A5,c5,⟨k0,k1,k2⟩,⟨q0,q1,q2⟩,_,hg5,_⟩:=HS5.out.look
   have HG5:=Aside0.mk hg5
   clear hg5
   have y0:=(uk HX5.out 0).trans (show (#[.int .i64 xk,.slice xA xn xc,.bool xb,.int .i32 xo,.slice xB xm xd]:Array Value)[0]? = some (.int .i64 xk) from rfl)
   have y1:=(uk HX5.out 1).trans (show (#[.int .i64 xk,.slice xA xn xc,.bool xb,.int .i32 xo,.slice xB xm xd]:Array Value)[1]? = some (.slice xA xn xc) from rfl)
   have y2:=(uk HX5.out 2).trans (show (#[.int .i64 xk,.slice xA xn xc,.bool xb,.int .i32 xo,.slice xB xm xd]:Array Value)[2]? = some (.bool xb) from rfl)
   have y3:=(uk HX5.out 3).trans (show (#[.int .i64 xk,.slice xA xn xc,.bool xb,.int .i32 xo,.slice xB xm xd]:Array Value)[3]? = some (.int .i32 xo) from rfl)
   have y4:=(uk HX5.out 4).trans (show (#[.int .i64 xk,.slice xA xn xc,.bool xb,.int .i32 xo,.slice xB xm xd]:Array Value)[4]? = some (.slice xB xm xd) from rfl)
   have c0:=uk HXR.out 0
   have c1:=uk HXR.out 1
   have c2:=uk HXR.out 2
   have c3:=uk HXR.out 3
   have c4:=uk HXR.out 4
   simp only [List.size_toArray,List.length_cons,List.length_nil,List.getElem?_toArray,List.getElem?_cons_zero,List.getElem?_cons_succ] at c0 c1 c2 c3 c4 k1 k2
   have f0:=ut HXR.out 0
   have f1:=ut HXR.out 1
   have f2:=ut HXR.out 2
   have f3:=ut HXR.out 3
   have f4:=ut HXR.out 4
   refine start_ (n:=17) (S:=fun w' => w'.heap[W4.heap.size]? = some (.cells #[.int .i64 xk,.slice xA xn xc,.bool xb,.int .i32 xo,.slice xB xm xd] 148 (0,0)) ∧ w'.heap[W2.heap.size]? = some (.cells #[.slice A5 l.length c5,.int .i64 ((a2:Nat):Int),.bool true] 169 (0,0))) (ds:=[]) #[false,false,false,false,false,false,false,false,false,false,false,false,false,false,false,false,false] (by kernel_rfl) rfl rfl ⟨u2e HX5.out,u2e HG5.out⟩ (fun hHeld => ?_)
   refine take_ (i:=0) (N:=some 22) (v:=?_) (a':=?_) #[true,false,false,false,false,false,false,false,false,false,false,false,false,false,false,false,false] rfl rfl (by kernel_rfl) (fun _ _ _ h => h) (Or.inl ⟨by rfl,?_⟩) hHeld ?_ ?_
   rotate_left
   · rintro w' hS'
     have y0:=(uk hS'.1 0).trans (show (#[.int .i64 xk,.slice xA xn xc,.bool xb,.int .i32 xo,.slice xB xm xd]:Array Value)[0]? = some (.int .i64 xk) from rfl)
     have y1:=(uk hS'.1 1).trans (show (#[.int .i64 xk,.slice xA xn xc,.bool xb,.int .i32 xo,.slice xB xm xd]:Array Value)[1]? = some (.slice xA xn xc) from rfl)
     have y2:=(uk hS'.1 2).trans (show (#[.int .i64 xk,.slice xA xn xc,.bool xb,.int .i32 xo,.slice xB xm xd]:Array Value)[2]? = some (.bool xb) from rfl)
     have y3:=(uk hS'.1 3).trans (show (#[.int .i64 xk,.slice xA xn xc,.bool xb,.int .i32 xo,.slice xB xm xd]:Array Value)[3]? = some (.int .i32 xo) from rfl)
     have y4:=(uk hS'.1 4).trans (show (#[.int .i64 xk,.slice xA xn xc,.bool xb,.int .i32 xo,.slice xB xm xd]:Array Value)[4]? = some (.slice xB xm xd) from rfl)
     go_simp
     (try with_reducible rfl)
   rotate_left
   · simp only [Act.put,List.setIfInBounds_toArray,List.set_cons_zero,List.set_cons_succ,i64_w,i32_w]
     rfl
   refine pure_ (i:=1) (N:=some 23) (v:=?_) (a':=?_) #[true,true,false,false,false,false,false,false,false,false,false,false,false,false,false,false,false] rfl rfl (by kernel_rfl) (fun _ _ _ h => h) (Or.inl ⟨by rfl,?_⟩) ?_ ?_
   rotate_left
   · intro w'
     go_simp
     with_reducible rfl
   rotate_left
   · simp only [Act.put,List.setIfInBounds_toArray,List.set_cons_zero,List.set_cons_succ,i64_w,i32_w]
     rfl
   refine pure_ (i:=2) (N:=some 24) (v:=?_) (a':=?_) #[true,true,true,false,false,false,false,false,false,false,false,false,false,false,false,false,false] rfl rfl (by kernel_rfl) (fun _ _ _ h => h) (Or.inl ⟨by rfl,?_⟩) ?_ ?_
   rotate_left
   · intro w'
     go_simp
     with_reducible rfl
   rotate_left
   · simp only [Act.put,List.setIfInBounds_toArray,List.set_cons_zero,List.set_cons_succ,i64_w,i32_w]
     rfl
   refine pure_ (i:=3) (N:=some 25) (v:=?_) (a':=?_) #[true,true,true,true,false,false,false,false,false,false,false,false,false,false,false,false,false] rfl rfl (by kernel_rfl) (fun _ _ _ h => h) (Or.inl ⟨by rfl,?_⟩) ?_ ?_
   rotate_left
   · intro w'
     go_simp
     with_reducible rfl
   rotate_left
   · simp only [Act.put,List.setIfInBounds_toArray,List.set_cons_zero,List.set_cons_succ,i64_w,i32_w]
     rfl
   refine take_ (i:=4) (N:=some 26) (v:=?_) (a':=?_) #[true,true,true,true,true,false,false,false,false,false,false,false,false,false,false,false,false] rfl rfl (by kernel_rfl) (fun _ _ _ h => h) (Or.inl ⟨by rfl,?_⟩) hHeld ?_ ?_
   rotate_left
   · rintro w' hS'
     have hcell:w'.cell? ⟨W2.heap.size,2,none⟩ = some (.bool true):=(uk hS'.2 2).trans rfl
     go_simp
     (try with_reducible rfl)
   rotate_left
   · simp only [Act.put,List.setIfInBounds_toArray,List.set_cons_zero,List.set_cons_succ,i64_w,i32_w]
     rfl
   refine pure_ (i:=5) (N:=some 27) (v:=?_) (a':=?_) #[true,true,true,true,true,true,false,false,false,false,false,false,false,false,false,false,false] rfl rfl (by kernel_rfl) (fun _ _ _ h => h) (Or.inl ⟨by rfl,?_⟩) ?_ ?_
   rotate_left
   · intro w'
     go_simp
     with_reducible rfl
   rotate_left
   · simp only [Act.put,List.setIfInBounds_toArray,List.set_cons_zero,List.set_cons_succ,i64_w,i32_w]
     rfl
   refine pure_ (i:=6) (N:=some 28) (v:=?_) (a':=?_) #[true,true,true,true,true,true,true,false,false,false,false,false,false,false,false,false,false] rfl rfl (by kernel_rfl) (fun _ _ _ h => h) (Or.inl ⟨by rfl,?_⟩) ?_ ?_
   rotate_left
   · intro w'
     go_simp
     with_reducible rfl
   rotate_left
   · simp only [Act.put,List.setIfInBounds_toArray,List.set_cons_zero,List.set_cons_succ,i64_w,i32_w]
     rfl
   refine pure_ (i:=7) (N:=some 29) (v:=undef) (a':=?_) #[true,true,true,true,true,true,true,true,false,false,false,false,false,false,false,false,false] rfl rfl (by kernel_rfl) (fun _ _ _ h => h) (Or.inr ⟨by rfl,rfl⟩) ?_ ?_
   rotate_left
   · simp only [Act.put,List.setIfInBounds_toArray,List.set_cons_zero,List.set_cons_succ,i64_w,i32_w]
     rfl
   refine pure_ (i:=8) (N:=some 30) (v:=undef) (a':=?_) #[true,true,true,true,true,true,true,true,true,false,false,false,false,false,false,false,false] rfl rfl (by kernel_rfl) (fun _ _ _ h => h) (Or.inr ⟨by rfl,rfl⟩) ?_ ?_
   rotate_left
   · simp only [Act.put,List.setIfInBounds_toArray,List.set_cons_zero,List.set_cons_succ,i64_w,i32_w]
     rfl
   refine pure_ (i:=9) (N:=some 31) (v:=undef) (a':=?_) #[true,true,true,true,true,true,true,true,true,true,false,false,false,false,false,false,false] rfl rfl (by kernel_rfl) (fun _ _ _ h => h) (Or.inr ⟨by rfl,rfl⟩) ?_ ?_
   rotate_left
   · simp only [Act.put,List.setIfInBounds_toArray,List.set_cons_zero,List.set_cons_succ,i64_w,i32_w]
     rfl
   refine pure_ (i:=10) (N:=some 32) (v:=undef) (a':=?_) #[true,true,true,true,true,true,true,true,true,true,true,false,false,false,false,false,false] rfl rfl (by kernel_rfl) (fun _ _ _ h => h) (Or.inr ⟨by rfl,rfl⟩) ?_ ?_
   rotate_left
   · simp only [Act.put,List.setIfInBounds_toArray,List.set_cons_zero,List.set_cons_succ,i64_w,i32_w]
     rfl
   refine pure_ (i:=11) (N:=some 33) (v:=undef) (a':=?_) #[true,true,true,true,true,true,true,true,true,true,true,true,false,false,false,false,false] rfl rfl (by kernel_rfl) (fun _ _ _ h => h) (Or.inr ⟨by rfl,rfl⟩) ?_ ?_
   rotate_left
   · simp only [Act.put,List.setIfInBounds_toArray,List.set_cons_zero,List.set_cons_succ,i64_w,i32_w]
     rfl
   refine pure_ (i:=12) (N:=some 34) (v:=undef) (a':=?_) #[true,true,true,true,true,true,true,true,true,true,true,true,true,false,false,false,false] rfl rfl (by kernel_rfl) (fun _ _ _ h => h) (Or.inr ⟨by rfl,rfl⟩) ?_ ?_
   rotate_left
   · simp only [Act.put,List.setIfInBounds_toArray,List.set_cons_zero,List.set_cons_succ,i64_w,i32_w]
     rfl
   refine pure_ (i:=13) (N:=some 35) (v:=undef) (a':=?_) #[true,true,true,true,true,true,true,true,true,true,true,true,true,true,false,false,false] rfl rfl (by kernel_rfl) (fun _ _ _ h => h) (Or.inr ⟨by rfl,rfl⟩) ?_ ?_
   rotate_left
   · simp only [Act.put,List.setIfInBounds_toArray,List.set_cons_zero,List.set_cons_succ,i64_w,i32_w]
     rfl
   refine pure_ (i:=14) (N:=some 36) (v:=?_) (a':=?_) #[true,true,true,true,true,true,true,true,true,true,true,true,true,true,true,false,false] rfl rfl (by kernel_rfl) (fun _ _ _ h => h) (Or.inl ⟨by rfl,?_⟩) ?_ ?_
   rotate_left
   · intro w'
     go_simp
     with_reducible rfl
   rotate_left
   · simp only [Act.put,List.setIfInBounds_toArray,List.set_cons_zero,List.set_cons_succ,i64_w,i32_w]
     rfl
   refine one_ (i:=15) (N:=none) #[true,true,true,true,true,true,true,true,true,true,true,true,true,true,true,true,false] rfl rfl (by kernel_rfl) (by decide) (fun K hK => ?_)
   refine skip_ (w1:=(((((W5.drew.setCell ⟨w.heap.size,0,none⟩ (.int .i64 xk)).setCell ⟨w.heap.size,1,none⟩ (.slice xA xn xc)).setCell ⟨w.heap.size,2,none⟩ (.bool xb)).setCell ⟨w.heap.size,3,none⟩ (.int .i32 xo)).setCell ⟨w.heap.size,4,none⟩ (.slice xB xm xd))) (by rfl) rfl ?_ ?_
   · go_simp
   refine hK.out _ _ ⟨(uz.five_keep _ _ _ _ _ _ _ _ HN5.out.1).trans (u2e HX5.out),(uz.five_keep _ _ _ _ _ _ _ _ HN5.out.2).trans (u2e HG5.out)⟩ (fun hHeld => ?_)
   clear hK hHeld K
   refine pure_ (i:=16) (N:=some 3) (v:=?_) (a':=?_) #[true,true,true,true,true,true,true,true,true,true,true,true,true,true,true,true,true] rfl rfl (by kernel_rfl) (fun _ _ _ h => h) (Or.inl ⟨by rfl,?_⟩) ?_ ?_
   rotate_left
   · intro w'
     go_simp
     with_reducible rfl
   rotate_left
   · simp only [Act.put,List.setIfInBounds_toArray,List.set_cons_zero,List.set_cons_succ,i64_w,i32_w]
     rfl
   refine done_ (by kernel_rfl) ?_
   try go_wp2
   refine bodyPost_ret (v:=.tuple #[.agg #[.int .i64 xk,.slice xA xn xc,.bool xb,.int .i32 xo,.slice xB xm xd],.bool false]) (by simp [results,Tryz.results97,go_sem,c0,c1,c2,c3,c4]) rfl ⟨⟨_,rfl,_,_,_,_,_,_,_,_,_,rfl⟩,?_⟩
   have hbw:Below w.heap.size w W5.drew:=uu HS5.out.below
   exact (((((hbw.setCell (p:=⟨w.heap.size,0,none⟩) (Nat.le_refl _) _).setCell (p:=⟨w.heap.size,1,none⟩) (Nat.le_refl _) _).setCell (p:=⟨w.heap.size,2,none⟩) (Nat.le_refl _) _).setCell (p:=⟨w.heap.size,3,none⟩) (Nat.le_refl _) _).setCell (p:=⟨w.heap.size,4,none⟩) (Nat.le_refl _) _)
 | false =>
   by_cases hal:a2 = l.length
   · rw [show (!false && decide (a2 = l.length)) = true by simp [hal]]
     subst hal
     go_enter Tryz.func97,Tryz.ntmps97
     go_wp2_with (first
      | (go_at_call 104;rw [hW0.out];(with_reducible refine (u3x.calls p W0 (by omega)).mono ?_);rintro e W1 ⟨v1,rfl,hR1,hB1,gi,pos,hi1⟩;rw [hl.out] at hR1;obtain ⟨Av,cv,ev⟩:=Kd.R_slice hR1;subst ev;have HB1:Aside0 (Below w.heap.size w W1):=⟨u1c HB0.out HB0.out.size hB1⟩;have HX1:=Aside0.mk (u1h HX0.out hB1);have HRN:=Aside0.mk (uz.rn_of hR1 hi1);have HLC:Aside0 (l.length ≤ cv):=⟨by obtain ⟨A2,c2,e2,h2,_⟩:=Kd.R_reads hR1;injection e2 with e2 e3 e4;omega⟩;clear hR1 hB1 hi1)
      | (go_at_call 105;(with_reducible refine (u1g.calls 65533 p false W1 HO.out).mono ?_);rintro e W2 ⟨rfl,hB2⟩;have HB2:Aside0 (Below w.heap.size w W2):=⟨u1c HB1.out HB1.out.size hB2⟩;have HX2:=Aside0.mk (u1h HX1.out hB2);have HRN2:Aside0 (∃ gp,ua.Rn W2 gp Av l):=⟨by obtain ⟨gp,h9⟩:=HRN.out;exact ⟨gp,h9.move (hB2.block _ h9.lt)⟩⟩;obtain ⟨W3,hW3⟩:∃ W3,Aside0 (W2.alloc (.cells #[.slice Av l.length cv,.int .i64 0,.bool false] 169) = W3):=⟨_,⟨rfl⟩⟩;have hB3:Below W2.heap.size W2 W3:=(by rw [← hW3.out];exact uj (Below.refl _ _) _);have hx3:W3.heap[W2.heap.size]? = some (.cells #[.slice Av l.length cv,.int .i64 0,.bool false] 169 (0,0)):=(by rw [← hW3.out];exact u3l _ _);have HST:Aside0 (∃ gp,ua.St w W3 W2.heap.size gp l ⟨0,false⟩):=⟨by obtain ⟨gp,h9⟩:=HRN2.out;exact ⟨gp,⟨u1c HB2.out HB2.out.size hB3,HB2.out.size,Av,cv,hx3,HLC.out,h9.move (hB3.block _ h9.lt)⟩⟩⟩;have HX3:=Aside0.mk (u1h HX2.out hB3);clear hB2 hB3 hx3)
      | (go_at_call 106;rw [hW3.out];obtain ⟨gp,hst⟩:=HST.out;have hLd:=(u1f.all (4 * l.length + 3)).2.2 _ (Nat.le_refl _) w W3 W2.heap.size gp l ⟨0,false⟩ 0 hst (by omega) (by omega) (by simp only;omega) (Or.inr (by unfold uc.need;simp only;omega)) (fun h9 => absurd h9 (by decide));rw [show ((0:Nat):Int) = (0:Int) from rfl] at hLd;(with_reducible refine hLd.mono ?_);clear hLd;rintro e W4 ⟨⟨_,rfl,xk,xA,xn,xc,xb,xo,xB,xm,xd,rfl⟩,hS4,hK4⟩;have hS4':ua.St w W4 W2.heap.size gp l ⟨l.length,false⟩:=(by have h9:=hS4;rw [show uc.N l (4 * l.length + 3) 2 0 ⟨0,false⟩ = uz.runN l from rfl,hs2.out] at h9;exact h9);obtain ⟨W5,hW5⟩:∃ W5,Aside0 (W4.alloc (.cells #[.int .i64 xk,.slice xA xn xc,.bool xb,.int .i32 xo,.slice xB xm xd] 148) = W5):=⟨_,⟨rfl⟩⟩;have hB5:Below W4.heap.size W4 W5:=(by rw [← hW5.out];exact uj (Below.refl _ _) _);have hx5:W5.heap[W4.heap.size]? = some (.cells #[.int .i64 xk,.slice xA xn xc,.bool xb,.int .i32 xo,.slice xB xm xd] 148 (0,0)):=(by rw [← hW5.out];exact u3l _ _);have hS5:=hS4'.more hB5;have HS5:=Aside0.mk hS5;have HX5:=Aside0.mk hx5;have HXR:Aside0 (W5.heap[w.heap.size]? = some (.cells #[.int .i64 0,.slice none 0 0,.bool false,.int .i32 0,.slice none 0 0] 148 (0,0))):=⟨(hB5.block _ (Nat.lt_of_lt_of_le (u3c HX3.out) hK4.1)).trans ((hK4.2 _ (u3c HX3.out) (by have:=u3c HX2.out;omega)).trans HX3.out)⟩;have HN5:Aside0 (W4.heap.size ≠ w.heap.size ∧ W2.heap.size ≠ w.heap.size):=⟨by have:=u3c HX3.out;have:=u3c HX2.out;have:=hK4.1;omega,by have:=u3c HX2.out;omega⟩;clear hS4 hS4' hK4 hB5 hx5 hS5 hst))
     rw [hW5.out]
     obtain ⟨A5,c5,⟨k0,k1,k2⟩,⟨q0,q1,q2⟩,_,hg5,_⟩:=HS5.out.look
     have HG5:=Aside0.mk hg5
     clear hg5
     have y0:=(uk HX5.out 0).trans (show (#[.int .i64 xk,.slice xA xn xc,.bool xb,.int .i32 xo,.slice xB xm xd]:Array Value)[0]? = some (.int .i64 xk) from rfl)
     have y1:=(uk HX5.out 1).trans (show (#[.int .i64 xk,.slice xA xn xc,.bool xb,.int .i32 xo,.slice xB xm xd]:Array Value)[1]? = some (.slice xA xn xc) from rfl)
     have y2:=(uk HX5.out 2).trans (show (#[.int .i64 xk,.slice xA xn xc,.bool xb,.int .i32 xo,.slice xB xm xd]:Array Value)[2]? = some (.bool xb) from rfl)
     have y3:=(uk HX5.out 3).trans (show (#[.int .i64 xk,.slice xA xn xc,.bool xb,.int .i32 xo,.slice xB xm xd]:Array Value)[3]? = some (.int .i32 xo) from rfl)
     have y4:=(uk HX5.out 4).trans (show (#[.int .i64 xk,.slice xA xn xc,.bool xb,.int .i32 xo,.slice xB xm xd]:Array Value)[4]? = some (.slice xB xm xd) from rfl)
     have c0:=uk HXR.out 0
     have c1:=uk HXR.out 1
     have c2:=uk HXR.out 2
     have c3:=uk HXR.out 3
     have c4:=uk HXR.out 4
     simp only [List.size_toArray,List.length_cons,List.length_nil,List.getElem?_toArray,List.getElem?_cons_zero,List.getElem?_cons_succ] at c0 c1 c2 c3 c4 k1 k2
     have f0:=ut HXR.out 0
     have f1:=ut HXR.out 1
     have f2:=ut HXR.out 2
     have f3:=ut HXR.out 3
     have f4:=ut HXR.out 4
     refine start_ (n:=17) (S:=fun w' => w'.heap[W4.heap.size]? = some (.cells #[.int .i64 xk,.slice xA xn xc,.bool xb,.int .i32 xo,.slice xB xm xd] 148 (0,0)) ∧ w'.heap[W2.heap.size]? = some (.cells #[.slice A5 l.length c5,.int .i64 ((l.length:Nat):Int),.bool false] 169 (0,0))) (ds:=[]) #[false,false,false,false,false,false,false,false,false,false,false,false,false,false,false,false,false] (by kernel_rfl) rfl rfl ⟨u2e HX5.out,u2e HG5.out⟩ (fun hHeld => ?_)
     refine take_ (i:=0) (N:=some 22) (v:=?_) (a':=?_) #[true,false,false,false,false,false,false,false,false,false,false,false,false,false,false,false,false] rfl rfl (by kernel_rfl) (fun _ _ _ h => h) (Or.inl ⟨by rfl,?_⟩) hHeld ?_ ?_
     rotate_left
     · rintro w' hS'
       have y0:=(uk hS'.1 0).trans (show (#[.int .i64 xk,.slice xA xn xc,.bool xb,.int .i32 xo,.slice xB xm xd]:Array Value)[0]? = some (.int .i64 xk) from rfl)
       have y1:=(uk hS'.1 1).trans (show (#[.int .i64 xk,.slice xA xn xc,.bool xb,.int .i32 xo,.slice xB xm xd]:Array Value)[1]? = some (.slice xA xn xc) from rfl)
       have y2:=(uk hS'.1 2).trans (show (#[.int .i64 xk,.slice xA xn xc,.bool xb,.int .i32 xo,.slice xB xm xd]:Array Value)[2]? = some (.bool xb) from rfl)
       have y3:=(uk hS'.1 3).trans (show (#[.int .i64 xk,.slice xA xn xc,.bool xb,.int .i32 xo,.slice xB xm xd]:Array Value)[3]? = some (.int .i32 xo) from rfl)
       have y4:=(uk hS'.1 4).trans (show (#[.int .i64 xk,.slice xA xn xc,.bool xb,.int .i32 xo,.slice xB xm xd]:Array Value)[4]? = some (.slice xB xm xd) from rfl)
       go_simp
       (try with_reducible rfl)
     rotate_left
     · simp only [Act.put,List.setIfInBounds_toArray,List.set_cons_zero,List.set_cons_succ,i64_w,i32_w]
       rfl
     refine pure_ (i:=1) (N:=some 23) (v:=?_) (a':=?_) #[true,true,false,false,false,false,false,false,false,false,false,false,false,false,false,false,false] rfl rfl (by kernel_rfl) (fun _ _ _ h => h) (Or.inl ⟨by rfl,?_⟩) ?_ ?_
     rotate_left
     · intro w'
       go_simp
       with_reducible rfl
     rotate_left
     · simp only [Act.put,List.setIfInBounds_toArray,List.set_cons_zero,List.set_cons_succ,i64_w,i32_w]
       rfl
     refine pure_ (i:=2) (N:=some 24) (v:=?_) (a':=?_) #[true,true,true,false,false,false,false,false,false,false,false,false,false,false,false,false,false] rfl rfl (by kernel_rfl) (fun _ _ _ h => h) (Or.inl ⟨by rfl,?_⟩) ?_ ?_
     rotate_left
     · intro w'
       go_simp
       with_reducible rfl
     rotate_left
     · simp only [Act.put,List.setIfInBounds_toArray,List.set_cons_zero,List.set_cons_succ,i64_w,i32_w]
       rfl
     refine pure_ (i:=3) (N:=some 25) (v:=?_) (a':=?_) #[true,true,true,true,false,false,false,false,false,false,false,false,false,false,false,false,false] rfl rfl (by kernel_rfl) (fun _ _ _ h => h) (Or.inl ⟨by rfl,?_⟩) ?_ ?_
     rotate_left
     · intro w'
       go_simp
       with_reducible rfl
     rotate_left
     · simp only [Act.put,List.setIfInBounds_toArray,List.set_cons_zero,List.set_cons_succ,i64_w,i32_w]
       rfl
     refine take_ (i:=4) (N:=some 26) (v:=?_) (a':=?_) #[true,true,true,true,true,false,false,false,false,false,false,false,false,false,false,false,false] rfl rfl (by kernel_rfl) (fun _ _ _ h => h) (Or.inl ⟨by rfl,?_⟩) hHeld ?_ ?_
     rotate_left
     · rintro w' hS'
       have hcell:w'.cell? ⟨W2.heap.size,2,none⟩ = some (.bool false):=(uk hS'.2 2).trans rfl
       go_simp
       (try with_reducible rfl)
     rotate_left
     · simp only [Act.put,List.setIfInBounds_toArray,List.set_cons_zero,List.set_cons_succ,i64_w,i32_w]
       rfl
     refine pure_ (i:=5) (N:=some 27) (v:=?_) (a':=?_) #[true,true,true,true,true,true,false,false,false,false,false,false,false,false,false,false,false] rfl rfl (by kernel_rfl) (fun _ _ _ h => h) (Or.inl ⟨by rfl,?_⟩) ?_ ?_
     rotate_left
     · intro w'
       go_simp
       with_reducible rfl
     rotate_left
     · simp only [Act.put,List.setIfInBounds_toArray,List.set_cons_zero,List.set_cons_succ,i64_w,i32_w]
       rfl
     refine pure_ (i:=6) (N:=some 28) (v:=?_) (a':=?_) #[true,true,true,true,true,true,true,false,false,false,false,false,false,false,false,false,false] rfl rfl (by kernel_rfl) (fun _ _ _ h => h) (Or.inl ⟨by rfl,?_⟩) ?_ ?_
     rotate_left
     · intro w'
       go_simp
       with_reducible rfl
     rotate_left
     · simp only [Act.put,List.setIfInBounds_toArray,List.set_cons_zero,List.set_cons_succ,i64_w,i32_w]
       rfl
     refine pure_ (i:=7) (N:=some 29) (v:=?_) (a':=?_) #[true,true,true,true,true,true,true,true,false,false,false,false,false,false,false,false,false] rfl rfl (by kernel_rfl) (fun _ _ _ h => h) (Or.inl ⟨by rfl,?_⟩) ?_ ?_
     rotate_left
     · intro w'
       go_simp
       with_reducible rfl
     rotate_left
     · simp only [Act.put,List.setIfInBounds_toArray,List.set_cons_zero,List.set_cons_succ,i64_w,i32_w]
       rfl
     refine pure_ (i:=8) (N:=some 30) (v:=?_) (a':=?_) #[true,true,true,true,true,true,true,true,true,false,false,false,false,false,false,false,false] rfl rfl (by kernel_rfl) (fun _ _ _ h => h) (Or.inl ⟨by rfl,?_⟩) ?_ ?_
     rotate_left
     · intro w'
       go_simp
       with_reducible rfl
     rotate_left
     · simp only [Act.put,List.setIfInBounds_toArray,List.set_cons_zero,List.set_cons_succ,i64_w,i32_w]
       rfl
     refine pure_ (i:=9) (N:=some 31) (v:=?_) (a':=?_) #[true,true,true,true,true,true,true,true,true,true,false,false,false,false,false,false,false] rfl rfl (by kernel_rfl) (fun _ _ _ h => h) (Or.inl ⟨by rfl,?_⟩) ?_ ?_
     rotate_left
     · intro w'
       go_simp
       with_reducible rfl
     rotate_left
     · simp only [Act.put,List.setIfInBounds_toArray,List.set_cons_zero,List.set_cons_succ,i64_w,i32_w]
       rfl
     refine take_ (i:=10) (N:=some 32) (v:=?_) (a':=?_) #[true,true,true,true,true,true,true,true,true,true,true,false,false,false,false,false,false] rfl rfl (by kernel_rfl) (fun _ _ _ h => h) (Or.inl ⟨by rfl,?_⟩) hHeld ?_ ?_
     rotate_left
     · rintro w' hS'
       have hcell:w'.cell? ⟨W2.heap.size,1,none⟩ = some (.int .i64 ((l.length:Nat):Int)):=(uk hS'.2 1).trans rfl
       go_simp
       (try with_reducible rfl)
     rotate_left
     · simp only [Act.put,List.setIfInBounds_toArray,List.set_cons_zero,List.set_cons_succ,i64_w,i32_w]
       rfl
     refine pure_ (i:=11) (N:=some 33) (v:=?_) (a':=?_) #[true,true,true,true,true,true,true,true,true,true,true,true,false,false,false,false,false] rfl rfl (by kernel_rfl) (fun _ _ _ h => h) (Or.inl ⟨by rfl,?_⟩) ?_ ?_
     rotate_left
     · intro w'
       go_simp
       with_reducible rfl
     rotate_left
     · simp only [Act.put,List.setIfInBounds_toArray,List.set_cons_zero,List.set_cons_succ,i64_w,i32_w]
       rfl
     refine pure_ (i:=12) (N:=some 34) (v:=?_) (a':=?_) #[true,true,true,true,true,true,true,true,true,true,true,true,true,false,false,false,false] rfl rfl (by kernel_rfl) (fun _ _ _ h => h) (Or.inl ⟨by rfl,?_⟩) ?_ ?_
     rotate_left
     · intro w'
       go_simp
       with_reducible rfl
     rotate_left
     · simp only [Act.put,List.setIfInBounds_toArray,List.set_cons_zero,List.set_cons_succ,i64_w,i32_w]
       rfl
     refine pure_ (i:=13) (N:=some 35) (v:=?_) (a':=?_) #[true,true,true,true,true,true,true,true,true,true,true,true,true,true,false,false,false] rfl rfl (by kernel_rfl) (fun _ _ _ h => h) (Or.inl ⟨by rfl,?_⟩) ?_ ?_
     rotate_left
     · intro w'
       go_simp
       with_reducible rfl
     rotate_left
     · simp only [Act.put,List.setIfInBounds_toArray,List.set_cons_zero,List.set_cons_succ,i64_w,i32_w]
       rfl
     refine pure_ (i:=14) (N:=some 36) (v:=?_) (a':=?_) #[true,true,true,true,true,true,true,true,true,true,true,true,true,true,true,false,false] rfl rfl (by kernel_rfl) (fun _ _ _ h => h) (Or.inl ⟨by rfl,?_⟩) ?_ ?_
     rotate_left
     · intro w'
       go_simp
       with_reducible rfl
     rotate_left
     · simp only [Act.put,List.setIfInBounds_toArray,List.set_cons_zero,List.set_cons_succ,i64_w,i32_w]
       rfl
     refine one_ (i:=15) (N:=none) #[true,true,true,true,true,true,true,true,true,true,true,true,true,true,true,true,false] rfl rfl (by kernel_rfl) (by decide) (fun K hK => ?_)
     refine skip_ (w1:=(((((W5.drew.setCell ⟨w.heap.size,0,none⟩ (.int .i64 xk)).setCell ⟨w.heap.size,1,none⟩ (.slice xA xn xc)).setCell ⟨w.heap.size,2,none⟩ (.bool xb)).setCell ⟨w.heap.size,3,none⟩ (.int .i32 xo)).setCell ⟨w.heap.size,4,none⟩ (.slice xB xm xd))) (by rfl) rfl ?_ ?_
     · go_simp
     refine hK.out _ _ ⟨(uz.five_keep _ _ _ _ _ _ _ _ HN5.out.1).trans (u2e HX5.out),(uz.five_keep _ _ _ _ _ _ _ _ HN5.out.2).trans (u2e HG5.out)⟩ (fun hHeld => ?_)
     clear hK hHeld K
     refine pure_ (i:=16) (N:=some 3) (v:=?_) (a':=?_) #[true,true,true,true,true,true,true,true,true,true,true,true,true,true,true,true,true] rfl rfl (by kernel_rfl) (fun _ _ _ h => h) (Or.inl ⟨by rfl,?_⟩) ?_ ?_
     rotate_left
     · intro w'
       go_simp
       with_reducible rfl
     rotate_left
     · simp only [Act.put,List.setIfInBounds_toArray,List.set_cons_zero,List.set_cons_succ,i64_w,i32_w]
       rfl
     refine done_ (by kernel_rfl) ?_
     try go_wp2
     refine bodyPost_ret (v:=.tuple #[.agg #[.int .i64 xk,.slice xA xn xc,.bool xb,.int .i32 xo,.slice xB xm xd],.bool true]) (by simp [results,Tryz.results97,go_sem,c0,c1,c2,c3,c4]) rfl ⟨⟨_,rfl,_,_,_,_,_,_,_,_,_,rfl⟩,?_⟩
     have hbw:Below w.heap.size w W5.drew:=uu HS5.out.below
     exact (((((hbw.setCell (p:=⟨w.heap.size,0,none⟩) (Nat.le_refl _) _).setCell (p:=⟨w.heap.size,1,none⟩) (Nat.le_refl _) _).setCell (p:=⟨w.heap.size,2,none⟩) (Nat.le_refl _) _).setCell (p:=⟨w.heap.size,3,none⟩) (Nat.le_refl _) _).setCell (p:=⟨w.heap.size,4,none⟩) (Nat.le_refl _) _)
   · rw [show (!false && decide (a2 = l.length)) = false by simp [hal]]
     have ta:((a2:Int) == (l.length:Int)) = false:=beq_eq_false_iff_ne.2 (by omega)
     have ta2:(a2 == l.length) = false:=beq_eq_false_iff_ne.2 hal
     clear hal
     go_enter Tryz.func97,Tryz.ntmps97
     go_wp2_with (first
      | (go_at_call 104;rw [hW0.out];(with_reducible refine (u3x.calls p W0 (by omega)).mono ?_);rintro e W1 ⟨v1,rfl,hR1,hB1,gi,pos,hi1⟩;rw [hl.out] at hR1;obtain ⟨Av,cv,ev⟩:=Kd.R_slice hR1;subst ev;have HB1:Aside0 (Below w.heap.size w W1):=⟨u1c HB0.out HB0.out.size hB1⟩;have HX1:=Aside0.mk (u1h HX0.out hB1);have HRN:=Aside0.mk (uz.rn_of hR1 hi1);have HLC:Aside0 (l.length ≤ cv):=⟨by obtain ⟨A2,c2,e2,h2,_⟩:=Kd.R_reads hR1;injection e2 with e2 e3 e4;omega⟩;clear hR1 hB1 hi1)
      | (go_at_call 105;(with_reducible refine (u1g.calls 65533 p false W1 HO.out).mono ?_);rintro e W2 ⟨rfl,hB2⟩;have HB2:Aside0 (Below w.heap.size w W2):=⟨u1c HB1.out HB1.out.size hB2⟩;have HX2:=Aside0.mk (u1h HX1.out hB2);have HRN2:Aside0 (∃ gp,ua.Rn W2 gp Av l):=⟨by obtain ⟨gp,h9⟩:=HRN.out;exact ⟨gp,h9.move (hB2.block _ h9.lt)⟩⟩;obtain ⟨W3,hW3⟩:∃ W3,Aside0 (W2.alloc (.cells #[.slice Av l.length cv,.int .i64 0,.bool false] 169) = W3):=⟨_,⟨rfl⟩⟩;have hB3:Below W2.heap.size W2 W3:=(by rw [← hW3.out];exact uj (Below.refl _ _) _);have hx3:W3.heap[W2.heap.size]? = some (.cells #[.slice Av l.length cv,.int .i64 0,.bool false] 169 (0,0)):=(by rw [← hW3.out];exact u3l _ _);have HST:Aside0 (∃ gp,ua.St w W3 W2.heap.size gp l ⟨0,false⟩):=⟨by obtain ⟨gp,h9⟩:=HRN2.out;exact ⟨gp,⟨u1c HB2.out HB2.out.size hB3,HB2.out.size,Av,cv,hx3,HLC.out,h9.move (hB3.block _ h9.lt)⟩⟩⟩;have HX3:=Aside0.mk (u1h HX2.out hB3);clear hB2 hB3 hx3)
      | (go_at_call 106;rw [hW3.out];obtain ⟨gp,hst⟩:=HST.out;have hLd:=(u1f.all (4 * l.length + 3)).2.2 _ (Nat.le_refl _) w W3 W2.heap.size gp l ⟨0,false⟩ 0 hst (by omega) (by omega) (by simp only;omega) (Or.inr (by unfold uc.need;simp only;omega)) (fun h9 => absurd h9 (by decide));rw [show ((0:Nat):Int) = (0:Int) from rfl] at hLd;(with_reducible refine hLd.mono ?_);clear hLd;rintro e W4 ⟨⟨_,rfl,xk,xA,xn,xc,xb,xo,xB,xm,xd,rfl⟩,hS4,hK4⟩;have hS4':ua.St w W4 W2.heap.size gp l ⟨a2,false⟩:=(by have h9:=hS4;rw [show uc.N l (4 * l.length + 3) 2 0 ⟨0,false⟩ = uz.runN l from rfl,hs2.out] at h9;exact h9);obtain ⟨W5,hW5⟩:∃ W5,Aside0 (W4.alloc (.cells #[.int .i64 xk,.slice xA xn xc,.bool xb,.int .i32 xo,.slice xB xm xd] 148) = W5):=⟨_,⟨rfl⟩⟩;have hB5:Below W4.heap.size W4 W5:=(by rw [← hW5.out];exact uj (Below.refl _ _) _);have hx5:W5.heap[W4.heap.size]? = some (.cells #[.int .i64 xk,.slice xA xn xc,.bool xb,.int .i32 xo,.slice xB xm xd] 148 (0,0)):=(by rw [← hW5.out];exact u3l _ _);have hS5:=hS4'.more hB5;have HS5:=Aside0.mk hS5;have HX5:=Aside0.mk hx5;have HXR:Aside0 (W5.heap[w.heap.size]? = some (.cells #[.int .i64 0,.slice none 0 0,.bool false,.int .i32 0,.slice none 0 0] 148 (0,0))):=⟨(hB5.block _ (Nat.lt_of_lt_of_le (u3c HX3.out) hK4.1)).trans ((hK4.2 _ (u3c HX3.out) (by have:=u3c HX2.out;omega)).trans HX3.out)⟩;have HN5:Aside0 (W4.heap.size ≠ w.heap.size ∧ W2.heap.size ≠ w.heap.size):=⟨by have:=u3c HX3.out;have:=u3c HX2.out;have:=hK4.1;omega,by have:=u3c HX2.out;omega⟩;clear hS4 hS4' hK4 hB5 hx5 hS5 hst))
     rw [hW5.out]
     obtain ⟨A5,c5,⟨k0,k1,k2⟩,⟨q0,q1,q2⟩,_,hg5,_⟩:=HS5.out.look
     have HG5:=Aside0.mk hg5
     clear hg5
     have y0:=(uk HX5.out 0).trans (show (#[.int .i64 xk,.slice xA xn xc,.bool xb,.int .i32 xo,.slice xB xm xd]:Array Value)[0]? = some (.int .i64 xk) from rfl)
     have y1:=(uk HX5.out 1).trans (show (#[.int .i64 xk,.slice xA xn xc,.bool xb,.int .i32 xo,.slice xB xm xd]:Array Value)[1]? = some (.slice xA xn xc) from rfl)
     have y2:=(uk HX5.out 2).trans (show (#[.int .i64 xk,.slice xA xn xc,.bool xb,.int .i32 xo,.slice xB xm xd]:Array Value)[2]? = some (.bool xb) from rfl)
     have y3:=(uk HX5.out 3).trans (show (#[.int .i64 xk,.slice xA xn xc,.bool xb,.int .i32 xo,.slice xB xm xd]:Array Value)[3]? = some (.int .i32 xo) from rfl)
     have y4:=(uk HX5.out 4).trans (show (#[.int .i64 xk,.slice xA xn xc,.bool xb,.int .i32 xo,.slice xB xm xd]:Array Value)[4]? = some (.slice xB xm xd) from rfl)
     have c0:=uk HXR.out 0
     have c1:=uk HXR.out 1
     have c2:=uk HXR.out 2
     have c3:=uk HXR.out 3
     have c4:=uk HXR.out 4
     simp only [List.size_toArray,List.length_cons,List.length_nil,List.getElem?_toArray,List.getElem?_cons_zero,List.getElem?_cons_succ] at c0 c1 c2 c3 c4 k1 k2
     have f0:=ut HXR.out 0
     have f1:=ut HXR.out 1
     have f2:=ut HXR.out 2
     have f3:=ut HXR.out 3
     have f4:=ut HXR.out 4
     refine start_ (n:=17) (S:=fun w' => w'.heap[W4.heap.size]? = some (.cells #[.int .i64 xk,.slice xA xn xc,.bool xb,.int .i32 xo,.slice xB xm xd] 148 (0,0)) ∧ w'.heap[W2.heap.size]? = some (.cells #[.slice A5 l.length c5,.int .i64 ((a2:Nat):Int),.bool false] 169 (0,0))) (ds:=[]) #[false,false,false,false,false,false,false,false,false,false,false,false,false,false,false,false,false] (by kernel_rfl) rfl rfl ⟨u2e HX5.out,u2e HG5.out⟩ (fun hHeld => ?_)
     refine take_ (i:=0) (N:=some 22) (v:=?_) (a':=?_) #[true,false,false,false,false,false,false,false,false,false,false,false,false,false,false,false,false] rfl rfl (by kernel_rfl) (fun _ _ _ h => h) (Or.inl ⟨by rfl,?_⟩) hHeld ?_ ?_
     rotate_left
     · rintro w' hS'
       have y0:=(uk hS'.1 0).trans (show (#[.int .i64 xk,.slice xA xn xc,.bool xb,.int .i32 xo,.slice xB xm xd]:Array Value)[0]? = some (.int .i64 xk) from rfl)
       have y1:=(uk hS'.1 1).trans (show (#[.int .i64 xk,.slice xA xn xc,.bool xb,.int .i32 xo,.slice xB xm xd]:Array Value)[1]? = some (.slice xA xn xc) from rfl)
       have y2:=(uk hS'.1 2).trans (show (#[.int .i64 xk,.slice xA xn xc,.bool xb,.int .i32 xo,.slice xB xm xd]:Array Value)[2]? = some (.bool xb) from rfl)
       have y3:=(uk hS'.1 3).trans (show (#[.int .i64 xk,.slice xA xn xc,.bool xb,.int .i32 xo,.slice xB xm xd]:Array Value)[3]? = some (.int .i32 xo) from rfl)
       have y4:=(uk hS'.1 4).trans (show (#[.int .i64 xk,.slice xA xn xc,.bool xb,.int .i32 xo,.slice xB xm xd]:Array Value)[4]? = some (.slice xB xm xd) from rfl)
       go_simp
       (try with_reducible rfl)
     rotate_left
     · simp only [Act.put,List.setIfInBounds_toArray,List.set_cons_zero,List.set_cons_succ,i64_w,i32_w]
       rfl
     refine pure_ (i:=1) (N:=some 23) (v:=?_) (a':=?_) #[true,true,false,false,false,false,false,false,false,false,false,false,false,false,false,false,false] rfl rfl (by kernel_rfl) (fun _ _ _ h => h) (Or.inl ⟨by rfl,?_⟩) ?_ ?_
     rotate_left
     · intro w'
       go_simp
       with_reducible rfl
     rotate_left
     · simp only [Act.put,List.setIfInBounds_toArray,List.set_cons_zero,List.set_cons_succ,i64_w,i32_w]
       rfl
     refine pure_ (i:=2) (N:=some 24) (v:=?_) (a':=?_) #[true,true,true,false,false,false,false,false,false,false,false,false,false,false,false,false,false] rfl rfl (by kernel_rfl) (fun _ _ _ h => h) (Or.inl ⟨by rfl,?_⟩) ?_ ?_
     rotate_left
     · intro w'
       go_simp
       with_reducible rfl
     rotate_left
     · simp only [Act.put,List.setIfInBounds_toArray,List.set_cons_zero,List.set_cons_succ,i64_w,i32_w]
       rfl
     refine pure_ (i:=3) (N:=some 25) (v:=?_) (a':=?_) #[true,true,true,true,false,false,false,false,false,false,false,false,false,false,false,false,false] rfl rfl (by kernel_rfl) (fun _ _ _ h => h) (Or.inl ⟨by rfl,?_⟩) ?_ ?_
     rotate_left
     · intro w'
       go_simp
       with_reducible rfl
     rotate_left
     · simp only [Act.put,List.setIfInBounds_toArray,List.set_cons_zero,List.set_cons_succ,i64_w,i32_w]
       rfl
     refine take_ (i:=4) (N:=some 26) (v:=?_) (a':=?_) #[true,true,true,true,true,false,false,false,false,false,false,false,false,false,false,false,false] rfl rfl (by kernel_rfl) (fun _ _ _ h => h) (Or.inl ⟨by rfl,?_⟩) hHeld ?_ ?_
     rotate_left
     · rintro w' hS'
       have hcell:w'.cell? ⟨W2.heap.size,2,none⟩ = some (.bool false):=(uk hS'.2 2).trans rfl
       go_simp
       (try with_reducible rfl)
     rotate_left
     · simp only [Act.put,List.setIfInBounds_toArray,List.set_cons_zero,List.set_cons_succ,i64_w,i32_w]
       rfl
     refine pure_ (i:=5) (N:=some 27) (v:=?_) (a':=?_) #[true,true,true,true,true,true,false,false,false,false,false,false,false,false,false,false,false] rfl rfl (by kernel_rfl) (fun _ _ _ h => h) (Or.inl ⟨by rfl,?_⟩) ?_ ?_
     rotate_left
     · intro w'
       go_simp
       with_reducible rfl
     rotate_left
     · simp only [Act.put,List.setIfInBounds_toArray,List.set_cons_zero,List.set_cons_succ,i64_w,i32_w]
       rfl
     refine pure_ (i:=6) (N:=some 28) (v:=?_) (a':=?_) #[true,true,true,true,true,true,true,false,false,false,false,false,false,false,false,false,false] rfl rfl (by kernel_rfl) (fun _ _ _ h => h) (Or.inl ⟨by rfl,?_⟩) ?_ ?_
     rotate_left
     · intro w'
       go_simp
       with_reducible rfl
     rotate_left
     · simp only [Act.put,List.setIfInBounds_toArray,List.set_cons_zero,List.set_cons_succ,i64_w,i32_w]
       rfl
     refine pure_ (i:=7) (N:=some 29) (v:=?_) (a':=?_) #[true,true,true,true,true,true,true,true,false,false,false,false,false,false,false,false,false] rfl rfl (by kernel_rfl) (fun _ _ _ h => h) (Or.inl ⟨by rfl,?_⟩) ?_ ?_
     rotate_left
     · intro w'
       go_simp
       with_reducible rfl
     rotate_left
     · simp only [Act.put,List.setIfInBounds_toArray,List.set_cons_zero,List.set_cons_succ,i64_w,i32_w]
       rfl
     refine pure_ (i:=8) (N:=some 30) (v:=?_) (a':=?_) #[true,true,true,true,true,true,true,true,true,false,false,false,false,false,false,false,false] rfl rfl (by kernel_rfl) (fun _ _ _ h => h) (Or.inl ⟨by rfl,?_⟩) ?_ ?_
     rotate_left
     · intro w'
       go_simp
       with_reducible rfl
     rotate_left
     · simp only [Act.put,List.setIfInBounds_toArray,List.set_cons_zero,List.set_cons_succ,i64_w,i32_w]
       rfl
     refine pure_ (i:=9) (N:=some 31) (v:=?_) (a':=?_) #[true,true,true,true,true,true,true,true,true,true,false,false,false,false,false,false,false] rfl rfl (by kernel_rfl) (fun _ _ _ h => h) (Or.inl ⟨by rfl,?_⟩) ?_ ?_
     rotate_left
     · intro w'
       go_simp
       with_reducible rfl
     rotate_left
     · simp only [Act.put,List.setIfInBounds_toArray,List.set_cons_zero,List.set_cons_succ,i64_w,i32_w]
       rfl
     refine take_ (i:=10) (N:=some 32) (v:=?_) (a':=?_) #[true,true,true,true,true,true,true,true,true,true,true,false,false,false,false,false,false] rfl rfl (by kernel_rfl) (fun _ _ _ h => h) (Or.inl ⟨by rfl,?_⟩) hHeld ?_ ?_
     rotate_left
     · rintro w' hS'
       have hcell:w'.cell? ⟨W2.heap.size,1,none⟩ = some (.int .i64 ((a2:Nat):Int)):=(uk hS'.2 1).trans rfl
       go_simp
       (try with_reducible rfl)
     rotate_left
     · simp only [Act.put,List.setIfInBounds_toArray,List.set_cons_zero,List.set_cons_succ,i64_w,i32_w]
       rfl
     refine pure_ (i:=11) (N:=some 33) (v:=?_) (a':=?_) #[true,true,true,true,true,true,true,true,true,true,true,true,false,false,false,false,false] rfl rfl (by kernel_rfl) (fun _ _ _ h => h) (Or.inl ⟨by rfl,?_⟩) ?_ ?_
     rotate_left
     · intro w'
       go_simp
       with_reducible rfl
     rotate_left
     · simp only [Act.put,List.setIfInBounds_toArray,List.set_cons_zero,List.set_cons_succ,i64_w,i32_w]
       rfl
     refine pure_ (i:=12) (N:=some 34) (v:=?_) (a':=?_) #[true,true,true,true,true,true,true,true,true,true,true,true,true,false,false,false,false] rfl rfl (by kernel_rfl) (fun _ _ _ h => h) (Or.inl ⟨by rfl,?_⟩) ?_ ?_
     rotate_left
     · intro w'
       go_simp
       with_reducible rfl
     rotate_left
     · simp only [Act.put,List.setIfInBounds_toArray,List.set_cons_zero,List.set_cons_succ,i64_w,i32_w]
       rfl
     refine pure_ (i:=13) (N:=some 35) (v:=?_) (a':=?_) #[true,true,true,true,true,true,true,true,true,true,true,true,true,true,false,false,false] rfl rfl (by kernel_rfl) (fun _ _ _ h => h) (Or.inl ⟨by rfl,?_⟩) ?_ ?_
     rotate_left
     · intro w'
       go_simp
       with_reducible rfl
     rotate_left
     · simp only [Act.put,List.setIfInBounds_toArray,List.set_cons_zero,List.set_cons_succ,i64_w,i32_w]
       rfl
     refine pure_ (i:=14) (N:=some 36) (v:=?_) (a':=?_) #[true,true,true,true,true,true,true,true,true,true,true,true,true,true,true,false,false] rfl rfl (by kernel_rfl) (fun _ _ _ h => h) (Or.inl ⟨by rfl,?_⟩) ?_ ?_
     rotate_left
     · intro w'
       go_simp
       with_reducible rfl
     rotate_left
     · simp only [Act.put,List.setIfInBounds_toArray,List.set_cons_zero,List.set_cons_succ,i64_w,i32_w]
       rfl
     refine one_ (i:=15) (N:=none) #[true,true,true,true,true,true,true,true,true,true,true,true,true,true,true,true,false] rfl rfl (by kernel_rfl) (by decide) (fun K hK => ?_)
     refine skip_ (w1:=(((((W5.drew.setCell ⟨w.heap.size,0,none⟩ (.int .i64 xk)).setCell ⟨w.heap.size,1,none⟩ (.slice xA xn xc)).setCell ⟨w.heap.size,2,none⟩ (.bool xb)).setCell ⟨w.heap.size,3,none⟩ (.int .i32 xo)).setCell ⟨w.heap.size,4,none⟩ (.slice xB xm xd))) (by rfl) rfl ?_ ?_
     · go_simp
     refine hK.out _ _ ⟨(uz.five_keep _ _ _ _ _ _ _ _ HN5.out.1).trans (u2e HX5.out),(uz.five_keep _ _ _ _ _ _ _ _ HN5.out.2).trans (u2e HG5.out)⟩ (fun hHeld => ?_)
     clear hK hHeld K
     refine pure_ (i:=16) (N:=some 3) (v:=?_) (a':=?_) #[true,true,true,true,true,true,true,true,true,true,true,true,true,true,true,true,true] rfl rfl (by kernel_rfl) (fun _ _ _ h => h) (Or.inl ⟨by rfl,?_⟩) ?_ ?_
     rotate_left
     · intro w'
       go_simp
       with_reducible rfl
     rotate_left
     · simp only [Act.put,List.setIfInBounds_toArray,List.set_cons_zero,List.set_cons_succ,i64_w,i32_w]
       rfl
     refine done_ (by kernel_rfl) ?_
     try go_wp2
     refine bodyPost_ret (v:=.tuple #[.agg #[.int .i64 xk,.slice xA xn xc,.bool xb,.int .i32 xo,.slice xB xm xd],.bool false]) (by simp [results,Tryz.results97,go_sem,c0,c1,c2,c3,c4]) rfl ⟨⟨_,rfl,_,_,_,_,_,_,_,_,_,rfl⟩,?_⟩
     have hbw:Below w.heap.size w W5.drew:=uu HS5.out.below
     exact (((((hbw.setCell (p:=⟨w.heap.size,0,none⟩) (Nat.le_refl _) _).setCell (p:=⟨w.heap.size,1,none⟩) (Nat.le_refl _) _).setCell (p:=⟨w.heap.size,2,none⟩) (Nat.le_refl _) _).setCell (p:=⟨w.heap.size,3,none⟩) (Nat.le_refl _) _).setCell (p:=⟨w.heap.size,4,none⟩) (Nat.le_refl _) _)
end Go.Proofs.YtgnehcgaplnfkaaGreatDoor.PAll
