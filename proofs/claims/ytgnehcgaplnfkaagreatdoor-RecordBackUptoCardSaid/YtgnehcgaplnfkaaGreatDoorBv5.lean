/- Texts of this seat, joined in the order in which they build. -/
import Derived.Test.YtgnehcgaplnfkaaGreatDoorBv1
import Derived.Test.YtgnehcgaplnfkaaGreatDoorBv2
import Derived.Test.YtgnehcgaplnfkaaGreatDoorGx33Bv
import Derived.Test.YtgnehcgaplnfkaaGreatDoorGx51Bv
import Derived.Test.YtgnehcgaplnfkaaGreatDoorGx52Bv
import Derived.Test.YtgnehcgaplnfkaaGreatDoorGx53Bv
import Derived.Test.YtgnehcgaplnfkaaGreatDoorBv3
import Derived.Test.YtgnehcgaplnfkaaGreatDoorBv4
import Derived.Test.YtgnehcgaplnfkaaGreatDoorGx21Bv
namespace Go.Proofs.YtgnehcgaplnfkaaGreatDoor.PAll
open Go.RowKit Go.Proofs.YtgnehcgaplnfkaaGreatDoorW.PrintWords Go.Proofs.YtgnehcgaplnfkaaGreatDoorW.PrintLast Go.Proofs.YtgnehcgaplnfkaaGreatDoorW.PrintMore
attribute [local go_sem] u3o u3n u3x u3w u3j u3i u3p u3q
set_option linter.unusedVariables false
set_option linter.unusedSimpArgs false
def u3k.rowM (k:Nat) (s:ue.SS):Option ((List S111 × Int × Int) × ue.SS) :=
 (uo.f k s.b).map fun z => ((z.1,wrap64 (ue.num 8 ⟨z.2.1,s.bad || z.2.2 != 0⟩).1,(ue.num 8 (ue.num 8 ⟨z.2.1,s.bad || z.2.2 != 0⟩).2).1),(ue.num 8 (ue.num 8 ⟨z.2.1,s.bad || z.2.2 != 0⟩).2).2)
set_option maxHeartbeats 4000000 in
set_option maxRecDepth 10000 in
theorem u3k.calls (k:Nat) (w0 W:World) (g:Nat) (M:Nat → Prop) (s s':ue.SS) (l:List S111) (t v:Int) (h:ue.St w0 W g M s) (hM:u3k.rowM k s = some ((l,t,v),s')) :
 Calls Tryz.prog 23 #[.pointer (some ⟨g,0,none⟩)] W fun e W' => ∃ vl,e = .returned (.agg #[vl,.int .i64 t,.int .u64 v]) ∧ Kd.R k111 111 W' W.heap.size (fun _ => True) vl l ∧ ue.St w0 W' g (fun k => (M k ∧ k < W.heap.size) ∨ W.heap.size < k) s' ∧ u2s W W' g none:=by
 obtain ⟨⟨l2,q,r3⟩,hD,hE⟩:=Option.map_eq_some_iff.1 hM
 obtain ⟨b,bad⟩:=s
 simp only [Prod.mk.injEq] at hE
 obtain ⟨⟨rfl,rfl,rfl⟩,rfl⟩:=hE
 obtain ⟨x1,s2,hn1⟩:∃ x1 s2,ue.num 8 ⟨q,bad || r3 != 0⟩ = (x1,s2):=⟨_,_,rfl⟩
 rw [hn1]
 obtain ⟨x2,s3,hn2⟩:∃ x2 s3,ue.num 8 s2 = (x2,s3):=⟨_,_,rfl⟩
 simp only [hn2]
 have HN1:=Aside0.mk hn1
 have HN2:=Aside0.mk hn2
 clear hn1 hn2
 have HD:=Aside0.mk hD
 clear hM hD
 obtain ⟨A,c,⟨h0,h1⟩,⟨f0,f1⟩,hl,hb,hr⟩:=h.look
 simp only at h0 h1 hl hr
 have HS:=Aside0.mk h
 have HR:=Aside0.mk (Kd.F_now hr)
 have HL:=Aside0.mk hl
 have HLT:=Aside0.mk h.lt
 have q0:∀ o:Obj,(W.alloc o).cell? ⟨g,0,none⟩ = some (.slice A b.length c):=fun o => ((uj (Below.refl W.heap.size W) o).cell (p:=⟨g,0,none⟩) h.lt).trans h0
 clear h hb hr
 cases bad with
 | true =>
   go_enter Tryz.func23,Tryz.ntmps23
   go_wp2_with (go_at_call 56;(with_reducible refine (uo.calls k A c b l2 q r3 _ (Kd.C_alloc HR.out _) HL.out HD.out).mono ?_);rintro e W1 ⟨v0,v1,rfl,hR0,hR1,hB1⟩;have hX1:=u1a (u3d W (.cells #[.slice none 0 0,.int .i64 0,.int .u64 0] 59)) hB1;have hS1:=(HS.out.mono (M':=fun k => (M k ∧ k < W.heap.size) ∨ W.heap.size < k) (fun k9 h9 hk9 => Or.inl ⟨hk9,h9⟩) (fun k9 hk9 => by rcases hk9 with h8 | h8;exact HS.out.far _ h8.1;have:=HLT.out;omega)).keep (u1c HS.out.below HS.out.below.size (u1c (uj (Below.refl _ _) _) (World.size_alloc _ _ ▸ Nat.le_succ _) hB1)) (fun k9 hk9 => (hB1.block k9 (by simp;omega)).trans ((uj (Below.refl W.heap.size W) _).block k9 hk9));obtain ⟨A1,c1,⟨k0,k1⟩,⟨p0,p1⟩,_⟩:=hS1.look;simp only at k0 k1;obtain ⟨A2,c2,e2⟩:=Kd.R_slice hR1;subst e2;obtain ⟨A3,c3,e3⟩:=Kd.R_slice hR0;subst e3;have hF1:Kd.F (Kd.int .u8) W1 (fun k => (M k ∧ k < W.heap.size) ∨ W.heap.size < k) A2 q.length q:=Kd.F_mono (Kd.R_F (Kd.R_bound hR1)) (fun k9 hk9 => Or.inr (by have h8:=hk9.2.1;simp at h8;omega));have HF1:=Aside0.mk hF1;have hC1:q.length ≤ c2:=(Kd.R_reads' hR1).2.1;have HC1:=Aside0.mk hC1;have HS1:=Aside0.mk hS1;have HX1:=Aside0.mk hX1;have HR0:=Aside0.mk hR0;have HB1:=Aside0.mk hB1;clear hX1 hS1 hR0 hR1 hB1 hF1 hC1)
   have HS2:=Aside0.mk ((HS1.out.setBad true).setB A2 c2 q HC1.out (Kd.F_far (p:=⟨g,1,none⟩) HF1.out HS1.out.far _))
   obtain ⟨W2,hW2⟩:∃ W2,Aside0 ((W1.setCell ⟨g,1,none⟩ (.bool true)).setCell ⟨g,0,none⟩ (.slice A2 q.length c2) = W2):=⟨_,⟨rfl⟩⟩
   have HK2:Aside0 (u2s W1 W2.drew g none):=⟨(show u2s W1 W2 g none by rw [← hW2.out];exact ((u2s.refl _ _ _).set_ 1 _).set_ 0 _).trans (u2s.of_below (ur (Below.refl _ _)) g none) (Or.inl rfl)⟩
   rw [hW2.out] at HS2
   rw [hW2.out]
   have HS2d:Aside0 (ue.St w0 W2.drew g (fun k => (M k ∧ k < W.heap.size) ∨ W.heap.size < k) ⟨q,true⟩):=⟨HS2.out.more (ur (Below.refl _ _))⟩
   have HM1:Aside0 (ue.num 8 ⟨q,true⟩ = (x1,s2)):=⟨HN1.out⟩
   have HM2:=HN2
   clear k0 k1 p0 p1
   refine startO_ (n:=12) (S:=fun _ => True) (ds:=[11]) [(0,34),(1,35),(2,36),(3,37),(6,40),(7,41),(8,42),(4,0),(5,39),(9,0),(10,44),(11,0)] (by kernel_rfl) rfl trivial (fun hHeld => ?_)
   iterate 7 (refine hd_ (v:=?_) (a':=?_) rfl rfl (by kernel_rfl) (Or.inl ⟨by kernel_rfl,?_⟩) ?_ ?_;rotate_left;(intro w';go_simp;with_reducible rfl);rotate_left;(simp only [Act.put,List.setIfInBounds_toArray,List.set_cons_zero,List.set_cons_succ,i64_w,i32_w];rfl))
   refine oneO_ (N:=some 38) rfl rfl (by kernel_rfl) (by decide) (fun K hK => ?_)
   refine goes_ Tryz.func22 (by kernel_rfl) rfl #[.pointer (some ⟨g,0,none⟩),.int .i64 8] (by rfl) rfl rfl (by (try simp only [List.map_toArray,List.map_cons,List.map_nil]);first | done | rfl) ?_
   refine (ue.calls8 w0 _ g _ _ HS2d.out).mono ?_
   rintro e W3 ⟨rfl,hS3,hK3⟩
   rw [HM1.out] at hS3 ⊢
   refine ⟨_,rfl,?_⟩
   have HS3:=Aside0.mk hS3
   have HK3:=Aside0.mk hK3
   clear hS3 hK3
   refine hK.out (Act.put _ (some 38) (.int .u64 x1)) _ trivial (fun hNext => ?_)
   simp only [Act.put,List.setIfInBounds_toArray,List.set_cons_zero,List.set_cons_succ,i64_w,i32_w]
   clear hK hHeld K
   have hHeld:=hNext
   clear hNext
   (refine hd_ (v:=?_) (a':=?_) rfl rfl (by kernel_rfl) (Or.inl ⟨by kernel_rfl,?_⟩) ?_ ?_;rotate_left;(intro w';go_simp;with_reducible rfl);rotate_left;(simp only [Act.put,List.setIfInBounds_toArray,List.set_cons_zero,List.set_cons_succ,i64_w,i32_w];rfl))
   refine oneO_ (N:=some 43) rfl rfl (by kernel_rfl) (by decide) (fun K hK => ?_)
   refine goes_ Tryz.func22 (by kernel_rfl) rfl #[.pointer (some ⟨g,0,none⟩),.int .i64 8] (by rfl) rfl rfl (by (try simp only [List.map_toArray,List.map_cons,List.map_nil]);first | done | rfl) ?_
   refine (ue.calls8 w0 _ g _ _ HS3.out).mono ?_
   rintro e W4 ⟨rfl,hS4,hK4⟩
   rw [HM2.out] at hS4 ⊢
   refine ⟨_,rfl,?_⟩
   have HS4:=Aside0.mk hS4
   have HK4:=Aside0.mk hK4
   clear hS4 hK4
   refine hK.out (Act.put _ (some 43) (.int .u64 x2)) _ trivial (fun hNext => ?_)
   simp only [Act.put,List.setIfInBounds_toArray,List.set_cons_zero,List.set_cons_succ,i64_w,i32_w]
   clear hK hHeld K
   have hHeld:=hNext
   clear hNext
   (refine hd_ (v:=?_) (a':=?_) rfl rfl (by kernel_rfl) (Or.inl ⟨by kernel_rfl,?_⟩) ?_ ?_;rotate_left;(intro w';go_simp;with_reducible rfl);rotate_left;(simp only [Act.put,List.setIfInBounds_toArray,List.set_cons_zero,List.set_cons_succ,i64_w,i32_w];rfl))
   refine lastO_ (N:=none) rfl rfl (by kernel_rfl) (by decide) (fun K hK => ?_)
   have HX4:Aside0 (W4.heap[W.heap.size]? = some (.cells #[.slice none 0 0,.int .i64 0,.int .u64 0] 59 (0,0))):=⟨by have h1:=HK4.out.2;have h2:=HK3.out.2;have h3:=HK2.out.2;have l1:=u2m HX1.out;have l2:=HK2.out.1;have l3:=HK3.out.1;have hne:=HLT.out;exact (h1 _ (by omega) (by omega) (by simp)).trans ((h2 _ (by omega) (by omega) (by simp)).trans ((h3 _ l1 (by omega) (by simp)).trans HX1.out))⟩
   have a0:=uk HX4.out 0
   have a1:=uk HX4.out 1
   have a2:=uk HX4.out 2
   have b0:=uq HX4.out 0
   have b1:=uq HX4.out 1
   have b2:=uq HX4.out 2
   simp only [List.size_toArray,List.length_cons,List.length_nil,List.getElem?_toArray,List.getElem?_cons_zero,List.getElem?_cons_succ] at a0 a1 a2
   refine skip_ (w1:=(((W4.setCell ⟨W.heap.size,0,none⟩ (.slice A3 l2.length c3)).setCell ⟨W.heap.size,1,none⟩ (.int .i64 (wrap64 x1))).setCell ⟨W.heap.size,2,none⟩ (.int .u64 x2))) (by rfl) rfl ?_ ?_
   · go_simp
     (try rfl)
   refine hK.out _ _ ?_
   clear hK K
   refine doneO_ (by kernel_rfl) ?_
   try go_wp2
   refine bodyPost_ret (v:=.agg #[.slice A3 l2.length c3,.int .i64 (wrap64 x1),.int .u64 x2]) (by simp [results,Tryz.results23,go_sem,a0,a1,a2]) rfl ?_
   have HKB:Aside0 (u2s W1 W4 g none):=⟨(HK2.out.trans HK3.out (Or.inl rfl)).trans HK4.out (Or.inl rfl)⟩
   have hlt1:=u2m HX1.out
   have hst:=HKB.out.1
   have hgl:=HLT.out
   have hsz1:W.heap.size + 1 ≤ W1.heap.size:=hlt1
   have hkeep:∀ k9,k9 ≠ W.heap.size → (((W4.setCell ⟨W.heap.size,0,none⟩ (.slice A3 l2.length c3)).setCell ⟨W.heap.size,1,none⟩ (.int .i64 (wrap64 x1))).setCell ⟨W.heap.size,2,none⟩ (.int .u64 x2)).heap[k9]? = W4.heap[k9]? := fun k9 hk9 => by rw [Below.heap_setCell _ _ _ _ hk9,Below.heap_setCell _ _ _ _ hk9,Below.heap_setCell _ _ _ _ hk9]
   refine ⟨_,rfl,?_,HS4.out.move ?_ (hkeep g (by omega)) (fun k9 hk9 _ => hkeep k9 ?_),⟨?_,fun k9 h9 hg9 _ => ?_⟩⟩
   · refine Kd.R_lower (Kd.R_mono (Kd.R_step (Kd.R_bound HR0.out) (fun k9 hk9 hl9 => ?_)) (fun _ _ => trivial)) (by simp)
     have h8:=hk9.2.1
     simp at h8
     exact (hkeep k9 (by omega)).trans (HKB.out.2 k9 hl9 (by omega) (by simp))
   · have hb:w0.heap.size ≤ W.heap.size:=HS.out.below.size
     exact ((HS4.out.below.setCell (p:=⟨W.heap.size,0,none⟩) hb _).setCell (p:=⟨W.heap.size,1,none⟩) hb _).setCell (p:=⟨W.heap.size,2,none⟩) hb _
   · rcases hk9 with h8 | h8 <;> omega
   · simp [World.setCell]
     omega
   · exact (hkeep k9 (by omega)).trans ((HKB.out.2 k9 (by omega) hg9 (by simp)).trans ((HB1.out.block k9 (by simp;omega)).trans ((uj (Below.refl W.heap.size W) _).block k9 h9)))
 | false =>
   go_enter Tryz.func23,Tryz.ntmps23
   go_wp2_with (go_at_call 56;(with_reducible refine (uo.calls k A c b l2 q r3 _ (Kd.C_alloc HR.out _) HL.out HD.out).mono ?_);rintro e W1 ⟨v0,v1,rfl,hR0,hR1,hB1⟩;have hX1:=u1a (u3d W (.cells #[.slice none 0 0,.int .i64 0,.int .u64 0] 59)) hB1;have hS1:=(HS.out.mono (M':=fun k => (M k ∧ k < W.heap.size) ∨ W.heap.size < k) (fun k9 h9 hk9 => Or.inl ⟨hk9,h9⟩) (fun k9 hk9 => by rcases hk9 with h8 | h8;exact HS.out.far _ h8.1;have:=HLT.out;omega)).keep (u1c HS.out.below HS.out.below.size (u1c (uj (Below.refl _ _) _) (World.size_alloc _ _ ▸ Nat.le_succ _) hB1)) (fun k9 hk9 => (hB1.block k9 (by simp;omega)).trans ((uj (Below.refl W.heap.size W) _).block k9 hk9));obtain ⟨A1,c1,⟨k0,k1⟩,⟨p0,p1⟩,_⟩:=hS1.look;simp only at k0 k1;obtain ⟨A2,c2,e2⟩:=Kd.R_slice hR1;subst e2;obtain ⟨A3,c3,e3⟩:=Kd.R_slice hR0;subst e3;have hF1:Kd.F (Kd.int .u8) W1 (fun k => (M k ∧ k < W.heap.size) ∨ W.heap.size < k) A2 q.length q:=Kd.F_mono (Kd.R_F (Kd.R_bound hR1)) (fun k9 hk9 => Or.inr (by have h8:=hk9.2.1;simp at h8;omega));have HF1:=Aside0.mk hF1;have hC1:q.length ≤ c2:=(Kd.R_reads' hR1).2.1;have HC1:=Aside0.mk hC1;have HS1:=Aside0.mk hS1;have HX1:=Aside0.mk hX1;have HR0:=Aside0.mk hR0;have HB1:=Aside0.mk hB1;clear hX1 hS1 hR0 hR1 hB1 hF1 hC1)
   have HS2:=Aside0.mk ((HS1.out.setBad (r3 != 0)).setB A2 c2 q HC1.out (Kd.F_far (p:=⟨g,1,none⟩) HF1.out HS1.out.far _))
   obtain ⟨W2,hW2⟩:∃ W2,Aside0 ((W1.setCell ⟨g,1,none⟩ (.bool (r3 != 0))).setCell ⟨g,0,none⟩ (.slice A2 q.length c2) = W2):=⟨_,⟨rfl⟩⟩
   have HK2:Aside0 (u2s W1 W2.drew g none):=⟨(show u2s W1 W2 g none by rw [← hW2.out];exact ((u2s.refl _ _ _).set_ 1 _).set_ 0 _).trans (u2s.of_below (ur (Below.refl _ _)) g none) (Or.inl rfl)⟩
   rw [hW2.out] at HS2
   rw [hW2.out]
   have HS2d:Aside0 (ue.St w0 W2.drew g (fun k => (M k ∧ k < W.heap.size) ∨ W.heap.size < k) ⟨q,(r3 != 0)⟩):=⟨HS2.out.more (ur (Below.refl _ _))⟩
   have HM1:Aside0 (ue.num 8 ⟨q,(r3 != 0)⟩ = (x1,s2)):=⟨HN1.out⟩
   have HM2:=HN2
   clear k0 k1 p0 p1
   refine startO_ (n:=12) (S:=fun _ => True) (ds:=[11]) [(0,34),(1,35),(2,36),(3,37),(6,40),(7,41),(8,42),(4,0),(5,39),(9,0),(10,44),(11,0)] (by kernel_rfl) rfl trivial (fun hHeld => ?_)
   iterate 7 (refine hd_ (v:=?_) (a':=?_) rfl rfl (by kernel_rfl) (Or.inl ⟨by kernel_rfl,?_⟩) ?_ ?_;rotate_left;(intro w';go_simp;with_reducible rfl);rotate_left;(simp only [Act.put,List.setIfInBounds_toArray,List.set_cons_zero,List.set_cons_succ,i64_w,i32_w];rfl))
   refine oneO_ (N:=some 38) rfl rfl (by kernel_rfl) (by decide) (fun K hK => ?_)
   refine goes_ Tryz.func22 (by kernel_rfl) rfl #[.pointer (some ⟨g,0,none⟩),.int .i64 8] (by rfl) rfl rfl (by (try simp only [List.map_toArray,List.map_cons,List.map_nil]);first | done | rfl) ?_
   refine (ue.calls8 w0 _ g _ _ HS2d.out).mono ?_
   rintro e W3 ⟨rfl,hS3,hK3⟩
   rw [HM1.out] at hS3 ⊢
   refine ⟨_,rfl,?_⟩
   have HS3:=Aside0.mk hS3
   have HK3:=Aside0.mk hK3
   clear hS3 hK3
   refine hK.out (Act.put _ (some 38) (.int .u64 x1)) _ trivial (fun hNext => ?_)
   simp only [Act.put,List.setIfInBounds_toArray,List.set_cons_zero,List.set_cons_succ,i64_w,i32_w]
   clear hK hHeld K
   have hHeld:=hNext
   clear hNext
   (refine hd_ (v:=?_) (a':=?_) rfl rfl (by kernel_rfl) (Or.inl ⟨by kernel_rfl,?_⟩) ?_ ?_;rotate_left;(intro w';go_simp;with_reducible rfl);rotate_left;(simp only [Act.put,List.setIfInBounds_toArray,List.set_cons_zero,List.set_cons_succ,i64_w,i32_w];rfl))
   refine oneO_ (N:=some 43) rfl rfl (by kernel_rfl) (by decide) (fun K hK => ?_)
   refine goes_ Tryz.func22 (by kernel_rfl) rfl #[.pointer (some ⟨g,0,none⟩),.int .i64 8] (by rfl) rfl rfl (by (try simp only [List.map_toArray,List.map_cons,List.map_nil]);first | done | rfl) ?_
   refine (ue.calls8 w0 _ g _ _ HS3.out).mono ?_
   rintro e W4 ⟨rfl,hS4,hK4⟩
   rw [HM2.out] at hS4 ⊢
   refine ⟨_,rfl,?_⟩
   have HS4:=Aside0.mk hS4
   have HK4:=Aside0.mk hK4
   clear hS4 hK4
   refine hK.out (Act.put _ (some 43) (.int .u64 x2)) _ trivial (fun hNext => ?_)
   simp only [Act.put,List.setIfInBounds_toArray,List.set_cons_zero,List.set_cons_succ,i64_w,i32_w]
   clear hK hHeld K
   have hHeld:=hNext
   clear hNext
   (refine hd_ (v:=?_) (a':=?_) rfl rfl (by kernel_rfl) (Or.inl ⟨by kernel_rfl,?_⟩) ?_ ?_;rotate_left;(intro w';go_simp;with_reducible rfl);rotate_left;(simp only [Act.put,List.setIfInBounds_toArray,List.set_cons_zero,List.set_cons_succ,i64_w,i32_w];rfl))
   refine lastO_ (N:=none) rfl rfl (by kernel_rfl) (by decide) (fun K hK => ?_)
   have HX4:Aside0 (W4.heap[W.heap.size]? = some (.cells #[.slice none 0 0,.int .i64 0,.int .u64 0] 59 (0,0))):=⟨by have h1:=HK4.out.2;have h2:=HK3.out.2;have h3:=HK2.out.2;have l1:=u2m HX1.out;have l2:=HK2.out.1;have l3:=HK3.out.1;have hne:=HLT.out;exact (h1 _ (by omega) (by omega) (by simp)).trans ((h2 _ (by omega) (by omega) (by simp)).trans ((h3 _ l1 (by omega) (by simp)).trans HX1.out))⟩
   have a0:=uk HX4.out 0
   have a1:=uk HX4.out 1
   have a2:=uk HX4.out 2
   have b0:=uq HX4.out 0
   have b1:=uq HX4.out 1
   have b2:=uq HX4.out 2
   simp only [List.size_toArray,List.length_cons,List.length_nil,List.getElem?_toArray,List.getElem?_cons_zero,List.getElem?_cons_succ] at a0 a1 a2
   refine skip_ (w1:=(((W4.setCell ⟨W.heap.size,0,none⟩ (.slice A3 l2.length c3)).setCell ⟨W.heap.size,1,none⟩ (.int .i64 (wrap64 x1))).setCell ⟨W.heap.size,2,none⟩ (.int .u64 x2))) (by rfl) rfl ?_ ?_
   · go_simp
     (try rfl)
   refine hK.out _ _ ?_
   clear hK K
   refine doneO_ (by kernel_rfl) ?_
   try go_wp2
   refine bodyPost_ret (v:=.agg #[.slice A3 l2.length c3,.int .i64 (wrap64 x1),.int .u64 x2]) (by simp [results,Tryz.results23,go_sem,a0,a1,a2]) rfl ?_
   have HKB:Aside0 (u2s W1 W4 g none):=⟨(HK2.out.trans HK3.out (Or.inl rfl)).trans HK4.out (Or.inl rfl)⟩
   have hlt1:=u2m HX1.out
   have hst:=HKB.out.1
   have hgl:=HLT.out
   have hsz1:W.heap.size + 1 ≤ W1.heap.size:=hlt1
   have hkeep:∀ k9,k9 ≠ W.heap.size → (((W4.setCell ⟨W.heap.size,0,none⟩ (.slice A3 l2.length c3)).setCell ⟨W.heap.size,1,none⟩ (.int .i64 (wrap64 x1))).setCell ⟨W.heap.size,2,none⟩ (.int .u64 x2)).heap[k9]? = W4.heap[k9]? := fun k9 hk9 => by rw [Below.heap_setCell _ _ _ _ hk9,Below.heap_setCell _ _ _ _ hk9,Below.heap_setCell _ _ _ _ hk9]
   refine ⟨_,rfl,?_,HS4.out.move ?_ (hkeep g (by omega)) (fun k9 hk9 _ => hkeep k9 ?_),⟨?_,fun k9 h9 hg9 _ => ?_⟩⟩
   · refine Kd.R_lower (Kd.R_mono (Kd.R_step (Kd.R_bound HR0.out) (fun k9 hk9 hl9 => ?_)) (fun _ _ => trivial)) (by simp)
     have h8:=hk9.2.1
     simp at h8
     exact (hkeep k9 (by omega)).trans (HKB.out.2 k9 hl9 (by omega) (by simp))
   · have hb:w0.heap.size ≤ W.heap.size:=HS.out.below.size
     exact ((HS4.out.below.setCell (p:=⟨W.heap.size,0,none⟩) hb _).setCell (p:=⟨W.heap.size,1,none⟩) hb _).setCell (p:=⟨W.heap.size,2,none⟩) hb _
   · rcases hk9 with h8 | h8 <;> omega
   · simp [World.setCell]
     omega
   · exact (hkeep k9 (by omega)).trans ((HKB.out.2 k9 (by omega) hg9 (by simp)).trans ((HB1.out.block k9 (by simp;omega)).trans ((uj (Below.refl W.heap.size W) _).block k9 h9)))
def u1f.f:Option Int:=none
abbrev u1f.RS:=ua.RS
def u1f.tl (l:List Int) (kq d:Nat) (cur:u1f.RS):u1f.RS:=if cur.bad = false ∧ ua.pk l cur = 124 then uc.N l kq 2 d ⟨cur.at_ + 1,cur.bad⟩ else cur
theorem u1f.N2 (l:List Int) (f d:Nat) (s:u1f.RS):uc.N l (f + 1) 2 d s = u1f.tl l f d (uc.N l f 1 d s):=rfl
theorem u1f.row1 {w:World} {base b:Nat} {ok:Nat → Prop} {x0 x1 x2 x3 x4:Value} (hb:w.heap[b]? = some (.cells #[x0,x1,x2,x3,x4] 148 (0,0))) (hbase:base ≤ b) (hok:ok b) (h1:∀ u ∈ [x0,x1,x2,x3,x4],u.oneCell' = true):Kd.R (Kd.raw 5) 148 w base ok (.slice (some ⟨b,0,none⟩) 1 1) [[x0,x1,x2,x3,x4]]:=by
 refine ⟨fun k hk => ?_,[x0,x1,x2,x3,x4],⟨rfl,Or.inr ⟨b,1,#[x0,x1,x2,x3,x4],rfl,hbase,hb,Nat.le_refl _,by unfold maxLen;omega,rfl,rfl⟩⟩,rfl,fun j p hj => ?_⟩
 · have:b = k:=by simpa [Value.ownBlock] using hk
   rw [← this]
   exact hok
 · cases j with
   | zero =>
     have : [x0,x1,x2,x3,x4] = p:=by simpa using hj
     rw [← this]
     exact ⟨rfl,rfl,h1⟩
   | succ j => simp at hj
set_option maxHeartbeats 8000000 in
set_option maxRecDepth 20000 in
theorem u1f.calls (f:Nat) (hP:∀ f',f' ≤ f → uc.Sp 124 1 f'):uc.Sp 106 2 f:=by
 intro w0 W g gp l s d h hd hl hs hneed hk
 clear hk
 obtain ⟨fin,hfin⟩:∃ fin,Aside0 (uc.N l f 2 d s = fin):=⟨_,⟨rfl⟩⟩
 rw [hfin.out]
 -- the first alternative's fuel
 obtain ⟨f1,hf1,hN1,hnd1⟩:∃ f1,f1 ≤ f ∧ Aside0 (u1f.tl l f1 d (uc.N l f1 1 d s) = fin) ∧ (s.bad = true ∨ (uc.need 1 (l.length - s.at_) ≤ f1 ∧ uc.need 2 (l.length - s.at_) ≤ f1 + 1)):=by
  cases f with
  | zero =>
    refine ⟨0,Nat.le_refl _,⟨?_⟩,?_⟩
    · rcases hneed with h9 | h9
      · rw [← hfin.out]
        show u1f.tl l 0 d s = s
        unfold u1f.tl
        rw [if_neg (by rw [h9];rintro ⟨h8,_⟩;cases h8)]
      · exact absurd h9 (by unfold uc.need;omega)
    · rcases hneed with h9 | h9
      · exact Or.inl h9
      · exact absurd h9 (by unfold uc.need;omega)
  | succ f =>
    refine ⟨f,Nat.le_succ _,⟨by rw [← hfin.out,u1f.N2]⟩,?_⟩
    rcases hneed with h9 | h9
    · exact Or.inl h9
    · exact Or.inr ⟨by unfold uc.need at h9 ⊢;omega,h9⟩
 obtain ⟨a1,b1,hs1⟩:∃ a1 b1,Aside0 (uc.N l f1 1 d s = ⟨a1,b1⟩):=⟨_,_,⟨rfl⟩⟩
 rw [hs1.out] at hN1
 have HA1:Aside0 (s.at_ ≤ a1 ∧ a1 ≤ l.length + 13):=⟨by
  have h9:=uc.N_at l f1 1 d s hd hs (fun h9 => absurd h9 (by decide))
  rw [hs1.out] at h9
  simp only at h9
  omega⟩
 have HND:Aside0 (b1 = true ∨ l.length ≤ a1 ∨ uc.need 2 (l.length - (a1 + 1)) ≤ f1):=⟨by
  cases hb:b1 with
  | true => exact Or.inl rfl
  | false =>
    rcases hnd1 with h9 | ⟨_,h9⟩
    · exfalso
      have h8:uc.N l f1 1 d s = s:=by
       cases f1 with
       | zero => rfl
       | succ f1 => rw [uc.N1,if_neg (by rw [h9];rintro ⟨h8,_⟩;cases h8)]
      have h7:=hs1.out
      rw [h8] at h7
      rw [h7,hb] at h9
      cases h9
    · rcases Nat.lt_or_ge a1 l.length with h8 | h8
      · right;right
        have:=HA1.out.1
        unfold uc.need at h9 ⊢
        omega
      · exact Or.inr (Or.inl h8)⟩
 have HLO:=h.below.size
 have hgl:=h.gp_lt.2
 obtain ⟨W0,hW0⟩:∃ W0,Aside0 (W.alloc (.cells #[.int .i64 0,.slice none 0 0,.bool false,.int .i32 0,.slice none 0 0] 148) = W0):=⟨_,⟨rfl⟩⟩
 have ba:Below W.heap.size W W0:=by rw [← hW0.out];exact uj (Below.refl _ _) _
 have na:W0.heap[W.heap.size]? = some (.cells ub.zc 148 (0,0)):=by rw [← hW0.out];exact u3d _ _
 have HR0:Aside0 (uc.Rs w0 W W0 g gp W.heap.size l s):=⟨⟨h.more ba,ua.Kq.below ba g,hgl,Nat.le_refl _,HLO,na⟩⟩
 have HLA:Aside0 (∀ W',ua.St w0 W' g gp l s → Calls Tryz.prog 124 #[.pointer (some ⟨g,0,none⟩),.int .i64 d] W' fun e W2 => (∃ v,e = .returned v ∧ ub.NodeV v) ∧ ua.St w0 W2 g gp l ⟨a1,b1⟩ ∧ ua.Kq W' W2 g):=⟨fun W' hW' => by
  have h9:=hP f1 hf1 w0 W' g gp l s d hW' hd hl hs (by rcases hnd1 with h9 | h9;exact Or.inl h9;exact Or.inr h9.1) (fun h9 => absurd h9 (by decide))
  rw [hs1.out] at h9
  exact h9⟩
 have ng2:W.heap.size ≠ g:=by omega
 have ng4:=ng2.symm
 clear ba na h hneed hnd1 hs
 go_enter Tryz.func106,Tryz.ntmps106
 go_wp2_with (go_at_call 124;rw [hW0.out];(with_reducible refine (HLA.out _ HR0.out.st).mono ?_);rintro e w4 ⟨⟨_,rfl,xk,xA,xn,xc,xb,xo,xB,xm,xd,rfl⟩,hS4,hK4⟩;have hR4:=HR0.out.move hS4 hK4;obtain ⟨W5,hW5⟩:∃ W5,Aside0 (w4.alloc (.cells #[.int .i64 xk,.slice xA xn xc,.bool xb,.int .i32 xo,.slice xB xm xd] 148) = W5):=⟨_,⟨rfl⟩⟩;obtain ⟨W6,hW6⟩:∃ W6,Aside0 (W5.alloc (.cells #[.int .i64 4,.slice none 0 0,.bool false,.int .i32 0,.slice (some ⟨w4.heap.size,0,none⟩) 1 1] 148) = W6):=⟨_,⟨rfl⟩⟩;have HR4:=Aside0.mk hR4;clear hS4 hK4 hR4)
 have h45:Below w4.heap.size w4 W5:=by rw [← hW5.out];exact uj (Below.refl _ _) _
 have hx5:W5.heap[w4.heap.size]? = some (.cells #[.int .i64 xk,.slice xA xn xc,.bool xb,.int .i32 xo,.slice xB xm xd] 148 (0,0)):=by rw [← hW5.out];exact u3d _ _
 have s5:W5.heap.size = w4.heap.size + 1:=by rw [← hW5.out];simp
 have h56:Below W5.heap.size W5 W6:=by rw [← hW6.out];exact uj (Below.refl _ _) _
 have hx6:W6.heap[w4.heap.size + 1]? = some (.cells #[.int .i64 4,.slice none 0 0,.bool false,.int .i32 0,.slice (some ⟨w4.heap.size,0,none⟩) 1 1] 148 (0,0)):=by rw [← s5,← hW6.out];exact u3d _ _
 have hR6:=(HR4.out.more h45).more h56
 have hg4:g < w4.heap.size:=HR4.out.st.gp_lt.2
 have hr4:W.heap.size < w4.heap.size:=u2m HR4.out.res
 have HP0:Aside0 (um.Pn w0 W W6 g gp (w4.heap.size + 1) W.heap.size l ⟨a1,b1⟩ 4 (.slice (some ⟨w4.heap.size,0,none⟩) 1 1) [[.int .i64 xk,.slice xA xn xc,.bool xb,.int .i32 xo,.slice xB xm xd]]):=⟨{
  st:=hR6.st
  kq:=hR6.kq
  old:=hgl
  new:=⟨by omega,Nat.le_refl _,by omega⟩
  low:=HLO
  node:=hx6
  res:=hR6.res
  row:=u1f.row1 (u1a hx5 h56) (by omega) ⟨by omega,by omega,by omega⟩ (by simp [Value.oneCell']) }⟩
 have ng1:w4.heap.size + 1 ≠ g:=by omega
 have ng3:=ng1.symm
 have ng5:w4.heap.size + 1 ≠ W.heap.size:=by omega
 have ng6:=ng5.symm
 clear h45 hx5 s5 h56 hx6 hR6 hg4 hr4 HLA
 go_loopg [] f1 (fun kq wr => ∃ (cur:u1f.RS) (vk:Value) (rows:List (List Value)),Aside0 (um.Pn w0 W wr g gp (w4.heap.size + 1) W.heap.size l cur 4 vk rows) ∧ Aside0 (u1f.tl l kq d cur = fin) ∧ Aside0 (cur.bad = true ∨ l.length ≤ cur.at_ ∨ uc.need 2 (l.length - (cur.at_ + 1)) ≤ kq) ∧ Aside0 (cur.at_ ≤ l.length + 13 ∧ rows.length ≤ cur.at_ + 1) ∧ Aside0 (kq ≤ f))
 case atStart => exact ⟨⟨a1,b1⟩,_,[[.int .i64 xk,.slice xA xn xc,.bool xb,.int .i32 xo,.slice xB xm xd]],by rw [hW5.out,hW6.out];exact HP0,hN1,HND,⟨HA1.out.2,by simp⟩,⟨hf1⟩⟩
 case round =>
  clear HP0 HR4 hW6 hW5 hW0 HR0 HND HA1 hN1 hs1 hf1 hfin
  obtain ⟨cur,vk,rows,HP,HF,HNE,HAT,HKF⟩:=hrel
  obtain ⟨Av,cv,ev⟩:=Kd.R_slice HP.out.row
  subst ev
  obtain ⟨p,hp⟩:∃ p,Aside0 (ua.pk l cur = p):=⟨_,⟨rfl⟩⟩
  obtain ⟨ca,cb⟩:=cur
  obtain ⟨⟨k1,k2,q1,q2⟩,⟨n0,n1,n2,n3,n4⟩,fr,⟨r0,r1,r2,r3,r4⟩⟩:=HP.out.look
  have fr0:=fr 0
  have fr1:=fr 1
  have fr2:=fr 2
  have fr3:=fr 3
  have fr4:=fr 4
  clear fr
  simp only at k1 k2
  have hca:ca ≤ 2000:=by have:=HAT.out.1;simp only at this;omega
  have hrl:rows.length ≤ 2001:=by have:=HAT.out.2;simp only at this;omega
  cases cb with
  | true =>
    have HFIN:Aside0 (fin = ⟨ca,true⟩):=⟨by rw [← HF.out];unfold u1f.tl;rw [if_neg (by rintro ⟨h9,_⟩;cases h9)]⟩
    go_wp2
    refine bodyPost_ret (v:=.agg #[.int .i64 4,.slice none 0 0,.bool false,.int .i32 0,.slice Av rows.length cv]) (by simp [results,Tryz.results106,go_sem,r0,r1,r2,r3,r4,ng2,ng4]) rfl ⟨⟨_,rfl,_,_,_,_,_,_,_,_,_,rfl⟩,?_⟩
    rw [HFIN.out]
    exact HP.out.fini _ _ _ _ _
  | false =>
    by_cases h124:p = 124
    · have t124:(p == 124) = true:=beq_iff_eq.2 h124
      have HLT:Aside0 (ca < l.length):=⟨ub.pk_lt (s:=⟨ca,false⟩) (by rw [hp.out,h124];decide)⟩
      have HNK:Aside0 (uc.need 2 (l.length - (ca + 1)) ≤ gk):=⟨by rcases HNE.out with h9 | h9 | h9;cases h9;(have:=HLT.out;simp only at h9;omega);exact h9⟩
      obtain ⟨g1,rfl⟩:∃ g1,gk = g1 + 1:=⟨gk - 1,by have:=HNK.out;unfold uc.need at this;omega⟩
      obtain ⟨a2,b2,hs2⟩:∃ a2 b2,Aside0 (uc.N l g1 1 d ⟨ca + 1,false⟩ = ⟨a2,b2⟩):=⟨_,_,⟨rfl⟩⟩
      have HF1:Aside0 (u1f.tl l g1 d ⟨a2,b2⟩ = fin):=⟨by have h9:=HF.out;unfold u1f.tl at h9;rw [if_pos ⟨rfl,by rw [hp.out];exact h124⟩] at h9;rw [← hs2.out,← u1f.N2];exact h9⟩
      have HA2:Aside0 (ca + 1 ≤ a2 ∧ a2 ≤ l.length + 13):=⟨by
       have h9:=uc.N_at l g1 1 d ⟨ca + 1,false⟩ hd (by have:=HLT.out;simp only;omega) (fun h9 => absurd h9 (by decide))
       rw [hs2.out] at h9
       simp only at h9
       omega⟩
      have HLB:Aside0 (∀ W',ua.St w0 W' g gp l ⟨ca + 1,false⟩ → Calls Tryz.prog 124 #[.pointer (some ⟨g,0,none⟩),.int .i64 d] W' fun e W2 => (∃ v,e = .returned v ∧ ub.NodeV v) ∧ ua.St w0 W2 g gp l ⟨a2,b2⟩ ∧ ua.Kq W' W2 g):=⟨fun W' hW' => by
       have h9:=hP g1 (by have:=HKF.out;omega) w0 W' g gp l ⟨ca + 1,false⟩ d hW' hd hl (by have:=HLT.out;simp only;omega) (Or.inr (by have:=HNK.out;unfold uc.need at this ⊢;simp only;omega)) (fun h9 => absurd h9 (by decide))
       rw [hs2.out] at h9
       exact h9⟩
      clear h124 HF HNE
      go_wp2_with (go_at_call 125;(with_reducible refine (ua.calls w0 _ g gp l _ HP.out.st).mono ?_);rintro e wp ⟨rfl,nq,hw⟩;have hB:=um.dB hw;clear hw;rw [hp.out];have hP1:=HP.out.more hB;clear k1 k2 q1 q2 n0 n1 n2 n3 n4 r0 r1 r2 r3 r4 fr0 fr1 fr2 fr3 fr4;obtain ⟨⟨k1,k2,q1,q2⟩,⟨n0,n1,n2,n3,n4⟩,fr,⟨r0,r1,r2,r3,r4⟩⟩:=hP1.look;have fr0:=fr 0;have fr1:=fr 1;have fr2:=fr 2;have fr3:=fr 3;have fr4:=fr 4;clear fr;simp only at k1 k2;have HP1:=Aside0.mk hP1;clear hB hP1)
      have HP2:Aside0 (um.Pn w0 W (wp.setCell ⟨g,1,none⟩ (.int .i64 ((ca:Int) + 1))) g gp (w4.heap.size + 1) W.heap.size l ⟨ca + 1,false⟩ 4 (.slice Av rows.length cv) rows):=⟨HP1.out.move HP1.out.st.up (ua.Kq.set _ _ _ _)⟩
      have HP3:=Aside0.mk (HP2.out.more (ur (Below.refl _ _)))
      clear k1 k2 q1 q2 n0 n1 n2 n3 n4 r0 r1 r2 r3 r4 fr0 fr1 fr2 fr3 fr4
      refine startO_ (n:=9) (S:=fun w' => w'.cell? ⟨w4.heap.size + 1,4,none⟩ = some (.slice Av rows.length cv)) (ds:=[8]) [(0,28),(1,29),(2,30),(3,31),(4,0),(5,0),(6,0),(7,35),(8,0)] (by kernel_rfl) rfl HP3.out.look.2.1.2.2.2.2 (fun hHeld => ?_)
      (refine hd_ (v:=?_) (a':=?_) rfl rfl (by kernel_rfl) (Or.inl ⟨by kernel_rfl,?_⟩) ?_ ?_;rotate_left;(intro w';go_simp;with_reducible rfl);rotate_left;(simp only [Act.put,List.setIfInBounds_toArray,List.set_cons_zero,List.set_cons_succ,i64_w,i32_w];rfl))
      (refine hdS_ (v:=?_) (a':=?_) rfl rfl (by kernel_rfl) (Or.inl ⟨by kernel_rfl,?_⟩) hHeld ?_ ?_;rotate_left;(rintro w' hS';go_simp;(try with_reducible rfl));rotate_left;(simp only [Act.put,List.setIfInBounds_toArray,List.set_cons_zero,List.set_cons_succ,i64_w,i32_w];rfl))
      iterate 2 (refine hd_ (v:=?_) (a':=?_) rfl rfl (by kernel_rfl) (Or.inl ⟨by kernel_rfl,?_⟩) ?_ ?_;rotate_left;(intro w';go_simp;with_reducible rfl);rotate_left;(simp only [Act.put,List.setIfInBounds_toArray,List.set_cons_zero,List.set_cons_succ,i64_w,i32_w];rfl))
      refine oneO_ (N:=some 32) rfl rfl (by kernel_rfl) (by decide) (fun K hK => ?_)
      refine goes_ Tryz.func124 (by kernel_rfl) rfl #[.pointer (some ⟨g,0,none⟩),.int .i64 d] (by rfl) rfl rfl (by (try simp only [List.map_toArray,List.map_cons,List.map_nil]);first | done | rfl) ?_
      refine (HLB.out _ HP3.out.st).mono ?_
      rintro e w5 ⟨⟨_,rfl,zk,zA,zn,zc,zb,zo,zB,zm,zd,rfl⟩,hS5,hK5⟩
      refine ⟨_,rfl,?_⟩
      have HP5:=Aside0.mk (HP3.out.move hS5 hK5)
      clear hS5 hK5
      refine hK.out (Act.put _ (some 32) (.agg #[.int .i64 zk,.slice zA zn zc,.bool zb,.int .i32 zo,.slice zB zm zd])) _ HP5.out.look.2.1.2.2.2.2 (fun hNext => ?_)
      simp only [Act.put,List.setIfInBounds_toArray,List.set_cons_zero,List.set_cons_succ,i64_w,i32_w]
      clear hK hHeld K
      have hHeld:=hNext
      clear hNext
      refine oneO_ (N:=some 33) rfl rfl (by kernel_rfl) (by decide) (fun K hK => ?_)
      refine value_ (w1:=w5.alloc (.cells #[.int .i64 zk,.slice zA zn zc,.bool zb,.int .i32 zo,.slice zB zm zd] 148)) (v:=.slice (some ⟨w5.heap.size,0,none⟩) 1 1) (by rfl) rfl ?_ ?_
      · go_simp
      refine hK.out (Act.put _ (some 33) (.slice (some ⟨w5.heap.size,0,none⟩) 1 1)) _ (HP5.out.more (uj (Below.refl _ _) _)).look.2.1.2.2.2.2 (fun hNext => ?_)
      simp only [Act.put,List.setIfInBounds_toArray,List.set_cons_zero,List.set_cons_succ,i64_w,i32_w]
      clear hK hHeld K
      have hHeld:=hNext
      clear hNext
      refine oneO_ (N:=some 34) rfl rfl (by kernel_rfl) (by decide) (fun K hK => ?_)
      refine Kd.R_append_step (Kd.raw 5) (w0:=w0) w0.heap.size (by rfl) (.tmp 29) (.tmp 33) 146 148 (.agg ub.zc) 64 rfl Tryz.underlying146 um.infoN rfl (by decide) (by decide) (.slice Av rows.length cv) rows [.int .i64 zk,.slice zA zn zc,.bool zb,.int .i32 zo,.slice zB zm zd] [.int .i64 zk,.slice zA zn zc,.bool zb,.int .i32 zo,.slice zB zm zd] (fun k => W.heap.size ≤ k ∧ k ≠ w4.heap.size + 1 ∧ k ≠ W.heap.size) (fun _ => False) (by rfl) (by rfl) ⟨rfl,rfl,by simp [Value.oneCell']⟩ (fun _ hk => hk.elim) (fun k hk => by have h1:=HP5.out.kq.1;have h2:=u2m HP5.out.node;have h3:=u2m HP5.out.res;omega) HP5.out.row HP5.out.st.below HP5.out.st.below.size (by omega) ?_
      intro v6 W6 hR6 hB6 hg6 hat6
      obtain ⟨⟨z1,z2⟩,hc6⟩:=HP5.out.put hR6 hB6 hg6
      have HZ1:=Aside0.mk z1
      obtain ⟨A6,c6,e6⟩:=Kd.R_slice hR6
      subst e6
      simp only [List.length_append,List.length_cons,List.length_nil,Nat.zero_add] at hc6 ⊢
      have HC6:=Aside0.mk hc6
      clear hc6 hR6 hB6 hg6 hat6
      refine hK.out (Act.put _ (some 34) (.slice A6 (rows.length + 1) c6)) _ HZ1.out (fun hNext => ?_)
      simp only [Act.put,List.setIfInBounds_toArray,List.set_cons_zero,List.set_cons_succ,i64_w,i32_w]
      clear hK hHeld K
      have hHeld:=hNext
      clear hNext
      (refine hd_ (v:=?_) (a':=?_) rfl rfl (by kernel_rfl) (Or.inl ⟨by kernel_rfl,?_⟩) ?_ ?_;rotate_left;(intro w';go_simp;with_reducible rfl);rotate_left;(simp only [Act.put,List.setIfInBounds_toArray,List.set_cons_zero,List.set_cons_succ,i64_w,i32_w];rfl))
      refine lastO_ (N:=none) rfl rfl (by kernel_rfl) (by decide) (fun K hK => ?_)
      refine skip_ (w1:=W6.setCell ⟨w4.heap.size + 1,4,none⟩ (.slice A6 (rows.length + 1) c6)) (by rfl) rfl ?_ ?_
      · go_simp
      refine hK.out _ _ ?_
      clear hK K
      refine doneO_ (by kernel_rfl) ?_
      try go_wp2
      go_roundg g1
      case rel => exact ⟨⟨a2,b2⟩,_,rows ++ [[.int .i64 zk,.slice zA zn zc,.bool zb,.int .i32 zo,.slice zB zm zd]],HC6,HF1,⟨by
       cases hb:b2 with
       | true => exact Or.inl rfl
       | false =>
         right
         rcases Nat.lt_or_ge a2 l.length with h8 | h8
         · right
           have h7:=HNK.out
           have h6:=HA2.out.1
           unfold uc.need at h7 ⊢
           simp only
           omega
         · exact Or.inl h8⟩,⟨HA2.out.2,by have h8:=HA2.out;have h7:=HAT.out;(try simp only at h7);rw [List.length_append,List.length_singleton];show _ ≤ a2 + 1;omega⟩,⟨by have:=HKF.out;omega⟩⟩
      case measure => omega
    · have t124:(p == 124) = false:=beq_eq_false_iff_ne.2 h124
      have H124:=Aside0.mk h124
      clear h124
      have HFIN:Aside0 (fin = ⟨ca,false⟩):=⟨by rw [← HF.out];unfold u1f.tl;rw [if_neg (by rintro ⟨_,h9⟩;rw [hp.out] at h9;exact H124.out h9)]⟩
      go_wp2_with (go_at_call 125;(with_reducible refine (ua.calls w0 _ g gp l _ HP.out.st).mono ?_);rintro e wp ⟨rfl,nq,hw⟩;have hB:=um.dB hw;clear hw;rw [hp.out];have hP1:=HP.out.more hB;clear k1 k2 q1 q2 n0 n1 n2 n3 n4 r0 r1 r2 r3 r4 fr0 fr1 fr2 fr3 fr4;obtain ⟨⟨k1,k2,q1,q2⟩,⟨n0,n1,n2,n3,n4⟩,fr,⟨r0,r1,r2,r3,r4⟩⟩:=hP1.look;have fr0:=fr 0;have fr1:=fr 1;have fr2:=fr 2;have fr3:=fr 3;have fr4:=fr 4;clear fr;simp only at k1 k2;have HP1:=Aside0.mk hP1;clear hB hP1)
      refine bodyPost_ret (v:=.agg #[.int .i64 4,.slice none 0 0,.bool false,.int .i32 0,.slice Av rows.length cv]) (by simp [results,Tryz.results106,go_sem,r0,r1,r2,r3,r4,ng2,ng4]) rfl ⟨⟨_,rfl,_,_,_,_,_,_,_,_,_,rfl⟩,?_⟩
      rw [HFIN.out]
      exact HP1.out.fini _ _ _ _ _
theorem u1f.all (f:Nat):(∀ f',f' ≤ f → uc.Sp 135 0 f') ∧ (∀ f',f' ≤ f → uc.Sp 124 1 f') ∧ ∀ f',f' ≤ f → uc.Sp 106 2 f':=by
 induction f with
 | zero =>
   have hA:∀ f',f' ≤ 0 → uc.Sp 135 0 f':=by
    intro f' hf
    obtain rfl:f' = 0:=by omega
    intro w0 W g gp l s d _ _ _ _ hneed hk
    obtain ⟨h1,h2⟩:=hk rfl
    rcases hneed with h9 | h9
    · rw [h1] at h9
      cases h9
    · exact absurd h9 (by unfold uc.need;omega)
   have hP:∀ f',f' ≤ 0 → uc.Sp 124 1 f':=fun f' hf => um.calls f' (fun g hg => hA g (by omega))
   exact ⟨hA,hP,fun f' hf => u1f.calls f' (fun g hg => hP g (by omega))⟩
 | succ f ih =>
   obtain ⟨iA,iP,iL⟩:=ih
   have hA:∀ f',f' ≤ f + 1 → uc.Sp 135 0 f':=by
    intro f' hf
    rcases Nat.lt_or_ge f f' with h9 | h9
    · obtain rfl:f' = f + 1:=by omega
      exact uc.calls f (iL f (Nat.le_refl _))
    · exact iA f' h9
   have hP:∀ f',f' ≤ f + 1 → uc.Sp 124 1 f':=fun f' hf => um.calls f' (fun g hg => hA g (by omega))
   exact ⟨hA,hP,fun f' hf => u1f.calls f' (fun g hg => hP g (by omega))⟩
def u1i.f (a0:ByteArray):Option (List S164):=none
def u1i.tv (s:ByteArray):Bool:=if strings_ToValidUTF8.badW s = true then true else Lib.contains s.data.toList [239,191,189]
theorem u1i.has_contains {l:List UInt8} (h:strings_ToValidUTF8.Has l):Lib.contains l [239,191,189] = true:=by
 obtain ⟨a,b,rfl⟩:=h
 have ho:Lib.occAt (a ++ [239,191,189] ++ b) [239,191,189] a.length = true:=by
  unfold Lib.occAt
  rw [List.append_assoc,List.drop_append_of_le_length (Nat.le_refl _),List.drop_length,List.nil_append]
  rfl
 rcases Lib.index_spec (a ++ [239,191,189] ++ b) [239,191,189] with ⟨_,h2⟩ | ⟨i,h2,_⟩
 · have h3:=h2 a.length (by simp)
   rw [ho] at h3
   cases h3
 · unfold Lib.contains
   rw [h2]
   simp
def u1i.runM (l:List Int):regex_coder_atom.CS:=regex_coder_atom.M (4 * l.length + 3) 2 0 ⟨l,[],false⟩
def u1i.parseM (s:ByteArray):Option (List S164) :=
 if 60 < s.size ∨ u1i.tv s = true then none
 else if (u1i.runM (Base.runesOf s)).bad = true ∨ 0 < (u1i.runM (Base.runesOf s)).p.length then none
 else some ((u1i.runM (Base.runesOf s)).code ++ [⟨4,[],false,0,0⟩])
theorem u1i.runes_eq (s:ByteArray):∀ (f pos:Nat) (acc:Array Value),(Conv.runesFrom s f pos acc).toList = acc.toList ++ (Base.runesFrom s f pos).map (Value.int .i32):=by
 intro f
 induction f with
 | zero => intro pos acc;simp [Conv.runesFrom,Base.runesFrom]
 | succ f ih =>
   intro pos acc
   unfold Conv.runesFrom Base.runesFrom
   by_cases h:pos < s.size
   · rw [if_pos h,if_pos h]
     simp only
     rw [ih]
     simp
   · rw [if_neg h,if_neg h]
     simp
theorem u1i.runes_size (s:ByteArray):(Conv.runesFrom s s.size 0 #[]).size = (Base.runesOf s).length:=by
 have h:=congrArg List.length (u1i.runes_eq s s.size 0 #[])
 simpa [Base.runesOf] using h
theorem u1i.runes_len (s:ByteArray):(Base.runesOf s).length ≤ s.size:=by
 have h:=size_runesFrom s s.size 0 #[]
 rw [u1i.runes_size] at h
 simpa using h
theorem u1i.laid_runes (s:ByteArray) (w:World) (gp m:Nat) (hs:s.size ≤ 60) (hc:w.heap[gp]? = some (.cells (Conv.runesFrom s s.size 0 #[] ++ Array.replicate m (.int .i32 0)) 21 (0,0))):uf.Runes w gp (some ⟨gp,0,none⟩) (Base.runesOf s):=by
 refine ⟨⟨_,hc⟩,fun W' hW' => ⟨rfl,by have h1:=u1i.runes_len s;omega,fun hp => ⟨⟨gp,0,none⟩,rfl,fun j p hj => ⟨[.int .i32 p],rfl,rfl,fun i u hu => ?_⟩⟩⟩⟩
 have hi:i = 0:=by
  cases i with
  | zero => rfl
  | succ i => simp at hu
 subst hi
 simp only [List.getElem?_cons_zero,Option.some.injEq] at hu
 subst hu
 have h1:(⟨gp,0,none⟩:Addr).add (j * (Kd.int .i32).sz + 0) = ⟨gp,j,none⟩:=by
  have e:(Kd.int .i32).sz = 1:=rfl
  rw [e]
  unfold Addr.add
  split
  · rename_i h0
    have:j = 0:=by simpa using h0
    subst this
    rfl
  · simp
 rw [h1]
 have h2:=uk (hW'.trans hc) j
 rw [h2]
 have h3:(Conv.runesFrom s s.size 0 #[])[j]? = some (Value.int .i32 p):=by
  rw [← Array.getElem?_toList,u1i.runes_eq s s.size 0 #[]]
  simp only [List.nil_append]
  rw [List.getElem?_map]
  change Option.map _ ((Base.runesOf s)[j]?) = _
  rw [hj]
  rfl
 rw [Array.getElem?_append_left (Array.getElem?_eq_some_iff.1 h3).1]
 exact h3
set_option maxHeartbeats 4000000 in
set_option maxRecDepth 10000 in
theorem u1i.calls (w:World) (s:ByteArray) (hG:strings_ToValidUTF8.Gd w) :
 Calls Tryz.prog 96 #[.string s] w fun e w' => ∃ v,e = .returned v ∧ Below w.heap.size w w' ∧ (match u1i.parseM s with | none => v = .slice none 0 0 | some l => Kd.R k164 164 w' w.heap.size (fun _ => True) v l):=by
 by_cases h60:60 < s.size
 · have hm:u1i.parseM s = none:=by
    unfold u1i.parseM
    rw [if_pos (Or.inl h60)]
   rw [hm]
   have hd:decide ((60:Int) < (s.size:Int)) = true:=by simp;omega
   go_enter Tryz.func96,Tryz.ntmps96
   go_wp2
   go_ret
   exact ⟨_,rfl,Below.refl _ _,rfl⟩
 · have hd:decide ((60:Int) < (s.size:Int)) = false:=by simp;omega
   have HG:=Aside0.mk hG
   have hs60:s.size ≤ 60:=by omega
   clear hG h60
   obtain ⟨m0,hm0⟩:=HG.out.2
   obtain ⟨s4,hs4⟩:∃ s4,Aside0 (u1i.runM (Base.runesOf s) = s4):=⟨_,⟨rfl⟩⟩
   have HP:Aside0 (u1i.parseM s = if u1i.tv s = true then none else if s4.bad = true ∨ 0 < s4.p.length then none else some (s4.code ++ [⟨4,[],false,0,0⟩])):=⟨by
    unfold u1i.parseM
    rw [hs4.out]
    by_cases ht:u1i.tv s = true
    · rw [if_pos (Or.inr ht),if_pos ht]
    · rw [if_neg (by rintro (h9 | h9);omega;exact ht h9),if_neg ht]⟩
   have hrl:Aside0 ((Base.runesOf s).length ≤ 60):=⟨Nat.le_trans (u1i.runes_len s) hs60⟩
   obtain ⟨n,hn⟩:∃ n,Aside0 ((Base.runesOf s).length = n):=⟨_,⟨rfl⟩⟩
   have hz:Aside0 (((0:Nat):Int) = 0):=⟨rfl⟩
   have HCT:Aside0 (∀ r,(strings_ToValidUTF8.badW s = true → strings_ToValidUTF8.Has r.data.toList) → (strings_ToValidUTF8.badW s = false → r = s) → Lib.contains r.data.toList (⟨#[239,191,189]⟩:ByteArray).data.toList = u1i.tv s):=⟨fun r h1 h2 => by
    unfold u1i.tv
    cases hb:strings_ToValidUTF8.badW s with
    | true => exact u1i.has_contains (h1 hb)
    | false => rw [h2 hb];rfl⟩
   cases htv:u1i.tv s with
   | true =>
     rw [htv] at HCT HP
     have HM:Aside0 (u1i.parseM s = none):=⟨HP.out⟩
     rw [HM.out]
     clear htv
     go_enter Tryz.func96,Tryz.ntmps96
     go_wp2_with (first
      | (go_at_call 101;(with_reducible refine (strings_ToValidUTF8.calls w s HG.out (by omega)).mono ?_);rintro e W1 ⟨r1,rfl,hB1,hz1,ha1,hb1⟩
         have hct:Aside0 (Lib.contains r1.data.toList (⟨#[239,191,189]⟩:ByteArray).data.toList = _):=⟨HCT.out r1 ha1 hb1⟩
         obtain ⟨m1,hm1⟩:=(HG.out.below hB1).cell
         have hcv:=run_runes_of_string (P:=Tryz.prog) W1 9 157 21 s Tryz.underlying9 Tryz.underlying157 Tryz.underlying21 (by rw [u1i.runes_size];have:=hrl.out;omega)
         rw [u1i.runes_size,hn.out] at hcv
         have hcg:=grownCap_ge W1 n 0 21
         obtain ⟨c,hc⟩:∃ c,Aside0 (grownCap W1 n 0 21 = c):=⟨_,⟨rfl⟩⟩
         rw [hc.out] at hcv hcg
         have HRU:Aside0 (uf.Runes (W1.drew.alloc (.cells (Conv.runesFrom s s.size 0 #[] ++ Array.replicate (c - n) (.int .i32 0)) 21)) W1.heap.size (some ⟨W1.heap.size,0,none⟩) (Base.runesOf s)):=⟨u1i.laid_runes s _ W1.heap.size (c - n) hs60 (u3d W1.drew _)⟩
         have hB2:Below w.heap.size w (W1.drew.alloc (.cells (Conv.runesFrom s s.size 0 #[] ++ Array.replicate (c - n) (.int .i32 0)) 21)):=(show Below w.heap.size w W1.drew from ⟨hB1.os,hB1.tape,hB1.output,hB1.size,hB1.block⟩).alloc hB1.size _
         have hs2:W1.heap.size < (W1.drew.alloc (.cells (Conv.runesFrom s s.size 0 #[] ++ Array.replicate (c - n) (.int .i32 0)) 21)).heap.size:=u2m (u3d W1.drew _)
         obtain ⟨W2,hW2⟩:∃ W2,Aside0 (W1.drew.alloc (.cells (Conv.runesFrom s s.size 0 #[] ++ Array.replicate (c - n) (.int .i32 0)) 21) = W2):=⟨_,⟨rfl⟩⟩
         rw [hW2.out] at hcv HRU hB2 hs2
         obtain ⟨W3,hW3⟩:∃ W3,Aside0 (W2.alloc (.cells #[.slice (some ⟨W1.heap.size,0,none⟩) n c,.slice none 0 0,.bool false] 159) = W3):=⟨_,⟨rfl⟩⟩
         have hb3:Below W2.heap.size W2 W3:=by rw [← hW3.out];exact uj (Below.refl _ _) _
         have hg3:W3.heap[W2.heap.size]? = some (.cells #[.slice (some ⟨W1.heap.size,0,none⟩) n c,.slice none 0 0,.bool false] 159 (0,0)):=by rw [← hW3.out];exact u3d _ _
         have HS3:Aside0 (uf.St w W3 W2.heap.size W1.heap.size (.slice none 0 0) ⟨Base.runesOf s,[],false⟩):=⟨⟨u1c hB2 hB2.size hb3,hB2.size,⟨some ⟨W1.heap.size,0,none⟩,c,by rw [hg3];simp only [hn.out],by rw [hn.out];exact hcg,HRU.out.move (hb3.block _ hs2)⟩,Kd.R_nil _ _ _ _ _⟩⟩
         have HB1:=Aside0.mk hB1
         clear hB1 ha1 hb1 hB2 hb3 hg3 hcg hs2)
      | (go_at_call 100;(with_reducible refine (Tryz.strings_Contains r1 ⟨#[239,191,189]⟩ m1 W1 (by omega) hm1).mono ?_);rintro e W1' ⟨rfl,hW1'⟩;rw [hW1',hct.out]))
     go_ret
     exact ⟨_,rfl,HB1.out,rfl⟩
   | false =>
     rw [htv,if_neg (by decide)] at HP
     rw [htv] at HCT
     clear htv
     cases hb4:s4.bad with
     | true =>
       have HM:Aside0 (u1i.parseM s = none):=⟨by rw [HP.out,if_pos (Or.inl hb4)]⟩
       rw [HM.out]
       go_enter Tryz.func96,Tryz.ntmps96
       go_wp2_with (first
       | (go_at_call 101;(with_reducible refine (strings_ToValidUTF8.calls w s HG.out (by omega)).mono ?_);rintro e W1 ⟨r1,rfl,hB1,hz1,ha1,hb1⟩
          have hct:Aside0 (Lib.contains r1.data.toList (⟨#[239,191,189]⟩:ByteArray).data.toList = _):=⟨HCT.out r1 ha1 hb1⟩
          obtain ⟨m1,hm1⟩:=(HG.out.below hB1).cell
          have hcv:=run_runes_of_string (P:=Tryz.prog) W1 9 157 21 s Tryz.underlying9 Tryz.underlying157 Tryz.underlying21 (by rw [u1i.runes_size];have:=hrl.out;omega)
          rw [u1i.runes_size,hn.out] at hcv
          have hcg:=grownCap_ge W1 n 0 21
          obtain ⟨c,hc⟩:∃ c,Aside0 (grownCap W1 n 0 21 = c):=⟨_,⟨rfl⟩⟩
          rw [hc.out] at hcv hcg
          have HRU:Aside0 (uf.Runes (W1.drew.alloc (.cells (Conv.runesFrom s s.size 0 #[] ++ Array.replicate (c - n) (.int .i32 0)) 21)) W1.heap.size (some ⟨W1.heap.size,0,none⟩) (Base.runesOf s)):=⟨u1i.laid_runes s _ W1.heap.size (c - n) hs60 (u3d W1.drew _)⟩
          have hB2:Below w.heap.size w (W1.drew.alloc (.cells (Conv.runesFrom s s.size 0 #[] ++ Array.replicate (c - n) (.int .i32 0)) 21)):=(show Below w.heap.size w W1.drew from ⟨hB1.os,hB1.tape,hB1.output,hB1.size,hB1.block⟩).alloc hB1.size _
          have hs2:W1.heap.size < (W1.drew.alloc (.cells (Conv.runesFrom s s.size 0 #[] ++ Array.replicate (c - n) (.int .i32 0)) 21)).heap.size:=u2m (u3d W1.drew _)
          obtain ⟨W2,hW2⟩:∃ W2,Aside0 (W1.drew.alloc (.cells (Conv.runesFrom s s.size 0 #[] ++ Array.replicate (c - n) (.int .i32 0)) 21) = W2):=⟨_,⟨rfl⟩⟩
          rw [hW2.out] at hcv HRU hB2 hs2
          obtain ⟨W3,hW3⟩:∃ W3,Aside0 (W2.alloc (.cells #[.slice (some ⟨W1.heap.size,0,none⟩) n c,.slice none 0 0,.bool false] 159) = W3):=⟨_,⟨rfl⟩⟩
          have hb3:Below W2.heap.size W2 W3:=by rw [← hW3.out];exact uj (Below.refl _ _) _
          have hg3:W3.heap[W2.heap.size]? = some (.cells #[.slice (some ⟨W1.heap.size,0,none⟩) n c,.slice none 0 0,.bool false] 159 (0,0)):=by rw [← hW3.out];exact u3d _ _
          have HS3:Aside0 (uf.St w W3 W2.heap.size W1.heap.size (.slice none 0 0) ⟨Base.runesOf s,[],false⟩):=⟨⟨u1c hB2 hB2.size hb3,hB2.size,⟨some ⟨W1.heap.size,0,none⟩,c,by rw [hg3];simp only [hn.out],by rw [hn.out];exact hcg,HRU.out.move (hb3.block _ hs2)⟩,Kd.R_nil _ _ _ _ _⟩⟩
          have HB1:=Aside0.mk hB1
          clear hB1 ha1 hb1 hB2 hb3 hg3 hcg hs2)
       | (go_at_call 100;(with_reducible refine (Tryz.strings_Contains r1 ⟨#[239,191,189]⟩ m1 W1 (by omega) hm1).mono ?_);rintro e W1' ⟨rfl,hW1'⟩;rw [hW1',hct.out])
       | (go_at_call 102;rw [hW3.out]
          have hLd:=(u3e.all (4 * (Base.runesOf s).length + 3)).2.2 _ (Nat.le_refl _) w W3 W2.heap.size W1.heap.size (.slice none 0 0) ⟨Base.runesOf s,[],false⟩ 0 HS3.out (by omega) (Or.inr (by unfold regex_coder_atom.need;simp only;omega)) (by have:=hrl.out;simp only [List.length_nil];omega) (fun h => absurd h (by decide))
          rw [hz.out] at hLd
          (with_reducible refine hLd.mono ?_)
          clear hLd
          rintro e W4 ⟨rfl,vc4,hS4⟩
          have hS4':uf.St w W4 W2.heap.size W1.heap.size vc4 s4:=by have h9:=hS4;rw [← hs4.out];exact h9
          obtain ⟨A4,c4,⟨k0,k1,k2⟩,⟨q0,q1,q2⟩,kl,kb,kr⟩:=hS4'.look
          rw [hb4] at k2
          have HS4:=Aside0.mk hS4'
          clear hS4 hS4' kl kb kr k1 q1))
       go_ret
       exact ⟨_,rfl,HS4.out.below,rfl⟩
     | false =>
       by_cases hp4:0 < s4.p.length
       · have HM:Aside0 (u1i.parseM s = none):=⟨by rw [HP.out,if_pos (Or.inr hp4)]⟩
         rw [HM.out]
         have hd4:decide ((0:Int) < (s4.p.length:Int)) = true:=by simp;omega
         go_enter Tryz.func96,Tryz.ntmps96
         go_wp2_with (first
       | (go_at_call 101;(with_reducible refine (strings_ToValidUTF8.calls w s HG.out (by omega)).mono ?_);rintro e W1 ⟨r1,rfl,hB1,hz1,ha1,hb1⟩
          have hct:Aside0 (Lib.contains r1.data.toList (⟨#[239,191,189]⟩:ByteArray).data.toList = _):=⟨HCT.out r1 ha1 hb1⟩
          obtain ⟨m1,hm1⟩:=(HG.out.below hB1).cell
          have hcv:=run_runes_of_string (P:=Tryz.prog) W1 9 157 21 s Tryz.underlying9 Tryz.underlying157 Tryz.underlying21 (by rw [u1i.runes_size];have:=hrl.out;omega)
          rw [u1i.runes_size,hn.out] at hcv
          have hcg:=grownCap_ge W1 n 0 21
          obtain ⟨c,hc⟩:∃ c,Aside0 (grownCap W1 n 0 21 = c):=⟨_,⟨rfl⟩⟩
          rw [hc.out] at hcv hcg
          have HRU:Aside0 (uf.Runes (W1.drew.alloc (.cells (Conv.runesFrom s s.size 0 #[] ++ Array.replicate (c - n) (.int .i32 0)) 21)) W1.heap.size (some ⟨W1.heap.size,0,none⟩) (Base.runesOf s)):=⟨u1i.laid_runes s _ W1.heap.size (c - n) hs60 (u3d W1.drew _)⟩
          have hB2:Below w.heap.size w (W1.drew.alloc (.cells (Conv.runesFrom s s.size 0 #[] ++ Array.replicate (c - n) (.int .i32 0)) 21)):=(show Below w.heap.size w W1.drew from ⟨hB1.os,hB1.tape,hB1.output,hB1.size,hB1.block⟩).alloc hB1.size _
          have hs2:W1.heap.size < (W1.drew.alloc (.cells (Conv.runesFrom s s.size 0 #[] ++ Array.replicate (c - n) (.int .i32 0)) 21)).heap.size:=u2m (u3d W1.drew _)
          obtain ⟨W2,hW2⟩:∃ W2,Aside0 (W1.drew.alloc (.cells (Conv.runesFrom s s.size 0 #[] ++ Array.replicate (c - n) (.int .i32 0)) 21) = W2):=⟨_,⟨rfl⟩⟩
          rw [hW2.out] at hcv HRU hB2 hs2
          obtain ⟨W3,hW3⟩:∃ W3,Aside0 (W2.alloc (.cells #[.slice (some ⟨W1.heap.size,0,none⟩) n c,.slice none 0 0,.bool false] 159) = W3):=⟨_,⟨rfl⟩⟩
          have hb3:Below W2.heap.size W2 W3:=by rw [← hW3.out];exact uj (Below.refl _ _) _
          have hg3:W3.heap[W2.heap.size]? = some (.cells #[.slice (some ⟨W1.heap.size,0,none⟩) n c,.slice none 0 0,.bool false] 159 (0,0)):=by rw [← hW3.out];exact u3d _ _
          have HS3:Aside0 (uf.St w W3 W2.heap.size W1.heap.size (.slice none 0 0) ⟨Base.runesOf s,[],false⟩):=⟨⟨u1c hB2 hB2.size hb3,hB2.size,⟨some ⟨W1.heap.size,0,none⟩,c,by rw [hg3];simp only [hn.out],by rw [hn.out];exact hcg,HRU.out.move (hb3.block _ hs2)⟩,Kd.R_nil _ _ _ _ _⟩⟩
          have HB1:=Aside0.mk hB1
          clear hB1 ha1 hb1 hB2 hb3 hg3 hcg hs2)
       | (go_at_call 100;(with_reducible refine (Tryz.strings_Contains r1 ⟨#[239,191,189]⟩ m1 W1 (by omega) hm1).mono ?_);rintro e W1' ⟨rfl,hW1'⟩;rw [hW1',hct.out])
       | (go_at_call 102;rw [hW3.out]
          have hLd:=(u3e.all (4 * (Base.runesOf s).length + 3)).2.2 _ (Nat.le_refl _) w W3 W2.heap.size W1.heap.size (.slice none 0 0) ⟨Base.runesOf s,[],false⟩ 0 HS3.out (by omega) (Or.inr (by unfold regex_coder_atom.need;simp only;omega)) (by have:=hrl.out;simp only [List.length_nil];omega) (fun h => absurd h (by decide))
          rw [hz.out] at hLd
          (with_reducible refine hLd.mono ?_)
          clear hLd
          rintro e W4 ⟨rfl,vc4,hS4⟩
          have hS4':uf.St w W4 W2.heap.size W1.heap.size vc4 s4:=by have h9:=hS4;rw [← hs4.out];exact h9
          obtain ⟨A4,c4,⟨k0,k1,k2⟩,⟨q0,q1,q2⟩,kl,kb,kr⟩:=hS4'.look
          rw [hb4] at k2
          have HS4:=Aside0.mk hS4'
          clear hS4 hS4' kl kb kr k1 q1))
         go_ret
         exact ⟨_,rfl,HS4.out.below,rfl⟩
       · have HM:Aside0 (u1i.parseM s = some (s4.code ++ [⟨4,[],false,0,0⟩])):=⟨by rw [HP.out,if_neg (by rintro (h9 | h9);rw [hb4] at h9;cases h9;exact hp4 h9)]⟩
         rw [HM.out]
         have hd4:decide ((0:Int) < (s4.p.length:Int)) = false:=decide_eq_false (by omega)
         have HC4:Aside0 (s4.code.length + 1 ≤ 1000000):=⟨by
          have h9:=(regex_coder_atom.M_dec (4 * (Base.runesOf s).length + 3) 2 0 ⟨Base.runesOf s,[],false⟩ (fun h => absurd h (by decide))).1.both
          have h8:=hs4.out
          unfold u1i.runM at h8
          rw [h8] at h9
          have:=hrl.out
          simp only [List.length_nil] at h9
          have h7:=Nat.le_trans (Nat.le_add_right _ _) h9
          have h6:s4.code.length ≤ 0 + 2 * (Base.runesOf s).length:=h7
          omega⟩
         go_enter Tryz.func96,Tryz.ntmps96
         go_wp2_with (first
       | (go_at_call 101;(with_reducible refine (strings_ToValidUTF8.calls w s HG.out (by omega)).mono ?_);rintro e W1 ⟨r1,rfl,hB1,hz1,ha1,hb1⟩
          have hct:Aside0 (Lib.contains r1.data.toList (⟨#[239,191,189]⟩:ByteArray).data.toList = _):=⟨HCT.out r1 ha1 hb1⟩
          obtain ⟨m1,hm1⟩:=(HG.out.below hB1).cell
          have hcv:=run_runes_of_string (P:=Tryz.prog) W1 9 157 21 s Tryz.underlying9 Tryz.underlying157 Tryz.underlying21 (by rw [u1i.runes_size];have:=hrl.out;omega)
          rw [u1i.runes_size,hn.out] at hcv
          have hcg:=grownCap_ge W1 n 0 21
          obtain ⟨c,hc⟩:∃ c,Aside0 (grownCap W1 n 0 21 = c):=⟨_,⟨rfl⟩⟩
          rw [hc.out] at hcv hcg
          have HRU:Aside0 (uf.Runes (W1.drew.alloc (.cells (Conv.runesFrom s s.size 0 #[] ++ Array.replicate (c - n) (.int .i32 0)) 21)) W1.heap.size (some ⟨W1.heap.size,0,none⟩) (Base.runesOf s)):=⟨u1i.laid_runes s _ W1.heap.size (c - n) hs60 (u3d W1.drew _)⟩
          have hB2:Below w.heap.size w (W1.drew.alloc (.cells (Conv.runesFrom s s.size 0 #[] ++ Array.replicate (c - n) (.int .i32 0)) 21)):=(show Below w.heap.size w W1.drew from ⟨hB1.os,hB1.tape,hB1.output,hB1.size,hB1.block⟩).alloc hB1.size _
          have hs2:W1.heap.size < (W1.drew.alloc (.cells (Conv.runesFrom s s.size 0 #[] ++ Array.replicate (c - n) (.int .i32 0)) 21)).heap.size:=u2m (u3d W1.drew _)
          obtain ⟨W2,hW2⟩:∃ W2,Aside0 (W1.drew.alloc (.cells (Conv.runesFrom s s.size 0 #[] ++ Array.replicate (c - n) (.int .i32 0)) 21) = W2):=⟨_,⟨rfl⟩⟩
          rw [hW2.out] at hcv HRU hB2 hs2
          obtain ⟨W3,hW3⟩:∃ W3,Aside0 (W2.alloc (.cells #[.slice (some ⟨W1.heap.size,0,none⟩) n c,.slice none 0 0,.bool false] 159) = W3):=⟨_,⟨rfl⟩⟩
          have hb3:Below W2.heap.size W2 W3:=by rw [← hW3.out];exact uj (Below.refl _ _) _
          have hg3:W3.heap[W2.heap.size]? = some (.cells #[.slice (some ⟨W1.heap.size,0,none⟩) n c,.slice none 0 0,.bool false] 159 (0,0)):=by rw [← hW3.out];exact u3d _ _
          have HS3:Aside0 (uf.St w W3 W2.heap.size W1.heap.size (.slice none 0 0) ⟨Base.runesOf s,[],false⟩):=⟨⟨u1c hB2 hB2.size hb3,hB2.size,⟨some ⟨W1.heap.size,0,none⟩,c,by rw [hg3];simp only [hn.out],by rw [hn.out];exact hcg,HRU.out.move (hb3.block _ hs2)⟩,Kd.R_nil _ _ _ _ _⟩⟩
          have HB1:=Aside0.mk hB1
          clear hB1 ha1 hb1 hB2 hb3 hg3 hcg hs2)
       | (go_at_call 100;(with_reducible refine (Tryz.strings_Contains r1 ⟨#[239,191,189]⟩ m1 W1 (by omega) hm1).mono ?_);rintro e W1' ⟨rfl,hW1'⟩;rw [hW1',hct.out])
       | (go_at_call 102;rw [hW3.out]
          have hLd:=(u3e.all (4 * (Base.runesOf s).length + 3)).2.2 _ (Nat.le_refl _) w W3 W2.heap.size W1.heap.size (.slice none 0 0) ⟨Base.runesOf s,[],false⟩ 0 HS3.out (by omega) (Or.inr (by unfold regex_coder_atom.need;simp only;omega)) (by have:=hrl.out;simp only [List.length_nil];omega) (fun h => absurd h (by decide))
          rw [hz.out] at hLd
          (with_reducible refine hLd.mono ?_)
          clear hLd
          rintro e W4 ⟨rfl,vc4,hS4⟩
          have hS4':uf.St w W4 W2.heap.size W1.heap.size vc4 s4:=by have h9:=hS4;rw [← hs4.out];exact h9
          obtain ⟨A4,c4,⟨k0,k1,k2⟩,⟨q0,q1,q2⟩,kl,kb,kr⟩:=hS4'.look
          rw [hb4] at k2
          have HS4:=Aside0.mk hS4'
          clear hS4 hS4' kl kb kr k1 q1)
       | (go_at_call 103;(with_reducible refine (u1n.put1a rfl HS4.out (Kd.R_nil _ _ _ _ _) HC4.out).mono ?_);rintro e W5 ⟨rfl,vc5,hS5,hF5⟩
          obtain ⟨A5,c5,e5⟩:=Kd.R_slice hS5.code
          subst e5
          obtain ⟨B5,d5,⟨z0,z1,z2⟩,⟨y0,y1,y2⟩,zl,zb,zr⟩:=hS5.look
          have HS5:=Aside0.mk hS5
          clear hS5 hF5 zl zb zr z0 y0))
         go_ret
         refine ⟨.slice A5 (s4.code.length + 1) c5,rfl,HS5.out.below,?_⟩
         have h9:=HS5.out.code
         simp only [List.length_append,List.length_cons,List.length_nil,Nat.zero_add] at h9
         exact h9
end Go.Proofs.YtgnehcgaplnfkaaGreatDoor.PAll
namespace Go.Proofs.YtgnehcgaplnfkaaGreatDoor.PAll
open Go.RowKit Go.Proofs.YtgnehcgaplnfkaaGreatDoorW.PrintWords Go.Proofs.YtgnehcgaplnfkaaGreatDoorW.PrintLast
set_option linter.unusedVariables false
set_option linter.unusedSimpArgs false
namespace Has
theorem has_from (s:ByteArray) (a b:List UInt8) (hs:s.data.toList = a ++ [239,191,189] ++ b):∀ (f pos:Nat),s.size - pos ≤ f → pos ≤ a.length → strings_ToValidUTF8.badFrom s f pos = false → (65533:Int) ∈ Base.runesFrom s f pos:=by
 have hlen:s.size = a.length + 3 + b.length:=by
  rw [Base.size_list,hs]
  simp
  omega
 have hget:∀ i,i < 3 → s.data.toList.getD (a.length + i) 0 = ([239,191,189]:List UInt8).getD i 0:=by
  intro i hi
  rw [hs,List.append_assoc,List.getD_eq_getElem?_getD,List.getElem?_append_right (by omega),Nat.add_sub_cancel_left,List.getElem?_append_left (by simpa using hi),← List.getD_eq_getElem?_getD]
 intro f
 induction f with
 | zero =>
   intro pos h hp _
   omega
 | succ f ih =>
   intro pos h hp hb
   have hlt:pos < s.size:=by omega
   rw [Utf.bad_step s f pos hlt,Bool.or_eq_false_iff] at hb
   have hv:=of_decide_eq_false hb.1
   rw [Base.runesFrom_step s f pos hlt]
   have hd:=Lib.decode_N s pos
   rcases Nat.lt_or_ge pos a.length with hpa | hpa
   · refine List.mem_cons_of_mem _ (ih _ (by have:=Base.width_pos s pos hlt;omega) ?_ hb.2)
     have h239:=hget 0 (by omega)
     have h239':(s.data.toList.getD a.length 0).toNat = 239:=by
      have:s.data.toList.getD a.length 0 = 239:=by simpa using h239
      rw [this]
      rfl
     rw [hd] at hv ⊢
     have hk:∀ k,pos + k = a.length → (s.data.toList.getD (pos + k) 0).toNat = 239:=fun k hk => by rw [hk];exact h239'
     have hk1:=hk 1
     have hk2:=hk 2
     have hk3:=hk 3
     rcases Lib.decodeN_shape (s.data.toList.length - pos) (s.data.toList.getD pos 0).toNat (s.data.toList.getD (pos + 1) 0).toNat (s.data.toList.getD (pos + 2) 0).toNat (s.data.toList.getD (pos + 3) 0).toNat with ⟨c,e⟩ | ⟨c1,c2,c3,cv,e⟩ | ⟨c1,c2,c3,c4,cv,cs,e⟩ | ⟨c1,c2,c3,c4,c5,cv,cw,e⟩ | e
     · rw [e]
       dsimp only
       omega
     · rw [e]
       dsimp only
       omega
     · rw [e]
       dsimp only
       omega
     · rw [e]
       dsimp only
       omega
     · exact absurd e hv
   · have e:pos = a.length:=by omega
     subst e
     have g0:s.data.toList.getD a.length 0 = 239:=by simpa using hget 0 (by omega)
     have g1:s.data.toList.getD (a.length + 1) 0 = 191:=by simpa using hget 1 (by omega)
     have g2:s.data.toList.getD (a.length + 2) 0 = 189:=by simpa using hget 2 (by omega)
     have e1:(Utf8.decode s a.length).1 = 65533:=by
      rw [hd,g0,g1,g2]
      have hl2:2 < s.data.toList.length - a.length:=by
       rw [← Base.size_list]
       omega
      have t0:(239:UInt8).toNat = 239:=rfl
      have t1:(191:UInt8).toNat = 191:=rfl
      have t2:(189:UInt8).toNat = 189:=rfl
      rw [t0,t1,t2]
      unfold Lib.decodeN
      rw [if_neg (by omega),if_neg (by omega),if_pos (by omega),if_pos (by omega)]
     rw [e1]
     exact List.mem_cons_self
theorem no_has {s:ByteArray} (hb:strings_ToValidUTF8.badW s = false) (hn:¬ (65533:Int) ∈ Base.runesOf s):Lib.contains s.data.toList [239,191,189] = false:=by
 cases hc:Lib.contains s.data.toList [239,191,189] with
 | false => rfl
 | true =>
   exfalso
   unfold Lib.contains at hc
   rcases Lib.index_spec s.data.toList [239,191,189] with ⟨h1,h2⟩ | ⟨i,h1,h2,h3⟩
   · rw [h1] at hc
     simp at hc
   · have hocc:Lib.occAt s.data.toList [239,191,189] i = true:=by first | exact h3 | exact h3.1 | exact h2 | exact h2.1 | exact h2.2
     unfold Lib.occAt at hocc
     have hpre:([239,191,189]:List UInt8) <+: s.data.toList.drop i:=by first | exact List.isPrefixOf_iff_prefix.1 hocc | simpa using hocc
     obtain ⟨t,ht⟩:=hpre
     have hs:s.data.toList = s.data.toList.take i ++ [239,191,189] ++ t:=by
      rw [List.append_assoc,ht,List.take_append_drop]
     have hil:i ≤ s.data.toList.length:=by
      rcases Nat.lt_or_ge s.data.toList.length i with h9 | h9
      · rw [List.drop_eq_nil_of_le (by omega)] at ht
        cases ht
      · exact h9
     refine hn (has_from s _ t hs s.size 0 (by omega) (by omega) hb)
theorem bad_mem (s:ByteArray):∀ (f pos:Nat),strings_ToValidUTF8.badFrom s f pos = true → (65533:Int) ∈ Base.runesFrom s f pos:=by
 intro f
 induction f with
 | zero => exact fun pos h => by cases h
 | succ f ih =>
   intro pos h
   by_cases hp:pos < s.size
   · rw [Utf.bad_step s f pos hp,Bool.or_eq_true] at h
     rw [Base.runesFrom_step s f pos hp]
     rcases h with h | h
     · have h1:=of_decide_eq_true h
       rw [h1]
       exact List.mem_cons_self
     · exact List.mem_cons_of_mem _ (ih _ h)
   · rw [Utf.bad_end s _ pos hp] at h
     cases h
theorem rune_has (s:ByteArray):∀ (f pos:Nat),strings_ToValidUTF8.badFrom s f pos = false → (65533:Int) ∈ Base.runesFrom s f pos → strings_ToValidUTF8.Has s.data.toList:=by
 intro f
 induction f with
 | zero => exact fun pos _ h => by simp [Base.runesFrom] at h
 | succ f ih =>
   intro pos hb h
   by_cases hp:pos < s.size
   · rw [Utf.bad_step s f pos hp,Bool.or_eq_false_iff] at hb
     rw [Base.runesFrom_step s f pos hp] at h
     rcases List.mem_cons.1 h with h | h
     · have hv:=of_decide_eq_false hb.1
       have hne:s.data.toList.drop pos ≠ []:=fun h9 => by
        have:=List.drop_eq_nil_iff.1 h9
        rw [← Base.size_list] at this
        omega
       have h1:(Utf8.decode s pos).1 = 65533:=by omega
       have h2:=Lib.encode_decode (s.data.toList.drop pos) hne (fun h9 => by
        rw [Lib.decodeL_drop] at h9
        exact hv (Prod.ext h9.1 h9.2))
       rw [Lib.decodeL_drop,h1] at h2
       have h3:Lib.encodeRune ((65533:Nat):Int) = [239,191,189]:=by rfl
       rw [h3] at h2
       refine ⟨s.data.toList.take pos,(s.data.toList.drop pos).drop (Utf8.decode s pos).2,?_⟩
       rw [h2,List.append_assoc,List.take_append_drop,List.take_append_drop]
     · exact ih _ hb.2 h
   · rw [Base.runesFrom_end s _ pos hp] at h
     simp at h
theorem tv_iff (s:ByteArray):u1i.tv s = true ↔ (65533:Int) ∈ Base.runesOf s:=by
 unfold u1i.tv
 cases hb:strings_ToValidUTF8.badW s with
 | true => exact ⟨fun _ => bad_mem s _ _ hb,fun _ => by rw [if_pos rfl]⟩
 | false =>
   rw [if_neg (by decide)]
   constructor
   · intro h
     refine Classical.byContradiction fun hn => ?_
     rw [no_has hb hn] at h
     cases h
   · exact fun h => u1i.has_contains (rune_has s _ _ hb h)
end Has
end Go.Proofs.YtgnehcgaplnfkaaGreatDoor.PAll
namespace Go.Proofs.YtgnehcgaplnfkaaGreatDoor.PAll
open Go.RowKit Go.Proofs.YtgnehcgaplnfkaaGreatDoorW.PrintWords Go.Proofs.YtgnehcgaplnfkaaGreatDoorW.PrintLast Go.Proofs.YtgnehcgaplnfkaaGreatDoorW.PrintMore
attribute [local go_sem] u3o u3n u3x u3w u3j u3i u3p u3q
set_option linter.unusedVariables false
set_option linter.unusedSimpArgs false
def u2d.TG (n:Nat) (x:S164):Prop:=(x.f0 = 2 → 0 ≤ x.f3 ∧ x.f3 ≤ n ∧ 0 ≤ x.f4 ∧ x.f4 ≤ n) ∧ (x.f0 = 3 → 0 ≤ x.f3 ∧ x.f3 ≤ n)
theorem u2d.TG.mono {n m:Nat} {x:S164} (h:u2d.TG n x) (hm:n ≤ m):u2d.TG m x :=
 ⟨fun h9 => by have:=h.1 h9;omega,fun h9 => by have:=h.2 h9;omega⟩
theorem u2d.TG.sh {n:Nat} {x:S164} (h:u2d.TG n x) (hn:n ≤ 100000):u2d.TG (n + 1) (u2c.sh 1 x):=by
 refine ⟨fun h9 => ?_,fun h9 => ?_⟩
 · have:=h.1 h9
   simp only [u2c.sh,wrap64]
   omega
 · have:=h.2 h9
   simp only [u2c.sh,wrap64]
   omega
theorem u2d.TG.rune (n:Nat) (l:List S191) (b:Bool):u2d.TG n ⟨1,l,b,0,0⟩:=⟨fun h => absurd h (show ¬ (1:Int) = 2 by decide),fun h => absurd h (show ¬ (1:Int) = 3 by decide)⟩
def u2d.Inv (s:regex_coder_atom.CS):Prop:=∀ x,x ∈ s.code → u2d.TG s.code.length x
theorem u2d.Inv.of_code {s s':regex_coder_atom.CS} (h:u2d.Inv s) (hc:s'.code = s.code):u2d.Inv s':=by
 unfold u2d.Inv at *
 rw [hc]
 exact h
theorem u2d.Inv.put1 {s:regex_coder_atom.CS} (h:u2d.Inv s) (l:List S191) (b:Bool):u2d.Inv (regex_coder_atom.put s [⟨1,l,b,0,0⟩]):=by
 intro x hx
 simp only [regex_coder_atom.put,List.mem_append,List.length_append,List.length_cons,List.length_nil] at hx ⊢
 rcases hx with h9 | h9
 · exact (h x h9).mono (by omega)
 · have:x = ⟨1,l,b,0,0⟩:=by simpa using h9
   rw [this]
   exact u2d.TG.rune _ _ _
theorem u2d.Inv.cls {s:regex_coder_atom.CS} (h:u2d.Inv s):u2d.Inv (uh.cls s):=by
 obtain ⟨s2,l,b,e,hc⟩:∃ (s2:regex_coder_atom.CS) (l:List S191) (b:Bool),uh.cls s = regex_coder_atom.put s2 [⟨1,l,b,0,0⟩] ∧ s2.code = s.code:=by
  refine ⟨_,_,_,rfl,?_⟩
  rw [uh.step_code,(uh.loopM_code _ _ _ _).1]
  split
  · exact uh.step_code s
  · rfl
 rw [e]
 exact (h.of_code hc).put1 l b
theorem u2d.Inv.qual {n:Nat} {s:regex_coder_atom.CS} (h:u2d.Inv s) (hn:n ≤ s.code.length) (hz:s.code.length ≤ 1000):u2d.Inv (regex_coder_atom.qual n s):=by
 unfold regex_coder_atom.qual
 have hd:(s.code.drop n).length = s.code.length - n:=List.length_drop
 have hs:(uf.step { s with code:=s.code.take n }).2.code = s.code.take n:=uh.step_code _
 have ht:(s.code.take n).length = n:=by rw [List.length_take];omega
 have h1:∀ x,x ∈ s.code.take n → u2d.TG s.code.length x:=fun x hx => h x (List.mem_of_mem_take hx)
 have h2:∀ x,x ∈ (s.code.drop n).map (u2c.sh 1) → u2d.TG (s.code.length + 1) x:=fun x hx => by
  obtain ⟨y,hy,rfl⟩:=List.mem_map.1 hx
  exact (h y (List.mem_of_mem_drop hy)).sh (by omega)
 have h3:∀ x,x ∈ s.code.drop n → u2d.TG s.code.length x:=fun x hx => h x (List.mem_of_mem_drop hx)
 split
 · split
   · intro x hx
     simp only [regex_coder_atom.put,hs,List.mem_append,List.mem_singleton,List.length_append,List.length_map,List.length_cons,List.length_nil,ht,hd] at hx ⊢
     rcases hx with ((hx | rfl) | hx) | rfl
     · exact (h1 x hx).mono (by omega)
     · exact ⟨fun _ => by simp only;omega,fun h9 => absurd h9 (show ¬ (2:Int) = 3 by decide)⟩
     · exact (h2 x hx).mono (by omega)
     · exact ⟨fun h9 => absurd h9 (show ¬ (3:Int) = 2 by decide),fun _ => by simp only;omega⟩
   · split
     · intro x hx
       simp only [regex_coder_atom.put,hs,List.mem_append,List.mem_singleton,List.length_append,List.length_map,List.length_cons,List.length_nil,ht,hd] at hx ⊢
       rcases hx with (hx | hx) | rfl
       · exact (h1 x hx).mono (by omega)
       · exact (h3 x hx).mono (by omega)
       · exact ⟨fun _ => by simp only;omega,fun h9 => absurd h9 (show ¬ (2:Int) = 3 by decide)⟩
     · intro x hx
       simp only [regex_coder_atom.put,hs,List.mem_append,List.mem_singleton,List.length_append,List.length_map,List.length_cons,List.length_nil,ht,hd] at hx ⊢
       rcases hx with (hx | rfl) | hx
       · exact (h1 x hx).mono (by omega)
       · exact ⟨fun _ => by simp only;omega,fun h9 => absurd h9 (show ¬ (2:Int) = 3 by decide)⟩
       · exact (h2 x hx).mono (by omega)
 · exact h
theorem u2d.Inv.bar {n:Nat} {s:regex_coder_atom.CS} (h:u2d.Inv s) (hn:n ≤ s.code.length) (hz:s.code.length ≤ 1000):u2d.Inv (regex_coder_atom.bar n s):=by
 have hd:(s.code.drop n).length = s.code.length - n:=List.length_drop
 have ht:(s.code.take n).length = n:=by rw [List.length_take];omega
 intro x hx
 simp only [regex_coder_atom.bar,regex_coder_atom.put,List.mem_append,List.mem_singleton,List.length_append,List.length_map,List.length_cons,List.length_nil,ht,hd] at hx ⊢
 rcases hx with ((hx | rfl) | hx) | rfl
 · exact (h x (List.mem_of_mem_take hx)).mono (by omega)
 · exact ⟨fun _ => by simp only;omega,fun h9 => absurd h9 (show ¬ (2:Int) = 3 by decide)⟩
 · obtain ⟨y,hy,rfl⟩:=List.mem_map.1 hx
   exact ((h y (List.mem_of_mem_drop hy)).sh (by omega)).mono (by omega)
 · exact ⟨fun h9 => absurd h9 (show ¬ (3:Int) = 2 by decide),fun _ => by simp only;omega⟩
theorem u2d.Inv.aim {j:Nat} {s:regex_coder_atom.CS} (h:u2d.Inv s):u2d.Inv (regex_coder_atom.aim j s):=by
 unfold regex_coder_atom.aim
 split
 · rename_i x hx
   have hxm:=h x (List.mem_of_getElem? hx)
   intro y hy
   simp only [List.length_set] at hy ⊢
   rcases List.mem_or_eq_of_mem_set hy with h9 | rfl
   · exact h y h9
   · exact ⟨fun h9 => by have:=hxm.1 h9;simp only;omega,fun h9 => by simp only;omega⟩
 · exact h
theorem u2d.M_inv (f:Nat):∀ (k d:Nat) (s:regex_coder_atom.CS),(k = 0 → s.p ≠ []) → s.code.length + 2 * s.p.length ≤ 1000 → u2d.Inv s → u2d.Inv (regex_coder_atom.M f k d s):=by
 induction f with
 | zero => exact fun _ _ _ _ _ h => h
 | succ f ih =>
   intro k d s hk hz h
   match k with
   | 0 =>
     obtain ⟨a1,a2,a3⟩:=regex_coder_atom.step_ne (hk rfl)
     have h1:u2d.Inv (uf.step s).2:=h.of_code a3
     simp only [regex_coder_atom.M]
     unfold regex_coder_atom.atomM
     split
     · exact h.of_code rfl
     split
     · exact h1.put1 _ _
     split
     · exact h1.cls
     split
     · split
       · exact h1.of_code rfl
       · dsimp only
         refine (ih 2 (d + 1) (uf.step s).2 (fun h => absurd h (by decide)) ?_ h1).of_code (regex_coder_atom.close_dec _).2
         rw [a3]
         omega
     split
     · exact (h1.of_code (uh.step_code _)).put1 _ _
     · exact h1.put1 _ _
   | 1 =>
     simp only [regex_coder_atom.M]
     split
     · rename_i hc
       have hp:=(regex_coder_atom.mo_ne hc.1).1
       obtain ⟨⟨b1,b2,b3⟩,_⟩:=regex_coder_atom.M_dec f 0 d s (fun _ => hp)
       obtain ⟨e1,e2,e3,_⟩:=regex_coder_atom.qual_dec b2
       exact ih 1 d _ (fun h => absurd h (by decide)) (by omega) ((ih 0 d s (fun _ => hp) hz h).qual b2 (by omega))
     · exact h
   | k + 2 =>
     simp only [regex_coder_atom.M]
     obtain ⟨hb,_⟩:=regex_coder_atom.M_dec f 1 d s (fun h => absurd h (by decide))
     have h1:=ih 1 d s (fun h => absurd h (by decide)) hz h
     have hb1:=hb.both
     have hb2:=hb.code
     split
     · rename_i hc
       have hp:=(regex_coder_atom.mo_ne hc.1).1
       obtain ⟨hd,_,_⟩:=regex_coder_atom.bar_dec hb.code hp
       have hd1:=hd.both
       exact (ih 2 d _ (fun h => absurd h (by decide)) (by omega) (h1.bar hb2 (by omega))).aim
     · exact h1
theorem u2d.parse_wf {p:ByteArray} {code:List S164} (h:u1i.parseM p = some code):ut.WF code ∧ 0 < code.length ∧ code.length ≤ 1000:=by
 unfold u1i.parseM at h
 split at h
 · cases h
 · rename_i h60
   split at h
   · cases h
   · injection h with h
     have hp60:p.size ≤ 60:=by
      rcases Nat.lt_or_ge 60 p.size with h9 | h9
      · exact absurd (Or.inl h9) h60
      · exact h9
     have hl:=Nat.le_trans (u1i.runes_len p) hp60
     obtain ⟨r,hr⟩:∃ r,u1i.runM (Base.runesOf p) = r:=⟨_,rfl⟩
     have hinv:u2d.Inv r:=by
      rw [← hr]
      exact u2d.M_inv _ 2 0 _ (fun h => absurd h (by decide)) (by simp only [List.length_nil];omega) (fun x hx => by simp at hx)
     have hlen:r.code.length ≤ 120:=by
      have h9:=(regex_coder_atom.M_dec (4 * (Base.runesOf p).length + 3) 2 0 ⟨Base.runesOf p,[],false⟩ (fun h => absurd h (by decide))).1.both
      unfold u1i.runM at hr
      rw [hr] at h9
      simp only [List.length_nil] at h9
      omega
     rw [hr] at h
     subst h
     have hget:∀ (i:Nat) (x:S164),(r.code ++ [(⟨4,[],false,0,0⟩:S164)])[i]? = some x → x.f0 ≠ 4 → i < r.code.length ∧ u2d.TG r.code.length x:=fun i x hx h4 => by
      rcases Nat.lt_or_ge i r.code.length with h9 | h9
      · rw [List.getElem?_append_left h9] at hx
        exact ⟨h9,hinv x (List.mem_of_getElem? hx)⟩
      · rw [List.getElem?_append_right h9] at hx
        exfalso
        have:=List.mem_of_getElem? hx
        rw [List.mem_singleton] at this
        exact h4 (by rw [this])
     refine ⟨⟨fun i x hx h2 => ?_,fun i x hx h2 => ?_,fun i x hx h2 => ?_⟩,by simp,by simp;omega⟩
     · obtain ⟨_,h9⟩:=hget i x hx (by rw [h2];decide)
       have:=h9.1 h2
       simp only [List.length_append,List.length_cons,List.length_nil]
       omega
     · obtain ⟨_,h9⟩:=hget i x hx (by rw [h2];decide)
       have:=h9.2 h2
       simp only [List.length_append,List.length_cons,List.length_nil]
       omega
     · obtain ⟨h9,_⟩:=hget i x hx (by rw [h2];decide)
       simp only [List.length_append,List.length_cons,List.length_nil]
       omega
set_option maxHeartbeats 1000000 in
theorem u2d.calls (w:World) (p:ByteArray) (hG:strings_ToValidUTF8.Gd w):Calls Tryz.prog 88 #[.string p] w fun e w' => e = .returned (.int .i64 (if (u1i.parseM p).isSome = true then 0 else 5)) ∧ Below w.heap.size w w':=by
 have HG:=Aside0.mk hG
 clear hG
 cases hp:u1i.parseM p with
 | none =>
   have HP:=Aside0.mk hp
   clear hp
   have hnil:∀ W,(binOp .eql 143 (.slice none 0 0) (.slice none 0 0)).run Tryz.prog W = .ok (.bool true) W:=fun W => Lib.run_eql_slice_nil W 143 164 none 0 0 0 0 Tryz.underlying143
   go_enter Tryz.func88,Tryz.ntmps88
   go_wp2_with (go_at_call 96;(with_reducible refine (u1i.calls w p HG.out).mono ?_);rintro e W1 ⟨v,rfl,hB1,hv⟩;rw [HP.out] at hv;simp only at hv;subst hv;have HB1:=Aside0.mk hB1;clear hB1)
   go_ret
   exact ⟨rfl,HB1.out⟩
 | some code =>
   have HP:=Aside0.mk hp
   obtain ⟨_,hlen,_⟩:=u2d.parse_wf hp
   clear hp
   go_enter Tryz.func88,Tryz.ntmps88
   go_wp2_with (go_at_call 96;(with_reducible refine (u1i.calls w p HG.out).mono ?_);rintro e W1 ⟨v,rfl,hB1,hv⟩;rw [HP.out] at hv;simp only at hv;obtain ⟨A1,c1,e1⟩:=Kd.R_slice hv;subst e1;obtain ⟨gb,eg⟩:=u2t.form hv hlen;subst eg;have hnil:∀ W,(binOp .eql 143 (.slice (some ⟨gb,0,none⟩) code.length c1) (.slice none 0 0)).run Tryz.prog W = .ok (.bool false) W:=fun W => Lib.run_eql_slice_nil W 143 164 (some ⟨gb,0,none⟩) code.length c1 0 0 Tryz.underlying143;have HB1:=Aside0.mk hB1;clear hB1 hv)
   go_ret
   exact ⟨rfl,HB1.out⟩
-- in the form of the print
def u2d.f (a0:ByteArray):Option Int:=some (if (u1i.parseM a0).isSome = true then 0 else 5)
end Go.Proofs.YtgnehcgaplnfkaaGreatDoor.PAll
namespace Go.Proofs.YtgnehcgaplnfkaaGreatDoor.PAll
open Go.RowKit Go.Proofs.YtgnehcgaplnfkaaGreatDoorW.PrintWords Go.Proofs.YtgnehcgaplnfkaaGreatDoorW.PrintLast
set_option linter.unusedVariables false
set_option linter.unusedSimpArgs false
namespace Sim
abbrev CS:=uf.CS
abbrev I:=S164
abbrev step:=uf.step
abbrev am:=uu.am
abbrev nx:=u2r.nx
abbrev mo:=u2l.mo
abbrev mem:=u2h.mem
abbrev spanM:=uh.spanM
abbrev loopM:=uh.loopM
abbrev cls:=uh.cls
abbrev neg:=uh.neg
open regex_coder_atom (M put need close)
theorem am_nil (m:ByteArray) (c:List I) (b:Bool):am m ⟨[],c,b⟩ = false:=rfl
theorem am41_dash (q:List Int) (c:List I) (b:Bool):am ⟨#[45]⟩ ⟨41 :: q,c,b⟩ = false:=by kernel_rfl
theorem am41_qual (q:List Int) (c:List I) (b:Bool):am ⟨#[42,43,63]⟩ ⟨41 :: q,c,b⟩ = false:=by kernel_rfl
theorem mem_cons (r:Int) (q:List Int) (c:List I) (b:Bool):mem ⟨r :: q,c,b⟩ = if r = 92 then step ⟨q,c,b || am ⟨#[93,45]⟩ ⟨r :: q,c,b⟩⟩ else (r,⟨q,c,b || am ⟨#[93,45]⟩ ⟨r :: q,c,b⟩⟩):=rfl
theorem mem_nil (c:List I) (b:Bool):(mem ⟨[],c,b⟩).2.bad = true:=rfl
theorem mem_sim (p:List Int) (c c':List I) (t:List Int) (h:(mem ⟨p,c,false⟩).2.bad = false) :
 ∃ x q,mem ⟨p,c,false⟩ = (x,⟨q,c,false⟩) ∧ mem ⟨p ++ t,c',false⟩ = (x,⟨q ++ t,c',false⟩) ∧ q.length + 1 ≤ p.length:=by
 cases p with
 | nil => rw [mem_nil] at h;cases h
 | cons r q =>
   rw [mem_cons] at h
   have hc:mem ⟨r :: q ++ t,c',false⟩ = if r = 92 then step ⟨q ++ t,c',false || am ⟨#[93,45]⟩ ⟨r :: q,c,false⟩⟩ else (r,⟨q ++ t,c',false || am ⟨#[93,45]⟩ ⟨r :: q,c,false⟩⟩):=rfl
   rw [mem_cons,hc]
   cases ha:am ⟨#[93,45]⟩ ⟨r :: q,c,false⟩ with
   | true =>
     rw [ha] at h
     exfalso
     by_cases h92:r = 92
     · rw [if_pos h92] at h
       cases q with
       | nil => cases h
       | cons _ _ => cases h
     · rw [if_neg h92] at h
       cases h
   | false =>
     rw [ha] at h
     by_cases h92:r = 92
     · rw [if_pos h92] at h
       rw [if_pos h92,if_pos h92]
       cases q with
       | nil => cases h
       | cons x q => exact ⟨x,q,rfl,rfl,by simp⟩
     · rw [if_neg h92,if_neg h92]
       exact ⟨r,q,rfl,rfl,by simp⟩
def hiM (x:Int) (s1:CS):Int × CS:=if s1.bad = false ∧ am ⟨#[45]⟩ s1 = true then mem (step s1).2 else (x,s1)
theorem span_is (s:CS) (x:Int) (s1:CS) (y:Int) (q:List Int) (c:List I) (b:Bool) (h:mem s = (x,s1)) (h2:hiM x s1 = (y,⟨q,c,b⟩)):spanM s = ((⟨x,y⟩:S191),⟨q,c,b || decide (y < x)⟩):=by
 have e:spanM s = ((⟨(mem s).1,(hiM (mem s).1 (mem s).2).1⟩:S191),⟨(hiM (mem s).1 (mem s).2).2.p,(hiM (mem s).1 (mem s).2).2.code,(hiM (mem s).1 (mem s).2).2.bad || decide ((hiM (mem s).1 (mem s).2).1 < (mem s).1)⟩):=rfl
 rw [e,h]
 simp only
 rw [h2]
theorem span_sim (p:List Int) (c c':List I) (t:List Int) (h:(spanM ⟨p,c,false⟩).2.bad = false) :
 ∃ x q,spanM ⟨p,c,false⟩ = (x,⟨q,c,false⟩) ∧ spanM ⟨p ++ 41 :: t,c',false⟩ = (x,⟨q ++ 41 :: t,c',false⟩) ∧ q.length + 1 ≤ p.length:=by
 have hm:(mem ⟨p,c,false⟩).2.bad = false:=by
  cases hb:(mem ⟨p,c,false⟩).2.bad with
  | false => rfl
  | true =>
    have e0:hiM (mem ⟨p,c,false⟩).1 (mem ⟨p,c,false⟩).2 = ((mem ⟨p,c,false⟩).1,⟨(mem ⟨p,c,false⟩).2.p,(mem ⟨p,c,false⟩).2.code,true⟩):=by
     unfold hiM
     rw [if_neg (by rw [hb];simp),← hb]
    rw [span_is _ (mem ⟨p,c,false⟩).1 (mem ⟨p,c,false⟩).2 _ _ _ _ rfl e0] at h
    cases h
 obtain ⟨x,q,h1,h2,hl⟩:=mem_sim p c c' (41 :: t) hm
 have hself:decide (x < x) = false:=decide_eq_false (by omega)
 cases q with
 | nil =>
   have g1:hiM x ⟨[],c,false⟩ = (x,⟨[],c,false⟩):=by unfold hiM;rw [if_neg (by rw [am_nil];simp)]
   have g2:hiM x ⟨[] ++ 41 :: t,c',false⟩ = (x,⟨[] ++ 41 :: t,c',false⟩):=by unfold hiM;rw [if_neg (by rw [List.nil_append,am41_dash];simp)]
   refine ⟨⟨x,x⟩,[],?_,?_,hl⟩
   · rw [span_is _ _ _ _ _ _ _ h1 g1,hself]
     rfl
   · rw [span_is _ _ _ _ _ _ _ h2 g2,hself]
     rfl
 | cons r q =>
   have ha:am ⟨#[45]⟩ ⟨r :: q ++ 41 :: t,c',false⟩ = am ⟨#[45]⟩ ⟨r :: q,c,false⟩:=rfl
   cases hb:am ⟨#[45]⟩ ⟨r :: q,c,false⟩ with
   | false =>
     have g1:hiM x ⟨r :: q,c,false⟩ = (x,⟨r :: q,c,false⟩):=by unfold hiM;rw [if_neg (by rw [hb];simp)]
     have g2:hiM x ⟨r :: q ++ 41 :: t,c',false⟩ = (x,⟨r :: q ++ 41 :: t,c',false⟩):=by unfold hiM;rw [if_neg (by rw [ha,hb];simp)]
     refine ⟨⟨x,x⟩,r :: q,?_,?_,hl⟩
     · rw [span_is _ _ _ _ _ _ _ h1 g1,hself]
       rfl
     · rw [span_is _ _ _ _ _ _ _ h2 g2,hself]
       rfl
   | true =>
     have g1:hiM x ⟨r :: q,c,false⟩ = mem ⟨q,c,false⟩:=by unfold hiM;rw [if_pos ⟨rfl,hb⟩];rfl
     have g2:hiM x ⟨r :: q ++ 41 :: t,c',false⟩ = mem ⟨q ++ 41 :: t,c',false⟩:=by unfold hiM;rw [if_pos ⟨rfl,by rw [ha,hb]⟩];rfl
     have hg:(mem ⟨q,c,false⟩).2.bad = false ∧ decide ((mem ⟨q,c,false⟩).1 < x) = false:=by
      rw [span_is _ _ _ (mem ⟨q,c,false⟩).1 (mem ⟨q,c,false⟩).2.p (mem ⟨q,c,false⟩).2.code (mem ⟨q,c,false⟩).2.bad h1 g1] at h
      exact Bool.or_eq_false_iff.1 h
     obtain ⟨y,q2,k1,k2,kl⟩:=mem_sim q c c' (41 :: t) hg.1
     have hd:=hg.2
     rw [k1] at g1 hd
     rw [k2] at g2
     refine ⟨⟨x,y⟩,q2,?_,?_,?_⟩
     · rw [span_is _ _ _ _ _ _ _ h1 g1,hd]
       rfl
     · rw [span_is _ _ _ _ _ _ _ h2 g2,hd]
       rfl
     · simp only [List.length_cons] at hl
       omega
theorem loop_bad (k:Nat) (f:Bool) (s:CS) (l:List S191) (h:s.bad = true):loopM k f s l = (l,s):=by
 cases k with
 | zero => rfl
 | succ k =>
   show (if s.bad = false ∧ (f = true ∨ am ⟨#[93]⟩ s = false) then loopM k false (spanM s).2 (l ++ [(spanM s).1]) else (l,s)) = (l,s)
   rw [if_neg (by rw [h];simp)]
theorem loop_sim (c c':List I) (t:List Int):∀ (k k':Nat) (f:Bool) (p:List Int) (l:List S191),p.length + 1 ≤ k → (p ++ 41 :: t).length + 1 ≤ k' → (loopM k f ⟨p,c,false⟩ l).2.bad = false → (loopM k f ⟨p,c,false⟩ l).2.p ≠ [] →
 ∃ l' q,loopM k f ⟨p,c,false⟩ l = (l',⟨q,c,false⟩) ∧ loopM k' f ⟨p ++ 41 :: t,c',false⟩ l = (l',⟨q ++ 41 :: t,c',false⟩):=by
 intro k
 induction k with
 | zero => exact fun k' f p l h => absurd h (by omega)
 | succ k ih =>
   intro k' f p l hk hk' hb hp
   obtain ⟨k',rfl⟩:∃ k2,k' = k2 + 1:=⟨k' - 1,by omega⟩
   have e1:loopM (k + 1) f ⟨p,c,false⟩ l = if (false:Bool) = false ∧ (f = true ∨ am ⟨#[93]⟩ ⟨p,c,false⟩ = false) then loopM k false (spanM ⟨p,c,false⟩).2 (l ++ [(spanM ⟨p,c,false⟩).1]) else (l,⟨p,c,false⟩):=rfl
   have e2:loopM (k' + 1) f ⟨p ++ 41 :: t,c',false⟩ l = if (false:Bool) = false ∧ (f = true ∨ am ⟨#[93]⟩ ⟨p ++ 41 :: t,c',false⟩ = false) then loopM k' false (spanM ⟨p ++ 41 :: t,c',false⟩).2 (l ++ [(spanM ⟨p ++ 41 :: t,c',false⟩).1]) else (l,⟨p ++ 41 :: t,c',false⟩):=rfl
   rw [e1] at hb hp
   rw [e1,e2]
   by_cases hc:(false:Bool) = false ∧ (f = true ∨ am ⟨#[93]⟩ ⟨p,c,false⟩ = false)
   · rw [if_pos hc] at hb hp
     rw [if_pos hc]
     have hs:(spanM ⟨p,c,false⟩).2.bad = false:=by
      cases hb2:(spanM ⟨p,c,false⟩).2.bad with
      | false => rfl
      | true =>
        rw [loop_bad _ _ _ _ hb2] at hb
        simp only at hb
        rw [hb2] at hb
        cases hb
     obtain ⟨x,q,g1,g2,gl⟩:=span_sim p c c' t hs
     rw [g1] at hb hp
     rw [g1,g2]
     have hpn:p ≠ []:=by rintro rfl;simp at gl
     have hc2:(false:Bool) = false ∧ (f = true ∨ am ⟨#[93]⟩ ⟨p ++ 41 :: t,c',false⟩ = false):=by
      cases p with
      | nil => exact absurd rfl hpn
      | cons r p => exact hc
     rw [if_pos hc2]
     exact ih k' false q _ (by omega) (by simp only [List.length_append] at hk' ⊢;omega) hb hp
   · rw [if_neg hc] at hb hp
     rw [if_neg hc]
     have hpn:p ≠ []:=hp
     have hc2:¬ ((false:Bool) = false ∧ (f = true ∨ am ⟨#[93]⟩ ⟨p ++ 41 :: t,c',false⟩ = false)):=by
      cases p with
      | nil => exact absurd rfl hpn
      | cons r p => exact hc
     rw [if_neg hc2]
     exact ⟨l,p,rfl,rfl⟩
def cl0 (s:CS):CS:=if neg s then (step s).2 else s
theorem cls_is (s:CS):cls s = ⟨(step (loopM ((cl0 s).p.length + 2) true (cl0 s) []).2).2.p,(step (loopM ((cl0 s).p.length + 2) true (cl0 s) []).2).2.code ++ [⟨1,(loopM ((cl0 s).p.length + 2) true (cl0 s) []).1,neg s,0,0⟩],(step (loopM ((cl0 s).p.length + 2) true (cl0 s) []).2).2.bad⟩:=rfl
theorem step_good {s:CS} (h:(step s).2.bad = false):s.p ≠ [] ∧ s.bad = false:=by
 obtain ⟨p,c,b⟩:=s
 cases p with
 | nil => cases h
 | cons r p => exact ⟨by simp,h⟩
theorem cls_sim (p:List Int) (c c':List I) (t:List Int) (h:(cls ⟨p,c,false⟩).bad = false) :
 ∃ q l no,cls ⟨p,c,false⟩ = ⟨q,c ++ [⟨1,l,no,0,0⟩],false⟩ ∧ cls ⟨p ++ 41 :: t,c',false⟩ = ⟨q ++ 41 :: t,c' ++ [⟨1,l,no,0,0⟩],false⟩:=by
 obtain ⟨p0,e0,e1,en⟩:∃ p0,cl0 ⟨p,c,false⟩ = ⟨p0,c,false⟩ ∧ cl0 ⟨p ++ 41 :: t,c',false⟩ = ⟨p0 ++ 41 :: t,c',false⟩ ∧ neg ⟨p ++ 41 :: t,c',false⟩ = neg ⟨p,c,false⟩:=by
  cases p with
  | nil => exact ⟨[],rfl,rfl,rfl⟩
  | cons r p =>
    have en:neg ⟨r :: p ++ 41 :: t,c',false⟩ = neg ⟨r :: p,c,false⟩:=rfl
    unfold cl0
    rw [en]
    cases neg ⟨r :: p,c,false⟩ with
    | true => exact ⟨p,rfl,rfl,rfl⟩
    | false => exact ⟨r :: p,rfl,rfl,rfl⟩
 rw [cls_is] at h
 rw [cls_is,cls_is,e0,e1,en]
 rw [e0] at h
 obtain ⟨h1,h2⟩:=step_good h
 obtain ⟨l',q,g1,g2⟩:=loop_sim c c' t (p0.length + 2) ((p0 ++ 41 :: t).length + 2) true p0 [] (by omega) (by omega) h2 h1
 have g1':loopM ((⟨p0,c,false⟩:CS).p.length + 2) true ⟨p0,c,false⟩ [] = (l',⟨q,c,false⟩):=g1
 have g2':loopM ((⟨p0 ++ 41 :: t,c',false⟩:CS).p.length + 2) true ⟨p0 ++ 41 :: t,c',false⟩ [] = (l',⟨q ++ 41 :: t,c',false⟩):=g2
 rw [g1'] at h1
 rw [g1',g2']
 cases q with
 | nil => exact absurd rfl h1
 | cons r q => exact ⟨q,l',_,rfl,rfl⟩
end Sim
end Go.Proofs.YtgnehcgaplnfkaaGreatDoor.PAll
namespace Go.Proofs.YtgnehcgaplnfkaaGreatDoor.PAll
open Go.RowKit Go.Proofs.YtgnehcgaplnfkaaGreatDoorW.PrintWords Go.Proofs.YtgnehcgaplnfkaaGreatDoorW.PrintLast
set_option linter.unusedVariables false
set_option linter.unusedSimpArgs false
namespace Sim
open regex_coder_atom (M put need close)
structure R (d:Int) (x y:I):Prop where
 f0:y.f0 = x.f0
 f1:y.f1 = x.f1
 f2:y.f2 = x.f2
 two:x.f0 = 2 → y.f3 = wrap64 (x.f3 + d) ∧ y.f4 = wrap64 (x.f4 + d)
 three:x.f0 = 3 → y.f3 = wrap64 (x.f3 + d)
def Rel (d:Int) (n n':List I):Prop:=n'.length = n.length ∧ ∀ (i:Nat) (x:I),n[i]? = some x → ∃ y,n'[i]? = some y ∧ R d x y
theorem Rel.nil (d:Int):Rel d [] []:=⟨rfl,fun i x h => by simp at h⟩
theorem Rel.one {d:Int} {x y:I} (h:R d x y):Rel d [x] [y]:=⟨rfl,fun i z hz => by
 cases i with
 | zero => exact ⟨y,rfl,by have:=Option.some.inj hz;rw [← this];exact h⟩
 | succ i => simp at hz⟩
theorem R.rune (d:Int) (l:List S191) (no:Bool):R d ⟨1,l,no,0,0⟩ ⟨1,l,no,0,0⟩:=⟨rfl,rfl,rfl,fun h => absurd h (show ¬ (1:Int) = 2 by decide),fun h => absurd h (show ¬ (1:Int) = 3 by decide)⟩
theorem Rel.append {d:Int} {a a' b b':List I} (h:Rel d a a') (h2:Rel d b b'):Rel d (a ++ b) (a' ++ b'):=by
 refine ⟨by rw [List.length_append,List.length_append,h.1,h2.1],fun i x hx => ?_⟩
 rcases Nat.lt_or_ge i a.length with hi | hi
 · rw [List.getElem?_append_left hi] at hx
   rw [List.getElem?_append_left (by rw [h.1];exact hi)]
   exact h.2 i x hx
 · rw [List.getElem?_append_right hi] at hx
   rw [List.getElem?_append_right (by rw [h.1];exact hi),h.1]
   exact h2.2 _ x hx
theorem wrap_add (a b c:Int):wrap64 (wrap64 (a + b) + c) = wrap64 (wrap64 (a + c) + b):=by
 unfold wrap64
 omega
theorem R.sh {d:Int} {x y:I} (h:R d x y):R d (u2c.sh 1 x) (u2c.sh 1 y):=by
 refine ⟨h.f0,h.f1,h.f2,fun h9 => ?_,fun h9 => ?_⟩
 · obtain ⟨e1,e2⟩:=h.two h9
   exact ⟨by show wrap64 (y.f3 + 1) = wrap64 (wrap64 (x.f3 + 1) + d);rw [e1,wrap_add],by show wrap64 (y.f4 + 1) = wrap64 (wrap64 (x.f4 + 1) + d);rw [e2,wrap_add]⟩
 · have e1:=h.three h9
   show wrap64 (y.f3 + 1) = wrap64 (wrap64 (x.f3 + 1) + d)
   rw [e1,wrap_add]
theorem Rel.sh {d:Int} {a a':List I} (h:Rel d a a'):Rel d (a.map (u2c.sh 1)) (a'.map (u2c.sh 1)):=by
 refine ⟨by rw [List.length_map,List.length_map,h.1],fun i x hx => ?_⟩
 rw [List.getElem?_map] at hx
 obtain ⟨x0,h1,rfl⟩:=Option.map_eq_some_iff.1 hx
 obtain ⟨y0,h2,h3⟩:=h.2 i x0 h1
 exact ⟨u2c.sh 1 y0,by rw [List.getElem?_map,h2];rfl,h3.sh⟩
theorem Rel.set {d:Int} {a a':List I} (h:Rel d a a') (j:Nat) {x y:I} (hx:R d x y):Rel d (a.set j x) (a'.set j y):=by
 refine ⟨by rw [List.length_set,List.length_set,h.1],fun i z hz => ?_⟩
 have hi:i < a.length:=by
  have:=(List.getElem?_eq_some_iff.1 hz).1
  rwa [List.length_set] at this
 by_cases hij:j = i
 · subst hij
   rw [List.getElem?_set_self hi] at hz
   refine ⟨y,by rw [List.getElem?_set_self (by rw [h.1];exact hi)],?_⟩
   rw [← Option.some.inj hz]
   exact hx
 · rw [List.getElem?_set_ne hij] at hz
   rw [List.getElem?_set_ne hij]
   exact h.2 i z hz
def Sm (t:List Int) (c c':List I) (s s':CS):Prop:=∃ q n n',s = ⟨q,c ++ n,false⟩ ∧ s' = ⟨q ++ 41 :: t,c' ++ n',false⟩ ∧ Rel ((c'.length:Int) - c.length) n n'
theorem M_bad (f:Nat):∀ (k d:Nat) (s:CS),k ≠ 0 → s.bad = true → (M f k d s).bad = true:=by
 induction f with
 | zero => exact fun k d s _ h => h
 | succ f ih =>
   intro k d s hk h
   match k with
   | 0 => exact absurd rfl hk
   | 1 =>
     show (if mo s = true ∧ am ⟨#[124,41]⟩ s = false then M f 1 d (regex_coder_atom.qual s.code.length (M f 0 d s)) else s).bad = true
     rw [if_neg (fun h9 => by have:=(regex_coder_atom.mo_ne h9.1).2;rw [h] at this;cases this)]
     exact h
   | k + 2 =>
     have h1:=ih 1 d s (by decide) h
     show (if mo (M f 1 d s) = true ∧ nx (M f 1 d s) = 124 then regex_coder_atom.aim (s.code.length + 1 + ((M f 1 d s).code.drop s.code.length).length) (M f 2 d (regex_coder_atom.bar s.code.length (M f 1 d s))) else M f 1 d s).bad = true
     rw [if_neg (fun h9 => by have:=(regex_coder_atom.mo_ne h9.1).2;rw [h1] at this;cases this)]
     exact h1
theorem wrap_small (x:Int) (h : -1000000 ≤ x) (h2:x ≤ 1000000):wrap64 x = x:=by
 unfold wrap64
 omega
theorem qual_sim {t:List Int} {c c':List I} {s s':CS} (h:Sm t c c' s s') (hc:c.length ≤ 1000) (hc':c'.length ≤ 1000) (hl:s.code.length ≤ 1000) :
 Sm t c c' (regex_coder_atom.qual c.length s) (regex_coder_atom.qual c'.length s'):=by
 obtain ⟨q,n,n',rfl,rfl,hr⟩:=h
 have hn:=hr.1
 simp only [List.length_append] at hl
 have ht:(c ++ n).take c.length = c:=by simp
 have hd:(c ++ n).drop c.length = n:=by simp
 have ht':(c' ++ n').take c'.length = c':=by simp
 have hd':(c' ++ n').drop c'.length = n':=by simp
 cases q with
 | nil =>
   have e1:regex_coder_atom.qual c.length ⟨[],c ++ n,false⟩ = ⟨[],c ++ n,false⟩:=by
    unfold regex_coder_atom.qual
    rw [if_neg (fun h9 => by have h8:=h9.2;rw [show uu.am ⟨#[42,43,63]⟩ ⟨[],c ++ n,false⟩ = false from rfl] at h8;cases h8)]
   have e2:regex_coder_atom.qual c'.length ⟨[] ++ 41 :: t,c' ++ n',false⟩ = ⟨[] ++ 41 :: t,c' ++ n',false⟩:=by
    unfold regex_coder_atom.qual
    rw [if_neg (fun h9 => by have h8:=h9.2;rw [show uu.am ⟨#[42,43,63]⟩ ⟨[] ++ 41 :: t,c' ++ n',false⟩ = false from am41_qual t _ _] at h8;cases h8)]
   rw [e1,e2]
   exact ⟨[],n,n',rfl,rfl,hr⟩
 | cons r q =>
   have ha:uu.am ⟨#[42,43,63]⟩ ⟨r :: q ++ 41 :: t,c' ++ n',false⟩ = uu.am ⟨#[42,43,63]⟩ ⟨r :: q,c ++ n,false⟩:=rfl
   have hs:uf.step { (⟨r :: q,c ++ n,false⟩:CS) with code:=(⟨r :: q,c ++ n,false⟩:CS).code.take c.length } = (r,⟨q,c,false⟩):=by
    show uf.step ⟨r :: q,(c ++ n).take c.length,false⟩ = _
    rw [ht]
    rfl
   have hs':uf.step { (⟨r :: q ++ 41 :: t,c' ++ n',false⟩:CS) with code:=(⟨r :: q ++ 41 :: t,c' ++ n',false⟩:CS).code.take c'.length } = (r,⟨q ++ 41 :: t,c',false⟩):=by
    show uf.step ⟨r :: q ++ 41 :: t,(c' ++ n').take c'.length,false⟩ = _
    rw [ht']
    rfl
   unfold regex_coder_atom.qual
   rw [ha]
   by_cases hq:(⟨r :: q,c ++ n,false⟩:CS).bad = false ∧ uu.am ⟨#[42,43,63]⟩ ⟨r :: q,c ++ n,false⟩ = true
   · rw [if_pos hq,if_pos (show (⟨r :: q ++ 41 :: t,c' ++ n',false⟩:CS).bad = false ∧ _ from ⟨rfl,hq.2⟩),hs,hs']
     simp only [hd,hd']
     by_cases h42:r = 42
     · rw [if_pos h42,if_pos h42]
       refine ⟨q,[⟨2,[],false,(c.length:Int) + 1,(c.length:Int) + (n.length:Int) + 2⟩] ++ n.map (u2c.sh 1) ++ [⟨3,[],false,c.length,0⟩],[⟨2,[],false,(c'.length:Int) + 1,(c'.length:Int) + (n'.length:Int) + 2⟩] ++ n'.map (u2c.sh 1) ++ [⟨3,[],false,c'.length,0⟩],?_,?_,((Rel.one ?_).append hr.sh).append (Rel.one ?_)⟩
       · simp [regex_coder_atom.put]
       · simp [regex_coder_atom.put]
       · refine ⟨rfl,rfl,rfl,fun _ => ⟨?_,?_⟩,fun h9 => absurd h9 (show ¬ (2:Int) = 3 by decide)⟩
         · show (c'.length:Int) + 1 = wrap64 ((c.length:Int) + 1 + ((c'.length:Int) - c.length))
           rw [wrap_small _ (by omega) (by omega)]
           omega
         · show (c'.length:Int) + (n'.length:Int) + 2 = wrap64 ((c.length:Int) + (n.length:Int) + 2 + ((c'.length:Int) - c.length))
           rw [wrap_small _ (by omega) (by omega)]
           omega
       · refine ⟨rfl,rfl,rfl,fun h9 => absurd h9 (show ¬ (3:Int) = 2 by decide),fun _ => ?_⟩
         show (c'.length:Int) = wrap64 ((c.length:Int) + ((c'.length:Int) - c.length))
         rw [wrap_small _ (by omega) (by omega)]
         omega
     · rw [if_neg h42,if_neg h42]
       by_cases h43:r = 43
       · rw [if_pos h43,if_pos h43]
         refine ⟨q,n ++ [⟨2,[],false,c.length,(c.length:Int) + (n.length:Int) + 1⟩],n' ++ [⟨2,[],false,c'.length,(c'.length:Int) + (n'.length:Int) + 1⟩],?_,?_,hr.append (Rel.one ?_)⟩
         · simp [regex_coder_atom.put]
         · simp [regex_coder_atom.put]
         · refine ⟨rfl,rfl,rfl,fun _ => ⟨?_,?_⟩,fun h9 => absurd h9 (show ¬ (2:Int) = 3 by decide)⟩
           · show (c'.length:Int) = wrap64 ((c.length:Int) + ((c'.length:Int) - c.length))
             rw [wrap_small _ (by omega) (by omega)]
             omega
           · show (c'.length:Int) + (n'.length:Int) + 1 = wrap64 ((c.length:Int) + (n.length:Int) + 1 + ((c'.length:Int) - c.length))
             rw [wrap_small _ (by omega) (by omega)]
             omega
       · rw [if_neg h43,if_neg h43]
         refine ⟨q,[⟨2,[],false,(c.length:Int) + 1,(c.length:Int) + (n.length:Int) + 1⟩] ++ n.map (u2c.sh 1),[⟨2,[],false,(c'.length:Int) + 1,(c'.length:Int) + (n'.length:Int) + 1⟩] ++ n'.map (u2c.sh 1),?_,?_,(Rel.one ?_).append hr.sh⟩
         · simp [regex_coder_atom.put]
         · simp [regex_coder_atom.put]
         · refine ⟨rfl,rfl,rfl,fun _ => ⟨?_,?_⟩,fun h9 => absurd h9 (show ¬ (2:Int) = 3 by decide)⟩
           · show (c'.length:Int) + 1 = wrap64 ((c.length:Int) + 1 + ((c'.length:Int) - c.length))
             rw [wrap_small _ (by omega) (by omega)]
             omega
           · show (c'.length:Int) + (n'.length:Int) + 1 = wrap64 ((c.length:Int) + (n.length:Int) + 1 + ((c'.length:Int) - c.length))
             rw [wrap_small _ (by omega) (by omega)]
             omega
   · rw [if_neg hq,if_neg (show ¬ ((⟨r :: q ++ 41 :: t,c' ++ n',false⟩:CS).bad = false ∧ _) from fun h9 => hq ⟨rfl,h9.2⟩)]
     exact ⟨r :: q,n,n',rfl,rfl,hr⟩
end Sim
end Go.Proofs.YtgnehcgaplnfkaaGreatDoor.PAll
namespace Go.Proofs.YtgnehcgaplnfkaaGreatDoor.PAll
open Go.RowKit Go.Proofs.YtgnehcgaplnfkaaGreatDoorW.PrintWords Go.Proofs.YtgnehcgaplnfkaaGreatDoorW.PrintLast
set_option linter.unusedVariables false
set_option linter.unusedSimpArgs false
namespace Sim
open regex_coder_atom (M put need close)
theorem atom_is (alts:Nat → CS → CS) (d:Nat) (r:Int) (q:List Int) (c:List I):regex_coder_atom.atomM alts d ⟨r :: q,c,false⟩ =
 if am ⟨#[42,43,63,124,41,93]⟩ ⟨r :: q,c,false⟩ = true then ⟨r :: q,c,true⟩
 else if r = 46 then ⟨q,c ++ [⟨1,[],true,0,0⟩],false⟩
 else if r = 91 then cls ⟨q,c,false⟩
 else if r = 40 then (if (false:Bool) = true ∨ 10 ≤ d then ⟨q,c,true⟩ else close (alts (d + 1) ⟨q,c,false⟩))
 else if r = 92 then put (step ⟨q,c,false⟩).2 [⟨1,[⟨(step ⟨q,c,false⟩).1,(step ⟨q,c,false⟩).1⟩],false,0,0⟩]
 else ⟨q,c ++ [⟨1,[⟨r,r⟩],false,0,0⟩],false⟩:=rfl
theorem piece_is (f d:Nat) (s:CS):M (f + 1) 1 d s = if mo s = true ∧ am ⟨#[124,41]⟩ s = false then M f 1 d (regex_coder_atom.qual s.code.length (M f 0 d s)) else s:=rfl
theorem alts_is (f d:Nat) (s:CS):M (f + 1) 2 d s = if mo (M f 1 d s) = true ∧ nx (M f 1 d s) = 124 then regex_coder_atom.aim (s.code.length + 1 + ((M f 1 d s).code.drop s.code.length).length) (M f 2 d (regex_coder_atom.bar s.code.length (M f 1 d s))) else M f 1 d s:=rfl
theorem mo_nil (c:List I) (b:Bool):mo ⟨[],c,b⟩ = false:=rfl
end Sim
end Go.Proofs.YtgnehcgaplnfkaaGreatDoor.PAll
namespace Go.Proofs.YtgnehcgaplnfkaaGreatDoor.PAll
open Go.RowKit Go.Proofs.YtgnehcgaplnfkaaGreatDoorW.PrintWords Go.Proofs.YtgnehcgaplnfkaaGreatDoorW.PrintLast Go.Proofs.YtgnehcgaplnfkaaGreatDoorW.PrintMore
attribute [local go_sem] u3o u3n u3x u3w u3j u3i u3p u3q
set_option linter.unusedVariables false
set_option linter.unusedSimpArgs false
def u2w.quietB (r:Int):Bool:=!(decide (r < 32) || decide (r = 127))
def u2w.canB (kind:Int) (name value:ByteArray):Bool :=
 (if kind = 1 ∨ kind = 2 then (decide (value.size = 0) || Base.valueB value)
  else if kind = 3 ∨ kind = 4 then (Base.runesOf value).all u2w.quietB && (u1i.parseM value).isSome
  else false) && Base.nameB name
theorem u2w.of_pair {kind:Int} {name value:ByteArray} (h:kind = 1 ∨ kind = 2):u2w.canB kind name value = ((decide (value.size = 0) || Base.valueB value) && Base.nameB name):=by
 unfold u2w.canB
 rw [if_pos h]
theorem u2w.of_like {kind:Int} {name value:ByteArray} (h:kind = 3 ∨ kind = 4):u2w.canB kind name value = (((Base.runesOf value).all u2w.quietB && (u1i.parseM value).isSome) && Base.nameB name):=by
 unfold u2w.canB
 rw [if_neg (by omega),if_pos h]
theorem u2w.empty_list (s:ByteArray):s.toList.isEmpty = decide (s.size = 0):=by
 by_cases h:s.size = 0
 · rw [(Base.toList_nil s).2 h,decide_eq_true h]
   rfl
 · rw [decide_eq_false h]
   cases hl:s.toList with
   | nil => exact absurd ((Base.toList_nil s).1 hl) h
   | cons _ _ => rfl
set_option maxHeartbeats 4000000 in
set_option maxRecDepth 10000 in
theorem u2w.calls (w:World) (kind:Int) (name value:ByteArray) (hG:strings_ToValidUTF8.Gd w) :
 Calls Tryz.prog 68 #[.agg #[.int .i64 kind,.string name,.string value]] w fun e w' => e = .returned (.bool (u2w.canB kind name value)) ∧ Below w.heap.size w w':=by
 obtain ⟨Wa,hWa⟩:∃ Wa,Aside0 (w.alloc (.cells #[.int .i64 kind,.string name,.string value] 79) = Wa):=⟨_,⟨rfl⟩⟩
 have hbl:Below w.heap.size w Wa:=by rw [← hWa.out];exact uj (Below.refl _ _) _
 have hbx:Wa.heap[w.heap.size]? = some (.cells #[.int .i64 kind,.string name,.string value] 79 (0,0)):=by rw [← hWa.out];exact u3d _ _
 have HB:=Aside0.mk hbl
 have HX:=Aside0.mk hbx
 have HG:=Aside0.mk (hG.below hbl)
 have HSZ:Aside0 (Wa.heap.size = w.heap.size + 1):=⟨by rw [← hWa.out];simp⟩
 obtain ⟨nm,hnm⟩:∃ b,Aside0 (Base.nameB name = b):=⟨_,⟨rfl⟩⟩
 have hnf:Aside0 (u2f.f name = some nm):=⟨by rw [← hnm.out];rfl⟩
 clear hbl hbx hG
 by_cases h12:kind = 1 ∨ kind = 2
 · have HV:Aside0 (u2w.canB kind name value = ((decide (value.size = 0) || Base.valueB value) && nm)):=⟨by rw [u2w.of_pair h12,hnm.out]⟩
   have hkk:((kind == 1) = true ∧ kind = 1) ∨ ((kind == 1) = false ∧ (kind == 2) = true ∧ kind = 2):=by
    rcases h12 with rfl | rfl
    · exact Or.inl ⟨rfl,rfl⟩
    · exact Or.inr ⟨rfl,rfl,rfl⟩
   clear h12
   rw [HV.out]
   have he:=u2w.empty_list value
   obtain ⟨vb,hvb⟩:∃ b,Aside0 (Base.valueB value = b):=⟨_,⟨rfl⟩⟩
   have hvf:Aside0 (u3l.f value = some vb):=⟨by rw [← hvb.out];rfl⟩
   rw [hvb.out]
   by_cases h0:value.size = 0
   · rw [decide_eq_true h0] at he ⊢
     have hel:value.toList = []:=(Base.toList_nil value).2 h0
     clear h0 HV
     rcases hkk with ⟨_,rfl⟩ | ⟨_,_,rfl⟩
     all_goals
      have c0:=uk HX.out 0
      go_enter Tryz.func68,Tryz.ntmps68
      go_wp2_with (first
       | (go_at_call 63;rw [hWa.out];(with_reducible refine (u2f.calls name nm Wa hnf.out).mono ?_);rintro e W2 ⟨rfl,hB2⟩;have HB2:=Aside0.mk hB2;clear hB2))
      go_ret
      exact ⟨rfl,u1c HB.out HB.out.size HB2.out⟩
   · rw [decide_eq_false h0] at he ⊢
     have hen:¬ value.toList = []:=by intro hl;rw [hl] at he;simp at he
     clear h0 HV
     cases vb
     all_goals
      rcases hkk with ⟨_,rfl⟩ | ⟨_,_,rfl⟩
      all_goals
       go_enter Tryz.func68,Tryz.ntmps68
       go_wp2_with (first
        | (go_at_call 64;rw [hWa.out];(with_reducible refine (u3l.calls value _ Wa hvf.out).mono ?_);rintro e W1 ⟨rfl,hB1⟩
           have hx1:=u1a HX.out hB1
           have c0:=uk hx1 0
           have c1:=uk hx1 1
           simp only [List.size_toArray,List.length_cons,List.length_nil,List.getElem?_toArray,List.getElem?_cons_zero,List.getElem?_cons_succ] at c0 c1
           have HB1:Aside0 (Below w.heap.size w W1):=⟨u1c HB.out HB.out.size hB1⟩
           clear hB1 hx1)
        | (go_at_call 63;(with_reducible refine (u2f.calls name nm W1 hnf.out).mono ?_);rintro e W2 ⟨rfl,hB2⟩;have HB2:=Aside0.mk hB2;clear hB2))
       go_ret
       first
        | exact ⟨rfl,HB1.out⟩
        | exact ⟨rfl,u1c HB1.out HB1.out.size HB2.out⟩
 · by_cases h34:kind = 3 ∨ kind = 4
   · have HV:Aside0 (u2w.canB kind name value = (((Base.runesOf value).all u2w.quietB && (u1i.parseM value).isSome) && nm)):=⟨by rw [u2w.of_like h34,hnm.out]⟩
     have c0a:=uk HX.out 0
     have c1a:=uk HX.out 1
     have c2a:=uk HX.out 2
     simp only [List.size_toArray,List.length_cons,List.length_nil,List.getElem?_toArray,List.getElem?_cons_zero,List.getElem?_cons_succ] at c0a c1a c2a
     rw [HV.out]
     clear h12 HV
     have hit0:Aside0 ((Wa.iter value 0).heap[w.heap.size + 1]? = some (.stringIter value 0)):=⟨by
      have:=World.iter_heap Wa value 0
      rw [HSZ.out] at this
      exact this⟩
     have hbi:Aside0 (Below Wa.heap.size Wa (Wa.iter value 0)):=⟨(Below.refl _ Wa).alloc (Nat.le_refl _) _⟩
     obtain ⟨Wi,hWi⟩:∃ Wi,Aside0 (Wa.iter value 0 = Wi):=⟨_,⟨rfl⟩⟩
     rw [hWi.out] at hit0 hbi
     rcases h34 with rfl | rfl
     all_goals
      go_enter Tryz.func68,Tryz.ntmps68
      go_wp2
      rw [hWa.out,hWi.out]
      go_loopw [] (fun wr => ∃ (pos fuel:Nat),wr.heap[w.heap.size + 1]? = some (.stringIter value pos) ∧ Aside0 (Below Wa.heap.size Wa wr) ∧ Aside0 ((Base.runesFrom value fuel pos).all u2w.quietB = (Base.runesOf value).all u2w.quietB) ∧ value.size ≤ fuel + pos)
       (fun wr => value.size - wr.iterPos (w.heap.size + 1))
      case atStart => exact ⟨0,value.size,hit0.out,hbi,⟨rfl⟩,by omega⟩
      case round =>
       obtain ⟨pos,fuel,hit,hbw,HE,hfu⟩:=hrel
       have hxr:=u1a HX.out hbw.out
       have c0:=uk hxr 0
       have c1:=uk hxr 1
       have c2:=uk hxr 2
       simp only [List.size_toArray,List.length_cons,List.length_nil,List.getElem?_toArray,List.getElem?_cons_zero,List.getElem?_cons_succ] at c0 c1 c2
       have HBr:Aside0 (Below w.heap.size w wr):=⟨u1c HB.out HB.out.size hbw.out⟩
       clear hxr c0a c1a c2a
       by_cases hp:pos < value.size
       · have hnx:∀ ty,(Instr.next (.pointer (some ⟨w.heap.size + 1,0,none⟩)) true ty).run Tryz.prog wr = _:=fun ty => Lib.run_next_any_at wr (w.heap.size + 1) value pos ty hit hp
         have hwd:=Base.width_pos value pos hp
         have hd1:=decode_le value pos
         obtain ⟨f,rfl⟩:∃ f,fuel = f + 1:=⟨fuel - 1,by omega⟩
         have hst:=Base.runesFrom_step value f pos hp
         obtain ⟨r,hr⟩:∃ r:Nat,(Utf8.decode value pos).1 = r:=⟨_,rfl⟩
         obtain ⟨pos2,hpos2⟩:∃ q,pos + (Utf8.decode value pos).2 = q:=⟨_,rfl⟩
         rw [hr] at hnx hd1 hst
         rw [hpos2] at hnx hst
         rw [hst,List.all_cons] at HE
         have hpl:pos < pos2:=by omega
         clear hst hr hpos2 hwd
         have hit2:=Aside0.mk (Lib.iterAt_heap wr (w.heap.size + 1) value pos pos2 hit)
         have hbw2:Aside0 (Below Wa.heap.size Wa (wr.iterAt (w.heap.size + 1) value pos2)):=⟨Lib.below_iterAt hbw.out (by rw [HSZ.out];exact Nat.le_refl _) value pos2⟩
         have HBr2:Aside0 (Below w.heap.size w (wr.iterAt (w.heap.size + 1) value pos2)):=⟨u1c HB.out HB.out.size hbw2.out⟩
         by_cases h32:r < 32
         · have hd:decide ((r:Int) < 32) = true:=decide_eq_true (by omega)
           have HQ:Aside0 (u2w.quietB (r:Int) = false):=⟨by unfold u2w.quietB;rw [hd];rfl⟩
           rw [HQ.out,Bool.false_and] at HE
           go_wp2
           go_ret
           exact ⟨by rw [← HE.out];rfl,HBr2.out⟩
         · have hd:decide ((r:Int) < 32) = false:=decide_eq_false (by omega)
           by_cases h127:r = 127
           · have he:((r:Int) == 127) = true:=by simp;omega
             have HQ:Aside0 (u2w.quietB (r:Int) = false):=⟨by unfold u2w.quietB;rw [hd,decide_eq_true (show (r:Int) = 127 by omega)];rfl⟩
             rw [HQ.out,Bool.false_and] at HE
             clear h127
             go_wp2
             go_ret
             exact ⟨by rw [← HE.out];rfl,HBr2.out⟩
           · have he:((r:Int) == 127) = false:=by simp;omega
             have HQ:Aside0 (u2w.quietB (r:Int) = true):=⟨by unfold u2w.quietB;rw [hd,decide_eq_false (show ¬ (r:Int) = 127 by omega)];rfl⟩
             rw [HQ.out,Bool.true_and] at HE
             clear h127
             go_wp2
             go_roundw
             case rel => exact ⟨pos2,f,hit2.out,hbw2,HE,by omega⟩
             case measure =>
              have h9:=hit2.out
              simp only [World.iterPos,h9,hit]
              omega
       · have hnx:∀ ty,(Instr.next (.pointer (some ⟨w.heap.size + 1,0,none⟩)) true ty).run Tryz.prog wr = _:=fun ty => Lib.run_next_end_at wr (w.heap.size + 1) value pos ty hit hp
         have HQ:Aside0 ((Base.runesOf value).all u2w.quietB = true):=⟨by
          rw [← HE.out,Base.runesFrom_end value fuel pos hp]
          rfl⟩
         obtain ⟨pm,hpm⟩:∃ b,Aside0 ((u1i.parseM value).isSome = b):=⟨_,⟨rfl⟩⟩
         have HGr:=Aside0.mk (HG.out.below hbw.out)
         cases pm
         all_goals
          go_wp2_with (first
           | (go_at_call 88;(with_reducible refine (u2d.calls wr value HGr.out).mono ?_);rintro e W1 ⟨rfl,hB1⟩;rw [hpm.out]
              have hx1:=u1a (u1a HX.out hbw.out) hB1
              have d1:=uk hx1 1
              simp only [List.size_toArray,List.length_cons,List.length_nil,List.getElem?_toArray,List.getElem?_cons_zero,List.getElem?_cons_succ] at d1
              have HB1:Aside0 (Below w.heap.size w W1):=⟨u1c HBr.out HBr.out.size hB1⟩
              clear hB1 hx1
              simp only [if_true,if_false,Bool.false_eq_true])
           | (go_at_call 63;(with_reducible refine (u2f.calls name nm W1 hnf.out).mono ?_);rintro e W2 ⟨rfl,hB2⟩;have HB2:=Aside0.mk hB2;clear hB2))
          go_ret
          first
           | exact ⟨by rw [HQ.out,hpm.out];rfl,HB1.out⟩
           | exact ⟨by rw [HQ.out,hpm.out];rfl,u1c HB1.out HB1.out.size HB2.out⟩
   · have b1:(kind == 1) = false:=by simp;omega
     have b2:(kind == 2) = false:=by simp;omega
     have b3:(kind == 3) = false:=by simp;omega
     have b4:(kind == 4) = false:=by simp;omega
     have HO:Aside0 (u2w.canB kind name value = false):=⟨by
      unfold u2w.canB
      rw [if_neg h12,if_neg h34]
      rfl⟩
     rw [HO.out]
     clear h12 h34
     go_enter Tryz.func68,Tryz.ntmps68
     go_wp2
     rw [hWa.out]
     go_ret
     exact ⟨rfl,HB.out⟩
-- in the form of the print
def u2w.f (a0:Int) (a1 a2:ByteArray):Option Bool:=some (u2w.canB a0 a1 a2)
end Go.Proofs.YtgnehcgaplnfkaaGreatDoor.PAll
