/- A text of this seat. -/
import Derived.Test.YtgnehcgaplnfkaaGreatDoorBv1
import Derived.Test.YtgnehcgaplnfkaaGreatDoorBv3
import Derived.Test.YtgnehcgaplnfkaaGreatDoorBv2
namespace Go.Proofs.YtgnehcgaplnfkaaGreatDoor.PAll
open Go.RowKit Go.Proofs.YtgnehcgaplnfkaaGreatDoorW.PrintWords Go.Proofs.YtgnehcgaplnfkaaGreatDoorW.PrintLast Go.Proofs.YtgnehcgaplnfkaaGreatDoorW.PrintMore
attribute [local go_sem] u3o u3n u3x u3w u3j u3i u3p u3q   -- for this text's walks alone
set_option linter.unusedVariables false
set_option linter.unusedSimpArgs false
-- uses dryrotref07_Name dryrotref07_Value
abbrev uv.Lb:=S111
def uv.nm (k:Nat) (x:uv.Lb):Bool:=(u1e.f k x.f0).getD false
def uv.vl (x:uv.Lb):Bool:=(u2y.f x.f1).getD false
def uv.stepB (k:Nat) (l:List uv.Lb) (i:Nat):Bool:=uv.nm k (u1r l (i:Int)) && uv.vl (u1r l (i:Int)) && (decide (i = 0) || Op.bytesLess (u1r l ((i:Int) - 1)).f0.toList (u1r l (i:Int)).f0.toList)
def uv.canB (k:Nat) (l:List uv.Lb):Bool:=decide (1 ≤ l.length) && decide (l.length ≤ 8) && (List.range l.length).all (uv.stepB k l)
def uv.okB (k:Nat) (l:List uv.Lb):Bool:=l.all fun x => (u1e.f k x.f0).isSome && (u2y.f x.f1).isSome
def uv.f (k:Nat) (l0:List uv.Lb):Option Bool:=if uv.okB k l0 = true then some (uv.canB k l0) else none
theorem uv.is_some {a:Option Bool} (h:a.isSome = true):a = some (a.getD false):=by
 cases a with
 | none => cases h
 | some b => rfl
theorem uv.rd_mem (l:List uv.Lb) (i:Int) (h0:0 ≤ i) (h1:i < l.length):u1r l i ∈ l:=by
 unfold u1r
 rw [List.getD_eq_getElem?_getD,List.getElem?_eq_getElem (by omega)]
 exact List.getElem_mem _
theorem uv.ok_at {k:Nat} {l:List uv.Lb} (h:uv.okB k l = true) (x:uv.Lb) (hx:x ∈ l):u1e.f k x.f0 = some (uv.nm k x) ∧ u2y.f x.f1 = some (uv.vl x):=by
 have h1:=List.all_eq_true.1 h x hx
 rw [Bool.and_eq_true] at h1
 exact ⟨uv.is_some h1.1,uv.is_some h1.2⟩
set_option maxHeartbeats 4000000 in
set_option maxRecDepth 10000 in
theorem uv.calls (k:Nat) (A0:Option Addr) (c0:Nat) (l0:List uv.Lb) (r:Bool) (w:World) (hr0:Kd.C k111 w A0 l0.length l0) (hc0:l0.length ≤ c0) (h:uv.f k l0 = some r) :
 Calls Tryz.prog 37 #[.slice A0 l0.length c0] w fun e w' => e = .returned (.bool r) ∧ Below w.heap.size w w':=by
 have hok:uv.okB k l0 = true:=by
  unfold uv.f at h
  split at h
  · assumption
  · cases h
 unfold uv.f at h
 rw [if_pos hok] at h
 obtain rfl:=Option.some.inj h
 have HO:=Aside0.mk hok
 have HR:=Aside0.mk hr0
 have HC:=Aside0.mk hc0
 clear hr0 h hok hc0
 by_cases h1:l0.length < 1
 · have d1:decide ((l0.length:Int) < 1) = true:=decide_eq_true (by omega)
   have d2:decide (l0.length < 1) = true:=decide_eq_true h1
   have HE:Aside0 (uv.canB k l0 = false):=⟨by unfold uv.canB;rw [decide_eq_false (by omega),Bool.false_and,Bool.false_and]⟩
   rw [HE.out]
   go_enter Tryz.func37,Tryz.ntmps37
   go_wp2
   go_ret
   exact ⟨rfl,Below.refl _ _⟩
 · have d1:decide ((l0.length:Int) < 1) = false:=decide_eq_false (by omega)
   have d2:decide (l0.length < 1) = false:=decide_eq_false h1
   by_cases h8:8 < l0.length
   · have d3:decide ((l0.length:Int) > 8) = true:=decide_eq_true (by omega)
     have d4:decide (8 < l0.length) = true:=decide_eq_true h8
     have HE:Aside0 (uv.canB k l0 = false):=⟨by unfold uv.canB;rw [decide_eq_false (show ¬ l0.length ≤ 8 by omega),Bool.and_false,Bool.false_and]⟩
     rw [HE.out]
     go_enter Tryz.func37,Tryz.ntmps37
     go_wp2
     go_ret
     exact ⟨rfl,Below.refl _ _⟩
   · have d3:decide ((l0.length:Int) > 8) = false:=decide_eq_false (by omega)
     have d4:decide (8 < l0.length) = false:=decide_eq_false h8
     have HE:Aside0 (uv.canB k l0 = (List.range l0.length).all (uv.stepB k l0)):=⟨by unfold uv.canB;rw [decide_eq_true (show 1 ≤ l0.length by omega),decide_eq_true (show l0.length ≤ 8 by omega),Bool.true_and,Bool.true_and]⟩
     rw [HE.out]
     have HB0:=Aside0.mk (Below.refl w.heap.size w)
     go_enter Tryz.func37,Tryz.ntmps37
     go_wp2
     clear d1 d2 d3 d4
     go_loopg [15] (l0.length) (fun kq v15 wr => ∃ (i:Nat),i ≤ l0.length ∧ v15 = .int .i64 i ∧ Aside0 (∀ j,j < i → uv.stepB k l0 j = true) ∧ l0.length ≤ kq + i ∧ Aside0 (Below w.heap.size w wr))
     case atStart => exact ⟨0,Nat.zero_le _,rfl,⟨fun j hj => absurd hj (Nat.not_lt_zero j)⟩,by omega,HB0⟩
     case round =>
      obtain ⟨i,hi,rfl,HJ,hk,HB⟩:=hrel
      by_cases hlt:i < l0.length
      · obtain ⟨ad,e,hc0,hc1⟩:=at_T111 HR.out (i:Int) (by omega) (by omega)
        subst e
        have HX:=uv.ok_at HO.out _ (uv.rd_mem l0 (i:Int) (by omega) (by omega))
        obtain ⟨x,hx⟩:∃ x,Aside0 (u1r l0 (i:Int) = x):=⟨_,⟨rfl⟩⟩
        rw [hx.out] at hc0 hc1 HX
        have q0:wr.cell? (ad.add (i * 2)) = some (.string x.f0):=(HB.out.cell (World.block_lt_of_cell? w _ (by simpa using hc0))).trans (by simpa using hc0)
        have q1:wr.cell? ⟨(ad.add (i * 2)).block,(ad.add (i * 2)).off + 1,none⟩ = some (.string x.f1):=(HB.out.cell (World.block_lt_of_cell? w _ (by simpa using hc1))).trans (by simpa using hc1)
        clear hc0 hc1
        obtain ⟨bn,hbn⟩:∃ b,Aside0 (uv.nm k x = b):=⟨_,⟨rfl⟩⟩
        obtain ⟨bv,hbv⟩:∃ b,Aside0 (uv.vl x = b):=⟨_,⟨rfl⟩⟩
        have HN:Aside0 (u1e.f k x.f0 = some bn):=⟨by rw [← hbn.out];exact HX.1⟩
        have HV:Aside0 (u2y.f x.f1 = some bv):=⟨by rw [← hbv.out];exact HX.2⟩
        have hs:uv.stepB k l0 i = (bn && bv && (decide (i = 0) || Op.bytesLess (u1r l0 ((i:Int) - 1)).f0.toList x.f0.toList)):=by
         unfold uv.stepB
         rw [hx.out,hbn.out,hbv.out]
        have HS:=Aside0.mk hs
        clear hs HX
        obtain ⟨W1,hW1⟩:∃ W1,Aside0 (wr.alloc (.cells #[.string x.f0,.string x.f1] 111) = W1):=⟨_,⟨rfl⟩⟩
        have HG:Aside0 (W1.heap[wr.heap.size]? = some (.cells #[.string x.f0,.string x.f1] 111 (0,0))):=⟨by rw [← hW1.out];exact u3d _ _⟩
        have HB1:Aside0 (Below w.heap.size w W1):=⟨by rw [← hW1.out];exact uj HB.out _⟩
        have HG1:=Aside0.mk (u1z HG.out)
        have HB2:=Aside0.mk (ur HB1.out)
        have hfail:uv.stepB k l0 i = false → (List.range l0.length).all (uv.stepB k l0) = false:=fun h9 => List.all_eq_false.2 ⟨i,List.mem_range.2 hlt,by rw [h9];decide⟩
        have HFL:=Aside0.mk hfail
        clear hfail
        obtain ⟨g1,rfl⟩:∃ g1,gk = g1 + 1:=⟨gk - 1,by omega⟩
        cases bn with
        | false =>
          go_wp2
          rw [hW1.out]
          clear q0 q1
          refine startO_ (n:=25) (S:=fun w' => w'.cell? ⟨wr.heap.size,0,none⟩ = some (.string x.f0) ∧ w'.cell? ⟨wr.heap.size,1,none⟩ = some (.string x.f1)) (ds:=[]) [(0,20),(1,21),(2,0),(3,23),(4,24),(5,25),(6,26),(7,27),(8,28),(9,29),(10,30),(11,31),(12,32),(13,33),(14,34),(15,35),(16,36),(17,37),(18,38),(19,39),(20,40),(21,41),(22,42),(23,43),(24,44)] (by kernel_rfl) rfl ⟨(uk HG1.out 0).trans rfl,(uk HG1.out 1).trans rfl⟩ (fun hHeld => ?_)
          (refine hd_ (v:=?_) (a':=?_) rfl rfl (by kernel_rfl) (Or.inl ⟨by kernel_rfl,?_⟩) ?_ ?_;rotate_left;(intro w';go_simp;with_reducible rfl);rotate_left;(simp only [Act.put,List.setIfInBounds_toArray,List.set_cons_zero,List.set_cons_succ,i64_w,i32_w];rfl))
          refine hdS_ (v:=?_) (a':=?_) rfl rfl (by kernel_rfl) (Or.inl ⟨by kernel_rfl,?_⟩) hHeld ?_ ?_
          rotate_left
          · rintro w' hS'
            obtain ⟨s0,s1⟩:=hS'
            go_simp
            (try with_reducible rfl)
          rotate_left
          · simp only [Act.put,List.setIfInBounds_toArray,List.set_cons_zero,List.set_cons_succ,i64_w,i32_w]
            rfl
          refine oneO_ (N:=some 22) rfl rfl (by kernel_rfl) (by decide) (fun K hK => ?_)
          refine goes_ Tryz.func69 (by kernel_rfl) rfl #[.string x.f0] (by rfl) rfl rfl (by (try simp only [List.map_toArray,List.map_cons,List.map_nil]);first | done | rfl) ?_
          refine (u1e.calls k x.f0 false _ HN.out).mono ?_
          rintro e W2 ⟨rfl,hb2⟩
          refine ⟨_,rfl,?_⟩
          have hB2:=hb2.below
          have HG2:=Aside0.mk (u1a HG1.out hB2)
          have HB3:=Aside0.mk (u1c HB2.out HB2.out.size hB2)
          clear hb2 hB2
          refine hK.out (Act.put _ (some 22) (.bool false)) _ ⟨(uk HG2.out 0).trans rfl,(uk HG2.out 1).trans rfl⟩ (fun hNext => ?_)
          simp only [Act.put,List.setIfInBounds_toArray,List.set_cons_zero,List.set_cons_succ,i64_w,i32_w]
          clear hK hHeld K
          have hHeld:=hNext
          clear hNext
          iterate 2 (refine hd_ (v:=?_) (a':=?_) rfl rfl (by kernel_rfl) (Or.inl ⟨by kernel_rfl,?_⟩) ?_ ?_;rotate_left;(intro w';go_simp;with_reducible rfl);rotate_left;(simp only [Act.put,List.setIfInBounds_toArray,List.set_cons_zero,List.set_cons_succ,i64_w,i32_w];rfl))
          iterate 4 (refine hd_ (v:=undef) (a':=?_) rfl rfl (by kernel_rfl) (Or.inr ⟨by kernel_rfl,rfl⟩) ?_ ?_;rotate_left;(simp only [Act.put,List.setIfInBounds_toArray,List.set_cons_zero,List.set_cons_succ,i64_w,i32_w];rfl))
          iterate 2 (refine hd_ (v:=?_) (a':=?_) rfl rfl (by kernel_rfl) (Or.inl ⟨by kernel_rfl,?_⟩) ?_ ?_;rotate_left;(intro w';go_simp;with_reducible rfl);rotate_left;(simp only [Act.put,List.setIfInBounds_toArray,List.set_cons_zero,List.set_cons_succ,i64_w,i32_w];rfl))
          iterate 13 (refine hd_ (v:=undef) (a':=?_) rfl rfl (by kernel_rfl) (Or.inr ⟨by kernel_rfl,rfl⟩) ?_ ?_;rotate_left;(simp only [Act.put,List.setIfInBounds_toArray,List.set_cons_zero,List.set_cons_succ,i64_w,i32_w];rfl))
          (refine hd_ (v:=?_) (a':=?_) rfl rfl (by kernel_rfl) (Or.inl ⟨by kernel_rfl,?_⟩) ?_ ?_;rotate_left;(intro w';go_simp;with_reducible rfl);rotate_left;(simp only [Act.put,List.setIfInBounds_toArray,List.set_cons_zero,List.set_cons_succ,i64_w,i32_w];rfl))
          refine doneO_ (by kernel_rfl) ?_
          try go_wp2
          go_ret
          exact ⟨by rw [HFL.out (by rw [HS.out];simp)];rfl,HB3.out⟩
        | true =>
          cases bv with
          | false =>
            go_wp2
            rw [hW1.out]
            clear q0 q1
            refine startO_ (n:=25) (S:=fun w' => w'.cell? ⟨wr.heap.size,0,none⟩ = some (.string x.f0) ∧ w'.cell? ⟨wr.heap.size,1,none⟩ = some (.string x.f1)) (ds:=[]) [(0,20),(1,21),(2,0),(3,23),(4,24),(5,25),(6,26),(7,0),(8,28),(9,29),(10,30),(11,31),(12,32),(13,33),(14,34),(15,35),(16,36),(17,37),(18,38),(19,39),(20,40),(21,41),(22,42),(23,43),(24,44)] (by kernel_rfl) rfl ⟨(uk HG1.out 0).trans rfl,(uk HG1.out 1).trans rfl⟩ (fun hHeld => ?_)
            (refine hd_ (v:=?_) (a':=?_) rfl rfl (by kernel_rfl) (Or.inl ⟨by kernel_rfl,?_⟩) ?_ ?_;rotate_left;(intro w';go_simp;with_reducible rfl);rotate_left;(simp only [Act.put,List.setIfInBounds_toArray,List.set_cons_zero,List.set_cons_succ,i64_w,i32_w];rfl))
            refine hdS_ (v:=?_) (a':=?_) rfl rfl (by kernel_rfl) (Or.inl ⟨by kernel_rfl,?_⟩) hHeld ?_ ?_
            rotate_left
            · rintro w' hS'
              obtain ⟨s0,s1⟩:=hS'
              go_simp
              (try with_reducible rfl)
            rotate_left
            · simp only [Act.put,List.setIfInBounds_toArray,List.set_cons_zero,List.set_cons_succ,i64_w,i32_w]
              rfl
            refine oneO_ (N:=some 22) rfl rfl (by kernel_rfl) (by decide) (fun K hK => ?_)
            refine goes_ Tryz.func69 (by kernel_rfl) rfl #[.string x.f0] (by rfl) rfl rfl (by (try simp only [List.map_toArray,List.map_cons,List.map_nil]);first | done | rfl) ?_
            refine (u1e.calls k x.f0 true _ HN.out).mono ?_
            rintro e W2 ⟨rfl,hb2⟩
            refine ⟨_,rfl,?_⟩
            have hB2:=hb2.below
            have HG2:=Aside0.mk (u1a HG1.out hB2)
            have HB3:=Aside0.mk (u1c HB2.out HB2.out.size hB2)
            clear hb2 hB2
            refine hK.out (Act.put _ (some 22) (.bool true)) _ ⟨(uk HG2.out 0).trans rfl,(uk HG2.out 1).trans rfl⟩ (fun hNext => ?_)
            simp only [Act.put,List.setIfInBounds_toArray,List.set_cons_zero,List.set_cons_succ,i64_w,i32_w]
            clear hK hHeld K
            have hHeld:=hNext
            clear hNext
            iterate 3 (refine hd_ (v:=?_) (a':=?_) rfl rfl (by kernel_rfl) (Or.inl ⟨by kernel_rfl,?_⟩) ?_ ?_;rotate_left;(intro w';go_simp;with_reducible rfl);rotate_left;(simp only [Act.put,List.setIfInBounds_toArray,List.set_cons_zero,List.set_cons_succ,i64_w,i32_w];rfl))
            refine hdS_ (v:=?_) (a':=?_) rfl rfl (by kernel_rfl) (Or.inl ⟨by kernel_rfl,?_⟩) hHeld ?_ ?_
            rotate_left
            · rintro w' hS'
              obtain ⟨s0,s1⟩:=hS'
              go_simp
              (try with_reducible rfl)
            rotate_left
            · simp only [Act.put,List.setIfInBounds_toArray,List.set_cons_zero,List.set_cons_succ,i64_w,i32_w]
              rfl
            refine oneO_ (N:=some 27) rfl rfl (by kernel_rfl) (by decide) (fun K hK => ?_)
            refine goes_ Tryz.func70 (by kernel_rfl) rfl #[.string x.f1] (by rfl) rfl rfl (by (try simp only [List.map_toArray,List.map_cons,List.map_nil]);first | done | rfl) ?_
            refine (u2y.calls x.f1 false _ HV.out).mono ?_
            rintro e W3 ⟨rfl,hb3⟩
            refine ⟨_,rfl,?_⟩
            have HG3:=Aside0.mk (u1a HG2.out hb3)
            have HB4:=Aside0.mk (u1c HB3.out HB3.out.size hb3)
            clear hb3
            refine hK.out (Act.put _ (some 27) (.bool false)) _ ⟨(uk HG3.out 0).trans rfl,(uk HG3.out 1).trans rfl⟩ (fun hNext => ?_)
            simp only [Act.put,List.setIfInBounds_toArray,List.set_cons_zero,List.set_cons_succ,i64_w,i32_w]
            clear hK hHeld K
            have hHeld:=hNext
            clear hNext
            iterate 3 (refine hd_ (v:=?_) (a':=?_) rfl rfl (by kernel_rfl) (Or.inl ⟨by kernel_rfl,?_⟩) ?_ ?_;rotate_left;(intro w';go_simp;with_reducible rfl);rotate_left;(simp only [Act.put,List.setIfInBounds_toArray,List.set_cons_zero,List.set_cons_succ,i64_w,i32_w];rfl))
            iterate 13 (refine hd_ (v:=undef) (a':=?_) rfl rfl (by kernel_rfl) (Or.inr ⟨by kernel_rfl,rfl⟩) ?_ ?_;rotate_left;(simp only [Act.put,List.setIfInBounds_toArray,List.set_cons_zero,List.set_cons_succ,i64_w,i32_w];rfl))
            (refine hd_ (v:=?_) (a':=?_) rfl rfl (by kernel_rfl) (Or.inl ⟨by kernel_rfl,?_⟩) ?_ ?_;rotate_left;(intro w';go_simp;with_reducible rfl);rotate_left;(simp only [Act.put,List.setIfInBounds_toArray,List.set_cons_zero,List.set_cons_succ,i64_w,i32_w];rfl))
            refine doneO_ (by kernel_rfl) ?_
            try go_wp2
            go_ret
            exact ⟨by rw [HFL.out (by rw [HS.out];simp)];rfl,HB4.out⟩
          | true =>
            by_cases hz9:i = 0
            · have z1:decide ((i:Int) > 0) = false:=decide_eq_false (by omega)
              have z2:decide (0 < i) = false:=decide_eq_false (by omega)
              have HZ9:=Aside0.mk hz9
              clear hz9
              go_wp2
              rw [hW1.out]
              clear q0 q1
              refine startO_ (n:=25) (S:=fun w' => w'.cell? ⟨wr.heap.size,0,none⟩ = some (.string x.f0) ∧ w'.cell? ⟨wr.heap.size,1,none⟩ = some (.string x.f1)) (ds:=[]) [(0,20),(1,21),(2,0),(3,23),(4,24),(5,25),(6,26),(7,0),(8,28),(9,29),(10,30),(11,31),(12,32),(13,33),(14,34),(15,35),(16,36),(17,37),(18,38),(19,39),(20,40),(21,41),(22,42),(23,43),(24,44)] (by kernel_rfl) rfl ⟨(uk HG1.out 0).trans rfl,(uk HG1.out 1).trans rfl⟩ (fun hHeld => ?_)
              (refine hd_ (v:=?_) (a':=?_) rfl rfl (by kernel_rfl) (Or.inl ⟨by kernel_rfl,?_⟩) ?_ ?_;rotate_left;(intro w';go_simp;with_reducible rfl);rotate_left;(simp only [Act.put,List.setIfInBounds_toArray,List.set_cons_zero,List.set_cons_succ,i64_w,i32_w];rfl))
              refine hdS_ (v:=?_) (a':=?_) rfl rfl (by kernel_rfl) (Or.inl ⟨by kernel_rfl,?_⟩) hHeld ?_ ?_
              rotate_left
              · rintro w' hS'
                obtain ⟨s0,s1⟩:=hS'
                go_simp
                (try with_reducible rfl)
              rotate_left
              · simp only [Act.put,List.setIfInBounds_toArray,List.set_cons_zero,List.set_cons_succ,i64_w,i32_w]
                rfl
              refine oneO_ (N:=some 22) rfl rfl (by kernel_rfl) (by decide) (fun K hK => ?_)
              refine goes_ Tryz.func69 (by kernel_rfl) rfl #[.string x.f0] (by rfl) rfl rfl (by (try simp only [List.map_toArray,List.map_cons,List.map_nil]);first | done | rfl) ?_
              refine (u1e.calls k x.f0 true _ HN.out).mono ?_
              rintro e W2 ⟨rfl,hb2⟩
              refine ⟨_,rfl,?_⟩
              have hB2:=hb2.below
              have HG2:=Aside0.mk (u1a HG1.out hB2)
              have HB3:=Aside0.mk (u1c HB2.out HB2.out.size hB2)
              clear hb2 hB2
              refine hK.out (Act.put _ (some 22) (.bool true)) _ ⟨(uk HG2.out 0).trans rfl,(uk HG2.out 1).trans rfl⟩ (fun hNext => ?_)
              simp only [Act.put,List.setIfInBounds_toArray,List.set_cons_zero,List.set_cons_succ,i64_w,i32_w]
              clear hK hHeld K
              have hHeld:=hNext
              clear hNext
              iterate 3 (refine hd_ (v:=?_) (a':=?_) rfl rfl (by kernel_rfl) (Or.inl ⟨by kernel_rfl,?_⟩) ?_ ?_;rotate_left;(intro w';go_simp;with_reducible rfl);rotate_left;(simp only [Act.put,List.setIfInBounds_toArray,List.set_cons_zero,List.set_cons_succ,i64_w,i32_w];rfl))
              refine hdS_ (v:=?_) (a':=?_) rfl rfl (by kernel_rfl) (Or.inl ⟨by kernel_rfl,?_⟩) hHeld ?_ ?_
              rotate_left
              · rintro w' hS'
                obtain ⟨s0,s1⟩:=hS'
                go_simp
                (try with_reducible rfl)
              rotate_left
              · simp only [Act.put,List.setIfInBounds_toArray,List.set_cons_zero,List.set_cons_succ,i64_w,i32_w]
                rfl
              refine oneO_ (N:=some 27) rfl rfl (by kernel_rfl) (by decide) (fun K hK => ?_)
              refine goes_ Tryz.func70 (by kernel_rfl) rfl #[.string x.f1] (by rfl) rfl rfl (by (try simp only [List.map_toArray,List.map_cons,List.map_nil]);first | done | rfl) ?_
              refine (u2y.calls x.f1 true _ HV.out).mono ?_
              rintro e W3 ⟨rfl,hb3⟩
              refine ⟨_,rfl,?_⟩
              have HG3:=Aside0.mk (u1a HG2.out hb3)
              have HB4:=Aside0.mk (u1c HB3.out HB3.out.size hb3)
              clear hb3
              refine hK.out (Act.put _ (some 27) (.bool true)) _ ⟨(uk HG3.out 0).trans rfl,(uk HG3.out 1).trans rfl⟩ (fun hNext => ?_)
              simp only [Act.put,List.setIfInBounds_toArray,List.set_cons_zero,List.set_cons_succ,i64_w,i32_w]
              clear hK hHeld K
              have hHeld:=hNext
              clear hNext
              iterate 6 (refine hd_ (v:=?_) (a':=?_) rfl rfl (by kernel_rfl) (Or.inl ⟨by kernel_rfl,?_⟩) ?_ ?_;rotate_left;(intro w';go_simp;with_reducible rfl);rotate_left;(simp only [Act.put,List.setIfInBounds_toArray,List.set_cons_zero,List.set_cons_succ,i64_w,i32_w];rfl))
              iterate 9 (refine hd_ (v:=undef) (a':=?_) rfl rfl (by kernel_rfl) (Or.inr ⟨by kernel_rfl,rfl⟩) ?_ ?_;rotate_left;(simp only [Act.put,List.setIfInBounds_toArray,List.set_cons_zero,List.set_cons_succ,i64_w,i32_w];rfl))
              iterate 2 (refine hd_ (v:=?_) (a':=?_) rfl rfl (by kernel_rfl) (Or.inl ⟨by kernel_rfl,?_⟩) ?_ ?_;rotate_left;(intro w';go_simp;with_reducible rfl);rotate_left;(simp only [Act.put,List.setIfInBounds_toArray,List.set_cons_zero,List.set_cons_succ,i64_w,i32_w];rfl))
              refine doneO_ (by kernel_rfl) ?_
              try go_wp2
              go_roundg g1
              case rel =>
               refine ⟨i + 1,hlt,by go_num,⟨fun m hm => ?_⟩,by omega,HB4⟩
               rcases Nat.lt_or_ge m i with h9 | h9
               · exact HJ.out m h9
               · have h8:m = i:=by omega
                 rw [h8,HS.out]
                 simp [HZ9.out]
              case measure => omega
            · obtain ⟨j,rfl⟩:∃ j,i = j + 1:=⟨i - 1,by omega⟩
              obtain ⟨ad2,e2,hp0,_⟩:=at_T111 HR.out (j:Int) (by omega) (by omega)
              obtain rfl:ad = ad2:=Option.some.inj e2
              obtain ⟨p,hp⟩:∃ p,Aside0 (u1r l0 (j:Int) = p):=⟨_,⟨rfl⟩⟩
              rw [hp.out] at hp0
              simp only [Int.toNat_natCast] at hp0
              have HP:Aside0 (∀ W',Below w.heap.size w W' → W'.cell? (ad.add (j * 2)) = some (.string p.f0)):=⟨fun W' hW' => (hW'.cell (World.block_lt_of_cell? w _ hp0)).trans hp0⟩
              have hj1:(((j + 1:Nat):Int) - 1) = (j:Int):=by omega
              rw [hj1,hp.out] at HS
              clear hp0 hj1
              have z1:decide (((j + 1:Nat):Int) > 0) = true:=decide_eq_true (by omega)
              have z2:decide (0 < j + 1) = true:=decide_eq_true (by omega)
              have z3:decide ((0:Int) < (j:Int) + 1) = true:=decide_eq_true (by omega)
              have z4:(0:Int) ≤ (j:Int):=by omega
              have z6:wrap64 (j:Int) = (j:Int):=by unfold wrap64;omega
              have z5:(j:Int) < (l0.length:Int):=by omega
              cases hls:Op.bytesLess p.f0.toList x.f0.toList with
              | false =>
                go_wp2
                rw [hW1.out]
                clear q0 q1
                refine startO_ (n:=25) (S:=fun w' => w'.cell? ⟨wr.heap.size,0,none⟩ = some (.string x.f0) ∧ w'.cell? ⟨wr.heap.size,1,none⟩ = some (.string x.f1) ∧ w'.cell? (ad.add (j * 2)) = some (.string p.f0)) (ds:=[]) [(0,20),(1,21),(2,0),(3,23),(4,24),(5,25),(6,26),(7,0),(8,28),(9,29),(10,30),(11,31),(12,32),(13,33),(14,34),(15,35),(16,36),(17,37),(18,38),(19,39),(20,40),(21,41),(22,42),(23,43),(24,44)] (by kernel_rfl) rfl ⟨(uk HG1.out 0).trans rfl,(uk HG1.out 1).trans rfl,HP.out _ (HB2.out)⟩ (fun hHeld => ?_)
                (refine hd_ (v:=?_) (a':=?_) rfl rfl (by kernel_rfl) (Or.inl ⟨by kernel_rfl,?_⟩) ?_ ?_;rotate_left;(intro w';go_simp;with_reducible rfl);rotate_left;(simp only [Act.put,List.setIfInBounds_toArray,List.set_cons_zero,List.set_cons_succ,i64_w,i32_w];rfl))
                refine hdS_ (v:=?_) (a':=?_) rfl rfl (by kernel_rfl) (Or.inl ⟨by kernel_rfl,?_⟩) hHeld ?_ ?_
                rotate_left
                · rintro w' hS'
                  obtain ⟨s0,s1,s2⟩:=hS'
                  go_simp
                  (try with_reducible rfl)
                rotate_left
                · simp only [Act.put,List.setIfInBounds_toArray,List.set_cons_zero,List.set_cons_succ,i64_w,i32_w]
                  rfl
                refine oneO_ (N:=some 22) rfl rfl (by kernel_rfl) (by decide) (fun K hK => ?_)
                refine goes_ Tryz.func69 (by kernel_rfl) rfl #[.string x.f0] (by rfl) rfl rfl (by (try simp only [List.map_toArray,List.map_cons,List.map_nil]);first | done | rfl) ?_
                refine (u1e.calls k x.f0 true _ HN.out).mono ?_
                rintro e W2 ⟨rfl,hb2⟩
                refine ⟨_,rfl,?_⟩
                have hB2:=hb2.below
                have HG2:=Aside0.mk (u1a HG1.out hB2)
                have HB3:=Aside0.mk (u1c HB2.out HB2.out.size hB2)
                clear hb2 hB2
                refine hK.out (Act.put _ (some 22) (.bool true)) _ ⟨(uk HG2.out 0).trans rfl,(uk HG2.out 1).trans rfl,HP.out _ (HB3.out)⟩ (fun hNext => ?_)
                simp only [Act.put,List.setIfInBounds_toArray,List.set_cons_zero,List.set_cons_succ,i64_w,i32_w]
                clear hK hHeld K
                have hHeld:=hNext
                clear hNext
                iterate 3 (refine hd_ (v:=?_) (a':=?_) rfl rfl (by kernel_rfl) (Or.inl ⟨by kernel_rfl,?_⟩) ?_ ?_;rotate_left;(intro w';go_simp;with_reducible rfl);rotate_left;(simp only [Act.put,List.setIfInBounds_toArray,List.set_cons_zero,List.set_cons_succ,i64_w,i32_w];rfl))
                refine hdS_ (v:=?_) (a':=?_) rfl rfl (by kernel_rfl) (Or.inl ⟨by kernel_rfl,?_⟩) hHeld ?_ ?_
                rotate_left
                · rintro w' hS'
                  obtain ⟨s0,s1,s2⟩:=hS'
                  go_simp
                  (try with_reducible rfl)
                rotate_left
                · simp only [Act.put,List.setIfInBounds_toArray,List.set_cons_zero,List.set_cons_succ,i64_w,i32_w]
                  rfl
                refine oneO_ (N:=some 27) rfl rfl (by kernel_rfl) (by decide) (fun K hK => ?_)
                refine goes_ Tryz.func70 (by kernel_rfl) rfl #[.string x.f1] (by rfl) rfl rfl (by (try simp only [List.map_toArray,List.map_cons,List.map_nil]);first | done | rfl) ?_
                refine (u2y.calls x.f1 true _ HV.out).mono ?_
                rintro e W3 ⟨rfl,hb3⟩
                refine ⟨_,rfl,?_⟩
                have HG3:=Aside0.mk (u1a HG2.out hb3)
                have HB4:=Aside0.mk (u1c HB3.out HB3.out.size hb3)
                clear hb3
                refine hK.out (Act.put _ (some 27) (.bool true)) _ ⟨(uk HG3.out 0).trans rfl,(uk HG3.out 1).trans rfl,HP.out _ (HB4.out)⟩ (fun hNext => ?_)
                simp only [Act.put,List.setIfInBounds_toArray,List.set_cons_zero,List.set_cons_succ,i64_w,i32_w]
                clear hK hHeld K
                have hHeld:=hNext
                clear hNext
                iterate 11 (refine hd_ (v:=?_) (a':=?_) rfl rfl (by kernel_rfl) (Or.inl ⟨by kernel_rfl,?_⟩) ?_ ?_;rotate_left;(intro w';go_simp;with_reducible rfl);rotate_left;(simp only [Act.put,List.setIfInBounds_toArray,List.set_cons_zero,List.set_cons_succ,i64_w,i32_w];rfl))
                refine hdS_ (v:=?_) (a':=?_) rfl rfl (by kernel_rfl) (Or.inl ⟨by kernel_rfl,?_⟩) hHeld ?_ ?_
                rotate_left
                · rintro w' hS'
                  obtain ⟨s0,s1,s2⟩:=hS'
                  go_simp
                  (try with_reducible rfl)
                rotate_left
                · simp only [Act.put,List.setIfInBounds_toArray,List.set_cons_zero,List.set_cons_succ,i64_w,i32_w]
                  rfl
                (refine hd_ (v:=?_) (a':=?_) rfl rfl (by kernel_rfl) (Or.inl ⟨by kernel_rfl,?_⟩) ?_ ?_;rotate_left;(intro w';go_simp;with_reducible rfl);rotate_left;(simp only [Act.put,List.setIfInBounds_toArray,List.set_cons_zero,List.set_cons_succ,i64_w,i32_w];rfl))
                refine hdS_ (v:=?_) (a':=?_) rfl rfl (by kernel_rfl) (Or.inl ⟨by kernel_rfl,?_⟩) hHeld ?_ ?_
                rotate_left
                · rintro w' hS'
                  obtain ⟨s0,s1,s2⟩:=hS'
                  go_simp
                  (try with_reducible rfl)
                rotate_left
                · simp only [Act.put,List.setIfInBounds_toArray,List.set_cons_zero,List.set_cons_succ,i64_w,i32_w]
                  rfl
                iterate 3 (refine hd_ (v:=?_) (a':=?_) rfl rfl (by kernel_rfl) (Or.inl ⟨by kernel_rfl,?_⟩) ?_ ?_;rotate_left;(intro w';go_simp;with_reducible rfl);rotate_left;(simp only [Act.put,List.setIfInBounds_toArray,List.set_cons_zero,List.set_cons_succ,i64_w,i32_w];rfl))
                refine doneO_ (by kernel_rfl) ?_
                try go_wp2
                go_ret
                exact ⟨by rw [HFL.out (by rw [HS.out,hls];simp)];rfl,HB4.out⟩
              | true =>
                go_wp2
                rw [hW1.out]
                clear q0 q1
                refine startO_ (n:=25) (S:=fun w' => w'.cell? ⟨wr.heap.size,0,none⟩ = some (.string x.f0) ∧ w'.cell? ⟨wr.heap.size,1,none⟩ = some (.string x.f1) ∧ w'.cell? (ad.add (j * 2)) = some (.string p.f0)) (ds:=[]) [(0,20),(1,21),(2,0),(3,23),(4,24),(5,25),(6,26),(7,0),(8,28),(9,29),(10,30),(11,31),(12,32),(13,33),(14,34),(15,35),(16,36),(17,37),(18,38),(19,39),(20,40),(21,41),(22,42),(23,43),(24,44)] (by kernel_rfl) rfl ⟨(uk HG1.out 0).trans rfl,(uk HG1.out 1).trans rfl,HP.out _ (HB2.out)⟩ (fun hHeld => ?_)
                (refine hd_ (v:=?_) (a':=?_) rfl rfl (by kernel_rfl) (Or.inl ⟨by kernel_rfl,?_⟩) ?_ ?_;rotate_left;(intro w';go_simp;with_reducible rfl);rotate_left;(simp only [Act.put,List.setIfInBounds_toArray,List.set_cons_zero,List.set_cons_succ,i64_w,i32_w];rfl))
                refine hdS_ (v:=?_) (a':=?_) rfl rfl (by kernel_rfl) (Or.inl ⟨by kernel_rfl,?_⟩) hHeld ?_ ?_
                rotate_left
                · rintro w' hS'
                  obtain ⟨s0,s1,s2⟩:=hS'
                  go_simp
                  (try with_reducible rfl)
                rotate_left
                · simp only [Act.put,List.setIfInBounds_toArray,List.set_cons_zero,List.set_cons_succ,i64_w,i32_w]
                  rfl
                refine oneO_ (N:=some 22) rfl rfl (by kernel_rfl) (by decide) (fun K hK => ?_)
                refine goes_ Tryz.func69 (by kernel_rfl) rfl #[.string x.f0] (by rfl) rfl rfl (by (try simp only [List.map_toArray,List.map_cons,List.map_nil]);first | done | rfl) ?_
                refine (u1e.calls k x.f0 true _ HN.out).mono ?_
                rintro e W2 ⟨rfl,hb2⟩
                refine ⟨_,rfl,?_⟩
                have hB2:=hb2.below
                have HG2:=Aside0.mk (u1a HG1.out hB2)
                have HB3:=Aside0.mk (u1c HB2.out HB2.out.size hB2)
                clear hb2 hB2
                refine hK.out (Act.put _ (some 22) (.bool true)) _ ⟨(uk HG2.out 0).trans rfl,(uk HG2.out 1).trans rfl,HP.out _ (HB3.out)⟩ (fun hNext => ?_)
                simp only [Act.put,List.setIfInBounds_toArray,List.set_cons_zero,List.set_cons_succ,i64_w,i32_w]
                clear hK hHeld K
                have hHeld:=hNext
                clear hNext
                iterate 3 (refine hd_ (v:=?_) (a':=?_) rfl rfl (by kernel_rfl) (Or.inl ⟨by kernel_rfl,?_⟩) ?_ ?_;rotate_left;(intro w';go_simp;with_reducible rfl);rotate_left;(simp only [Act.put,List.setIfInBounds_toArray,List.set_cons_zero,List.set_cons_succ,i64_w,i32_w];rfl))
                refine hdS_ (v:=?_) (a':=?_) rfl rfl (by kernel_rfl) (Or.inl ⟨by kernel_rfl,?_⟩) hHeld ?_ ?_
                rotate_left
                · rintro w' hS'
                  obtain ⟨s0,s1,s2⟩:=hS'
                  go_simp
                  (try with_reducible rfl)
                rotate_left
                · simp only [Act.put,List.setIfInBounds_toArray,List.set_cons_zero,List.set_cons_succ,i64_w,i32_w]
                  rfl
                refine oneO_ (N:=some 27) rfl rfl (by kernel_rfl) (by decide) (fun K hK => ?_)
                refine goes_ Tryz.func70 (by kernel_rfl) rfl #[.string x.f1] (by rfl) rfl rfl (by (try simp only [List.map_toArray,List.map_cons,List.map_nil]);first | done | rfl) ?_
                refine (u2y.calls x.f1 true _ HV.out).mono ?_
                rintro e W3 ⟨rfl,hb3⟩
                refine ⟨_,rfl,?_⟩
                have HG3:=Aside0.mk (u1a HG2.out hb3)
                have HB4:=Aside0.mk (u1c HB3.out HB3.out.size hb3)
                clear hb3
                refine hK.out (Act.put _ (some 27) (.bool true)) _ ⟨(uk HG3.out 0).trans rfl,(uk HG3.out 1).trans rfl,HP.out _ (HB4.out)⟩ (fun hNext => ?_)
                simp only [Act.put,List.setIfInBounds_toArray,List.set_cons_zero,List.set_cons_succ,i64_w,i32_w]
                clear hK hHeld K
                have hHeld:=hNext
                clear hNext
                iterate 11 (refine hd_ (v:=?_) (a':=?_) rfl rfl (by kernel_rfl) (Or.inl ⟨by kernel_rfl,?_⟩) ?_ ?_;rotate_left;(intro w';go_simp;with_reducible rfl);rotate_left;(simp only [Act.put,List.setIfInBounds_toArray,List.set_cons_zero,List.set_cons_succ,i64_w,i32_w];rfl))
                refine hdS_ (v:=?_) (a':=?_) rfl rfl (by kernel_rfl) (Or.inl ⟨by kernel_rfl,?_⟩) hHeld ?_ ?_
                rotate_left
                · rintro w' hS'
                  obtain ⟨s0,s1,s2⟩:=hS'
                  go_simp
                  (try with_reducible rfl)
                rotate_left
                · simp only [Act.put,List.setIfInBounds_toArray,List.set_cons_zero,List.set_cons_succ,i64_w,i32_w]
                  rfl
                (refine hd_ (v:=?_) (a':=?_) rfl rfl (by kernel_rfl) (Or.inl ⟨by kernel_rfl,?_⟩) ?_ ?_;rotate_left;(intro w';go_simp;with_reducible rfl);rotate_left;(simp only [Act.put,List.setIfInBounds_toArray,List.set_cons_zero,List.set_cons_succ,i64_w,i32_w];rfl))
                refine hdS_ (v:=?_) (a':=?_) rfl rfl (by kernel_rfl) (Or.inl ⟨by kernel_rfl,?_⟩) hHeld ?_ ?_
                rotate_left
                · rintro w' hS'
                  obtain ⟨s0,s1,s2⟩:=hS'
                  go_simp
                  (try with_reducible rfl)
                rotate_left
                · simp only [Act.put,List.setIfInBounds_toArray,List.set_cons_zero,List.set_cons_succ,i64_w,i32_w]
                  rfl
                iterate 3 (refine hd_ (v:=?_) (a':=?_) rfl rfl (by kernel_rfl) (Or.inl ⟨by kernel_rfl,?_⟩) ?_ ?_;rotate_left;(intro w';go_simp;with_reducible rfl);rotate_left;(simp only [Act.put,List.setIfInBounds_toArray,List.set_cons_zero,List.set_cons_succ,i64_w,i32_w];rfl))
                refine doneO_ (by kernel_rfl) ?_
                try go_wp2
                go_roundg g1
                case rel =>
                 refine ⟨j + 1 + 1,hlt,by go_num,⟨fun m hm => ?_⟩,by omega,HB4⟩
                 rcases Nat.lt_or_ge m (j + 1) with h9 | h9
                 · exact HJ.out m h9
                 · have h8:m = j + 1:=by omega
                   rw [h8,HS.out,hls]
                   simp
                case measure => omega
      · have hie:i = l0.length:=by omega
        have HT:Aside0 ((List.range l0.length).all (uv.stepB k l0) = true):=⟨List.all_eq_true.2 (fun m hm => HJ.out m (by rw [hie];exact List.mem_range.1 hm))⟩
        go_wp2
        go_ret
        exact ⟨by rw [HT.out];rfl,HB.out⟩
end Go.Proofs.YtgnehcgaplnfkaaGreatDoor.PAll
