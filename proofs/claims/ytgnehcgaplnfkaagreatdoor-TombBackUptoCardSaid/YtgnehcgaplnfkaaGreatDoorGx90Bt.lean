/- A text of this seat. -/
import Derived.Test.YtgnehcgaplnfkaaGreatDoorBt1
import Derived.Test.YtgnehcgaplnfkaaGreatDoorBt2
namespace Go.Proofs.YtgnehcgaplnfkaaGreatDoor.PAll
open Go.RowKit Go.Proofs.YtgnehcgaplnfkaaGreatDoorW.PrintWords Go.Proofs.YtgnehcgaplnfkaaGreatDoorW.PrintLast Go.Proofs.YtgnehcgaplnfkaaGreatDoorW.PrintMore
attribute [local go_sem] u3r u3t u4c u4b u3n u3o u3u u3s   -- for this text's walks alone
set_option linter.unusedVariables false
set_option linter.unusedSimpArgs false
-- uses crc_Put slices_Concat_byte_byte
def dryrotlaw14_awake.f:Option Bool:=some true
set_option maxHeartbeats 4000000 in
set_option maxRecDepth 100000 in
theorem dryrotlaw14_awake.calls (r:Bool) (w:World) (h:dryrotlaw14_awake.f = some r):Calls Tryz.prog 18 #[] w fun e w' => e = .returned (.bool r) ∧ Below w.heap.size w w':=by
 obtain rfl:=Option.some.inj h
 clear h
 have hta:∀ (W:World) (v:Value),(Instr.typeAssert (.iface 86 v) 127 86 true).run Tryz.prog W = .ok (.tuple #[v,.bool true]) W:=fun W v => by kernel_rfl
 go_enter Tryz.func18,Tryz.ntmps18
 go_wp2
 refine wp_loop_rounds 2 ?_
 rw [rounds_succ]
 go_wp2
 repeat (first
  | (refine wp_loop_rounds 2 ?_;rw [rounds_succ];go_wp2_with (first
      | (go_at_call 28
         (
          (with_reducible refine (u1b.calls4 1 _).mono ?_)
          rintro e wa ⟨va,rfl,hR,hb⟩
          have nB:Aside0 (Below w.heap.size w wa):=⟨u2o (by repeat (first | exact Below.refl _ _ | apply uj)) hb⟩
          have nR:Aside0 (Kd.R (Kd.int .u8) 5 wa w.heap.size (fun _ => True) va (u1b.put 1 4)):=⟨Kd.R_lower hR (u2k (by repeat (first | exact Below.refl _ _ | apply uj)))⟩
          have nK:Aside0 (wa.heap[w.heap.size]? = some (Obj.cells #[.slice none 0 0,.int .i64 1,.int .i64 5,.int .i64 3] 83 (0,0))):=⟨u1h (by exact uo (u3l w _) _) hb⟩
          clear   hR hb
          have HB:=nB
          have HRa:=nR
          have HKl:=nK
          clear nB nR nK
          obtain ⟨Aa,ca,ea⟩:∃ A c,va = .slice A 4 c:=by obtain ⟨A,c,e⟩:=Kd.R_slice HRa.out;exact ⟨A,c,e⟩
          subst ea
          have hcl0:_ = some (.slice none 0 0:Value):=(uk HKl.out 0).trans rfl
          have hcl1:_ = some (.int .i64 1:Value):=(uk HKl.out 1).trans rfl
          have hcl2:_ = some (.int .i64 5:Value):=(uk HKl.out 2).trans rfl
          have hcl3:_ = some (.int .i64 3:Value):=(uk HKl.out 3).trans rfl))
      | (go_in)))
  | (rw [rounds_succ];go_wp2_with (first
        | (go_at_call 28
           (
            (with_reducible refine (u1b.calls4 1 _).mono ?_)
            rintro e wa ⟨va,rfl,hR,hb⟩
            have nB:Aside0 (Below w.heap.size w wa):=⟨u2o (by repeat (first | exact Below.refl _ _ | apply uj)) hb⟩
            have nR:Aside0 (Kd.R (Kd.int .u8) 5 wa w.heap.size (fun _ => True) va (u1b.put 1 4)):=⟨Kd.R_lower hR (u2k (by repeat (first | exact Below.refl _ _ | apply uj)))⟩
            have nK:Aside0 (wa.heap[w.heap.size]? = some (Obj.cells #[.slice none 0 0,.int .i64 1,.int .i64 5,.int .i64 3] 83 (0,0))):=⟨u1h (by exact uo (u3l w _) _) hb⟩
            clear   hR hb
            have HB:=nB
            have HRa:=nR
            have HKl:=nK
            clear nB nR nK
            obtain ⟨Aa,ca,ea⟩:∃ A c,va = .slice A 4 c:=by obtain ⟨A,c,e⟩:=Kd.R_slice HRa.out;exact ⟨A,c,e⟩
            subst ea
            have hcl0:_ = some (.slice none 0 0:Value):=(uk HKl.out 0).trans rfl
            have hcl1:_ = some (.int .i64 1:Value):=(uk HKl.out 1).trans rfl
            have hcl2:_ = some (.int .i64 5:Value):=(uk HKl.out 2).trans rfl
            have hcl3:_ = some (.int .i64 3:Value):=(uk HKl.out 3).trans rfl))
        | (go_in))))
 have e1:(wa.alloc (.cells #[.slice none 0 0,.int .i64 1,.int .i64 5,.int .i64 3] 83)).heap.size = wa.heap.size + 1:=by simp
 have e2:((wa.alloc (.cells #[.slice none 0 0,.int .i64 1,.int .i64 5,.int .i64 3] 83)).alloc (.cells #[.slice none 0 0,.int .i64 1,.int .i64 5,.int .i64 3] 86)).heap.size = wa.heap.size + 1 + 1:=by simp
 have HG:Aside0 ((((wa.alloc (.cells #[.slice none 0 0,.int .i64 1,.int .i64 5,.int .i64 3] 83)).alloc (.cells #[.slice none 0 0,.int .i64 1,.int .i64 5,.int .i64 3] 86)).alloc (.cells #[.int .u8 0] 5)).heap[wa.heap.size + 1]? = some (.cells #[.slice none 0 0,.int .i64 1,.int .i64 5,.int .i64 3] 86 (0,0))):=⟨by rw [← e1];exact uo (u3l _ _) _⟩
 have HBx:Aside0 (Below w.heap.size w (((wa.alloc (.cells #[.slice none 0 0,.int .i64 1,.int .i64 5,.int .i64 3] 83)).alloc (.cells #[.slice none 0 0,.int .i64 1,.int .i64 5,.int .i64 3] 86)).alloc (.cells #[.int .u8 0] 5))):=⟨uj (uj (uj HB.out _) _) _⟩
 have HM:Aside0 (Kd.R (Kd.int .u8) 5 (((wa.alloc (.cells #[.slice none 0 0,.int .i64 1,.int .i64 5,.int .i64 3] 83)).alloc (.cells #[.slice none 0 0,.int .i64 1,.int .i64 5,.int .i64 3] 86)).alloc (.cells #[.int .u8 0] 5)) w.heap.size (fun _ => True) (.slice (some ⟨wa.heap.size + 1 + 1,0,none⟩) 1 1) [0]):=⟨by rw [← e2];exact Kd.R_of_own (own_lit _ w.heap.size 5 .u8 [0] (u2k (uj (uj HB.out _) _)) (by simp)) (fun _ _ => trivial)⟩
 have nK:=Aside0.mk (uo (uo (uo HKl.out (.cells #[.slice none 0 0,.int .i64 1,.int .i64 5,.int .i64 3] 83)) (.cells #[.slice none 0 0,.int .i64 1,.int .i64 5,.int .i64 3] 86)) (.cells #[.int .u8 0] 5))
 have nRa:=Aside0.mk (Kd.R_alloc (Kd.R_alloc (Kd.R_alloc HRa.out (.cells #[.slice none 0 0,.int .i64 1,.int .i64 5,.int .i64 3] 83)) (.cells #[.slice none 0 0,.int .i64 1,.int .i64 5,.int .i64 3] 86)) (.cells #[.int .u8 0] 5))
 clear HB HKl HRa hcl0 hcl1 hcl2 hcl3 e1 e2
 have HKl:=nK
 have HRa:=nRa
 clear nK nRa
 obtain ⟨wx,hwx⟩:∃ wx,Aside0 ((((wa.alloc (.cells #[.slice none 0 0,.int .i64 1,.int .i64 5,.int .i64 3] 83)).alloc (.cells #[.slice none 0 0,.int .i64 1,.int .i64 5,.int .i64 3] 86)).alloc (.cells #[.int .u8 0] 5)) = wx):=⟨_,⟨rfl⟩⟩
 rw [hwx.out] at HG HBx HM HKl HRa
 rw [hwx.out]
 clear hwx
 refine start_ (n:=19) (S:=fun w' => w'.heap[wa.heap.size + 1]? = some (.cells #[.slice none 0 0,.int .i64 1,.int .i64 5,.int .i64 3] 86 (0,0))) (ds:=[]) #[false,false,false,false,false,false,false,false,false,false,false,false,false,false,false,false,false,false,false] (by kernel_rfl) rfl rfl (u2e HG.out) (fun hHeld => ?_)
 refine pure_ (i:=0) (N:=some 21) (v:=?_) (a':=?_) #[true,false,false,false,false,false,false,false,false,false,false,false,false,false,false,false,false,false,false] rfl rfl (by kernel_rfl) (fun _ _ _ h => h) (Or.inl ⟨by rfl,?_⟩) ?_ ?_
 rotate_left
 · intro w'
   go_simp
   with_reducible rfl
 rotate_left
 · simp only [Act.put,List.setIfInBounds_toArray,List.set_cons_zero,List.set_cons_succ,i64_w,i32_w]
   rfl
 refine pure_ (i:=1) (N:=some 22) (v:=?_) (a':=?_) #[true,true,false,false,false,false,false,false,false,false,false,false,false,false,false,false,false,false,false] rfl rfl (by kernel_rfl) (fun _ _ _ h => h) (Or.inl ⟨by rfl,?_⟩) ?_ ?_
 rotate_left
 · intro w'
   go_simp
   with_reducible rfl
 rotate_left
 · simp only [Act.put,List.setIfInBounds_toArray,List.set_cons_zero,List.set_cons_succ,i64_w,i32_w]
   rfl
 refine pure_ (i:=6) (N:=some 27) (v:=?_) (a':=?_) #[true,true,false,false,false,false,true,false,false,false,false,false,false,false,false,false,false,false,false] rfl rfl (by kernel_rfl) (fun _ _ _ h => h) (Or.inl ⟨by rfl,?_⟩) ?_ ?_
 rotate_left
 · intro w'
   go_simp
   with_reducible rfl
 rotate_left
 · simp only [Act.put,List.setIfInBounds_toArray,List.set_cons_zero,List.set_cons_succ,i64_w,i32_w]
   rfl
 refine pure_ (i:=11) (N:=some 32) (v:=?_) (a':=?_) #[true,true,false,false,false,false,true,false,false,false,false,true,false,false,false,false,false,false,false] rfl rfl (by kernel_rfl) (fun _ _ _ h => h) (Or.inl ⟨by rfl,?_⟩) ?_ ?_
 rotate_left
 · intro w'
   go_simp
   with_reducible rfl
 rotate_left
 · simp only [Act.put,List.setIfInBounds_toArray,List.set_cons_zero,List.set_cons_succ,i64_w,i32_w]
   rfl
 refine pure_ (i:=2) (N:=some 23) (v:=?_) (a':=?_) #[true,true,true,false,false,false,true,false,false,false,false,true,false,false,false,false,false,false,false] rfl rfl (by kernel_rfl) (fun _ _ _ h => h) (Or.inl ⟨by rfl,?_⟩) ?_ ?_
 rotate_left
 · intro w'
   go_simp
   with_reducible rfl
 rotate_left
 · simp only [Act.put,List.setIfInBounds_toArray,List.set_cons_zero,List.set_cons_succ,i64_w,i32_w]
   rfl
 refine pure_ (i:=7) (N:=some 28) (v:=?_) (a':=?_) #[true,true,true,false,false,false,true,true,false,false,false,true,false,false,false,false,false,false,false] rfl rfl (by kernel_rfl) (fun _ _ _ h => h) (Or.inl ⟨by rfl,?_⟩) ?_ ?_
 rotate_left
 · intro w'
   go_simp
   with_reducible rfl
 rotate_left
 · simp only [Act.put,List.setIfInBounds_toArray,List.set_cons_zero,List.set_cons_succ,i64_w,i32_w]
   rfl
 refine pure_ (i:=12) (N:=some 33) (v:=?_) (a':=?_) #[true,true,true,false,false,false,true,true,false,false,false,true,true,false,false,false,false,false,false] rfl rfl (by kernel_rfl) (fun _ _ _ h => h) (Or.inl ⟨by rfl,?_⟩) ?_ ?_
 rotate_left
 · intro w'
   go_simp
   with_reducible rfl
 rotate_left
 · simp only [Act.put,List.setIfInBounds_toArray,List.set_cons_zero,List.set_cons_succ,i64_w,i32_w]
   rfl
 refine take_ (i:=3) (N:=some 24) (v:=?_) (a':=?_) #[true,true,true,true,false,false,true,true,false,false,false,true,true,false,false,false,false,false,false] rfl rfl (by kernel_rfl) (fun _ _ _ h => h) (Or.inl ⟨by rfl,?_⟩) hHeld ?_ ?_
 rotate_left
 · rintro w' hS'
   have hcell:w'.cell? ⟨wa.heap.size + 1,1,none⟩ = some (.int .i64 1):=(uk hS' 1).trans rfl
   go_simp
   (try with_reducible rfl)
 rotate_left
 · simp only [Act.put,List.setIfInBounds_toArray,List.set_cons_zero,List.set_cons_succ,i64_w,i32_w]
   rfl
 refine take_ (i:=8) (N:=some 29) (v:=?_) (a':=?_) #[true,true,true,true,false,false,true,true,true,false,false,true,true,false,false,false,false,false,false] rfl rfl (by kernel_rfl) (fun _ _ _ h => h) (Or.inl ⟨by rfl,?_⟩) hHeld ?_ ?_
 rotate_left
 · rintro w' hS'
   have hcell:w'.cell? ⟨wa.heap.size + 1,2,none⟩ = some (.int .i64 5):=(uk hS' 2).trans rfl
   go_simp
   (try with_reducible rfl)
 rotate_left
 · simp only [Act.put,List.setIfInBounds_toArray,List.set_cons_zero,List.set_cons_succ,i64_w,i32_w]
   rfl
 refine take_ (i:=13) (N:=some 34) (v:=?_) (a':=?_) #[true,true,true,true,false,false,true,true,true,false,false,true,true,true,false,false,false,false,false] rfl rfl (by kernel_rfl) (fun _ _ _ h => h) (Or.inl ⟨by rfl,?_⟩) hHeld ?_ ?_
 rotate_left
 · rintro w' hS'
   have hcell:w'.cell? ⟨wa.heap.size + 1,3,none⟩ = some (.int .i64 3):=(uk hS' 3).trans rfl
   go_simp
   (try with_reducible rfl)
 rotate_left
 · simp only [Act.put,List.setIfInBounds_toArray,List.set_cons_zero,List.set_cons_succ,i64_w,i32_w]
   rfl
 refine pure_ (i:=4) (N:=some 25) (v:=?_) (a':=?_) #[true,true,true,true,true,false,true,true,true,false,false,true,true,true,false,false,false,false,false] rfl rfl (by kernel_rfl) (fun _ _ _ h => h) (Or.inl ⟨by rfl,?_⟩) ?_ ?_
 rotate_left
 · intro w'
   go_simp
   with_reducible rfl
 rotate_left
 · simp only [Act.put,List.setIfInBounds_toArray,List.set_cons_zero,List.set_cons_succ,i64_w,i32_w]
   rfl
 refine pure_ (i:=9) (N:=some 30) (v:=?_) (a':=?_) #[true,true,true,true,true,false,true,true,true,true,false,true,true,true,false,false,false,false,false] rfl rfl (by kernel_rfl) (fun _ _ _ h => h) (Or.inl ⟨by rfl,?_⟩) ?_ ?_
 rotate_left
 · intro w'
   go_simp
   with_reducible rfl
 rotate_left
 · simp only [Act.put,List.setIfInBounds_toArray,List.set_cons_zero,List.set_cons_succ,i64_w,i32_w]
   rfl
 refine pure_ (i:=14) (N:=some 35) (v:=?_) (a':=?_) #[true,true,true,true,true,false,true,true,true,true,false,true,true,true,true,false,false,false,false] rfl rfl (by kernel_rfl) (fun _ _ _ h => h) (Or.inl ⟨by rfl,?_⟩) ?_ ?_
 rotate_left
 · intro w'
   go_simp
   with_reducible rfl
 rotate_left
 · simp only [Act.put,List.setIfInBounds_toArray,List.set_cons_zero,List.set_cons_succ,i64_w,i32_w]
   rfl
 refine one_ (i:=5) (N:=some 26) #[true,true,true,true,true,true,true,true,true,true,false,true,true,true,true,false,false,false,false] rfl rfl (by kernel_rfl) (by decide) (fun K hK => ?_)
 refine goes_ Tryz.func28 (by kernel_rfl) rfl #[.int .u64 1,.int .i64 8] (by rfl) rfl rfl (by (try simp only [List.map_toArray,List.map_cons,List.map_nil]);first | done | rfl) ?_
 refine (u1b.calls8 1 _).mono ?_
 rintro e wb ⟨vb,rfl,hR,hb⟩
 refine ⟨_,rfl,?_⟩
 have nB:Aside0 (Below w.heap.size w wb):=⟨u2o (uu HBx.out) hb⟩
 have nG:Aside0 (wb.heap[wa.heap.size + 1]? = some (.cells #[.slice none 0 0,.int .i64 1,.int .i64 5,.int .i64 3] 86 (0,0))):=⟨u1h (u2e HG.out) hb⟩
 have nK:=Aside0.mk (u1h (u2e HKl.out) hb)
 have HRb:Aside0 (Kd.R (Kd.int .u8) 5 wb w.heap.size (fun _ => True) vb (u1b.put 1 8)):=⟨Kd.R_lower hR (u2k (uu HBx.out))⟩
 have nHRa:=Aside0.mk (Kd.R_below (Kd.R_drew HRa.out) hb)
 have nHM:=Aside0.mk (Kd.R_below (Kd.R_drew HM.out) hb)
 clear HBx HG HKl hR hb HRa HM
 have HBx:=nB
 have HG:=nG
 have HKl:=nK
 have HRa:=nHRa
 have HM:=nHM
 clear nB nG nK nHRa nHM
 obtain ⟨Ab,cb,eb⟩:∃ A c,vb = .slice A 8 c:=by obtain ⟨A,c,e⟩:=Kd.R_slice HRb.out;exact ⟨A,c,e⟩
 subst eb
 refine hK.out (Act.put _ (some 26) (.slice Ab 8 cb)) _ HG.out (fun hHeld => ?_)
 simp only [Act.put,List.setIfInBounds_toArray,List.set_cons_zero,List.set_cons_succ,i64_w,i32_w]
 clear hK hHeld K
 refine one_ (i:=10) (N:=some 31) #[true,true,true,true,true,true,true,true,true,true,true,true,true,true,true,false,false,false,false] rfl rfl (by kernel_rfl) (by decide) (fun K hK => ?_)
 refine goes_ Tryz.func28 (by kernel_rfl) rfl #[.int .u64 5,.int .i64 8] (by rfl) rfl rfl (by (try simp only [List.map_toArray,List.map_cons,List.map_nil]);first | done | rfl) ?_
 refine (u1b.calls8 5 _).mono ?_
 rintro e wc ⟨vc,rfl,hR,hb⟩
 refine ⟨_,rfl,?_⟩
 have nB:Aside0 (Below w.heap.size w wc):=⟨u2o HBx.out hb⟩
 have nG:Aside0 (wc.heap[wa.heap.size + 1]? = some (.cells #[.slice none 0 0,.int .i64 1,.int .i64 5,.int .i64 3] 86 (0,0))):=⟨u1h HG.out hb⟩
 have nK:=Aside0.mk (u1h HKl.out hb)
 have HRc:Aside0 (Kd.R (Kd.int .u8) 5 wc w.heap.size (fun _ => True) vc (u1b.put 5 8)):=⟨Kd.R_lower hR (u2k HBx.out)⟩
 have nHRa:=Aside0.mk (Kd.R_below HRa.out hb)
 have nHM:=Aside0.mk (Kd.R_below HM.out hb)
 have nHRb:=Aside0.mk (Kd.R_below HRb.out hb)
 clear HBx HG HKl hR hb HRa HM HRb
 have HBx:=nB
 have HG:=nG
 have HKl:=nK
 have HRa:=nHRa
 have HM:=nHM
 have HRb:=nHRb
 clear nB nG nK nHRa nHM nHRb
 obtain ⟨Ac,cc,ec⟩:∃ A c,vc = .slice A 8 c:=by obtain ⟨A,c,e⟩:=Kd.R_slice HRc.out;exact ⟨A,c,e⟩
 subst ec
 refine hK.out (Act.put _ (some 31) (.slice Ac 8 cc)) _ HG.out (fun hHeld => ?_)
 simp only [Act.put,List.setIfInBounds_toArray,List.set_cons_zero,List.set_cons_succ,i64_w,i32_w]
 clear hK hHeld K
 refine one_ (i:=15) (N:=some 36) #[true,true,true,true,true,true,true,true,true,true,true,true,true,true,true,true,false,false,false] rfl rfl (by kernel_rfl) (by decide) (fun K hK => ?_)
 refine goes_ Tryz.func28 (by kernel_rfl) rfl #[.int .u64 3,.int .i64 8] (by rfl) rfl rfl (by (try simp only [List.map_toArray,List.map_cons,List.map_nil]);first | done | rfl) ?_
 refine (u1b.calls8 3 _).mono ?_
 rintro e wd ⟨vd,rfl,hR,hb⟩
 refine ⟨_,rfl,?_⟩
 have nB:Aside0 (Below w.heap.size w wd):=⟨u2o HBx.out hb⟩
 have nG:Aside0 (wd.heap[wa.heap.size + 1]? = some (.cells #[.slice none 0 0,.int .i64 1,.int .i64 5,.int .i64 3] 86 (0,0))):=⟨u1h HG.out hb⟩
 have nK:=Aside0.mk (u1h HKl.out hb)
 have HRd:Aside0 (Kd.R (Kd.int .u8) 5 wd w.heap.size (fun _ => True) vd (u1b.put 3 8)):=⟨Kd.R_lower hR (u2k HBx.out)⟩
 have nHRa:=Aside0.mk (Kd.R_below HRa.out hb)
 have nHM:=Aside0.mk (Kd.R_below HM.out hb)
 have nHRb:=Aside0.mk (Kd.R_below HRb.out hb)
 have nHRc:=Aside0.mk (Kd.R_below HRc.out hb)
 clear HBx HG HKl hR hb HRa HM HRb HRc
 have HBx:=nB
 have HG:=nG
 have HKl:=nK
 have HRa:=nHRa
 have HM:=nHM
 have HRb:=nHRb
 have HRc:=nHRc
 clear nB nG nK nHRa nHM nHRb nHRc
 obtain ⟨Ad,cd,ed⟩:∃ A c,vd = .slice A 8 c:=by obtain ⟨A,c,e⟩:=Kd.R_slice HRd.out;exact ⟨A,c,e⟩
 subst ed
 refine hK.out (Act.put _ (some 36) (.slice Ad 8 cd)) _ HG.out (fun hHeld => ?_)
 simp only [Act.put,List.setIfInBounds_toArray,List.set_cons_zero,List.set_cons_succ,i64_w,i32_w]
 clear hK hHeld K
 refine one_ (i:=16) (N:=some 37) #[true,true,true,true,true,true,true,true,true,true,true,true,true,true,true,true,true,false,false] rfl rfl (by kernel_rfl) (by decide) (fun K hK => ?_)
 refine value_ (w1:=wd.alloc (.cells #[.slice (some ⟨wa.heap.size + 1 + 1,0,none⟩) 1 1,.slice Ab 8 cb,.slice Ac 8 cc,.slice Ad 8 cd] 22)) (v:=.slice (some ⟨wd.heap.size,0,none⟩) 4 4) (by rfl) rfl ?_ ?_
 · go_simp
 refine hK.out (Act.put _ (some 37) (.slice (some ⟨wd.heap.size,0,none⟩) 4 4)) _ (uo HG.out _) (fun hHeld => ?_)
 simp only [Act.put,List.setIfInBounds_toArray,List.set_cons_zero,List.set_cons_succ,i64_w,i32_w]
 clear hK hHeld K
 refine one_ (i:=17) (N:=some 38) #[true,true,true,true,true,true,true,true,true,true,true,true,true,true,true,true,true,true,false] rfl rfl (by kernel_rfl) (by decide) (fun K hK => ?_)
 refine goes_ Tryz.func30 (by kernel_rfl) rfl #[.slice (some ⟨wd.heap.size,0,none⟩) 4 4] (by rfl) rfl rfl (by (try simp only [List.map_toArray,List.map_cons,List.map_nil]);first | done | rfl) ?_
 refine (uy.callsG wd.heap.size [(.slice (some ⟨wa.heap.size + 1 + 1,0,none⟩) 1 1,[0]),(.slice Ab 8 cb,u1b.put 1 8),(.slice Ac 8 cc,u1b.put 5 8),(.slice Ad 8 cd,u1b.put 3 8)] _ (u3l wd _) ?_ (by simp) (by simp [uy.len,u1b.put])).mono ?_
 · intro p hp
   simp only [List.mem_cons,List.mem_nil_iff,or_false] at hp
   rcases hp with rfl | rfl | rfl | rfl
   · exact ⟨_,_,rfl,(Kd.R_reads' HM.out).2.1,(Kd.R_reads' (Kd.R_alloc HM.out _)).2.2⟩
   · exact ⟨_,_,rfl,(Kd.R_reads' HRb.out).2.1,(Kd.R_reads' (Kd.R_alloc HRb.out _)).2.2⟩
   · exact ⟨_,_,rfl,(Kd.R_reads' HRc.out).2.1,(Kd.R_reads' (Kd.R_alloc HRc.out _)).2.2⟩
   · exact ⟨_,_,rfl,(Kd.R_reads' HRd.out).2.1,(Kd.R_reads' (Kd.R_alloc HRd.out _)).2.2⟩
 rintro e wf ⟨vf,rfl,hR,hb⟩
 refine ⟨_,rfl,?_⟩
 have HRf:Aside0 (Kd.R (Kd.int .u8) 5 wf w.heap.size (fun _ => True) vf (0 :: (u1b.put 1 8 ++ (u1b.put 5 8 ++ u1b.put 3 8)))):=⟨Kd.R_lower (by exact hR) (u2k (uj HBx.out _))⟩
 have HB:Aside0 (Below w.heap.size w wf):=⟨u2o (uj HBx.out _) hb⟩
 have HG2:Aside0 (wf.heap[wa.heap.size + 1]? = some (.cells #[.slice none 0 0,.int .i64 1,.int .i64 5,.int .i64 3] 86 (0,0))):=⟨u1h (uo HG.out _) hb⟩
 have nK:=Aside0.mk (u1h (uo HKl.out _) hb)
 have nRa:=Aside0.mk (Kd.R_below (Kd.R_alloc HRa.out _) hb)
 clear HBx HG HKl HRa HM HRb HRc HRd hR hb
 have HKl:=nK
 have HRa:=nRa
 clear nK nRa
 obtain ⟨Af,cf,ef⟩:∃ A c,vf = .slice A 25 c:=by obtain ⟨A,c,e⟩:=Kd.R_slice HRf.out;exact ⟨A,c,e⟩
 subst ef
 refine hK.out (Act.put _ (some 38) (.slice Af 25 cf)) _ HG2.out (fun hHeld => ?_)
 simp only [Act.put,List.setIfInBounds_toArray,List.set_cons_zero,List.set_cons_succ,i64_w,i32_w]
 clear hK hHeld K
 refine pure_ (i:=18) (N:=some 2) (v:=?_) (a':=?_) #[true,true,true,true,true,true,true,true,true,true,true,true,true,true,true,true,true,true,true] rfl rfl (by kernel_rfl) (fun _ _ _ h => h) (Or.inl ⟨by rfl,?_⟩) ?_ ?_
 rotate_left
 · intro w'
   go_simp
   with_reducible rfl
 rotate_left
 · simp only [Act.put,List.setIfInBounds_toArray,List.set_cons_zero,List.set_cons_succ,i64_w,i32_w]
   rfl
 refine done_ (by kernel_rfl) ?_
 go_wp2_with (first
  | (at_builtin
     (
      refine Kd.R_append_row (w0:=w) (Value.int .u8) (0:Int) (h1:=fun _ => rfl) w.heap.size rfl (.tmp 29) (.tmp 33) 22 5 (.int .u8 0) 1 rfl Tryz.underlying22 uy.info rfl (by decide) _ (u1b.put 1 4) (0 :: (u1b.put 1 8 ++ (u1b.put 5 8 ++ u1b.put 3 8))) Af 25 cf (fun _ => True) rfl rfl (fun _ _ => trivial) HRa.out (by exact (Kd.R_reads' HRf.out).2.2) HB.out HB.out.size (by simp [u1b.put]) ?_
      intro vg wg hR hb hg _
      have nK:=Aside0.mk (blk_grown HKl.out hg (Kd.R_ne HRa.out HKl.out (by decide)))
      clear HB HKl HRa HRf hg
      have HB:=Aside0.mk hb
      have HKl:=nK
      have HRg:=Aside0.mk hR
      clear nK hR hb
      obtain ⟨Ag,cg,eg⟩:∃ A c,vg = .slice A 29 c:=by obtain ⟨A,c,e⟩:=Kd.R_slice HRg.out;exact ⟨A,c,by rw [e];simp [u1b.put]⟩
      subst eg))
  | (go_at_call 28
     (
      (with_reducible refine (u1b.calls4 0 _).mono ?_)
      rintro e wh ⟨vh,rfl,hR,hb⟩
      have nB:Aside0 (Below w.heap.size w wh):=⟨u2o (by repeat (first | (with_reducible first | exact HB.out | apply uj | apply uh | apply uu) | exact HB.out)) hb⟩
      have nR:Aside0 (Kd.R (Kd.int .u8) 5 wh w.heap.size (fun _ => True) vh (u1b.put 0 4)):=⟨Kd.R_lower hR (u2k (by repeat (first | (with_reducible first | exact HB.out | apply uj | apply uh | apply uu) | exact HB.out)))⟩
      have nK:Aside0 (wh.heap[w.heap.size]? = some (Obj.cells #[.slice none 0 0,.int .i64 1,.int .i64 5,.int .i64 3] 83 (0,0))):=⟨u1h (by (with_reducible repeat (first | apply uo | apply u2p | apply u2e));exact HKl.out) hb⟩
      have nHRg:=Aside0.mk (Kd.R_below (by (with_reducible repeat (first | apply Kd.R_alloc | apply Kd.R_drewN | apply Kd.R_drew));exact HRg.out) hb)
      clear HB HKl HRg hR hb
      have HB:=nB
      have HRh:=nR
      have HKl:=nK
      have HRg:=nHRg
      clear nB nR nK nHRg
      obtain ⟨Ah,ch,eh⟩:∃ A c,vh = .slice A 4 c:=by obtain ⟨A,c,e⟩:=Kd.R_slice HRh.out;exact ⟨A,c,e⟩
      subst eh))
  | (at_builtin
     (
      refine Kd.R_append_row (w0:=w) (Value.int .u8) (0:Int) (h1:=fun _ => rfl) w.heap.size rfl (.tmp 36) (.tmp 40) 22 5 (.int .u8 0) 1 rfl Tryz.underlying22 uy.info rfl (by decide) _ (u1b.put 1 4 ++ (0 :: (u1b.put 1 8 ++ (u1b.put 5 8 ++ u1b.put 3 8)))) (u1b.put 0 4) Ah 4 ch (fun _ => True) rfl rfl (fun _ _ => trivial) HRg.out (by exact (Kd.R_reads' HRh.out).2.2) HB.out HB.out.size (by simp [u1b.put]) ?_
      intro vi wi hR hb hg _
      have nK:=Aside0.mk (blk_grown HKl.out hg (Kd.R_ne HRg.out HKl.out (by decide)))
      clear HB HKl HRg HRh hg
      have HB:=Aside0.mk hb
      have HKl:=nK
      have HRi:=Aside0.mk hR
      clear nK hR hb
      obtain ⟨Ai,ci,ei⟩:∃ A c,vi = .slice A 33 c:=by obtain ⟨A,c,e⟩:=Kd.R_slice HRi.out;exact ⟨A,c,by rw [e];simp [u1b.put]⟩
      subst ei
      have hd3_0:∀ o0 o1 o2:Obj,(((wi.alloc o0).alloc o1).alloc o2).cell? ⟨w.heap.size,0,none⟩ = some (.slice none 0 0:Value):=fun o0 o1 o2 => (uk (uo (uo (uo HKl.out _) _) _) 0).trans rfl
      have hd3_1:∀ o0 o1 o2:Obj,(((wi.alloc o0).alloc o1).alloc o2).cell? ⟨w.heap.size,1,none⟩ = some (.int .i64 1:Value):=fun o0 o1 o2 => (uk (uo (uo (uo HKl.out _) _) _) 1).trans rfl
      have hd3_2:∀ o0 o1 o2:Obj,(((wi.alloc o0).alloc o1).alloc o2).cell? ⟨w.heap.size,2,none⟩ = some (.int .i64 5:Value):=fun o0 o1 o2 => (uk (uo (uo (uo HKl.out _) _) _) 2).trans rfl
      have hd3_3:∀ o0 o1 o2:Obj,(((wi.alloc o0).alloc o1).alloc o2).cell? ⟨w.heap.size,3,none⟩ = some (.int .i64 3:Value):=fun o0 o1 o2 => (uk (uo (uo (uo HKl.out _) _) _) 3).trans rfl
      have hd8_0:∀ o0 o1 o2 o3 o4 o5 o6 o7:Obj,((((((((wi.alloc o0).alloc o1).alloc o2).alloc o3).alloc o4).alloc o5).alloc o6).alloc o7).cell? ⟨w.heap.size,0,none⟩ = some (.slice none 0 0:Value):=fun o0 o1 o2 o3 o4 o5 o6 o7 => (uk (uo (uo (uo (uo (uo (uo (uo (uo HKl.out _) _) _) _) _) _) _) _) 0).trans rfl
      have hd8_1:∀ o0 o1 o2 o3 o4 o5 o6 o7:Obj,((((((((wi.alloc o0).alloc o1).alloc o2).alloc o3).alloc o4).alloc o5).alloc o6).alloc o7).cell? ⟨w.heap.size,1,none⟩ = some (.int .i64 1:Value):=fun o0 o1 o2 o3 o4 o5 o6 o7 => (uk (uo (uo (uo (uo (uo (uo (uo (uo HKl.out _) _) _) _) _) _) _) _) 1).trans rfl
      have hd8_2:∀ o0 o1 o2 o3 o4 o5 o6 o7:Obj,((((((((wi.alloc o0).alloc o1).alloc o2).alloc o3).alloc o4).alloc o5).alloc o6).alloc o7).cell? ⟨w.heap.size,2,none⟩ = some (.int .i64 5:Value):=fun o0 o1 o2 o3 o4 o5 o6 o7 => (uk (uo (uo (uo (uo (uo (uo (uo (uo HKl.out _) _) _) _) _) _) _) _) 2).trans rfl
      have hd8_3:∀ o0 o1 o2 o3 o4 o5 o6 o7:Obj,((((((((wi.alloc o0).alloc o1).alloc o2).alloc o3).alloc o4).alloc o5).alloc o6).alloc o7).cell? ⟨w.heap.size,3,none⟩ = some (.int .i64 3:Value):=fun o0 o1 o2 o3 o4 o5 o6 o7 => (uk (uo (uo (uo (uo (uo (uo (uo (uo HKl.out _) _) _) _) _) _) _) _) 3).trans rfl))
  | (go_in))
 repeat (first
  | (refine wp_loop_rounds 2 ?_;rw [rounds_succ];go_wp2_with (first
      | (at_builtin
         (
          refine Kd.R_append_row (w0:=w) (Value.int .u8) (0:Int) (h1:=fun _ => rfl) w.heap.size rfl (.tmp 29) (.tmp 33) 22 5 (.int .u8 0) 1 rfl Tryz.underlying22 uy.info rfl (by decide) _ (u1b.put 1 4) (0 :: (u1b.put 1 8 ++ (u1b.put 5 8 ++ u1b.put 3 8))) Af 25 cf (fun _ => True) rfl rfl (fun _ _ => trivial) HRa.out (by exact (Kd.R_reads' HRf.out).2.2) HB.out HB.out.size (by simp [u1b.put]) ?_
          intro vg wg hR hb hg _
          have nK:=Aside0.mk (blk_grown HKl.out hg (Kd.R_ne HRa.out HKl.out (by decide)))
          clear HB HKl HRa HRf hg
          have HB:=Aside0.mk hb
          have HKl:=nK
          have HRg:=Aside0.mk hR
          clear nK hR hb
          obtain ⟨Ag,cg,eg⟩:∃ A c,vg = .slice A 29 c:=by obtain ⟨A,c,e⟩:=Kd.R_slice HRg.out;exact ⟨A,c,by rw [e];simp [u1b.put]⟩
          subst eg))
      | (go_at_call 28
         (
          (with_reducible refine (u1b.calls4 0 _).mono ?_)
          rintro e wh ⟨vh,rfl,hR,hb⟩
          have nB:Aside0 (Below w.heap.size w wh):=⟨u2o (by repeat (first | (with_reducible first | exact HB.out | apply uj | apply uh | apply uu) | exact HB.out)) hb⟩
          have nR:Aside0 (Kd.R (Kd.int .u8) 5 wh w.heap.size (fun _ => True) vh (u1b.put 0 4)):=⟨Kd.R_lower hR (u2k (by repeat (first | (with_reducible first | exact HB.out | apply uj | apply uh | apply uu) | exact HB.out)))⟩
          have nK:Aside0 (wh.heap[w.heap.size]? = some (Obj.cells #[.slice none 0 0,.int .i64 1,.int .i64 5,.int .i64 3] 83 (0,0))):=⟨u1h (by (with_reducible repeat (first | apply uo | apply u2p | apply u2e));exact HKl.out) hb⟩
          have nHRg:=Aside0.mk (Kd.R_below (by (with_reducible repeat (first | apply Kd.R_alloc | apply Kd.R_drewN | apply Kd.R_drew));exact HRg.out) hb)
          clear HB HKl HRg hR hb
          have HB:=nB
          have HRh:=nR
          have HKl:=nK
          have HRg:=nHRg
          clear nB nR nK nHRg
          obtain ⟨Ah,ch,eh⟩:∃ A c,vh = .slice A 4 c:=by obtain ⟨A,c,e⟩:=Kd.R_slice HRh.out;exact ⟨A,c,e⟩
          subst eh))
      | (at_builtin
         (
          refine Kd.R_append_row (w0:=w) (Value.int .u8) (0:Int) (h1:=fun _ => rfl) w.heap.size rfl (.tmp 36) (.tmp 40) 22 5 (.int .u8 0) 1 rfl Tryz.underlying22 uy.info rfl (by decide) _ (u1b.put 1 4 ++ (0 :: (u1b.put 1 8 ++ (u1b.put 5 8 ++ u1b.put 3 8)))) (u1b.put 0 4) Ah 4 ch (fun _ => True) rfl rfl (fun _ _ => trivial) HRg.out (by exact (Kd.R_reads' HRh.out).2.2) HB.out HB.out.size (by simp [u1b.put]) ?_
          intro vi wi hR hb hg _
          have nK:=Aside0.mk (blk_grown HKl.out hg (Kd.R_ne HRg.out HKl.out (by decide)))
          clear HB HKl HRg HRh hg
          have HB:=Aside0.mk hb
          have HKl:=nK
          have HRi:=Aside0.mk hR
          clear nK hR hb
          obtain ⟨Ai,ci,ei⟩:∃ A c,vi = .slice A 33 c:=by obtain ⟨A,c,e⟩:=Kd.R_slice HRi.out;exact ⟨A,c,by rw [e];simp [u1b.put]⟩
          subst ei
          have hd3_0:∀ o0 o1 o2:Obj,(((wi.alloc o0).alloc o1).alloc o2).cell? ⟨w.heap.size,0,none⟩ = some (.slice none 0 0:Value):=fun o0 o1 o2 => (uk (uo (uo (uo HKl.out _) _) _) 0).trans rfl
          have hd3_1:∀ o0 o1 o2:Obj,(((wi.alloc o0).alloc o1).alloc o2).cell? ⟨w.heap.size,1,none⟩ = some (.int .i64 1:Value):=fun o0 o1 o2 => (uk (uo (uo (uo HKl.out _) _) _) 1).trans rfl
          have hd3_2:∀ o0 o1 o2:Obj,(((wi.alloc o0).alloc o1).alloc o2).cell? ⟨w.heap.size,2,none⟩ = some (.int .i64 5:Value):=fun o0 o1 o2 => (uk (uo (uo (uo HKl.out _) _) _) 2).trans rfl
          have hd3_3:∀ o0 o1 o2:Obj,(((wi.alloc o0).alloc o1).alloc o2).cell? ⟨w.heap.size,3,none⟩ = some (.int .i64 3:Value):=fun o0 o1 o2 => (uk (uo (uo (uo HKl.out _) _) _) 3).trans rfl
          have hd8_0:∀ o0 o1 o2 o3 o4 o5 o6 o7:Obj,((((((((wi.alloc o0).alloc o1).alloc o2).alloc o3).alloc o4).alloc o5).alloc o6).alloc o7).cell? ⟨w.heap.size,0,none⟩ = some (.slice none 0 0:Value):=fun o0 o1 o2 o3 o4 o5 o6 o7 => (uk (uo (uo (uo (uo (uo (uo (uo (uo HKl.out _) _) _) _) _) _) _) _) 0).trans rfl
          have hd8_1:∀ o0 o1 o2 o3 o4 o5 o6 o7:Obj,((((((((wi.alloc o0).alloc o1).alloc o2).alloc o3).alloc o4).alloc o5).alloc o6).alloc o7).cell? ⟨w.heap.size,1,none⟩ = some (.int .i64 1:Value):=fun o0 o1 o2 o3 o4 o5 o6 o7 => (uk (uo (uo (uo (uo (uo (uo (uo (uo HKl.out _) _) _) _) _) _) _) _) 1).trans rfl
          have hd8_2:∀ o0 o1 o2 o3 o4 o5 o6 o7:Obj,((((((((wi.alloc o0).alloc o1).alloc o2).alloc o3).alloc o4).alloc o5).alloc o6).alloc o7).cell? ⟨w.heap.size,2,none⟩ = some (.int .i64 5:Value):=fun o0 o1 o2 o3 o4 o5 o6 o7 => (uk (uo (uo (uo (uo (uo (uo (uo (uo HKl.out _) _) _) _) _) _) _) _) 2).trans rfl
          have hd8_3:∀ o0 o1 o2 o3 o4 o5 o6 o7:Obj,((((((((wi.alloc o0).alloc o1).alloc o2).alloc o3).alloc o4).alloc o5).alloc o6).alloc o7).cell? ⟨w.heap.size,3,none⟩ = some (.int .i64 3:Value):=fun o0 o1 o2 o3 o4 o5 o6 o7 => (uk (uo (uo (uo (uo (uo (uo (uo (uo HKl.out _) _) _) _) _) _) _) _) 3).trans rfl))
      | (go_in)))
  | (rw [rounds_succ];go_wp2_with (first
        | (at_builtin
           (
            refine Kd.R_append_row (w0:=w) (Value.int .u8) (0:Int) (h1:=fun _ => rfl) w.heap.size rfl (.tmp 29) (.tmp 33) 22 5 (.int .u8 0) 1 rfl Tryz.underlying22 uy.info rfl (by decide) _ (u1b.put 1 4) (0 :: (u1b.put 1 8 ++ (u1b.put 5 8 ++ u1b.put 3 8))) Af 25 cf (fun _ => True) rfl rfl (fun _ _ => trivial) HRa.out (by exact (Kd.R_reads' HRf.out).2.2) HB.out HB.out.size (by simp [u1b.put]) ?_
            intro vg wg hR hb hg _
            have nK:=Aside0.mk (blk_grown HKl.out hg (Kd.R_ne HRa.out HKl.out (by decide)))
            clear HB HKl HRa HRf hg
            have HB:=Aside0.mk hb
            have HKl:=nK
            have HRg:=Aside0.mk hR
            clear nK hR hb
            obtain ⟨Ag,cg,eg⟩:∃ A c,vg = .slice A 29 c:=by obtain ⟨A,c,e⟩:=Kd.R_slice HRg.out;exact ⟨A,c,by rw [e];simp [u1b.put]⟩
            subst eg))
        | (go_at_call 28
           (
            (with_reducible refine (u1b.calls4 0 _).mono ?_)
            rintro e wh ⟨vh,rfl,hR,hb⟩
            have nB:Aside0 (Below w.heap.size w wh):=⟨u2o (by repeat (first | (with_reducible first | exact HB.out | apply uj | apply uh | apply uu) | exact HB.out)) hb⟩
            have nR:Aside0 (Kd.R (Kd.int .u8) 5 wh w.heap.size (fun _ => True) vh (u1b.put 0 4)):=⟨Kd.R_lower hR (u2k (by repeat (first | (with_reducible first | exact HB.out | apply uj | apply uh | apply uu) | exact HB.out)))⟩
            have nK:Aside0 (wh.heap[w.heap.size]? = some (Obj.cells #[.slice none 0 0,.int .i64 1,.int .i64 5,.int .i64 3] 83 (0,0))):=⟨u1h (by (with_reducible repeat (first | apply uo | apply u2p | apply u2e));exact HKl.out) hb⟩
            have nHRg:=Aside0.mk (Kd.R_below (by (with_reducible repeat (first | apply Kd.R_alloc | apply Kd.R_drewN | apply Kd.R_drew));exact HRg.out) hb)
            clear HB HKl HRg hR hb
            have HB:=nB
            have HRh:=nR
            have HKl:=nK
            have HRg:=nHRg
            clear nB nR nK nHRg
            obtain ⟨Ah,ch,eh⟩:∃ A c,vh = .slice A 4 c:=by obtain ⟨A,c,e⟩:=Kd.R_slice HRh.out;exact ⟨A,c,e⟩
            subst eh))
        | (at_builtin
           (
            refine Kd.R_append_row (w0:=w) (Value.int .u8) (0:Int) (h1:=fun _ => rfl) w.heap.size rfl (.tmp 36) (.tmp 40) 22 5 (.int .u8 0) 1 rfl Tryz.underlying22 uy.info rfl (by decide) _ (u1b.put 1 4 ++ (0 :: (u1b.put 1 8 ++ (u1b.put 5 8 ++ u1b.put 3 8)))) (u1b.put 0 4) Ah 4 ch (fun _ => True) rfl rfl (fun _ _ => trivial) HRg.out (by exact (Kd.R_reads' HRh.out).2.2) HB.out HB.out.size (by simp [u1b.put]) ?_
            intro vi wi hR hb hg _
            have nK:=Aside0.mk (blk_grown HKl.out hg (Kd.R_ne HRg.out HKl.out (by decide)))
            clear HB HKl HRg HRh hg
            have HB:=Aside0.mk hb
            have HKl:=nK
            have HRi:=Aside0.mk hR
            clear nK hR hb
            obtain ⟨Ai,ci,ei⟩:∃ A c,vi = .slice A 33 c:=by obtain ⟨A,c,e⟩:=Kd.R_slice HRi.out;exact ⟨A,c,by rw [e];simp [u1b.put]⟩
            subst ei
            have hd3_0:∀ o0 o1 o2:Obj,(((wi.alloc o0).alloc o1).alloc o2).cell? ⟨w.heap.size,0,none⟩ = some (.slice none 0 0:Value):=fun o0 o1 o2 => (uk (uo (uo (uo HKl.out _) _) _) 0).trans rfl
            have hd3_1:∀ o0 o1 o2:Obj,(((wi.alloc o0).alloc o1).alloc o2).cell? ⟨w.heap.size,1,none⟩ = some (.int .i64 1:Value):=fun o0 o1 o2 => (uk (uo (uo (uo HKl.out _) _) _) 1).trans rfl
            have hd3_2:∀ o0 o1 o2:Obj,(((wi.alloc o0).alloc o1).alloc o2).cell? ⟨w.heap.size,2,none⟩ = some (.int .i64 5:Value):=fun o0 o1 o2 => (uk (uo (uo (uo HKl.out _) _) _) 2).trans rfl
            have hd3_3:∀ o0 o1 o2:Obj,(((wi.alloc o0).alloc o1).alloc o2).cell? ⟨w.heap.size,3,none⟩ = some (.int .i64 3:Value):=fun o0 o1 o2 => (uk (uo (uo (uo HKl.out _) _) _) 3).trans rfl
            have hd8_0:∀ o0 o1 o2 o3 o4 o5 o6 o7:Obj,((((((((wi.alloc o0).alloc o1).alloc o2).alloc o3).alloc o4).alloc o5).alloc o6).alloc o7).cell? ⟨w.heap.size,0,none⟩ = some (.slice none 0 0:Value):=fun o0 o1 o2 o3 o4 o5 o6 o7 => (uk (uo (uo (uo (uo (uo (uo (uo (uo HKl.out _) _) _) _) _) _) _) _) 0).trans rfl
            have hd8_1:∀ o0 o1 o2 o3 o4 o5 o6 o7:Obj,((((((((wi.alloc o0).alloc o1).alloc o2).alloc o3).alloc o4).alloc o5).alloc o6).alloc o7).cell? ⟨w.heap.size,1,none⟩ = some (.int .i64 1:Value):=fun o0 o1 o2 o3 o4 o5 o6 o7 => (uk (uo (uo (uo (uo (uo (uo (uo (uo HKl.out _) _) _) _) _) _) _) _) 1).trans rfl
            have hd8_2:∀ o0 o1 o2 o3 o4 o5 o6 o7:Obj,((((((((wi.alloc o0).alloc o1).alloc o2).alloc o3).alloc o4).alloc o5).alloc o6).alloc o7).cell? ⟨w.heap.size,2,none⟩ = some (.int .i64 5:Value):=fun o0 o1 o2 o3 o4 o5 o6 o7 => (uk (uo (uo (uo (uo (uo (uo (uo (uo HKl.out _) _) _) _) _) _) _) _) 2).trans rfl
            have hd8_3:∀ o0 o1 o2 o3 o4 o5 o6 o7:Obj,((((((((wi.alloc o0).alloc o1).alloc o2).alloc o3).alloc o4).alloc o5).alloc o6).alloc o7).cell? ⟨w.heap.size,3,none⟩ = some (.int .i64 3:Value):=fun o0 o1 o2 o3 o4 o5 o6 o7 => (uk (uo (uo (uo (uo (uo (uo (uo (uo HKl.out _) _) _) _) _) _) _) _) 3).trans rfl))
        | (go_in))))
 go_ret
 exact ⟨rfl,by repeat (first | (with_reducible exact HB.out) | apply uj)⟩
end Go.Proofs.YtgnehcgaplnfkaaGreatDoor.PAll
