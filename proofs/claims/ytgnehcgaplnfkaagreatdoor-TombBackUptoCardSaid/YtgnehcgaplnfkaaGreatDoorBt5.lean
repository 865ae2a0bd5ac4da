/- Texts of this seat, joined in the order in which they build. -/
import Derived.Test.YtgnehcgaplnfkaaGreatDoorBt1
import Derived.Test.YtgnehcgaplnfkaaGreatDoorBt3
import Derived.Test.YtgnehcgaplnfkaaGreatDoorBt2
import Derived.Test.YtgnehcgaplnfkaaGreatDoorBt4
import Derived.Test.YtgnehcgaplnfkaaGreatDoorGx23Bt
import Derived.Test.YtgnehcgaplnfkaaGreatDoorGx21Bt
namespace Go.Proofs.YtgnehcgaplnfkaaGreatDoor.PAll
open Go.RowKit Go.Proofs.YtgnehcgaplnfkaaGreatDoorW.PrintWords Go.Proofs.YtgnehcgaplnfkaaGreatDoorW.PrintLast Go.Proofs.YtgnehcgaplnfkaaGreatDoorW.PrintMore
attribute [local go_sem] u3r u3t u4c u4b u3n u3o u3u u3s
set_option linter.unusedVariables false
set_option linter.unusedSimpArgs false
def u3h.f:Option Int:=none
theorem u3h.calls0 (hP:regex_coder_atom.Sp 118 1 0):regex_coder_atom.Sp 102 2 0:=by
 intro w0 W g gp vc s d h hd hneed hsz hk
 clear hk
 have hbad:s.bad = true:=hneed.resolve_right (by unfold regex_coder_atom.need;omega)
 obtain ⟨Ac,cc,ev⟩:=Kd.R_slice h.code
 subst ev
 obtain ⟨A0,c0,⟨j0,j1,j2⟩,⟨p0,p1,p2⟩,jl,jb,jr⟩:=h.look
 have HS:=Aside0.mk h
 have HMO:Aside0 (u2g.mo s = false):=⟨by unfold u2g.mo;rw [hbad];simp⟩
 have HPN:Aside0 (s.bad = true ∨ regex_coder_atom.need 1 s.p.length ≤ 0):=⟨Or.inl hbad⟩
 have HZ:=Aside0.mk hsz
 obtain ⟨s1,hs1⟩:∃ s1,Aside0 (regex_coder_atom.M 0 1 d s = s1):=⟨_,⟨rfl⟩⟩
 have hss:Aside0 (s1 = s):=⟨hs1.out.symm⟩
 rw [← hss.out] at HMO
 clear h jl jb jr j0 p0 hbad hneed hsz
 go_enter Tryz.func102,Tryz.ntmps102
 go_wp2_with (first
  | (go_at_call 118;have hPd:=hP w0 W g gp (.slice Ac s.code.length cc) s d HS.out hd HPN.out HZ.out (fun h => absurd h (by decide));(with_reducible refine hPd.mono ?_);clear hPd;rintro e W1 ⟨rfl,vc1,hS1⟩
     rw [hs1.out] at hS1
     have HS1:=Aside0.mk hS1
     clear hS1)
  | (go_at_call 119;(with_reducible refine (u2g.calls w0 W1 g gp vc1 s1 HS1.out).mono ?_);rintro e W0 ⟨rfl,hW0⟩;rw [hW0,HMO.out]))
 (try simp only [Exit.inBlock,Exit.then]);refine bodyPost_ret (results_none rfl _ _ _) rfl ?_
 exact ⟨rfl,_,by rw [show regex_coder_atom.M 0 2 d s = s1 from hss.out.symm];exact HS1.out⟩
theorem u3h.aimed {w0 W:World} {g gp gb n c j:Nat} {u:Value} {p:List Int} {code code':List S164} {bad:Bool} (h:ud.St w0 W g gp (.slice (some ⟨gb,0,none⟩) n c) ⟨p,code,bad⟩)
 (hr:Kd.R k164 164 (W.setCell ⟨gb,j,none⟩ u) w0.heap.size (fun _ => True) (.slice (some ⟨gb,0,none⟩) n c) code'):ud.St w0 (W.drew.setCell ⟨gb,j,none⟩ u) g gp (.slice (some ⟨gb,0,none⟩) n c) ⟨p,code',bad⟩:=by
 obtain ⟨A,k,h1,h2,h3⟩:=h.cells
 obtain ⟨cz,hcz⟩:=h3.1
 have hg:g ≠ gb:=fun he => Kd.R_ne h.code h1 (by decide) (by rw [he];rfl)
 have hgp:gp ≠ gb:=fun he => Kd.R_ne h.code hcz (by decide) (by rw [he];rfl)
 have hgb:w0.heap.size ≤ gb:=by
  rcases Kd.R_base2 h.code with h9 | ⟨k,h9,h8⟩
  · cases h9
  · have:gb = k:=by simpa [Value.ownBlock] using h9
    omega
 have hb:Below w0.heap.size w0 W.drew:=⟨h.below.os,h.below.tape,h.below.output,h.below.size,h.below.block⟩
 exact ⟨hb.setCell hgb _,h.base,⟨A,k,(Below.heap_setCell W.drew ⟨gb,j,none⟩ u g hg).trans h1,h2,h3.move (Below.heap_setCell W.drew ⟨gb,j,none⟩ u gp hgp)⟩,Kd.R_step hr (fun _ _ _ => rfl)⟩
set_option maxHeartbeats 4000000 in
set_option maxRecDepth 10000 in
theorem u3h.calls1 (f:Nat) (hP:regex_coder_atom.Sp 118 1 f) (hL:regex_coder_atom.Sp 102 2 f):regex_coder_atom.Sp 102 2 (f + 1):=by
 intro w0 W g gp vc s d h hd hneed hsz hk
 clear hk
 obtain ⟨Ac,cc,ev⟩:=Kd.R_slice h.code
 subst ev
 obtain ⟨A0,c0,⟨j0,j1,j2⟩,⟨p0,p1,p2⟩,jl,jb,jr⟩:=h.look
 have HS:=Aside0.mk h
 have HZ:=Aside0.mk hsz
 have hN:s.bad = true ∨ 4 * s.p.length + 3 ≤ f + 1:=by
  rcases hneed with h9 | h9
  · exact Or.inl h9
  · exact Or.inr (by unfold regex_coder_atom.need at h9;omega)
 have HPN:Aside0 (s.bad = true ∨ regex_coder_atom.need 1 s.p.length ≤ f):=⟨by
  rcases hN with h9 | h9
  · exact Or.inl h9
  · exact Or.inr (by unfold regex_coder_atom.need;omega)⟩
 obtain ⟨s1,hs1⟩:∃ s1,Aside0 (regex_coder_atom.M f 1 d s = s1):=⟨_,⟨rfl⟩⟩
 obtain ⟨mo,HMO⟩:∃ mo,Aside0 (u2g.mo s1 = mo):=⟨_,⟨rfl⟩⟩
 obtain ⟨nx,HNX⟩:∃ nx,Aside0 (u2q.nx s1 = nx):=⟨_,⟨rfl⟩⟩
 obtain ⟨⟨d1,d2,d3⟩,_⟩:=regex_coder_atom.M_dec f 1 d s (fun h => absurd h (by decide))
 rw [hs1.out] at d1 d2 d3
 by_cases hcond:mo = true ∧ nx = 124
 · obtain ⟨rfl,rfl⟩:=hcond
   obtain ⟨hpne,hbad⟩:=regex_coder_atom.mo_ne HMO.out
   obtain ⟨a1,a2,a3⟩:=regex_coder_atom.step_ne hpne
   obtain ⟨x2,hx2⟩:∃ x2,Aside0 (ud.step s1 = x2):=⟨_,⟨rfl⟩⟩
   obtain ⟨r2,s2⟩:=x2
   rw [hx2.out] at a1 a2 a3
   simp only at a1 a2 a3
   obtain ⟨dr,hdr⟩:∃ dr,Aside0 (s2.code.drop s.code.length = dr):=⟨_,⟨rfl⟩⟩
   have hdl:dr.length = s1.code.length - s.code.length:=by rw [← hdr.out,a3];exact List.length_drop
   have HD2:Aside0 (s.code.length ≤ s2.code.length ∧ s2.code.length ≤ 1000000):=⟨by rw [a3];omega⟩
   have hdl2:dr.length ≤ 1000:=by omega
   have hcl:s.code.length ≤ 1000:=by omega
   obtain ⟨s6,hs6⟩:∃ s6:ud.CS,Aside0 ((⟨s2.p,s2.code.take s.code.length ++ [⟨2,[],false,(s.code.length:Int) + 1,(s.code.length:Int) + (dr.length:Int) + 2⟩] ++ dr.map (u1y.sh 1),s2.bad⟩:ud.CS) = s6):=⟨_,⟨rfl⟩⟩
   obtain ⟨jn,hjn⟩:∃ jn,s.code.length + 1 + dr.length = jn:=⟨_,rfl⟩
   have HJ:Aside0 (s6.code.length = jn):=⟨by
    rw [← hs6.out]
    simp only [List.length_append,List.length_take,List.length_map,List.length_cons,List.length_nil]
    have:=HD2.out.1
    omega⟩
   have HJ6:Aside0 (s6.code.length + 1 ≤ 1000000):=⟨by rw [HJ.out];omega⟩
   obtain ⟨s7,hs7⟩:∃ s7:ud.CS,Aside0 ((⟨s6.p,s6.code ++ [⟨3,[],false,0,0⟩],s6.bad⟩:ud.CS) = s7):=⟨_,⟨rfl⟩⟩
   have hbar:Aside0 (regex_coder_atom.bar s.code.length s1 = s7):=⟨by
    rw [← hs7.out,← hs6.out]
    unfold regex_coder_atom.bar regex_coder_atom.put
    rw [hx2.out]
    dsimp only
    rw [← a3,hdr.out]⟩
   obtain ⟨⟨b1,b2,b3⟩,b4,b5⟩:=regex_coder_atom.bar_dec d2 hpne
   rw [hbar.out] at b1 b2 b3 b4 b5
   have HLN:Aside0 (s7.bad = true ∨ regex_coder_atom.need 2 s7.p.length ≤ f):=⟨by
    rcases hN with h9 | h9
    · exfalso
      have h8:s.bad = true:=h9
      have h7:regex_coder_atom.M f 1 d s = s:=by
       cases f with
       | zero => rfl
       | succ f =>
         simp only [regex_coder_atom.M]
         rw [if_neg (by unfold u2g.mo;rw [h8];simp)]
      rw [hs1.out] at h7
      rw [h7,h8] at hbad
      cases hbad
    · exact Or.inr (by unfold regex_coder_atom.need;omega)⟩
   have HLZ:Aside0 (s7.code.length + 2 * s7.p.length ≤ 1000):=⟨by omega⟩
   obtain ⟨s8,hs8⟩:∃ s8,Aside0 (regex_coder_atom.M f 2 d s7 = s8):=⟨_,⟨rfl⟩⟩
   obtain ⟨⟨g1,g2,g3⟩,_⟩:=regex_coder_atom.M_dec f 2 d s7 (fun h => absurd h (by decide))
   rw [hs8.out] at g1 g2 g3
   obtain ⟨n8,HLEN8⟩:∃ n8,Aside0 (s8.code.length = n8):=⟨_,⟨rfl⟩⟩
   rw [HLEN8.out] at g2 g3
   have hjn8:jn < n8:=by omega
   have hn8:n8 ≤ 1000:=by omega
   obtain ⟨x8,HX8⟩:∃ x8,Aside0 (s8.code[jn]? = some x8):=⟨s8.code[jn]'(by rw [HLEN8.out];exact hjn8),⟨List.getElem?_eq_getElem (by rw [HLEN8.out];exact hjn8)⟩⟩
   have HFIN:Aside0 (regex_coder_atom.M (f + 1) 2 d s = ⟨s8.p,s8.code.set jn ⟨x8.f0,x8.f1,x8.f2,(n8:Int),x8.f4⟩,s8.bad⟩):=⟨by
    simp only [regex_coder_atom.M]
    rw [hs1.out,if_pos ⟨HMO.out,HNX.out⟩,hbar.out,hs8.out,← a3,hdr.out,hjn]
    unfold regex_coder_atom.aim
    rw [HX8.out]
    dsimp only
    rw [HLEN8.out]⟩
   clear h jl jb jr j0 p0 hneed hsz hN d1 d2 d3 hpne hbad a1 a2 a3 b1 b2 b3 b4 b5 g1 g2 g3 hbar hdl
   go_enter Tryz.func102,Tryz.ntmps102
   go_wp2_with (first
    | (go_at_call 118;have hPd:=hP w0 W g gp (.slice Ac s.code.length cc) s d HS.out hd HPN.out HZ.out (fun h => absurd h (by decide));(with_reducible refine hPd.mono ?_);clear hPd;rintro e W1 ⟨rfl,vc1,hS1⟩
       rw [hs1.out] at hS1
       have HS1:=Aside0.mk hS1
       clear hS1)
    | (go_at_call 119;(with_reducible refine (u2g.calls w0 W1 g gp vc1 s1 HS1.out).mono ?_);rintro e W0 ⟨rfl,hW0⟩;rw [hW0,HMO.out])
    | (go_at_call 120;(with_reducible refine (u2q.calls w0 W1 g gp vc1 s1 HS1.out).mono ?_);rintro e W0 ⟨rfl,hW0⟩;rw [hW0,HNX.out])
    | (go_at_call 121;(with_reducible refine (ud.calls w0 W1 g gp vc1 s1 HS1.out).mono ?_);rintro e W2 ⟨rfl,hS2,hK2⟩
       rw [hx2.out] at hS2 ⊢
       have HS2:=Aside0.mk hS2
       clear hS2 hK2)
    | (go_at_call 122;(with_reducible refine (u3f.calls w0 W2 g gp vc1 s2 s.code.length HS2.out HD2.out.1 HD2.out.2).mono ?_);rintro e W3 ⟨v3,vc3,rfl,hR3,hS3,hN3⟩
       rw [hdr.out] at hR3
       obtain ⟨Av,cv,ev⟩:=Kd.R_slice hR3
       subst ev
       have hcv:dr.length ≤ cv:=(Kd.R_reads' hR3).2.1
       have HH3:Aside0 (u2l.Held w0 W3 vc3 (.slice Av dr.length cv) dr):=⟨⟨hR3,hN3⟩⟩
       have HS3:=Aside0.mk hS3
       clear hS3 hR3 hN3)
    | (go_at_call 103;(with_reducible refine (u1p.put1a rfl HS3.out (Kd.R_nil _ _ _ _ _) (by have:=HD2.out.2;simp only [List.length_take];omega)).mono ?_);rintro e W4 ⟨rfl,vc4,hS4,hF4⟩
       have HH4:=Aside0.mk (HH3.out.fr HS3.out hF4)
       have HS4:=Aside0.mk hS4
       clear hS4 hF4)
    | (go_at_call 123;(with_reducible refine (u1y.calls w0 W4 Av cv dr 1 HS4.out.below HH4.out.reads hcv (by omega)).mono ?_);rintro e W5 ⟨v5,rfl,hR5,hB5,hN5⟩
       have HS5:=Aside0.mk (u3f.St_below HS4.out hB5)
       have HR5:=Aside0.mk hR5
       clear hR5 hB5 hN5)
    | (go_at_call 103;(with_reducible refine (u1p.calls w0 W5 g gp vc4 v5 _ _ HS5.out HR5.out (by have:=HD2.out.2;simp only [List.length_append,List.length_map,List.length_cons,List.length_nil,List.length_take];omega)).mono ?_);rintro e W6 ⟨rfl,vc6,hS6,hF6⟩
       simp only at hS6
       rw [hs6.out] at hS6
       obtain ⟨A6,c6,e6⟩:=Kd.R_slice hS6.code
       rw [HJ.out] at e6
       subst e6
       obtain ⟨B6,b6,⟨k0,k1,k2⟩,⟨q0,q1,q2⟩,kl,kb,kr⟩:=hS6.look
       have HS6:=Aside0.mk hS6
       clear hS6 hF6 kl kb kr k0 q0)
    | (go_at_call 103;(with_reducible refine (u1p.put1a rfl HS6.out (Kd.R_nil _ _ _ _ _) HJ6.out).mono ?_);rintro e W7 ⟨rfl,vc7,hS7,hF7⟩
       rw [hs7.out] at hS7
       have HS7:=Aside0.mk hS7
       clear hS7 hF7)
    | (go_at_call 102;have hLd:=hL w0 W7 g gp vc7 s7 d HS7.out hd HLN.out HLZ.out (fun h => absurd h (by decide));(with_reducible refine hLd.mono ?_);clear hLd;rintro e W8 ⟨rfl,vc8,hS8⟩
       rw [hs8.out] at hS8
       obtain ⟨A8,c8,e8⟩:=Kd.R_slice hS8.code
       rw [HLEN8.out] at e8
       subst e8
       obtain ⟨gb,eg⟩:=u2v.form hS8.code (by omega)
       subst eg
       obtain ⟨B8,b8,⟨z0,z1,z2⟩,⟨y0,y1,y2⟩,zl,zb,zr⟩:=hS8.look
       obtain ⟨t1,t2,t3,t4⟩:=u2v.store (w0:=w0) jn 3 (n8:Int) (Or.inl rfl) hS8.code x8 HX8.out ⟨x8.f0,x8.f1,x8.f2,(n8:Int),x8.f4⟩ rfl
       simp only [if_true] at t1
       have HS8:=Aside0.mk hS8
       have HT3:=Aside0.mk t3
       have HT4:=Aside0.mk t4
       clear hS8 zl zb zr z0 y0 t3 t4))
   go_still_tail 12,(by kernel_rfl)
   have u1:W8.drew.frozen? ⟨gb,jn * 5 + 3,none⟩ = false:=t2
   have u2:W8.drew.cell? ⟨gb,jn * 5 + 3,none⟩ = some (.int .i64 x8.f3):=t1
   change wpList _ _ _ _ _ W8.drew
   generalize hW9:W8.drew = W9 at u1 u2 ⊢
   have HW9:=Aside0.mk hW9
   clear hW9
   go_wp2
   go_end0
   refine ⟨rfl,.slice (some ⟨gb,0,none⟩) n8 c8,?_⟩
   rw [HFIN.out,← HW9.out]
   exact u3h.aimed HS8.out HT3.out
 · have HFIN:Aside0 (regex_coder_atom.M (f + 1) 2 d s = s1):=⟨by
    simp only [regex_coder_atom.M]
    rw [hs1.out,HMO.out,HNX.out,if_neg hcond]⟩
   clear h jl jb jr j0 p0 hneed hsz hN d1 d2 d3
   cases mo with
   | false =>
     clear hcond
     go_enter Tryz.func102,Tryz.ntmps102
     go_wp2_with (first
      | (go_at_call 118;have hPd:=hP w0 W g gp (.slice Ac s.code.length cc) s d HS.out hd HPN.out HZ.out (fun h => absurd h (by decide));(with_reducible refine hPd.mono ?_);clear hPd;rintro e W1 ⟨rfl,vc1,hS1⟩
         rw [hs1.out] at hS1
         have HS1:=Aside0.mk hS1
         clear hS1)
      | (go_at_call 119;(with_reducible refine (u2g.calls w0 W1 g gp vc1 s1 HS1.out).mono ?_);rintro e W0 ⟨rfl,hW0⟩;rw [hW0,HMO.out])
      | (go_at_call 120;(with_reducible refine (u2q.calls w0 W1 g gp vc1 s1 HS1.out).mono ?_);rintro e W0 ⟨rfl,hW0⟩;rw [hW0,HNX.out]))
     (try simp only [Exit.inBlock,Exit.then]);refine bodyPost_ret (results_none rfl _ _ _) rfl ?_
     exact ⟨rfl,_,by rw [HFIN.out];exact HS1.out⟩
   | true =>
     have hnx:(nx != 124) = true:=by
      have:nx ≠ 124:=fun h9 => hcond ⟨rfl,h9⟩
      simpa using this
     clear hcond
     go_enter Tryz.func102,Tryz.ntmps102
     go_wp2_with (first
      | (go_at_call 118;have hPd:=hP w0 W g gp (.slice Ac s.code.length cc) s d HS.out hd HPN.out HZ.out (fun h => absurd h (by decide));(with_reducible refine hPd.mono ?_);clear hPd;rintro e W1 ⟨rfl,vc1,hS1⟩
         rw [hs1.out] at hS1
         have HS1:=Aside0.mk hS1
         clear hS1)
      | (go_at_call 119;(with_reducible refine (u2g.calls w0 W1 g gp vc1 s1 HS1.out).mono ?_);rintro e W0 ⟨rfl,hW0⟩;rw [hW0,HMO.out])
      | (go_at_call 120;(with_reducible refine (u2q.calls w0 W1 g gp vc1 s1 HS1.out).mono ?_);rintro e W0 ⟨rfl,hW0⟩;rw [hW0,HNX.out]))
     (try simp only [Exit.inBlock,Exit.then]);refine bodyPost_ret (results_none rfl _ _ _) rfl ?_
     exact ⟨rfl,_,by rw [HFIN.out];exact HS1.out⟩
theorem u3h.all (f:Nat):(∀ f',f' ≤ f → regex_coder_atom.Sp 133 0 f') ∧ (∀ f',f' ≤ f → regex_coder_atom.Sp 118 1 f') ∧ (∀ f',f' ≤ f → regex_coder_atom.Sp 102 2 f'):=by
 induction f with
 | zero =>
   have ha:regex_coder_atom.Sp 133 0 0:=by
    intro w0 W g gp vc s d h hd hneed hsz hk
    exfalso
    rcases hneed with h9 | h9
    · rw [(hk rfl).1] at h9
      cases h9
    · unfold regex_coder_atom.need at h9
      omega
   have hp:regex_coder_atom.Sp 118 1 0:=u2l.calls 0 (fun f' hf => absurd hf (by omega))
   refine ⟨fun f' hf => ?_,fun f' hf => ?_,fun f' hf => ?_⟩
   · obtain rfl:f' = 0:=by omega
     exact ha
   · obtain rfl:f' = 0:=by omega
     exact hp
   · obtain rfl:f' = 0:=by omega
     exact u3h.calls0 hp
 | succ f ih =>
   obtain ⟨ia,ip,il⟩:=ih
   have ha:regex_coder_atom.Sp 133 0 (f + 1):=regex_coder_atom.calls f (il f (Nat.le_refl _))
   have hp:regex_coder_atom.Sp 118 1 (f + 1):=u2l.calls (f + 1) (fun f' hf => ia f' (by omega))
   have hl:regex_coder_atom.Sp 102 2 (f + 1):=u3h.calls1 f (ip f (Nat.le_refl _)) (il f (Nat.le_refl _))
   refine ⟨fun f' hf => ?_,fun f' hf => ?_,fun f' hf => ?_⟩
   · rcases Nat.lt_or_ge f f' with h9 | h9
     · obtain rfl:f' = f + 1:=by omega
       exact ha
     · exact ia f' h9
   · rcases Nat.lt_or_ge f f' with h9 | h9
     · obtain rfl:f' = f + 1:=by omega
       exact hp
     · exact ip f' h9
   · rcases Nat.lt_or_ge f f' with h9 | h9
     · obtain rfl:f' = f + 1:=by omega
       exact hl
     · exact il f' h9
def u1i.f (a0:ByteArray):Option (List S164):=none
def u1i.tv (s:ByteArray):Bool:=if strings_ToValidUTF8.badW s = true then true else Lib.contains s.data.toList [239,191,189]
theorem u1i.has_contains {l:List UInt8} (h:strings_ToValidUTF8.Has l):Lib.contains l [239,191,189] = true:=by
 obtain ⟨a,b,rfl⟩:=h
 have ho:Lib.occAt (a ++ [239,191,189] ++ b) [239,191,189] a.length = true:=by
  unfold Lib.occAt
  rw [List.append_assoc,List.drop_append_of_le_length (Nat.le_refl _),List.drop_length,List.nil_append]
  rfl
 rcases Lib.index_spec (a ++ [239,191,189] ++ b) [239,191,189] with ⟨_,h2⟩ | ⟨i,h2,_⟩
 · have h3:=h2 a.length (by simp)
   rw [ho] at h3
   cases h3
 · unfold Lib.contains
   rw [h2]
   simp
def u1i.runM (l:List Int):regex_coder_atom.CS:=regex_coder_atom.M (4 * l.length + 3) 2 0 ⟨l,[],false⟩
def u1i.parseM (s:ByteArray):Option (List S164) :=
 if 60 < s.size ∨ u1i.tv s = true then none
 else if (u1i.runM (Base.runesOf s)).bad = true ∨ 0 < (u1i.runM (Base.runesOf s)).p.length then none
 else some ((u1i.runM (Base.runesOf s)).code ++ [⟨4,[],false,0,0⟩])
theorem u1i.runes_eq (s:ByteArray):∀ (f pos:Nat) (acc:Array Value),(Conv.runesFrom s f pos acc).toList = acc.toList ++ (Base.runesFrom s f pos).map (Value.int .i32):=by
 intro f
 induction f with
 | zero => intro pos acc;simp [Conv.runesFrom,Base.runesFrom]
 | succ f ih =>
   intro pos acc
   unfold Conv.runesFrom Base.runesFrom
   by_cases h:pos < s.size
   · rw [if_pos h,if_pos h]
     simp only
     rw [ih]
     simp
   · rw [if_neg h,if_neg h]
     simp
theorem u1i.runes_size (s:ByteArray):(Conv.runesFrom s s.size 0 #[]).size = (Base.runesOf s).length:=by
 have h:=congrArg List.length (u1i.runes_eq s s.size 0 #[])
 simpa [Base.runesOf] using h
theorem u1i.runes_len (s:ByteArray):(Base.runesOf s).length ≤ s.size:=by
 have h:=size_runesFrom s s.size 0 #[]
 rw [u1i.runes_size] at h
 simpa using h
theorem u1i.laid_runes (s:ByteArray) (w:World) (gp m:Nat) (hs:s.size ≤ 60) (hc:w.heap[gp]? = some (.cells (Conv.runesFrom s s.size 0 #[] ++ Array.replicate m (.int .i32 0)) 21 (0,0))):ud.Runes w gp (some ⟨gp,0,none⟩) (Base.runesOf s):=by
 refine ⟨⟨_,hc⟩,fun W' hW' => ⟨rfl,by have h1:=u1i.runes_len s;omega,fun hp => ⟨⟨gp,0,none⟩,rfl,fun j p hj => ⟨[.int .i32 p],rfl,rfl,fun i u hu => ?_⟩⟩⟩⟩
 have hi:i = 0:=by
  cases i with
  | zero => rfl
  | succ i => simp at hu
 subst hi
 simp only [List.getElem?_cons_zero,Option.some.injEq] at hu
 subst hu
 have h1:(⟨gp,0,none⟩:Addr).add (j * (Kd.int .i32).sz + 0) = ⟨gp,j,none⟩:=by
  have e:(Kd.int .i32).sz = 1:=rfl
  rw [e]
  unfold Addr.add
  split
  · rename_i h0
    have:j = 0:=by simpa using h0
    subst this
    rfl
  · simp
 rw [h1]
 have h2:=uk (hW'.trans hc) j
 rw [h2]
 have h3:(Conv.runesFrom s s.size 0 #[])[j]? = some (Value.int .i32 p):=by
  rw [← Array.getElem?_toList,u1i.runes_eq s s.size 0 #[]]
  simp only [List.nil_append]
  rw [List.getElem?_map]
  change Option.map _ ((Base.runesOf s)[j]?) = _
  rw [hj]
  rfl
 rw [Array.getElem?_append_left (Array.getElem?_eq_some_iff.1 h3).1]
 exact h3
set_option maxHeartbeats 4000000 in
set_option maxRecDepth 10000 in
theorem u1i.calls (w:World) (s:ByteArray) (hG:strings_ToValidUTF8.Gd w) :
 Calls Tryz.prog 96 #[.string s] w fun e w' => ∃ v,e = .returned v ∧ Below w.heap.size w w' ∧ (match u1i.parseM s with | none => v = .slice none 0 0 | some l => Kd.R k164 164 w' w.heap.size (fun _ => True) v l):=by
 by_cases h60:60 < s.size
 · have hm:u1i.parseM s = none:=by
    unfold u1i.parseM
    rw [if_pos (Or.inl h60)]
   rw [hm]
   have hd:decide ((60:Int) < (s.size:Int)) = true:=by simp;omega
   go_enter Tryz.func96,Tryz.ntmps96
   go_wp2
   go_ret
   exact ⟨_,rfl,Below.refl _ _,rfl⟩
 · have hd:decide ((60:Int) < (s.size:Int)) = false:=by simp;omega
   have HG:=Aside0.mk hG
   have hs60:s.size ≤ 60:=by omega
   clear hG h60
   obtain ⟨m0,hm0⟩:=HG.out.2
   obtain ⟨s4,hs4⟩:∃ s4,Aside0 (u1i.runM (Base.runesOf s) = s4):=⟨_,⟨rfl⟩⟩
   have HP:Aside0 (u1i.parseM s = if u1i.tv s = true then none else if s4.bad = true ∨ 0 < s4.p.length then none else some (s4.code ++ [⟨4,[],false,0,0⟩])):=⟨by
    unfold u1i.parseM
    rw [hs4.out]
    by_cases ht:u1i.tv s = true
    · rw [if_pos (Or.inr ht),if_pos ht]
    · rw [if_neg (by rintro (h9 | h9);omega;exact ht h9),if_neg ht]⟩
   have hrl:Aside0 ((Base.runesOf s).length ≤ 60):=⟨Nat.le_trans (u1i.runes_len s) hs60⟩
   obtain ⟨n,hn⟩:∃ n,Aside0 ((Base.runesOf s).length = n):=⟨_,⟨rfl⟩⟩
   have hz:Aside0 (((0:Nat):Int) = 0):=⟨rfl⟩
   have HCT:Aside0 (∀ r,(strings_ToValidUTF8.badW s = true → strings_ToValidUTF8.Has r.data.toList) → (strings_ToValidUTF8.badW s = false → r = s) → Lib.contains r.data.toList (⟨#[239,191,189]⟩:ByteArray).data.toList = u1i.tv s):=⟨fun r h1 h2 => by
    unfold u1i.tv
    cases hb:strings_ToValidUTF8.badW s with
    | true => exact u1i.has_contains (h1 hb)
    | false => rw [h2 hb];rfl⟩
   cases htv:u1i.tv s with
   | true =>
     rw [htv] at HCT HP
     have HM:Aside0 (u1i.parseM s = none):=⟨HP.out⟩
     rw [HM.out]
     clear htv
     go_enter Tryz.func96,Tryz.ntmps96
     go_wp2_with (first
      | (go_at_call 101;(with_reducible refine (strings_ToValidUTF8.calls w s HG.out (by omega)).mono ?_);rintro e W1 ⟨r1,rfl,hB1,hz1,ha1,hb1⟩
         have hct:Aside0 (Lib.contains r1.data.toList (⟨#[239,191,189]⟩:ByteArray).data.toList = _):=⟨HCT.out r1 ha1 hb1⟩
         obtain ⟨m1,hm1⟩:=(HG.out.below hB1).cell
         have hcv:=run_runes_of_string (P:=Tryz.prog) W1 9 157 21 s Tryz.underlying9 Tryz.underlying157 Tryz.underlying21 (by rw [u1i.runes_size];have:=hrl.out;omega)
         rw [u1i.runes_size,hn.out] at hcv
         have hcg:=grownCap_ge W1 n 0 21
         obtain ⟨c,hc⟩:∃ c,Aside0 (grownCap W1 n 0 21 = c):=⟨_,⟨rfl⟩⟩
         rw [hc.out] at hcv hcg
         have HRU:Aside0 (ud.Runes (W1.drew.alloc (.cells (Conv.runesFrom s s.size 0 #[] ++ Array.replicate (c - n) (.int .i32 0)) 21)) W1.heap.size (some ⟨W1.heap.size,0,none⟩) (Base.runesOf s)):=⟨u1i.laid_runes s _ W1.heap.size (c - n) hs60 (u3l W1.drew _)⟩
         have hB2:Below w.heap.size w (W1.drew.alloc (.cells (Conv.runesFrom s s.size 0 #[] ++ Array.replicate (c - n) (.int .i32 0)) 21)):=(show Below w.heap.size w W1.drew from ⟨hB1.os,hB1.tape,hB1.output,hB1.size,hB1.block⟩).alloc hB1.size _
         have hs2:W1.heap.size < (W1.drew.alloc (.cells (Conv.runesFrom s s.size 0 #[] ++ Array.replicate (c - n) (.int .i32 0)) 21)).heap.size:=u3c (u3l W1.drew _)
         obtain ⟨W2,hW2⟩:∃ W2,Aside0 (W1.drew.alloc (.cells (Conv.runesFrom s s.size 0 #[] ++ Array.replicate (c - n) (.int .i32 0)) 21) = W2):=⟨_,⟨rfl⟩⟩
         rw [hW2.out] at hcv HRU hB2 hs2
         obtain ⟨W3,hW3⟩:∃ W3,Aside0 (W2.alloc (.cells #[.slice (some ⟨W1.heap.size,0,none⟩) n c,.slice none 0 0,.bool false] 159) = W3):=⟨_,⟨rfl⟩⟩
         have hb3:Below W2.heap.size W2 W3:=by rw [← hW3.out];exact uj (Below.refl _ _) _
         have hg3:W3.heap[W2.heap.size]? = some (.cells #[.slice (some ⟨W1.heap.size,0,none⟩) n c,.slice none 0 0,.bool false] 159 (0,0)):=by rw [← hW3.out];exact u3l _ _
         have HS3:Aside0 (ud.St w W3 W2.heap.size W1.heap.size (.slice none 0 0) ⟨Base.runesOf s,[],false⟩):=⟨⟨u1c hB2 hB2.size hb3,hB2.size,⟨some ⟨W1.heap.size,0,none⟩,c,by rw [hg3];simp only [hn.out],by rw [hn.out];exact hcg,HRU.out.move (hb3.block _ hs2)⟩,Kd.R_nil _ _ _ _ _⟩⟩
         have HB1:=Aside0.mk hB1
         clear hB1 ha1 hb1 hB2 hb3 hg3 hcg hs2)
      | (go_at_call 100;(with_reducible refine (Tryz.strings_Contains r1 ⟨#[239,191,189]⟩ m1 W1 (by omega) hm1).mono ?_);rintro e W1' ⟨rfl,hW1'⟩;rw [hW1',hct.out]))
     go_ret
     exact ⟨_,rfl,HB1.out,rfl⟩
   | false =>
     rw [htv,if_neg (by decide)] at HP
     rw [htv] at HCT
     clear htv
     cases hb4:s4.bad with
     | true =>
       have HM:Aside0 (u1i.parseM s = none):=⟨by rw [HP.out,if_pos (Or.inl hb4)]⟩
       rw [HM.out]
       go_enter Tryz.func96,Tryz.ntmps96
       go_wp2_with (first
       | (go_at_call 101;(with_reducible refine (strings_ToValidUTF8.calls w s HG.out (by omega)).mono ?_);rintro e W1 ⟨r1,rfl,hB1,hz1,ha1,hb1⟩
          have hct:Aside0 (Lib.contains r1.data.toList (⟨#[239,191,189]⟩:ByteArray).data.toList = _):=⟨HCT.out r1 ha1 hb1⟩
          obtain ⟨m1,hm1⟩:=(HG.out.below hB1).cell
          have hcv:=run_runes_of_string (P:=Tryz.prog) W1 9 157 21 s Tryz.underlying9 Tryz.underlying157 Tryz.underlying21 (by rw [u1i.runes_size];have:=hrl.out;omega)
          rw [u1i.runes_size,hn.out] at hcv
          have hcg:=grownCap_ge W1 n 0 21
          obtain ⟨c,hc⟩:∃ c,Aside0 (grownCap W1 n 0 21 = c):=⟨_,⟨rfl⟩⟩
          rw [hc.out] at hcv hcg
          have HRU:Aside0 (ud.Runes (W1.drew.alloc (.cells (Conv.runesFrom s s.size 0 #[] ++ Array.replicate (c - n) (.int .i32 0)) 21)) W1.heap.size (some ⟨W1.heap.size,0,none⟩) (Base.runesOf s)):=⟨u1i.laid_runes s _ W1.heap.size (c - n) hs60 (u3l W1.drew _)⟩
          have hB2:Below w.heap.size w (W1.drew.alloc (.cells (Conv.runesFrom s s.size 0 #[] ++ Array.replicate (c - n) (.int .i32 0)) 21)):=(show Below w.heap.size w W1.drew from ⟨hB1.os,hB1.tape,hB1.output,hB1.size,hB1.block⟩).alloc hB1.size _
          have hs2:W1.heap.size < (W1.drew.alloc (.cells (Conv.runesFrom s s.size 0 #[] ++ Array.replicate (c - n) (.int .i32 0)) 21)).heap.size:=u3c (u3l W1.drew _)
          obtain ⟨W2,hW2⟩:∃ W2,Aside0 (W1.drew.alloc (.cells (Conv.runesFrom s s.size 0 #[] ++ Array.replicate (c - n) (.int .i32 0)) 21) = W2):=⟨_,⟨rfl⟩⟩
          rw [hW2.out] at hcv HRU hB2 hs2
          obtain ⟨W3,hW3⟩:∃ W3,Aside0 (W2.alloc (.cells #[.slice (some ⟨W1.heap.size,0,none⟩) n c,.slice none 0 0,.bool false] 159) = W3):=⟨_,⟨rfl⟩⟩
          have hb3:Below W2.heap.size W2 W3:=by rw [← hW3.out];exact uj (Below.refl _ _) _
          have hg3:W3.heap[W2.heap.size]? = some (.cells #[.slice (some ⟨W1.heap.size,0,none⟩) n c,.slice none 0 0,.bool false] 159 (0,0)):=by rw [← hW3.out];exact u3l _ _
          have HS3:Aside0 (ud.St w W3 W2.heap.size W1.heap.size (.slice none 0 0) ⟨Base.runesOf s,[],false⟩):=⟨⟨u1c hB2 hB2.size hb3,hB2.size,⟨some ⟨W1.heap.size,0,none⟩,c,by rw [hg3];simp only [hn.out],by rw [hn.out];exact hcg,HRU.out.move (hb3.block _ hs2)⟩,Kd.R_nil _ _ _ _ _⟩⟩
          have HB1:=Aside0.mk hB1
          clear hB1 ha1 hb1 hB2 hb3 hg3 hcg hs2)
       | (go_at_call 100;(with_reducible refine (Tryz.strings_Contains r1 ⟨#[239,191,189]⟩ m1 W1 (by omega) hm1).mono ?_);rintro e W1' ⟨rfl,hW1'⟩;rw [hW1',hct.out])
       | (go_at_call 102;rw [hW3.out]
          have hLd:=(u3h.all (4 * (Base.runesOf s).length + 3)).2.2 _ (Nat.le_refl _) w W3 W2.heap.size W1.heap.size (.slice none 0 0) ⟨Base.runesOf s,[],false⟩ 0 HS3.out (by omega) (Or.inr (by unfold regex_coder_atom.need;simp only;omega)) (by have:=hrl.out;simp only [List.length_nil];omega) (fun h => absurd h (by decide))
          rw [hz.out] at hLd
          (with_reducible refine hLd.mono ?_)
          clear hLd
          rintro e W4 ⟨rfl,vc4,hS4⟩
          have hS4':ud.St w W4 W2.heap.size W1.heap.size vc4 s4:=by have h9:=hS4;rw [← hs4.out];exact h9
          obtain ⟨A4,c4,⟨k0,k1,k2⟩,⟨q0,q1,q2⟩,kl,kb,kr⟩:=hS4'.look
          rw [hb4] at k2
          have HS4:=Aside0.mk hS4'
          clear hS4 hS4' kl kb kr k1 q1))
       go_ret
       exact ⟨_,rfl,HS4.out.below,rfl⟩
     | false =>
       by_cases hp4:0 < s4.p.length
       · have HM:Aside0 (u1i.parseM s = none):=⟨by rw [HP.out,if_pos (Or.inr hp4)]⟩
         rw [HM.out]
         have hd4:decide ((0:Int) < (s4.p.length:Int)) = true:=by simp;omega
         go_enter Tryz.func96,Tryz.ntmps96
         go_wp2_with (first
       | (go_at_call 101;(with_reducible refine (strings_ToValidUTF8.calls w s HG.out (by omega)).mono ?_);rintro e W1 ⟨r1,rfl,hB1,hz1,ha1,hb1⟩
          have hct:Aside0 (Lib.contains r1.data.toList (⟨#[239,191,189]⟩:ByteArray).data.toList = _):=⟨HCT.out r1 ha1 hb1⟩
          obtain ⟨m1,hm1⟩:=(HG.out.below hB1).cell
          have hcv:=run_runes_of_string (P:=Tryz.prog) W1 9 157 21 s Tryz.underlying9 Tryz.underlying157 Tryz.underlying21 (by rw [u1i.runes_size];have:=hrl.out;omega)
          rw [u1i.runes_size,hn.out] at hcv
          have hcg:=grownCap_ge W1 n 0 21
          obtain ⟨c,hc⟩:∃ c,Aside0 (grownCap W1 n 0 21 = c):=⟨_,⟨rfl⟩⟩
          rw [hc.out] at hcv hcg
          have HRU:Aside0 (ud.Runes (W1.drew.alloc (.cells (Conv.runesFrom s s.size 0 #[] ++ Array.replicate (c - n) (.int .i32 0)) 21)) W1.heap.size (some ⟨W1.heap.size,0,none⟩) (Base.runesOf s)):=⟨u1i.laid_runes s _ W1.heap.size (c - n) hs60 (u3l W1.drew _)⟩
          have hB2:Below w.heap.size w (W1.drew.alloc (.cells (Conv.runesFrom s s.size 0 #[] ++ Array.replicate (c - n) (.int .i32 0)) 21)):=(show Below w.heap.size w W1.drew from ⟨hB1.os,hB1.tape,hB1.output,hB1.size,hB1.block⟩).alloc hB1.size _
          have hs2:W1.heap.size < (W1.drew.alloc (.cells (Conv.runesFrom s s.size 0 #[] ++ Array.replicate (c - n) (.int .i32 0)) 21)).heap.size:=u3c (u3l W1.drew _)
          obtain ⟨W2,hW2⟩:∃ W2,Aside0 (W1.drew.alloc (.cells (Conv.runesFrom s s.size 0 #[] ++ Array.replicate (c - n) (.int .i32 0)) 21) = W2):=⟨_,⟨rfl⟩⟩
          rw [hW2.out] at hcv HRU hB2 hs2
          obtain ⟨W3,hW3⟩:∃ W3,Aside0 (W2.alloc (.cells #[.slice (some ⟨W1.heap.size,0,none⟩) n c,.slice none 0 0,.bool false] 159) = W3):=⟨_,⟨rfl⟩⟩
          have hb3:Below W2.heap.size W2 W3:=by rw [← hW3.out];exact uj (Below.refl _ _) _
          have hg3:W3.heap[W2.heap.size]? = some (.cells #[.slice (some ⟨W1.heap.size,0,none⟩) n c,.slice none 0 0,.bool false] 159 (0,0)):=by rw [← hW3.out];exact u3l _ _
          have HS3:Aside0 (ud.St w W3 W2.heap.size W1.heap.size (.slice none 0 0) ⟨Base.runesOf s,[],false⟩):=⟨⟨u1c hB2 hB2.size hb3,hB2.size,⟨some ⟨W1.heap.size,0,none⟩,c,by rw [hg3];simp only [hn.out],by rw [hn.out];exact hcg,HRU.out.move (hb3.block _ hs2)⟩,Kd.R_nil _ _ _ _ _⟩⟩
          have HB1:=Aside0.mk hB1
          clear hB1 ha1 hb1 hB2 hb3 hg3 hcg hs2)
       | (go_at_call 100;(with_reducible refine (Tryz.strings_Contains r1 ⟨#[239,191,189]⟩ m1 W1 (by omega) hm1).mono ?_);rintro e W1' ⟨rfl,hW1'⟩;rw [hW1',hct.out])
       | (go_at_call 102;rw [hW3.out]
          have hLd:=(u3h.all (4 * (Base.runesOf s).length + 3)).2.2 _ (Nat.le_refl _) w W3 W2.heap.size W1.heap.size (.slice none 0 0) ⟨Base.runesOf s,[],false⟩ 0 HS3.out (by omega) (Or.inr (by unfold regex_coder_atom.need;simp only;omega)) (by have:=hrl.out;simp only [List.length_nil];omega) (fun h => absurd h (by decide))
          rw [hz.out] at hLd
          (with_reducible refine hLd.mono ?_)
          clear hLd
          rintro e W4 ⟨rfl,vc4,hS4⟩
          have hS4':ud.St w W4 W2.heap.size W1.heap.size vc4 s4:=by have h9:=hS4;rw [← hs4.out];exact h9
          obtain ⟨A4,c4,⟨k0,k1,k2⟩,⟨q0,q1,q2⟩,kl,kb,kr⟩:=hS4'.look
          rw [hb4] at k2
          have HS4:=Aside0.mk hS4'
          clear hS4 hS4' kl kb kr k1 q1))
         go_ret
         exact ⟨_,rfl,HS4.out.below,rfl⟩
       · have HM:Aside0 (u1i.parseM s = some (s4.code ++ [⟨4,[],false,0,0⟩])):=⟨by rw [HP.out,if_neg (by rintro (h9 | h9);rw [hb4] at h9;cases h9;exact hp4 h9)]⟩
         rw [HM.out]
         have hd4:decide ((0:Int) < (s4.p.length:Int)) = false:=decide_eq_false (by omega)
         have HC4:Aside0 (s4.code.length + 1 ≤ 1000000):=⟨by
          have h9:=(regex_coder_atom.M_dec (4 * (Base.runesOf s).length + 3) 2 0 ⟨Base.runesOf s,[],false⟩ (fun h => absurd h (by decide))).1.both
          have h8:=hs4.out
          unfold u1i.runM at h8
          rw [h8] at h9
          have:=hrl.out
          simp only [List.length_nil] at h9
          have h7:=Nat.le_trans (Nat.le_add_right _ _) h9
          have h6:s4.code.length ≤ 0 + 2 * (Base.runesOf s).length:=h7
          omega⟩
         go_enter Tryz.func96,Tryz.ntmps96
         go_wp2_with (first
       | (go_at_call 101;(with_reducible refine (strings_ToValidUTF8.calls w s HG.out (by omega)).mono ?_);rintro e W1 ⟨r1,rfl,hB1,hz1,ha1,hb1⟩
          have hct:Aside0 (Lib.contains r1.data.toList (⟨#[239,191,189]⟩:ByteArray).data.toList = _):=⟨HCT.out r1 ha1 hb1⟩
          obtain ⟨m1,hm1⟩:=(HG.out.below hB1).cell
          have hcv:=run_runes_of_string (P:=Tryz.prog) W1 9 157 21 s Tryz.underlying9 Tryz.underlying157 Tryz.underlying21 (by rw [u1i.runes_size];have:=hrl.out;omega)
          rw [u1i.runes_size,hn.out] at hcv
          have hcg:=grownCap_ge W1 n 0 21
          obtain ⟨c,hc⟩:∃ c,Aside0 (grownCap W1 n 0 21 = c):=⟨_,⟨rfl⟩⟩
          rw [hc.out] at hcv hcg
          have HRU:Aside0 (ud.Runes (W1.drew.alloc (.cells (Conv.runesFrom s s.size 0 #[] ++ Array.replicate (c - n) (.int .i32 0)) 21)) W1.heap.size (some ⟨W1.heap.size,0,none⟩) (Base.runesOf s)):=⟨u1i.laid_runes s _ W1.heap.size (c - n) hs60 (u3l W1.drew _)⟩
          have hB2:Below w.heap.size w (W1.drew.alloc (.cells (Conv.runesFrom s s.size 0 #[] ++ Array.replicate (c - n) (.int .i32 0)) 21)):=(show Below w.heap.size w W1.drew from ⟨hB1.os,hB1.tape,hB1.output,hB1.size,hB1.block⟩).alloc hB1.size _
          have hs2:W1.heap.size < (W1.drew.alloc (.cells (Conv.runesFrom s s.size 0 #[] ++ Array.replicate (c - n) (.int .i32 0)) 21)).heap.size:=u3c (u3l W1.drew _)
          obtain ⟨W2,hW2⟩:∃ W2,Aside0 (W1.drew.alloc (.cells (Conv.runesFrom s s.size 0 #[] ++ Array.replicate (c - n) (.int .i32 0)) 21) = W2):=⟨_,⟨rfl⟩⟩
          rw [hW2.out] at hcv HRU hB2 hs2
          obtain ⟨W3,hW3⟩:∃ W3,Aside0 (W2.alloc (.cells #[.slice (some ⟨W1.heap.size,0,none⟩) n c,.slice none 0 0,.bool false] 159) = W3):=⟨_,⟨rfl⟩⟩
          have hb3:Below W2.heap.size W2 W3:=by rw [← hW3.out];exact uj (Below.refl _ _) _
          have hg3:W3.heap[W2.heap.size]? = some (.cells #[.slice (some ⟨W1.heap.size,0,none⟩) n c,.slice none 0 0,.bool false] 159 (0,0)):=by rw [← hW3.out];exact u3l _ _
          have HS3:Aside0 (ud.St w W3 W2.heap.size W1.heap.size (.slice none 0 0) ⟨Base.runesOf s,[],false⟩):=⟨⟨u1c hB2 hB2.size hb3,hB2.size,⟨some ⟨W1.heap.size,0,none⟩,c,by rw [hg3];simp only [hn.out],by rw [hn.out];exact hcg,HRU.out.move (hb3.block _ hs2)⟩,Kd.R_nil _ _ _ _ _⟩⟩
          have HB1:=Aside0.mk hB1
          clear hB1 ha1 hb1 hB2 hb3 hg3 hcg hs2)
       | (go_at_call 100;(with_reducible refine (Tryz.strings_Contains r1 ⟨#[239,191,189]⟩ m1 W1 (by omega) hm1).mono ?_);rintro e W1' ⟨rfl,hW1'⟩;rw [hW1',hct.out])
       | (go_at_call 102;rw [hW3.out]
          have hLd:=(u3h.all (4 * (Base.runesOf s).length + 3)).2.2 _ (Nat.le_refl _) w W3 W2.heap.size W1.heap.size (.slice none 0 0) ⟨Base.runesOf s,[],false⟩ 0 HS3.out (by omega) (Or.inr (by unfold regex_coder_atom.need;simp only;omega)) (by have:=hrl.out;simp only [List.length_nil];omega) (fun h => absurd h (by decide))
          rw [hz.out] at hLd
          (with_reducible refine hLd.mono ?_)
          clear hLd
          rintro e W4 ⟨rfl,vc4,hS4⟩
          have hS4':ud.St w W4 W2.heap.size W1.heap.size vc4 s4:=by have h9:=hS4;rw [← hs4.out];exact h9
          obtain ⟨A4,c4,⟨k0,k1,k2⟩,⟨q0,q1,q2⟩,kl,kb,kr⟩:=hS4'.look
          rw [hb4] at k2
          have HS4:=Aside0.mk hS4'
          clear hS4 hS4' kl kb kr k1 q1)
       | (go_at_call 103;(with_reducible refine (u1p.put1a rfl HS4.out (Kd.R_nil _ _ _ _ _) HC4.out).mono ?_);rintro e W5 ⟨rfl,vc5,hS5,hF5⟩
          obtain ⟨A5,c5,e5⟩:=Kd.R_slice hS5.code
          subst e5
          obtain ⟨B5,d5,⟨z0,z1,z2⟩,⟨y0,y1,y2⟩,zl,zb,zr⟩:=hS5.look
          have HS5:=Aside0.mk hS5
          clear hS5 hF5 zl zb zr z0 y0))
         go_ret
         refine ⟨.slice A5 (s4.code.length + 1) c5,rfl,HS5.out.below,?_⟩
         have h9:=HS5.out.code
         simp only [List.length_append,List.length_cons,List.length_nil,Nat.zero_add] at h9
         exact h9
end Go.Proofs.YtgnehcgaplnfkaaGreatDoor.PAll
namespace Go.Proofs.YtgnehcgaplnfkaaGreatDoor.PAll
open Go.RowKit Go.Proofs.YtgnehcgaplnfkaaGreatDoorW.PrintWords Go.Proofs.YtgnehcgaplnfkaaGreatDoorW.PrintLast
set_option linter.unusedVariables false
set_option linter.unusedSimpArgs false
namespace Has
theorem has_from (s:ByteArray) (a b:List UInt8) (hs:s.data.toList = a ++ [239,191,189] ++ b):∀ (f pos:Nat),s.size - pos ≤ f → pos ≤ a.length → strings_ToValidUTF8.badFrom s f pos = false → (65533:Int) ∈ Base.runesFrom s f pos:=by
 have hlen:s.size = a.length + 3 + b.length:=by
  rw [Base.size_list,hs]
  simp
  omega
 have hget:∀ i,i < 3 → s.data.toList.getD (a.length + i) 0 = ([239,191,189]:List UInt8).getD i 0:=by
  intro i hi
  rw [hs,List.append_assoc,List.getD_eq_getElem?_getD,List.getElem?_append_right (by omega),Nat.add_sub_cancel_left,List.getElem?_append_left (by simpa using hi),← List.getD_eq_getElem?_getD]
 intro f
 induction f with
 | zero =>
   intro pos h hp _
   omega
 | succ f ih =>
   intro pos h hp hb
   have hlt:pos < s.size:=by omega
   rw [Utf.bad_step s f pos hlt,Bool.or_eq_false_iff] at hb
   have hv:=of_decide_eq_false hb.1
   rw [Base.runesFrom_step s f pos hlt]
   have hd:=Lib.decode_N s pos
   rcases Nat.lt_or_ge pos a.length with hpa | hpa
   · refine List.mem_cons_of_mem _ (ih _ (by have:=Base.width_pos s pos hlt;omega) ?_ hb.2)
     have h239:=hget 0 (by omega)
     have h239':(s.data.toList.getD a.length 0).toNat = 239:=by
      have:s.data.toList.getD a.length 0 = 239:=by simpa using h239
      rw [this]
      rfl
     rw [hd] at hv ⊢
     have hk:∀ k,pos + k = a.length → (s.data.toList.getD (pos + k) 0).toNat = 239:=fun k hk => by rw [hk];exact h239'
     have hk1:=hk 1
     have hk2:=hk 2
     have hk3:=hk 3
     rcases Lib.decodeN_shape (s.data.toList.length - pos) (s.data.toList.getD pos 0).toNat (s.data.toList.getD (pos + 1) 0).toNat (s.data.toList.getD (pos + 2) 0).toNat (s.data.toList.getD (pos + 3) 0).toNat with ⟨c,e⟩ | ⟨c1,c2,c3,cv,e⟩ | ⟨c1,c2,c3,c4,cv,cs,e⟩ | ⟨c1,c2,c3,c4,c5,cv,cw,e⟩ | e
     · rw [e]
       dsimp only
       omega
     · rw [e]
       dsimp only
       omega
     · rw [e]
       dsimp only
       omega
     · rw [e]
       dsimp only
       omega
     · exact absurd e hv
   · have e:pos = a.length:=by omega
     subst e
     have g0:s.data.toList.getD a.length 0 = 239:=by simpa using hget 0 (by omega)
     have g1:s.data.toList.getD (a.length + 1) 0 = 191:=by simpa using hget 1 (by omega)
     have g2:s.data.toList.getD (a.length + 2) 0 = 189:=by simpa using hget 2 (by omega)
     have e1:(Utf8.decode s a.length).1 = 65533:=by
      rw [hd,g0,g1,g2]
      have hl2:2 < s.data.toList.length - a.length:=by
       rw [← Base.size_list]
       omega
      have t0:(239:UInt8).toNat = 239:=rfl
      have t1:(191:UInt8).toNat = 191:=rfl
      have t2:(189:UInt8).toNat = 189:=rfl
      rw [t0,t1,t2]
      unfold Lib.decodeN
      rw [if_neg (by omega),if_neg (by omega),if_pos (by omega),if_pos (by omega)]
     rw [e1]
     exact List.mem_cons_self
theorem no_has {s:ByteArray} (hb:strings_ToValidUTF8.badW s = false) (hn:¬ (65533:Int) ∈ Base.runesOf s):Lib.contains s.data.toList [239,191,189] = false:=by
 cases hc:Lib.contains s.data.toList [239,191,189] with
 | false => rfl
 | true =>
   exfalso
   unfold Lib.contains at hc
   rcases Lib.index_spec s.data.toList [239,191,189] with ⟨h1,h2⟩ | ⟨i,h1,h2,h3⟩
   · rw [h1] at hc
     simp at hc
   · have hocc:Lib.occAt s.data.toList [239,191,189] i = true:=by first | exact h3 | exact h3.1 | exact h2 | exact h2.1 | exact h2.2
     unfold Lib.occAt at hocc
     have hpre:([239,191,189]:List UInt8) <+: s.data.toList.drop i:=by first | exact List.isPrefixOf_iff_prefix.1 hocc | simpa using hocc
     obtain ⟨t,ht⟩:=hpre
     have hs:s.data.toList = s.data.toList.take i ++ [239,191,189] ++ t:=by
      rw [List.append_assoc,ht,List.take_append_drop]
     have hil:i ≤ s.data.toList.length:=by
      rcases Nat.lt_or_ge s.data.toList.length i with h9 | h9
      · rw [List.drop_eq_nil_of_le (by omega)] at ht
        cases ht
      · exact h9
     refine hn (has_from s _ t hs s.size 0 (by omega) (by omega) hb)
theorem bad_mem (s:ByteArray):∀ (f pos:Nat),strings_ToValidUTF8.badFrom s f pos = true → (65533:Int) ∈ Base.runesFrom s f pos:=by
 intro f
 induction f with
 | zero => exact fun pos h => by cases h
 | succ f ih =>
   intro pos h
   by_cases hp:pos < s.size
   · rw [Utf.bad_step s f pos hp,Bool.or_eq_true] at h
     rw [Base.runesFrom_step s f pos hp]
     rcases h with h | h
     · have h1:=of_decide_eq_true h
       rw [h1]
       exact List.mem_cons_self
     · exact List.mem_cons_of_mem _ (ih _ h)
   · rw [Utf.bad_end s _ pos hp] at h
     cases h
theorem rune_has (s:ByteArray):∀ (f pos:Nat),strings_ToValidUTF8.badFrom s f pos = false → (65533:Int) ∈ Base.runesFrom s f pos → strings_ToValidUTF8.Has s.data.toList:=by
 intro f
 induction f with
 | zero => exact fun pos _ h => by simp [Base.runesFrom] at h
 | succ f ih =>
   intro pos hb h
   by_cases hp:pos < s.size
   · rw [Utf.bad_step s f pos hp,Bool.or_eq_false_iff] at hb
     rw [Base.runesFrom_step s f pos hp] at h
     rcases List.mem_cons.1 h with h | h
     · have hv:=of_decide_eq_false hb.1
       have hne:s.data.toList.drop pos ≠ []:=fun h9 => by
        have:=List.drop_eq_nil_iff.1 h9
        rw [← Base.size_list] at this
        omega
       have h1:(Utf8.decode s pos).1 = 65533:=by omega
       have h2:=Lib.encode_decode (s.data.toList.drop pos) hne (fun h9 => by
        rw [Lib.decodeL_drop] at h9
        exact hv (Prod.ext h9.1 h9.2))
       rw [Lib.decodeL_drop,h1] at h2
       have h3:Lib.encodeRune ((65533:Nat):Int) = [239,191,189]:=by rfl
       rw [h3] at h2
       refine ⟨s.data.toList.take pos,(s.data.toList.drop pos).drop (Utf8.decode s pos).2,?_⟩
       rw [h2,List.append_assoc,List.take_append_drop,List.take_append_drop]
     · exact ih _ hb.2 h
   · rw [Base.runesFrom_end s _ pos hp] at h
     simp at h
theorem tv_iff (s:ByteArray):u1i.tv s = true ↔ (65533:Int) ∈ Base.runesOf s:=by
 unfold u1i.tv
 cases hb:strings_ToValidUTF8.badW s with
 | true => exact ⟨fun _ => bad_mem s _ _ hb,fun _ => by rw [if_pos rfl]⟩
 | false =>
   rw [if_neg (by decide)]
   constructor
   · intro h
     refine Classical.byContradiction fun hn => ?_
     rw [no_has hb hn] at h
     cases h
   · exact fun h => u1i.has_contains (rune_has s _ _ hb h)
end Has
end Go.Proofs.YtgnehcgaplnfkaaGreatDoor.PAll
namespace Go.Proofs.YtgnehcgaplnfkaaGreatDoor.PAll
open Go.RowKit Go.Proofs.YtgnehcgaplnfkaaGreatDoorW.PrintWords Go.Proofs.YtgnehcgaplnfkaaGreatDoorW.PrintLast Go.Proofs.YtgnehcgaplnfkaaGreatDoorW.PrintMore
attribute [local go_sem] u3r u3t u4c u4b u3n u3o u3u u3s
set_option linter.unusedVariables false
set_option linter.unusedSimpArgs false
def u1z.TG (n:Nat) (x:S164):Prop:=(x.f0 = 2 → 0 ≤ x.f3 ∧ x.f3 ≤ n ∧ 0 ≤ x.f4 ∧ x.f4 ≤ n) ∧ (x.f0 = 3 → 0 ≤ x.f3 ∧ x.f3 ≤ n)
theorem u1z.TG.mono {n m:Nat} {x:S164} (h:u1z.TG n x) (hm:n ≤ m):u1z.TG m x :=
 ⟨fun h9 => by have:=h.1 h9;omega,fun h9 => by have:=h.2 h9;omega⟩
theorem u1z.TG.sh {n:Nat} {x:S164} (h:u1z.TG n x) (hn:n ≤ 100000):u1z.TG (n + 1) (u1y.sh 1 x):=by
 refine ⟨fun h9 => ?_,fun h9 => ?_⟩
 · have:=h.1 h9
   simp only [u1y.sh,wrap64]
   omega
 · have:=h.2 h9
   simp only [u1y.sh,wrap64]
   omega
theorem u1z.TG.rune (n:Nat) (l:List S191) (b:Bool):u1z.TG n ⟨1,l,b,0,0⟩:=⟨fun h => absurd h (show ¬ (1:Int) = 2 by decide),fun h => absurd h (show ¬ (1:Int) = 3 by decide)⟩
def u1z.Inv (s:regex_coder_atom.CS):Prop:=∀ x,x ∈ s.code → u1z.TG s.code.length x
theorem u1z.Inv.of_code {s s':regex_coder_atom.CS} (h:u1z.Inv s) (hc:s'.code = s.code):u1z.Inv s':=by
 unfold u1z.Inv at *
 rw [hc]
 exact h
theorem u1z.Inv.put1 {s:regex_coder_atom.CS} (h:u1z.Inv s) (l:List S191) (b:Bool):u1z.Inv (regex_coder_atom.put s [⟨1,l,b,0,0⟩]):=by
 intro x hx
 simp only [regex_coder_atom.put,List.mem_append,List.length_append,List.length_cons,List.length_nil] at hx ⊢
 rcases hx with h9 | h9
 · exact (h x h9).mono (by omega)
 · have:x = ⟨1,l,b,0,0⟩:=by simpa using h9
   rw [this]
   exact u1z.TG.rune _ _ _
theorem u1z.Inv.cls {s:regex_coder_atom.CS} (h:u1z.Inv s):u1z.Inv (uf.cls s):=by
 obtain ⟨s2,l,b,e,hc⟩:∃ (s2:regex_coder_atom.CS) (l:List S191) (b:Bool),uf.cls s = regex_coder_atom.put s2 [⟨1,l,b,0,0⟩] ∧ s2.code = s.code:=by
  refine ⟨_,_,_,rfl,?_⟩
  rw [uf.step_code,(uf.loopM_code _ _ _ _).1]
  split
  · exact uf.step_code s
  · rfl
 rw [e]
 exact (h.of_code hc).put1 l b
theorem u1z.Inv.qual {n:Nat} {s:regex_coder_atom.CS} (h:u1z.Inv s) (hn:n ≤ s.code.length) (hz:s.code.length ≤ 1000):u1z.Inv (regex_coder_atom.qual n s):=by
 unfold regex_coder_atom.qual
 have hd:(s.code.drop n).length = s.code.length - n:=List.length_drop
 have hs:(ud.step { s with code:=s.code.take n }).2.code = s.code.take n:=uf.step_code _
 have ht:(s.code.take n).length = n:=by rw [List.length_take];omega
 have h1:∀ x,x ∈ s.code.take n → u1z.TG s.code.length x:=fun x hx => h x (List.mem_of_mem_take hx)
 have h2:∀ x,x ∈ (s.code.drop n).map (u1y.sh 1) → u1z.TG (s.code.length + 1) x:=fun x hx => by
  obtain ⟨y,hy,rfl⟩:=List.mem_map.1 hx
  exact (h y (List.mem_of_mem_drop hy)).sh (by omega)
 have h3:∀ x,x ∈ s.code.drop n → u1z.TG s.code.length x:=fun x hx => h x (List.mem_of_mem_drop hx)
 split
 · split
   · intro x hx
     simp only [regex_coder_atom.put,hs,List.mem_append,List.mem_singleton,List.length_append,List.length_map,List.length_cons,List.length_nil,ht,hd] at hx ⊢
     rcases hx with ((hx | rfl) | hx) | rfl
     · exact (h1 x hx).mono (by omega)
     · exact ⟨fun _ => by simp only;omega,fun h9 => absurd h9 (show ¬ (2:Int) = 3 by decide)⟩
     · exact (h2 x hx).mono (by omega)
     · exact ⟨fun h9 => absurd h9 (show ¬ (3:Int) = 2 by decide),fun _ => by simp only;omega⟩
   · split
     · intro x hx
       simp only [regex_coder_atom.put,hs,List.mem_append,List.mem_singleton,List.length_append,List.length_map,List.length_cons,List.length_nil,ht,hd] at hx ⊢
       rcases hx with (hx | hx) | rfl
       · exact (h1 x hx).mono (by omega)
       · exact (h3 x hx).mono (by omega)
       · exact ⟨fun _ => by simp only;omega,fun h9 => absurd h9 (show ¬ (2:Int) = 3 by decide)⟩
     · intro x hx
       simp only [regex_coder_atom.put,hs,List.mem_append,List.mem_singleton,List.length_append,List.length_map,List.length_cons,List.length_nil,ht,hd] at hx ⊢
       rcases hx with (hx | rfl) | hx
       · exact (h1 x hx).mono (by omega)
       · exact ⟨fun _ => by simp only;omega,fun h9 => absurd h9 (show ¬ (2:Int) = 3 by decide)⟩
       · exact (h2 x hx).mono (by omega)
 · exact h
theorem u1z.Inv.bar {n:Nat} {s:regex_coder_atom.CS} (h:u1z.Inv s) (hn:n ≤ s.code.length) (hz:s.code.length ≤ 1000):u1z.Inv (regex_coder_atom.bar n s):=by
 have hd:(s.code.drop n).length = s.code.length - n:=List.length_drop
 have ht:(s.code.take n).length = n:=by rw [List.length_take];omega
 intro x hx
 simp only [regex_coder_atom.bar,regex_coder_atom.put,List.mem_append,List.mem_singleton,List.length_append,List.length_map,List.length_cons,List.length_nil,ht,hd] at hx ⊢
 rcases hx with ((hx | rfl) | hx) | rfl
 · exact (h x (List.mem_of_mem_take hx)).mono (by omega)
 · exact ⟨fun _ => by simp only;omega,fun h9 => absurd h9 (show ¬ (2:Int) = 3 by decide)⟩
 · obtain ⟨y,hy,rfl⟩:=List.mem_map.1 hx
   exact ((h y (List.mem_of_mem_drop hy)).sh (by omega)).mono (by omega)
 · exact ⟨fun h9 => absurd h9 (show ¬ (3:Int) = 2 by decide),fun _ => by simp only;omega⟩
theorem u1z.Inv.aim {j:Nat} {s:regex_coder_atom.CS} (h:u1z.Inv s):u1z.Inv (regex_coder_atom.aim j s):=by
 unfold regex_coder_atom.aim
 split
 · rename_i x hx
   have hxm:=h x (List.mem_of_getElem? hx)
   intro y hy
   simp only [List.length_set] at hy ⊢
   rcases List.mem_or_eq_of_mem_set hy with h9 | rfl
   · exact h y h9
   · exact ⟨fun h9 => by have:=hxm.1 h9;simp only;omega,fun h9 => by simp only;omega⟩
 · exact h
theorem u1z.M_inv (f:Nat):∀ (k d:Nat) (s:regex_coder_atom.CS),(k = 0 → s.p ≠ []) → s.code.length + 2 * s.p.length ≤ 1000 → u1z.Inv s → u1z.Inv (regex_coder_atom.M f k d s):=by
 induction f with
 | zero => exact fun _ _ _ _ _ h => h
 | succ f ih =>
   intro k d s hk hz h
   match k with
   | 0 =>
     obtain ⟨a1,a2,a3⟩:=regex_coder_atom.step_ne (hk rfl)
     have h1:u1z.Inv (ud.step s).2:=h.of_code a3
     simp only [regex_coder_atom.M]
     unfold regex_coder_atom.atomM
     split
     · exact h.of_code rfl
     split
     · exact h1.put1 _ _
     split
     · exact h1.cls
     split
     · split
       · exact h1.of_code rfl
       · dsimp only
         refine (ih 2 (d + 1) (ud.step s).2 (fun h => absurd h (by decide)) ?_ h1).of_code (regex_coder_atom.close_dec _).2
         rw [a3]
         omega
     split
     · exact (h1.of_code (uf.step_code _)).put1 _ _
     · exact h1.put1 _ _
   | 1 =>
     simp only [regex_coder_atom.M]
     split
     · rename_i hc
       have hp:=(regex_coder_atom.mo_ne hc.1).1
       obtain ⟨⟨b1,b2,b3⟩,_⟩:=regex_coder_atom.M_dec f 0 d s (fun _ => hp)
       obtain ⟨e1,e2,e3,_⟩:=regex_coder_atom.qual_dec b2
       exact ih 1 d _ (fun h => absurd h (by decide)) (by omega) ((ih 0 d s (fun _ => hp) hz h).qual b2 (by omega))
     · exact h
   | k + 2 =>
     simp only [regex_coder_atom.M]
     obtain ⟨hb,_⟩:=regex_coder_atom.M_dec f 1 d s (fun h => absurd h (by decide))
     have h1:=ih 1 d s (fun h => absurd h (by decide)) hz h
     have hb1:=hb.both
     have hb2:=hb.code
     split
     · rename_i hc
       have hp:=(regex_coder_atom.mo_ne hc.1).1
       obtain ⟨hd,_,_⟩:=regex_coder_atom.bar_dec hb.code hp
       have hd1:=hd.both
       exact (ih 2 d _ (fun h => absurd h (by decide)) (by omega) (h1.bar hb2 (by omega))).aim
     · exact h1
theorem u1z.parse_wf {p:ByteArray} {code:List S164} (h:u1i.parseM p = some code):uv.WF code ∧ 0 < code.length ∧ code.length ≤ 1000:=by
 unfold u1i.parseM at h
 split at h
 · cases h
 · rename_i h60
   split at h
   · cases h
   · injection h with h
     have hp60:p.size ≤ 60:=by
      rcases Nat.lt_or_ge 60 p.size with h9 | h9
      · exact absurd (Or.inl h9) h60
      · exact h9
     have hl:=Nat.le_trans (u1i.runes_len p) hp60
     obtain ⟨r,hr⟩:∃ r,u1i.runM (Base.runesOf p) = r:=⟨_,rfl⟩
     have hinv:u1z.Inv r:=by
      rw [← hr]
      exact u1z.M_inv _ 2 0 _ (fun h => absurd h (by decide)) (by simp only [List.length_nil];omega) (fun x hx => by simp at hx)
     have hlen:r.code.length ≤ 120:=by
      have h9:=(regex_coder_atom.M_dec (4 * (Base.runesOf p).length + 3) 2 0 ⟨Base.runesOf p,[],false⟩ (fun h => absurd h (by decide))).1.both
      unfold u1i.runM at hr
      rw [hr] at h9
      simp only [List.length_nil] at h9
      omega
     rw [hr] at h
     subst h
     have hget:∀ (i:Nat) (x:S164),(r.code ++ [(⟨4,[],false,0,0⟩:S164)])[i]? = some x → x.f0 ≠ 4 → i < r.code.length ∧ u1z.TG r.code.length x:=fun i x hx h4 => by
      rcases Nat.lt_or_ge i r.code.length with h9 | h9
      · rw [List.getElem?_append_left h9] at hx
        exact ⟨h9,hinv x (List.mem_of_getElem? hx)⟩
      · rw [List.getElem?_append_right h9] at hx
        exfalso
        have:=List.mem_of_getElem? hx
        rw [List.mem_singleton] at this
        exact h4 (by rw [this])
     refine ⟨⟨fun i x hx h2 => ?_,fun i x hx h2 => ?_,fun i x hx h2 => ?_⟩,by simp,by simp;omega⟩
     · obtain ⟨_,h9⟩:=hget i x hx (by rw [h2];decide)
       have:=h9.1 h2
       simp only [List.length_append,List.length_cons,List.length_nil]
       omega
     · obtain ⟨_,h9⟩:=hget i x hx (by rw [h2];decide)
       have:=h9.2 h2
       simp only [List.length_append,List.length_cons,List.length_nil]
       omega
     · obtain ⟨h9,_⟩:=hget i x hx (by rw [h2];decide)
       simp only [List.length_append,List.length_cons,List.length_nil]
       omega
set_option maxHeartbeats 1000000 in
theorem u1z.calls (w:World) (p:ByteArray) (hG:strings_ToValidUTF8.Gd w):Calls Tryz.prog 88 #[.string p] w fun e w' => e = .returned (.int .i64 (if (u1i.parseM p).isSome = true then 0 else 5)) ∧ Below w.heap.size w w':=by
 have HG:=Aside0.mk hG
 clear hG
 cases hp:u1i.parseM p with
 | none =>
   have HP:=Aside0.mk hp
   clear hp
   have hnil:∀ W,(binOp .eql 143 (.slice none 0 0) (.slice none 0 0)).run Tryz.prog W = .ok (.bool true) W:=fun W => Lib.run_eql_slice_nil W 143 164 none 0 0 0 0 Tryz.underlying143
   go_enter Tryz.func88,Tryz.ntmps88
   go_wp2_with (go_at_call 96;(with_reducible refine (u1i.calls w p HG.out).mono ?_);rintro e W1 ⟨v,rfl,hB1,hv⟩;rw [HP.out] at hv;simp only at hv;subst hv;have HB1:=Aside0.mk hB1;clear hB1)
   go_ret
   exact ⟨rfl,HB1.out⟩
 | some code =>
   have HP:=Aside0.mk hp
   obtain ⟨_,hlen,_⟩:=u1z.parse_wf hp
   clear hp
   go_enter Tryz.func88,Tryz.ntmps88
   go_wp2_with (go_at_call 96;(with_reducible refine (u1i.calls w p HG.out).mono ?_);rintro e W1 ⟨v,rfl,hB1,hv⟩;rw [HP.out] at hv;simp only at hv;obtain ⟨A1,c1,e1⟩:=Kd.R_slice hv;subst e1;obtain ⟨gb,eg⟩:=u2v.form hv hlen;subst eg;have hnil:∀ W,(binOp .eql 143 (.slice (some ⟨gb,0,none⟩) code.length c1) (.slice none 0 0)).run Tryz.prog W = .ok (.bool false) W:=fun W => Lib.run_eql_slice_nil W 143 164 (some ⟨gb,0,none⟩) code.length c1 0 0 Tryz.underlying143;have HB1:=Aside0.mk hB1;clear hB1 hv)
   go_ret
   exact ⟨rfl,HB1.out⟩
-- in the form of the print
def u1z.f (a0:ByteArray):Option Int:=some (if (u1i.parseM a0).isSome = true then 0 else 5)
end Go.Proofs.YtgnehcgaplnfkaaGreatDoor.PAll
namespace Go.Proofs.YtgnehcgaplnfkaaGreatDoor.PAll
open Go.RowKit Go.Proofs.YtgnehcgaplnfkaaGreatDoorW.PrintWords Go.Proofs.YtgnehcgaplnfkaaGreatDoorW.PrintLast
set_option linter.unusedVariables false
set_option linter.unusedSimpArgs false
namespace Sim
abbrev CS:=ud.CS
abbrev I:=S164
abbrev step:=ud.step
abbrev am:=uw.am
abbrev nx:=u2q.nx
abbrev mo:=u2g.mo
abbrev mem:=u2c.mem
abbrev spanM:=uf.spanM
abbrev loopM:=uf.loopM
abbrev cls:=uf.cls
abbrev neg:=uf.neg
open regex_coder_atom (M put need close)
theorem am_nil (m:ByteArray) (c:List I) (b:Bool):am m ⟨[],c,b⟩ = false:=rfl
theorem am41_dash (q:List Int) (c:List I) (b:Bool):am ⟨#[45]⟩ ⟨41 :: q,c,b⟩ = false:=by kernel_rfl
theorem am41_qual (q:List Int) (c:List I) (b:Bool):am ⟨#[42,43,63]⟩ ⟨41 :: q,c,b⟩ = false:=by kernel_rfl
theorem mem_cons (r:Int) (q:List Int) (c:List I) (b:Bool):mem ⟨r :: q,c,b⟩ = if r = 92 then step ⟨q,c,b || am ⟨#[93,45]⟩ ⟨r :: q,c,b⟩⟩ else (r,⟨q,c,b || am ⟨#[93,45]⟩ ⟨r :: q,c,b⟩⟩):=rfl
theorem mem_nil (c:List I) (b:Bool):(mem ⟨[],c,b⟩).2.bad = true:=rfl
theorem mem_sim (p:List Int) (c c':List I) (t:List Int) (h:(mem ⟨p,c,false⟩).2.bad = false) :
 ∃ x q,mem ⟨p,c,false⟩ = (x,⟨q,c,false⟩) ∧ mem ⟨p ++ t,c',false⟩ = (x,⟨q ++ t,c',false⟩) ∧ q.length + 1 ≤ p.length:=by
 cases p with
 | nil => rw [mem_nil] at h;cases h
 | cons r q =>
   rw [mem_cons] at h
   have hc:mem ⟨r :: q ++ t,c',false⟩ = if r = 92 then step ⟨q ++ t,c',false || am ⟨#[93,45]⟩ ⟨r :: q,c,false⟩⟩ else (r,⟨q ++ t,c',false || am ⟨#[93,45]⟩ ⟨r :: q,c,false⟩⟩):=rfl
   rw [mem_cons,hc]
   cases ha:am ⟨#[93,45]⟩ ⟨r :: q,c,false⟩ with
   | true =>
     rw [ha] at h
     exfalso
     by_cases h92:r = 92
     · rw [if_pos h92] at h
       cases q with
       | nil => cases h
       | cons _ _ => cases h
     · rw [if_neg h92] at h
       cases h
   | false =>
     rw [ha] at h
     by_cases h92:r = 92
     · rw [if_pos h92] at h
       rw [if_pos h92,if_pos h92]
       cases q with
       | nil => cases h
       | cons x q => exact ⟨x,q,rfl,rfl,by simp⟩
     · rw [if_neg h92,if_neg h92]
       exact ⟨r,q,rfl,rfl,by simp⟩
def hiM (x:Int) (s1:CS):Int × CS:=if s1.bad = false ∧ am ⟨#[45]⟩ s1 = true then mem (step s1).2 else (x,s1)
theorem span_is (s:CS) (x:Int) (s1:CS) (y:Int) (q:List Int) (c:List I) (b:Bool) (h:mem s = (x,s1)) (h2:hiM x s1 = (y,⟨q,c,b⟩)):spanM s = ((⟨x,y⟩:S191),⟨q,c,b || decide (y < x)⟩):=by
 have e:spanM s = ((⟨(mem s).1,(hiM (mem s).1 (mem s).2).1⟩:S191),⟨(hiM (mem s).1 (mem s).2).2.p,(hiM (mem s).1 (mem s).2).2.code,(hiM (mem s).1 (mem s).2).2.bad || decide ((hiM (mem s).1 (mem s).2).1 < (mem s).1)⟩):=rfl
 rw [e,h]
 simp only
 rw [h2]
theorem span_sim (p:List Int) (c c':List I) (t:List Int) (h:(spanM ⟨p,c,false⟩).2.bad = false) :
 ∃ x q,spanM ⟨p,c,false⟩ = (x,⟨q,c,false⟩) ∧ spanM ⟨p ++ 41 :: t,c',false⟩ = (x,⟨q ++ 41 :: t,c',false⟩) ∧ q.length + 1 ≤ p.length:=by
 have hm:(mem ⟨p,c,false⟩).2.bad = false:=by
  cases hb:(mem ⟨p,c,false⟩).2.bad with
  | false => rfl
  | true =>
    have e0:hiM (mem ⟨p,c,false⟩).1 (mem ⟨p,c,false⟩).2 = ((mem ⟨p,c,false⟩).1,⟨(mem ⟨p,c,false⟩).2.p,(mem ⟨p,c,false⟩).2.code,true⟩):=by
     unfold hiM
     rw [if_neg (by rw [hb];simp),← hb]
    rw [span_is _ (mem ⟨p,c,false⟩).1 (mem ⟨p,c,false⟩).2 _ _ _ _ rfl e0] at h
    cases h
 obtain ⟨x,q,h1,h2,hl⟩:=mem_sim p c c' (41 :: t) hm
 have hself:decide (x < x) = false:=decide_eq_false (by omega)
 cases q with
 | nil =>
   have g1:hiM x ⟨[],c,false⟩ = (x,⟨[],c,false⟩):=by unfold hiM;rw [if_neg (by rw [am_nil];simp)]
   have g2:hiM x ⟨[] ++ 41 :: t,c',false⟩ = (x,⟨[] ++ 41 :: t,c',false⟩):=by unfold hiM;rw [if_neg (by rw [List.nil_append,am41_dash];simp)]
   refine ⟨⟨x,x⟩,[],?_,?_,hl⟩
   · rw [span_is _ _ _ _ _ _ _ h1 g1,hself]
     rfl
   · rw [span_is _ _ _ _ _ _ _ h2 g2,hself]
     rfl
 | cons r q =>
   have ha:am ⟨#[45]⟩ ⟨r :: q ++ 41 :: t,c',false⟩ = am ⟨#[45]⟩ ⟨r :: q,c,false⟩:=rfl
   cases hb:am ⟨#[45]⟩ ⟨r :: q,c,false⟩ with
   | false =>
     have g1:hiM x ⟨r :: q,c,false⟩ = (x,⟨r :: q,c,false⟩):=by unfold hiM;rw [if_neg (by rw [hb];simp)]
     have g2:hiM x ⟨r :: q ++ 41 :: t,c',false⟩ = (x,⟨r :: q ++ 41 :: t,c',false⟩):=by unfold hiM;rw [if_neg (by rw [ha,hb];simp)]
     refine ⟨⟨x,x⟩,r :: q,?_,?_,hl⟩
     · rw [span_is _ _ _ _ _ _ _ h1 g1,hself]
       rfl
     · rw [span_is _ _ _ _ _ _ _ h2 g2,hself]
       rfl
   | true =>
     have g1:hiM x ⟨r :: q,c,false⟩ = mem ⟨q,c,false⟩:=by unfold hiM;rw [if_pos ⟨rfl,hb⟩];rfl
     have g2:hiM x ⟨r :: q ++ 41 :: t,c',false⟩ = mem ⟨q ++ 41 :: t,c',false⟩:=by unfold hiM;rw [if_pos ⟨rfl,by rw [ha,hb]⟩];rfl
     have hg:(mem ⟨q,c,false⟩).2.bad = false ∧ decide ((mem ⟨q,c,false⟩).1 < x) = false:=by
      rw [span_is _ _ _ (mem ⟨q,c,false⟩).1 (mem ⟨q,c,false⟩).2.p (mem ⟨q,c,false⟩).2.code (mem ⟨q,c,false⟩).2.bad h1 g1] at h
      exact Bool.or_eq_false_iff.1 h
     obtain ⟨y,q2,k1,k2,kl⟩:=mem_sim q c c' (41 :: t) hg.1
     have hd:=hg.2
     rw [k1] at g1 hd
     rw [k2] at g2
     refine ⟨⟨x,y⟩,q2,?_,?_,?_⟩
     · rw [span_is _ _ _ _ _ _ _ h1 g1,hd]
       rfl
     · rw [span_is _ _ _ _ _ _ _ h2 g2,hd]
       rfl
     · simp only [List.length_cons] at hl
       omega
theorem loop_bad (k:Nat) (f:Bool) (s:CS) (l:List S191) (h:s.bad = true):loopM k f s l = (l,s):=by
 cases k with
 | zero => rfl
 | succ k =>
   show (if s.bad = false ∧ (f = true ∨ am ⟨#[93]⟩ s = false) then loopM k false (spanM s).2 (l ++ [(spanM s).1]) else (l,s)) = (l,s)
   rw [if_neg (by rw [h];simp)]
theorem loop_sim (c c':List I) (t:List Int):∀ (k k':Nat) (f:Bool) (p:List Int) (l:List S191),p.length + 1 ≤ k → (p ++ 41 :: t).length + 1 ≤ k' → (loopM k f ⟨p,c,false⟩ l).2.bad = false → (loopM k f ⟨p,c,false⟩ l).2.p ≠ [] →
 ∃ l' q,loopM k f ⟨p,c,false⟩ l = (l',⟨q,c,false⟩) ∧ loopM k' f ⟨p ++ 41 :: t,c',false⟩ l = (l',⟨q ++ 41 :: t,c',false⟩):=by
 intro k
 induction k with
 | zero => exact fun k' f p l h => absurd h (by omega)
 | succ k ih =>
   intro k' f p l hk hk' hb hp
   obtain ⟨k',rfl⟩:∃ k2,k' = k2 + 1:=⟨k' - 1,by omega⟩
   have e1:loopM (k + 1) f ⟨p,c,false⟩ l = if (false:Bool) = false ∧ (f = true ∨ am ⟨#[93]⟩ ⟨p,c,false⟩ = false) then loopM k false (spanM ⟨p,c,false⟩).2 (l ++ [(spanM ⟨p,c,false⟩).1]) else (l,⟨p,c,false⟩):=rfl
   have e2:loopM (k' + 1) f ⟨p ++ 41 :: t,c',false⟩ l = if (false:Bool) = false ∧ (f = true ∨ am ⟨#[93]⟩ ⟨p ++ 41 :: t,c',false⟩ = false) then loopM k' false (spanM ⟨p ++ 41 :: t,c',false⟩).2 (l ++ [(spanM ⟨p ++ 41 :: t,c',false⟩).1]) else (l,⟨p ++ 41 :: t,c',false⟩):=rfl
   rw [e1] at hb hp
   rw [e1,e2]
   by_cases hc:(false:Bool) = false ∧ (f = true ∨ am ⟨#[93]⟩ ⟨p,c,false⟩ = false)
   · rw [if_pos hc] at hb hp
     rw [if_pos hc]
     have hs:(spanM ⟨p,c,false⟩).2.bad = false:=by
      cases hb2:(spanM ⟨p,c,false⟩).2.bad with
      | false => rfl
      | true =>
        rw [loop_bad _ _ _ _ hb2] at hb
        simp only at hb
        rw [hb2] at hb
        cases hb
     obtain ⟨x,q,g1,g2,gl⟩:=span_sim p c c' t hs
     rw [g1] at hb hp
     rw [g1,g2]
     have hpn:p ≠ []:=by rintro rfl;simp at gl
     have hc2:(false:Bool) = false ∧ (f = true ∨ am ⟨#[93]⟩ ⟨p ++ 41 :: t,c',false⟩ = false):=by
      cases p with
      | nil => exact absurd rfl hpn
      | cons r p => exact hc
     rw [if_pos hc2]
     exact ih k' false q _ (by omega) (by simp only [List.length_append] at hk' ⊢;omega) hb hp
   · rw [if_neg hc] at hb hp
     rw [if_neg hc]
     have hpn:p ≠ []:=hp
     have hc2:¬ ((false:Bool) = false ∧ (f = true ∨ am ⟨#[93]⟩ ⟨p ++ 41 :: t,c',false⟩ = false)):=by
      cases p with
      | nil => exact absurd rfl hpn
      | cons r p => exact hc
     rw [if_neg hc2]
     exact ⟨l,p,rfl,rfl⟩
def cl0 (s:CS):CS:=if neg s then (step s).2 else s
theorem cls_is (s:CS):cls s = ⟨(step (loopM ((cl0 s).p.length + 2) true (cl0 s) []).2).2.p,(step (loopM ((cl0 s).p.length + 2) true (cl0 s) []).2).2.code ++ [⟨1,(loopM ((cl0 s).p.length + 2) true (cl0 s) []).1,neg s,0,0⟩],(step (loopM ((cl0 s).p.length + 2) true (cl0 s) []).2).2.bad⟩:=rfl
theorem step_good {s:CS} (h:(step s).2.bad = false):s.p ≠ [] ∧ s.bad = false:=by
 obtain ⟨p,c,b⟩:=s
 cases p with
 | nil => cases h
 | cons r p => exact ⟨by simp,h⟩
theorem cls_sim (p:List Int) (c c':List I) (t:List Int) (h:(cls ⟨p,c,false⟩).bad = false) :
 ∃ q l no,cls ⟨p,c,false⟩ = ⟨q,c ++ [⟨1,l,no,0,0⟩],false⟩ ∧ cls ⟨p ++ 41 :: t,c',false⟩ = ⟨q ++ 41 :: t,c' ++ [⟨1,l,no,0,0⟩],false⟩:=by
 obtain ⟨p0,e0,e1,en⟩:∃ p0,cl0 ⟨p,c,false⟩ = ⟨p0,c,false⟩ ∧ cl0 ⟨p ++ 41 :: t,c',false⟩ = ⟨p0 ++ 41 :: t,c',false⟩ ∧ neg ⟨p ++ 41 :: t,c',false⟩ = neg ⟨p,c,false⟩:=by
  cases p with
  | nil => exact ⟨[],rfl,rfl,rfl⟩
  | cons r p =>
    have en:neg ⟨r :: p ++ 41 :: t,c',false⟩ = neg ⟨r :: p,c,false⟩:=rfl
    unfold cl0
    rw [en]
    cases neg ⟨r :: p,c,false⟩ with
    | true => exact ⟨p,rfl,rfl,rfl⟩
    | false => exact ⟨r :: p,rfl,rfl,rfl⟩
 rw [cls_is] at h
 rw [cls_is,cls_is,e0,e1,en]
 rw [e0] at h
 obtain ⟨h1,h2⟩:=step_good h
 obtain ⟨l',q,g1,g2⟩:=loop_sim c c' t (p0.length + 2) ((p0 ++ 41 :: t).length + 2) true p0 [] (by omega) (by omega) h2 h1
 have g1':loopM ((⟨p0,c,false⟩:CS).p.length + 2) true ⟨p0,c,false⟩ [] = (l',⟨q,c,false⟩):=g1
 have g2':loopM ((⟨p0 ++ 41 :: t,c',false⟩:CS).p.length + 2) true ⟨p0 ++ 41 :: t,c',false⟩ [] = (l',⟨q ++ 41 :: t,c',false⟩):=g2
 rw [g1'] at h1
 rw [g1',g2']
 cases q with
 | nil => exact absurd rfl h1
 | cons r q => exact ⟨q,l',_,rfl,rfl⟩
end Sim
end Go.Proofs.YtgnehcgaplnfkaaGreatDoor.PAll
namespace Go.Proofs.YtgnehcgaplnfkaaGreatDoor.PAll
open Go.RowKit Go.Proofs.YtgnehcgaplnfkaaGreatDoorW.PrintWords Go.Proofs.YtgnehcgaplnfkaaGreatDoorW.PrintLast
set_option linter.unusedVariables false
set_option linter.unusedSimpArgs false
namespace Sim
open regex_coder_atom (M put need close)
structure R (d:Int) (x y:I):Prop where
 f0:y.f0 = x.f0
 f1:y.f1 = x.f1
 f2:y.f2 = x.f2
 two:x.f0 = 2 → y.f3 = wrap64 (x.f3 + d) ∧ y.f4 = wrap64 (x.f4 + d)
 three:x.f0 = 3 → y.f3 = wrap64 (x.f3 + d)
def Rel (d:Int) (n n':List I):Prop:=n'.length = n.length ∧ ∀ (i:Nat) (x:I),n[i]? = some x → ∃ y,n'[i]? = some y ∧ R d x y
theorem Rel.nil (d:Int):Rel d [] []:=⟨rfl,fun i x h => by simp at h⟩
theorem Rel.one {d:Int} {x y:I} (h:R d x y):Rel d [x] [y]:=⟨rfl,fun i z hz => by
 cases i with
 | zero => exact ⟨y,rfl,by have:=Option.some.inj hz;rw [← this];exact h⟩
 | succ i => simp at hz⟩
theorem R.rune (d:Int) (l:List S191) (no:Bool):R d ⟨1,l,no,0,0⟩ ⟨1,l,no,0,0⟩:=⟨rfl,rfl,rfl,fun h => absurd h (show ¬ (1:Int) = 2 by decide),fun h => absurd h (show ¬ (1:Int) = 3 by decide)⟩
theorem Rel.append {d:Int} {a a' b b':List I} (h:Rel d a a') (h2:Rel d b b'):Rel d (a ++ b) (a' ++ b'):=by
 refine ⟨by rw [List.length_append,List.length_append,h.1,h2.1],fun i x hx => ?_⟩
 rcases Nat.lt_or_ge i a.length with hi | hi
 · rw [List.getElem?_append_left hi] at hx
   rw [List.getElem?_append_left (by rw [h.1];exact hi)]
   exact h.2 i x hx
 · rw [List.getElem?_append_right hi] at hx
   rw [List.getElem?_append_right (by rw [h.1];exact hi),h.1]
   exact h2.2 _ x hx
theorem wrap_add (a b c:Int):wrap64 (wrap64 (a + b) + c) = wrap64 (wrap64 (a + c) + b):=by
 unfold wrap64
 omega
theorem R.sh {d:Int} {x y:I} (h:R d x y):R d (u1y.sh 1 x) (u1y.sh 1 y):=by
 refine ⟨h.f0,h.f1,h.f2,fun h9 => ?_,fun h9 => ?_⟩
 · obtain ⟨e1,e2⟩:=h.two h9
   exact ⟨by show wrap64 (y.f3 + 1) = wrap64 (wrap64 (x.f3 + 1) + d);rw [e1,wrap_add],by show wrap64 (y.f4 + 1) = wrap64 (wrap64 (x.f4 + 1) + d);rw [e2,wrap_add]⟩
 · have e1:=h.three h9
   show wrap64 (y.f3 + 1) = wrap64 (wrap64 (x.f3 + 1) + d)
   rw [e1,wrap_add]
theorem Rel.sh {d:Int} {a a':List I} (h:Rel d a a'):Rel d (a.map (u1y.sh 1)) (a'.map (u1y.sh 1)):=by
 refine ⟨by rw [List.length_map,List.length_map,h.1],fun i x hx => ?_⟩
 rw [List.getElem?_map] at hx
 obtain ⟨x0,h1,rfl⟩:=Option.map_eq_some_iff.1 hx
 obtain ⟨y0,h2,h3⟩:=h.2 i x0 h1
 exact ⟨u1y.sh 1 y0,by rw [List.getElem?_map,h2];rfl,h3.sh⟩
theorem Rel.set {d:Int} {a a':List I} (h:Rel d a a') (j:Nat) {x y:I} (hx:R d x y):Rel d (a.set j x) (a'.set j y):=by
 refine ⟨by rw [List.length_set,List.length_set,h.1],fun i z hz => ?_⟩
 have hi:i < a.length:=by
  have:=(List.getElem?_eq_some_iff.1 hz).1
  rwa [List.length_set] at this
 by_cases hij:j = i
 · subst hij
   rw [List.getElem?_set_self hi] at hz
   refine ⟨y,by rw [List.getElem?_set_self (by rw [h.1];exact hi)],?_⟩
   rw [← Option.some.inj hz]
   exact hx
 · rw [List.getElem?_set_ne hij] at hz
   rw [List.getElem?_set_ne hij]
   exact h.2 i z hz
def Sm (t:List Int) (c c':List I) (s s':CS):Prop:=∃ q n n',s = ⟨q,c ++ n,false⟩ ∧ s' = ⟨q ++ 41 :: t,c' ++ n',false⟩ ∧ Rel ((c'.length:Int) - c.length) n n'
theorem M_bad (f:Nat):∀ (k d:Nat) (s:CS),k ≠ 0 → s.bad = true → (M f k d s).bad = true:=by
 induction f with
 | zero => exact fun k d s _ h => h
 | succ f ih =>
   intro k d s hk h
   match k with
   | 0 => exact absurd rfl hk
   | 1 =>
     show (if mo s = true ∧ am ⟨#[124,41]⟩ s = false then M f 1 d (regex_coder_atom.qual s.code.length (M f 0 d s)) else s).bad = true
     rw [if_neg (fun h9 => by have:=(regex_coder_atom.mo_ne h9.1).2;rw [h] at this;cases this)]
     exact h
   | k + 2 =>
     have h1:=ih 1 d s (by decide) h
     show (if mo (M f 1 d s) = true ∧ nx (M f 1 d s) = 124 then regex_coder_atom.aim (s.code.length + 1 + ((M f 1 d s).code.drop s.code.length).length) (M f 2 d (regex_coder_atom.bar s.code.length (M f 1 d s))) else M f 1 d s).bad = true
     rw [if_neg (fun h9 => by have:=(regex_coder_atom.mo_ne h9.1).2;rw [h1] at this;cases this)]
     exact h1
theorem wrap_small (x:Int) (h : -1000000 ≤ x) (h2:x ≤ 1000000):wrap64 x = x:=by
 unfold wrap64
 omega
theorem qual_sim {t:List Int} {c c':List I} {s s':CS} (h:Sm t c c' s s') (hc:c.length ≤ 1000) (hc':c'.length ≤ 1000) (hl:s.code.length ≤ 1000) :
 Sm t c c' (regex_coder_atom.qual c.length s) (regex_coder_atom.qual c'.length s'):=by
 obtain ⟨q,n,n',rfl,rfl,hr⟩:=h
 have hn:=hr.1
 simp only [List.length_append] at hl
 have ht:(c ++ n).take c.length = c:=by simp
 have hd:(c ++ n).drop c.length = n:=by simp
 have ht':(c' ++ n').take c'.length = c':=by simp
 have hd':(c' ++ n').drop c'.length = n':=by simp
 cases q with
 | nil =>
   have e1:regex_coder_atom.qual c.length ⟨[],c ++ n,false⟩ = ⟨[],c ++ n,false⟩:=by
    unfold regex_coder_atom.qual
    rw [if_neg (fun h9 => by have h8:=h9.2;rw [show uw.am ⟨#[42,43,63]⟩ ⟨[],c ++ n,false⟩ = false from rfl] at h8;cases h8)]
   have e2:regex_coder_atom.qual c'.length ⟨[] ++ 41 :: t,c' ++ n',false⟩ = ⟨[] ++ 41 :: t,c' ++ n',false⟩:=by
    unfold regex_coder_atom.qual
    rw [if_neg (fun h9 => by have h8:=h9.2;rw [show uw.am ⟨#[42,43,63]⟩ ⟨[] ++ 41 :: t,c' ++ n',false⟩ = false from am41_qual t _ _] at h8;cases h8)]
   rw [e1,e2]
   exact ⟨[],n,n',rfl,rfl,hr⟩
 | cons r q =>
   have ha:uw.am ⟨#[42,43,63]⟩ ⟨r :: q ++ 41 :: t,c' ++ n',false⟩ = uw.am ⟨#[42,43,63]⟩ ⟨r :: q,c ++ n,false⟩:=rfl
   have hs:ud.step { (⟨r :: q,c ++ n,false⟩:CS) with code:=(⟨r :: q,c ++ n,false⟩:CS).code.take c.length } = (r,⟨q,c,false⟩):=by
    show ud.step ⟨r :: q,(c ++ n).take c.length,false⟩ = _
    rw [ht]
    rfl
   have hs':ud.step { (⟨r :: q ++ 41 :: t,c' ++ n',false⟩:CS) with code:=(⟨r :: q ++ 41 :: t,c' ++ n',false⟩:CS).code.take c'.length } = (r,⟨q ++ 41 :: t,c',false⟩):=by
    show ud.step ⟨r :: q ++ 41 :: t,(c' ++ n').take c'.length,false⟩ = _
    rw [ht']
    rfl
   unfold regex_coder_atom.qual
   rw [ha]
   by_cases hq:(⟨r :: q,c ++ n,false⟩:CS).bad = false ∧ uw.am ⟨#[42,43,63]⟩ ⟨r :: q,c ++ n,false⟩ = true
   · rw [if_pos hq,if_pos (show (⟨r :: q ++ 41 :: t,c' ++ n',false⟩:CS).bad = false ∧ _ from ⟨rfl,hq.2⟩),hs,hs']
     simp only [hd,hd']
     by_cases h42:r = 42
     · rw [if_pos h42,if_pos h42]
       refine ⟨q,[⟨2,[],false,(c.length:Int) + 1,(c.length:Int) + (n.length:Int) + 2⟩] ++ n.map (u1y.sh 1) ++ [⟨3,[],false,c.length,0⟩],[⟨2,[],false,(c'.length:Int) + 1,(c'.length:Int) + (n'.length:Int) + 2⟩] ++ n'.map (u1y.sh 1) ++ [⟨3,[],false,c'.length,0⟩],?_,?_,((Rel.one ?_).append hr.sh).append (Rel.one ?_)⟩
       · simp [regex_coder_atom.put]
       · simp [regex_coder_atom.put]
       · refine ⟨rfl,rfl,rfl,fun _ => ⟨?_,?_⟩,fun h9 => absurd h9 (show ¬ (2:Int) = 3 by decide)⟩
         · show (c'.length:Int) + 1 = wrap64 ((c.length:Int) + 1 + ((c'.length:Int) - c.length))
           rw [wrap_small _ (by omega) (by omega)]
           omega
         · show (c'.length:Int) + (n'.length:Int) + 2 = wrap64 ((c.length:Int) + (n.length:Int) + 2 + ((c'.length:Int) - c.length))
           rw [wrap_small _ (by omega) (by omega)]
           omega
       · refine ⟨rfl,rfl,rfl,fun h9 => absurd h9 (show ¬ (3:Int) = 2 by decide),fun _ => ?_⟩
         show (c'.length:Int) = wrap64 ((c.length:Int) + ((c'.length:Int) - c.length))
         rw [wrap_small _ (by omega) (by omega)]
         omega
     · rw [if_neg h42,if_neg h42]
       by_cases h43:r = 43
       · rw [if_pos h43,if_pos h43]
         refine ⟨q,n ++ [⟨2,[],false,c.length,(c.length:Int) + (n.length:Int) + 1⟩],n' ++ [⟨2,[],false,c'.length,(c'.length:Int) + (n'.length:Int) + 1⟩],?_,?_,hr.append (Rel.one ?_)⟩
         · simp [regex_coder_atom.put]
         · simp [regex_coder_atom.put]
         · refine ⟨rfl,rfl,rfl,fun _ => ⟨?_,?_⟩,fun h9 => absurd h9 (show ¬ (2:Int) = 3 by decide)⟩
           · show (c'.length:Int) = wrap64 ((c.length:Int) + ((c'.length:Int) - c.length))
             rw [wrap_small _ (by omega) (by omega)]
             omega
           · show (c'.length:Int) + (n'.length:Int) + 1 = wrap64 ((c.length:Int) + (n.length:Int) + 1 + ((c'.length:Int) - c.length))
             rw [wrap_small _ (by omega) (by omega)]
             omega
       · rw [if_neg h43,if_neg h43]
         refine ⟨q,[⟨2,[],false,(c.length:Int) + 1,(c.length:Int) + (n.length:Int) + 1⟩] ++ n.map (u1y.sh 1),[⟨2,[],false,(c'.length:Int) + 1,(c'.length:Int) + (n'.length:Int) + 1⟩] ++ n'.map (u1y.sh 1),?_,?_,(Rel.one ?_).append hr.sh⟩
         · simp [regex_coder_atom.put]
         · simp [regex_coder_atom.put]
         · refine ⟨rfl,rfl,rfl,fun _ => ⟨?_,?_⟩,fun h9 => absurd h9 (show ¬ (2:Int) = 3 by decide)⟩
           · show (c'.length:Int) + 1 = wrap64 ((c.length:Int) + 1 + ((c'.length:Int) - c.length))
             rw [wrap_small _ (by omega) (by omega)]
             omega
           · show (c'.length:Int) + (n'.length:Int) + 1 = wrap64 ((c.length:Int) + (n.length:Int) + 1 + ((c'.length:Int) - c.length))
             rw [wrap_small _ (by omega) (by omega)]
             omega
   · rw [if_neg hq,if_neg (show ¬ ((⟨r :: q ++ 41 :: t,c' ++ n',false⟩:CS).bad = false ∧ _) from fun h9 => hq ⟨rfl,h9.2⟩)]
     exact ⟨r :: q,n,n',rfl,rfl,hr⟩
end Sim
end Go.Proofs.YtgnehcgaplnfkaaGreatDoor.PAll
namespace Go.Proofs.YtgnehcgaplnfkaaGreatDoor.PAll
open Go.RowKit Go.Proofs.YtgnehcgaplnfkaaGreatDoorW.PrintWords Go.Proofs.YtgnehcgaplnfkaaGreatDoorW.PrintLast
set_option linter.unusedVariables false
set_option linter.unusedSimpArgs false
namespace Sim
open regex_coder_atom (M put need close)
theorem atom_is (alts:Nat → CS → CS) (d:Nat) (r:Int) (q:List Int) (c:List I):regex_coder_atom.atomM alts d ⟨r :: q,c,false⟩ =
 if am ⟨#[42,43,63,124,41,93]⟩ ⟨r :: q,c,false⟩ = true then ⟨r :: q,c,true⟩
 else if r = 46 then ⟨q,c ++ [⟨1,[],true,0,0⟩],false⟩
 else if r = 91 then cls ⟨q,c,false⟩
 else if r = 40 then (if (false:Bool) = true ∨ 10 ≤ d then ⟨q,c,true⟩ else close (alts (d + 1) ⟨q,c,false⟩))
 else if r = 92 then put (step ⟨q,c,false⟩).2 [⟨1,[⟨(step ⟨q,c,false⟩).1,(step ⟨q,c,false⟩).1⟩],false,0,0⟩]
 else ⟨q,c ++ [⟨1,[⟨r,r⟩],false,0,0⟩],false⟩:=rfl
theorem piece_is (f d:Nat) (s:CS):M (f + 1) 1 d s = if mo s = true ∧ am ⟨#[124,41]⟩ s = false then M f 1 d (regex_coder_atom.qual s.code.length (M f 0 d s)) else s:=rfl
theorem alts_is (f d:Nat) (s:CS):M (f + 1) 2 d s = if mo (M f 1 d s) = true ∧ nx (M f 1 d s) = 124 then regex_coder_atom.aim (s.code.length + 1 + ((M f 1 d s).code.drop s.code.length).length) (M f 2 d (regex_coder_atom.bar s.code.length (M f 1 d s))) else M f 1 d s:=rfl
theorem mo_nil (c:List I) (b:Bool):mo ⟨[],c,b⟩ = false:=rfl
end Sim
end Go.Proofs.YtgnehcgaplnfkaaGreatDoor.PAll
namespace Go.Proofs.YtgnehcgaplnfkaaGreatDoor.PAll
open Go.RowKit Go.Proofs.YtgnehcgaplnfkaaGreatDoorW.PrintWords Go.Proofs.YtgnehcgaplnfkaaGreatDoorW.PrintLast Go.Proofs.YtgnehcgaplnfkaaGreatDoorW.PrintMore
attribute [local go_sem] u3r u3t u4c u4b u3n u3o u3u u3s
set_option linter.unusedVariables false
set_option linter.unusedSimpArgs false
def u3a.quietB (r:Int):Bool:=!(decide (r < 32) || decide (r = 127))
def u3a.canB (kind:Int) (name value:ByteArray):Bool :=
 (if kind = 1 ∨ kind = 2 then (decide (value.size = 0) || Base.valueB value)
  else if kind = 3 ∨ kind = 4 then (Base.runesOf value).all u3a.quietB && (u1i.parseM value).isSome
  else false) && Base.nameB name
theorem u3a.of_pair {kind:Int} {name value:ByteArray} (h:kind = 1 ∨ kind = 2):u3a.canB kind name value = ((decide (value.size = 0) || Base.valueB value) && Base.nameB name):=by
 unfold u3a.canB
 rw [if_pos h]
theorem u3a.of_like {kind:Int} {name value:ByteArray} (h:kind = 3 ∨ kind = 4):u3a.canB kind name value = (((Base.runesOf value).all u3a.quietB && (u1i.parseM value).isSome) && Base.nameB name):=by
 unfold u3a.canB
 rw [if_neg (by omega),if_pos h]
theorem u3a.empty_list (s:ByteArray):s.toList.isEmpty = decide (s.size = 0):=by
 by_cases h:s.size = 0
 · rw [(Base.toList_nil s).2 h,decide_eq_true h]
   rfl
 · rw [decide_eq_false h]
   cases hl:s.toList with
   | nil => exact absurd ((Base.toList_nil s).1 hl) h
   | cons _ _ => rfl
set_option maxHeartbeats 4000000 in
set_option maxRecDepth 10000 in
theorem u3a.calls (w:World) (kind:Int) (name value:ByteArray) (hG:strings_ToValidUTF8.Gd w) :
 Calls Tryz.prog 68 #[.agg #[.int .i64 kind,.string name,.string value]] w fun e w' => e = .returned (.bool (u3a.canB kind name value)) ∧ Below w.heap.size w w':=by
 obtain ⟨Wa,hWa⟩:∃ Wa,Aside0 (w.alloc (.cells #[.int .i64 kind,.string name,.string value] 79) = Wa):=⟨_,⟨rfl⟩⟩
 have hbl:Below w.heap.size w Wa:=by rw [← hWa.out];exact uj (Below.refl _ _) _
 have hbx:Wa.heap[w.heap.size]? = some (.cells #[.int .i64 kind,.string name,.string value] 79 (0,0)):=by rw [← hWa.out];exact u3l _ _
 have HB:=Aside0.mk hbl
 have HX:=Aside0.mk hbx
 have HG:=Aside0.mk (hG.below hbl)
 have HSZ:Aside0 (Wa.heap.size = w.heap.size + 1):=⟨by rw [← hWa.out];simp⟩
 obtain ⟨nm,hnm⟩:∃ b,Aside0 (Base.nameB name = b):=⟨_,⟨rfl⟩⟩
 have hnf:Aside0 (u2d.f name = some nm):=⟨by rw [← hnm.out];rfl⟩
 clear hbl hbx hG
 by_cases h12:kind = 1 ∨ kind = 2
 · have HV:Aside0 (u3a.canB kind name value = ((decide (value.size = 0) || Base.valueB value) && nm)):=⟨by rw [u3a.of_pair h12,hnm.out]⟩
   have hkk:((kind == 1) = true ∧ kind = 1) ∨ ((kind == 1) = false ∧ (kind == 2) = true ∧ kind = 2):=by
    rcases h12 with rfl | rfl
    · exact Or.inl ⟨rfl,rfl⟩
    · exact Or.inr ⟨rfl,rfl,rfl⟩
   clear h12
   rw [HV.out]
   have he:=u3a.empty_list value
   obtain ⟨vb,hvb⟩:∃ b,Aside0 (Base.valueB value = b):=⟨_,⟨rfl⟩⟩
   have hvf:Aside0 (u4d.f value = some vb):=⟨by rw [← hvb.out];rfl⟩
   rw [hvb.out]
   by_cases h0:value.size = 0
   · rw [decide_eq_true h0] at he ⊢
     have hel:value.toList = []:=(Base.toList_nil value).2 h0
     clear h0 HV
     rcases hkk with ⟨_,rfl⟩ | ⟨_,_,rfl⟩
     all_goals
      have c0:=uk HX.out 0
      go_enter Tryz.func68,Tryz.ntmps68
      go_wp2_with (first
       | (go_at_call 63;rw [hWa.out];(with_reducible refine (u2d.calls name nm Wa hnf.out).mono ?_);rintro e W2 ⟨rfl,hB2⟩;have HB2:=Aside0.mk hB2;clear hB2))
      go_ret
      exact ⟨rfl,u1c HB.out HB.out.size HB2.out⟩
   · rw [decide_eq_false h0] at he ⊢
     have hen:¬ value.toList = []:=by intro hl;rw [hl] at he;simp at he
     clear h0 HV
     cases vb
     all_goals
      rcases hkk with ⟨_,rfl⟩ | ⟨_,_,rfl⟩
      all_goals
       go_enter Tryz.func68,Tryz.ntmps68
       go_wp2_with (first
        | (go_at_call 64;rw [hWa.out];(with_reducible refine (u4d.calls value _ Wa hvf.out).mono ?_);rintro e W1 ⟨rfl,hB1⟩
           have hx1:=u1h HX.out hB1
           have c0:=uk hx1 0
           have c1:=uk hx1 1
           simp only [List.size_toArray,List.length_cons,List.length_nil,List.getElem?_toArray,List.getElem?_cons_zero,List.getElem?_cons_succ] at c0 c1
           have HB1:Aside0 (Below w.heap.size w W1):=⟨u1c HB.out HB.out.size hB1⟩
           clear hB1 hx1)
        | (go_at_call 63;(with_reducible refine (u2d.calls name nm W1 hnf.out).mono ?_);rintro e W2 ⟨rfl,hB2⟩;have HB2:=Aside0.mk hB2;clear hB2))
       go_ret
       first
        | exact ⟨rfl,HB1.out⟩
        | exact ⟨rfl,u1c HB1.out HB1.out.size HB2.out⟩
 · by_cases h34:kind = 3 ∨ kind = 4
   · have HV:Aside0 (u3a.canB kind name value = (((Base.runesOf value).all u3a.quietB && (u1i.parseM value).isSome) && nm)):=⟨by rw [u3a.of_like h34,hnm.out]⟩
     have c0a:=uk HX.out 0
     have c1a:=uk HX.out 1
     have c2a:=uk HX.out 2
     simp only [List.size_toArray,List.length_cons,List.length_nil,List.getElem?_toArray,List.getElem?_cons_zero,List.getElem?_cons_succ] at c0a c1a c2a
     rw [HV.out]
     clear h12 HV
     have hit0:Aside0 ((Wa.iter value 0).heap[w.heap.size + 1]? = some (.stringIter value 0)):=⟨by
      have:=World.iter_heap Wa value 0
      rw [HSZ.out] at this
      exact this⟩
     have hbi:Aside0 (Below Wa.heap.size Wa (Wa.iter value 0)):=⟨(Below.refl _ Wa).alloc (Nat.le_refl _) _⟩
     obtain ⟨Wi,hWi⟩:∃ Wi,Aside0 (Wa.iter value 0 = Wi):=⟨_,⟨rfl⟩⟩
     rw [hWi.out] at hit0 hbi
     rcases h34 with rfl | rfl
     all_goals
      go_enter Tryz.func68,Tryz.ntmps68
      go_wp2
      rw [hWa.out,hWi.out]
      go_loopw [] (fun wr => ∃ (pos fuel:Nat),wr.heap[w.heap.size + 1]? = some (.stringIter value pos) ∧ Aside0 (Below Wa.heap.size Wa wr) ∧ Aside0 ((Base.runesFrom value fuel pos).all u3a.quietB = (Base.runesOf value).all u3a.quietB) ∧ value.size ≤ fuel + pos)
       (fun wr => value.size - wr.iterPos (w.heap.size + 1))
      case atStart => exact ⟨0,value.size,hit0.out,hbi,⟨rfl⟩,by omega⟩
      case round =>
       obtain ⟨pos,fuel,hit,hbw,HE,hfu⟩:=hrel
       have hxr:=u1h HX.out hbw.out
       have c0:=uk hxr 0
       have c1:=uk hxr 1
       have c2:=uk hxr 2
       simp only [List.size_toArray,List.length_cons,List.length_nil,List.getElem?_toArray,List.getElem?_cons_zero,List.getElem?_cons_succ] at c0 c1 c2
       have HBr:Aside0 (Below w.heap.size w wr):=⟨u1c HB.out HB.out.size hbw.out⟩
       clear hxr c0a c1a c2a
       by_cases hp:pos < value.size
       · have hnx:∀ ty,(Instr.next (.pointer (some ⟨w.heap.size + 1,0,none⟩)) true ty).run Tryz.prog wr = _:=fun ty => Lib.run_next_any_at wr (w.heap.size + 1) value pos ty hit hp
         have hwd:=Base.width_pos value pos hp
         have hd1:=decode_le value pos
         obtain ⟨f,rfl⟩:∃ f,fuel = f + 1:=⟨fuel - 1,by omega⟩
         have hst:=Base.runesFrom_step value f pos hp
         obtain ⟨r,hr⟩:∃ r:Nat,(Utf8.decode value pos).1 = r:=⟨_,rfl⟩
         obtain ⟨pos2,hpos2⟩:∃ q,pos + (Utf8.decode value pos).2 = q:=⟨_,rfl⟩
         rw [hr] at hnx hd1 hst
         rw [hpos2] at hnx hst
         rw [hst,List.all_cons] at HE
         have hpl:pos < pos2:=by omega
         clear hst hr hpos2 hwd
         have hit2:=Aside0.mk (Lib.iterAt_heap wr (w.heap.size + 1) value pos pos2 hit)
         have hbw2:Aside0 (Below Wa.heap.size Wa (wr.iterAt (w.heap.size + 1) value pos2)):=⟨Lib.below_iterAt hbw.out (by rw [HSZ.out];exact Nat.le_refl _) value pos2⟩
         have HBr2:Aside0 (Below w.heap.size w (wr.iterAt (w.heap.size + 1) value pos2)):=⟨u1c HB.out HB.out.size hbw2.out⟩
         by_cases h32:r < 32
         · have hd:decide ((r:Int) < 32) = true:=decide_eq_true (by omega)
           have HQ:Aside0 (u3a.quietB (r:Int) = false):=⟨by unfold u3a.quietB;rw [hd];rfl⟩
           rw [HQ.out,Bool.false_and] at HE
           go_wp2
           go_ret
           exact ⟨by rw [← HE.out];rfl,HBr2.out⟩
         · have hd:decide ((r:Int) < 32) = false:=decide_eq_false (by omega)
           by_cases h127:r = 127
           · have he:((r:Int) == 127) = true:=by simp;omega
             have HQ:Aside0 (u3a.quietB (r:Int) = false):=⟨by unfold u3a.quietB;rw [hd,decide_eq_true (show (r:Int) = 127 by omega)];rfl⟩
             rw [HQ.out,Bool.false_and] at HE
             clear h127
             go_wp2
             go_ret
             exact ⟨by rw [← HE.out];rfl,HBr2.out⟩
           · have he:((r:Int) == 127) = false:=by simp;omega
             have HQ:Aside0 (u3a.quietB (r:Int) = true):=⟨by unfold u3a.quietB;rw [hd,decide_eq_false (show ¬ (r:Int) = 127 by omega)];rfl⟩
             rw [HQ.out,Bool.true_and] at HE
             clear h127
             go_wp2
             go_roundw
             case rel => exact ⟨pos2,f,hit2.out,hbw2,HE,by omega⟩
             case measure =>
              have h9:=hit2.out
              simp only [World.iterPos,h9,hit]
              omega
       · have hnx:∀ ty,(Instr.next (.pointer (some ⟨w.heap.size + 1,0,none⟩)) true ty).run Tryz.prog wr = _:=fun ty => Lib.run_next_end_at wr (w.heap.size + 1) value pos ty hit hp
         have HQ:Aside0 ((Base.runesOf value).all u3a.quietB = true):=⟨by
          rw [← HE.out,Base.runesFrom_end value fuel pos hp]
          rfl⟩
         obtain ⟨pm,hpm⟩:∃ b,Aside0 ((u1i.parseM value).isSome = b):=⟨_,⟨rfl⟩⟩
         have HGr:=Aside0.mk (HG.out.below hbw.out)
         cases pm
         all_goals
          go_wp2_with (first
           | (go_at_call 88;(with_reducible refine (u1z.calls wr value HGr.out).mono ?_);rintro e W1 ⟨rfl,hB1⟩;rw [hpm.out]
              have hx1:=u1h (u1h HX.out hbw.out) hB1
              have d1:=uk hx1 1
              simp only [List.size_toArray,List.length_cons,List.length_nil,List.getElem?_toArray,List.getElem?_cons_zero,List.getElem?_cons_succ] at d1
              have HB1:Aside0 (Below w.heap.size w W1):=⟨u1c HBr.out HBr.out.size hB1⟩
              clear hB1 hx1
              simp only [if_true,if_false,Bool.false_eq_true])
           | (go_at_call 63;(with_reducible refine (u2d.calls name nm W1 hnf.out).mono ?_);rintro e W2 ⟨rfl,hB2⟩;have HB2:=Aside0.mk hB2;clear hB2))
          go_ret
          first
           | exact ⟨by rw [HQ.out,hpm.out];rfl,HB1.out⟩
           | exact ⟨by rw [HQ.out,hpm.out];rfl,u1c HB1.out HB1.out.size HB2.out⟩
   · have b1:(kind == 1) = false:=by simp;omega
     have b2:(kind == 2) = false:=by simp;omega
     have b3:(kind == 3) = false:=by simp;omega
     have b4:(kind == 4) = false:=by simp;omega
     have HO:Aside0 (u3a.canB kind name value = false):=⟨by
      unfold u3a.canB
      rw [if_neg h12,if_neg h34]
      rfl⟩
     rw [HO.out]
     clear h12 h34
     go_enter Tryz.func68,Tryz.ntmps68
     go_wp2
     rw [hWa.out]
     go_ret
     exact ⟨rfl,HB.out⟩
-- in the form of the print
def u3a.f (a0:Int) (a1 a2:ByteArray):Option Bool:=some (u3a.canB a0 a1 a2)
abbrev u1l.Mt:=S79
def u1l.okB (x:u1l.Mt):Bool:=u3a.canB x.f0 x.f1 x.f2
def u1l.RetA (P:Prop) (e:Ending):Prop:=∃ i:Int,e = .returned (.int .i64 i) ∧ (0 ≤ i ↔ P)
def u1l.CanB (l:List u1l.Mt):Bool:=decide (l.length ≤ 6) && l.all u1l.okB
theorem u1l.elem {w:World} {A:Option Addr} {l:List u1l.Mt} (h:Kd.C k79 w A l.length l) (x:Nat) (hx:x < l.length) :
 ∃ ad,A = some ad ∧ w.cell? (ad.add (x * 3)) = some (.int .i64 (u1s l x).f0) ∧ w.cell? ⟨(ad.add (x * 3)).block,(ad.add (x * 3)).off + 1,none⟩ = some (.string (u1s l x).f1) ∧ w.cell? ⟨(ad.add (x * 3)).block,(ad.add (x * 3)).off + 2,none⟩ = some (.string (u1s l x).f2):=by
 obtain ⟨ad,e,hc0,hc1,hc2⟩:=at_T79 h (x:Int) (by omega) (by omega)
 exact ⟨ad,e,by simpa using hc0,by simpa using hc1,by simpa using hc2⟩
theorem u1l.rd_get (l:List u1l.Mt) (x:Nat) (hx:x < l.length):u1s l (x:Int) = l[x]'hx:=by simp [u1s,hx]
theorem u1l.test (x:u1l.Mt) (w:World) (hG:strings_ToValidUTF8.Gd w) :
 Calls Tryz.prog 67 #[.agg #[.int .i64 x.f0,.string x.f1,.string x.f2]] w fun e w' => e = .returned (.bool (!u1l.okB x)) ∧ Below w.heap.size w w':=by
 obtain ⟨Wa,hWa⟩:∃ Wa,Aside0 (w.alloc (.cells #[.int .i64 x.f0,.string x.f1,.string x.f2] 79) = Wa):=⟨_,⟨rfl⟩⟩
 have hbl:Below w.heap.size w Wa:=by rw [← hWa.out];exact uj (Below.refl _ _) _
 have HB:=Aside0.mk hbl
 have HG:=Aside0.mk (hG.below hbl)
 obtain ⟨b,hb⟩:∃ b,Aside0 (u1l.okB x = b):=⟨_,⟨rfl⟩⟩
 have HC:Aside0 (u3a.canB x.f0 x.f1 x.f2 = b):=⟨hb.out⟩
 rw [hb.out]
 clear hbl hG
 go_enter Tryz.func67,Tryz.ntmps67
 go_wp2_with (first
  | (go_at_call 68;rw [hWa.out];(with_reducible refine (u3a.calls Wa x.f0 x.f1 x.f2 HG.out).mono ?_);rintro e W1 ⟨rfl,hB1⟩;rw [HC.out];have HB1:=Aside0.mk hB1;clear hB1))
 go_ret
 exact ⟨rfl,u1c HB.out HB.out.size HB1.out⟩
set_option maxHeartbeats 1000000 in
theorem u1l.index (A:Option Addr) (c:Nat) (l:List u1l.Mt) (w:World) (hr:Kd.C k79 w A l.length l) (hm:l.length ≤ 9223372036854775807) (hG:strings_ToValidUTF8.Gd w) :
 Calls Tryz.prog 87 #[.slice A l.length c,.func (.func 67) #[] #[]] w fun e w' =>
  u1l.RetA (l.all u1l.okB = false) e ∧ Below w.heap.size w w':=by
 have HR:=Aside0.mk hr
 have HG:=Aside0.mk hG
 clear hr hG
 go_enter Tryz.func87,Tryz.ntmps87
 go_wp2
 go_loopg [8] (l.length) (fun kq v8 wr => ∃ (x:Nat),x ≤ l.length ∧ v8 = .int .i64 x ∧ Aside0 (∀ j (hj:j < l.length),j < x → u1l.okB (l[j]'hj) = true) ∧ l.length ≤ kq + x ∧ Below w.heap.size w wr)
 case atStart => exact ⟨0,by omega,rfl,⟨fun j _ hj => absurd hj (by omega)⟩,by omega,Below.refl _ _⟩
 case round =>
  obtain ⟨x,hx,rfl,HN,hk,hB⟩:=hrel
  have HB:=Aside0.mk hB
  clear hB
  by_cases hlt:x < l.length
  · obtain ⟨ad,e,hc0,hc1,hc2⟩:=u1l.elem (Kd.C_below HR.out HB.out) x hlt
    subst e
    have HGr:=Aside0.mk (HG.out.below HB.out)
    have HRD:=Aside0.mk (u1l.rd_get l x hlt)
    obtain ⟨y,hy⟩:∃ y,Aside0 (u1s l (x:Int) = y):=⟨_,⟨rfl⟩⟩
    rw [hy.out] at hc0 hc1 hc2 HRD
    cases hb:u1l.okB y with
    | false =>
      have HBF:=Aside0.mk hb
      clear hb
      go_wp2_with (go_at_call 67;(with_reducible refine (u1l.test y _ HGr.out).mono ?_);rintro e W1 ⟨rfl,hb1⟩;rw [HBF.out];have HB1:=Aside0.mk hb1;clear hb1)
      go_ret
      refine ⟨⟨x,rfl,⟨fun _ => ?_,fun _ => by omega⟩⟩,HB.out.trans (HB1.out.mono HB.out.size)⟩
      rw [List.all_eq_false]
      exact ⟨y,by rw [HRD.out];exact List.getElem_mem hlt,by simp [HBF.out]⟩
    | true =>
      have HBF:=Aside0.mk hb
      clear hb
      obtain ⟨g1,rfl⟩:∃ g1,gk = g1 + 1:=⟨gk - 1,by omega⟩
      go_wp2_with (go_at_call 67;(with_reducible refine (u1l.test y _ HGr.out).mono ?_);rintro e W1 ⟨rfl,hb1⟩;rw [HBF.out];have HB1:=Aside0.mk hb1;clear hb1)
      go_roundg g1
      case rel =>
       refine ⟨x + 1,by omega,by go_num,⟨fun j hj hjx => ?_⟩,by omega,HB.out.trans (HB1.out.mono HB.out.size)⟩
       rcases Nat.lt_or_ge j x with h9 | h9
       · exact HN.out j hj h9
       · have:j = x:=by omega
         subst this
         rw [← HRD.out]
         exact HBF.out
      case measure => omega
  · go_wp2
    go_ret
    refine ⟨⟨-1,rfl,⟨fun h => absurd h (by decide),fun h => ?_⟩⟩,HB.out⟩
    exfalso
    rw [List.all_eq_false] at h
    obtain ⟨y,hy,h2⟩:=h
    obtain ⟨j,hj,rfl⟩:=List.getElem_of_mem hy
    exact h2 (HN.out j hj (by omega))
theorem u1l.contains (A:Option Addr) (c:Nat) (l:List u1l.Mt) (w:World) (hr:Kd.C k79 w A l.length l) (hG:strings_ToValidUTF8.Gd w) :
 Calls Tryz.prog 66 #[.slice A l.length c,.func (.func 67) #[] #[]] w fun e w' => e = .returned (.bool (!l.all u1l.okB)) ∧ Below w.heap.size w w':=by
 have hm:=hr.2.1
 go_enter Tryz.func66,Tryz.ntmps66
 go_wp2_with (go_at_call 87;refine (u1l.index _ _ _ _ hr hm hG).mono ?_;rintro e W1 ⟨⟨i,rfl,hi⟩,hb1⟩;have HI:=Aside0.mk hi;clear hi)
 go_ret
 have hd:decide (0 ≤ i) = !l.all u1l.okB:=by
  cases hl:l.all u1l.okB with
  | false => exact decide_eq_true (HI.out.2 hl)
  | true => exact decide_eq_false (fun h => (by have h9:=HI.out.1 h;rw [hl] at h9;cases h9))
 exact ⟨by rw [← hd];rfl,hb1⟩
theorem u1l.calls (A:Option Addr) (c:Nat) (l:List u1l.Mt) (w:World) (hr:Kd.C k79 w A l.length l) (hc:l.length ≤ c) (hG:strings_ToValidUTF8.Gd w) :
 Calls Tryz.prog 36 #[.slice A l.length c] w fun e w' => e = .returned (.bool (u1l.CanB l)) ∧ Below w.heap.size w w':=by
 have HR:=Aside0.mk hr
 have HG:=Aside0.mk hG
 clear hr hG
 by_cases h6:l.length ≤ 6
 · have hd:decide ((l.length:Int) ≤ 6) = true:=decide_eq_true (by omega)
   have HV:Aside0 (u1l.CanB l = l.all u1l.okB):=⟨by unfold u1l.CanB;rw [decide_eq_true h6];rfl⟩
   rw [HV.out]
   obtain ⟨b,hb⟩:∃ b,Aside0 (l.all u1l.okB = b):=⟨_,⟨rfl⟩⟩
   rw [hb.out]
   go_enter Tryz.func36,Tryz.ntmps36
   go_wp2_with (go_at_call 66;refine (u1l.contains A c l w HR.out HG.out).mono ?_;rintro e W1 ⟨rfl,hb1⟩;rw [hb.out])
   go_ret
   exact ⟨by simp,hb1⟩
 · have hd:decide ((l.length:Int) ≤ 6) = false:=decide_eq_false (by omega)
   have HV:Aside0 (u1l.CanB l = false):=⟨by unfold u1l.CanB;rw [decide_eq_false h6];rfl⟩
   rw [HV.out]
   go_enter Tryz.func36,Tryz.ntmps36
   go_wp2
   go_ret
   exact ⟨rfl,Below.refl _ _⟩
-- in the form of the print
def u1l.f (l0:List u1l.Mt):Option Bool:=some (u1l.CanB l0)
theorem u1l.callsP (A0:Option Addr) (c0:Nat) (l0:List u1l.Mt) (r:Bool) (w:World) (hr0:Kd.C k79 w A0 l0.length l0) (hc0:l0.length ≤ c0) (hG:strings_ToValidUTF8.Gd w) (h:u1l.f l0 = some r) :
 Calls Tryz.prog 36 #[.slice A0 l0.length c0] w fun e w' => e = .returned (.bool r) ∧ Below w.heap.size w w':=by
 obtain rfl:=Option.some.inj h
 exact u1l.calls A0 c0 l0 w hr0 hc0 hG
end Go.Proofs.YtgnehcgaplnfkaaGreatDoor.PAll
