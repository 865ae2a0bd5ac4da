/- A text of this seat. -/
import Derived.Test.YtgnehcgaplnfkaaGreatDoorBt1
import Derived.Test.YtgnehcgaplnfkaaGreatDoorBt3
import Derived.Test.YtgnehcgaplnfkaaGreatDoorBt2
import Derived.Test.YtgnehcgaplnfkaaGreatDoorGx21Bt
import Derived.Test.YtgnehcgaplnfkaaGreatDoorBt4
namespace Go.Proofs.YtgnehcgaplnfkaaGreatDoor.PAll
open Go.RowKit Go.Proofs.YtgnehcgaplnfkaaGreatDoorW.PrintWords Go.Proofs.YtgnehcgaplnfkaaGreatDoorW.PrintLast Go.Proofs.YtgnehcgaplnfkaaGreatDoorW.PrintMore
attribute [local go_sem] u3r u3t u4c u4b u3n u3o u3u u3s   -- for this text's walks alone
set_option linter.unusedVariables false
set_option linter.unusedSimpArgs false
-- uses regex_coder_atom
def u2l.f:Option Int:=none
structure u2l.Held (w0 W:World) (vc v:Value) (l:List S164):Prop where
 row:Kd.R k164 164 W w0.heap.size (fun _ => True) v l
 apart:∀ k,v.ownBlock = some k → some k ≠ vc.ownBlock
theorem u2l.fine {W:World} {base:Nat} {ok:Nat → Prop} {v:Value} {l:List S164} (h:Kd.R k164 164 W base ok v l):Kd.R k164 164 W base (fun k => v.ownBlock = some k ∨ ∃ cells,W.heap[k]? = some (.cells cells 191 (0,0))) v l :=
 ⟨fun k hk => Or.inl hk,u4g.imp_ h.2 (fun _ _ hp => k164.M_mono (fun k hk => ⟨Or.inr (by
   obtain ⟨q,hq,cells,hc⟩:=hk.2.2.2
   rw [u1p.E_inst] at hq
   simp at hq
   subst hq
   exact ⟨cells,hc⟩),hk.1.2⟩) (k164.M_bound hp))⟩
theorem u2l.Held.reads {w0 W:World} {vc:Value} {A:Option Addr} {n c:Nat} {l:List S164} (h:u2l.Held w0 W vc (.slice A n c) l):u2v.ReadsM w0 W A l:=by
 obtain ⟨A1,c1,e,_,hr⟩:=u2v.reads_M h.row
 injection e with e1 e2 e3
 subst e1
 exact hr
theorem u2l.Held.kp {w0 W W':World} {g gp:Nat} {vc v:Value} {l:List S164} {s:ud.CS} (h:u2l.Held w0 W vc v l) (hs:ud.St w0 W g gp vc s) (hk:ud.Kp W W' g):u2l.Held w0 W' vc v l:=by
 obtain ⟨A,c,hb,_,_⟩:=hs.cells
 refine ⟨Kd.R_mono (Kd.R_step (u2l.fine h.row) (fun k ho _ => hk.2 k ?_)) (fun _ _ => trivial),h.apart⟩
 rcases ho with ho | ⟨cells,hc⟩
 · rintro rfl
   exact Kd.R_ne h.row hb (by decide) ho.symm
 · exact blk_ne hc hb (by decide)
theorem u2l.Held.fr {w0 W W':World} {g gp:Nat} {vc vc' v:Value} {l:List S164} {s:ud.CS} (h:u2l.Held w0 W vc v l) (hs:ud.St w0 W g gp vc s) (hf:u1p.Fr W W' g vc vc'):u2l.Held w0 W' vc' v l:=by
 obtain ⟨A,c,hb,_,_⟩:=hs.cells
 refine ⟨Kd.R_mono (Kd.R_step (u2l.fine h.row) (fun k ho hlt => hf.kept k hlt ?_ ?_)) (fun _ _ => trivial),fun k hk he => ?_⟩
 · rcases ho with ho | ⟨cells,hc⟩
   · rintro rfl
     exact Kd.R_ne h.row hb (by decide) ho.symm
   · exact blk_ne hc hb (by decide)
 · rcases ho with ho | ⟨cells,hc⟩
   · exact h.apart k ho
   · exact Kd.R_ne hs.code hc (by decide)
 · rcases hf.row with h9 | ⟨b,h9,h8⟩
   · rw [h9] at he
     exact h.apart k hk he
   · rw [h9] at he
     injection he with he
     have:=Kd.R_lt h.row k hk
     omega
set_option maxHeartbeats 4000000 in
set_option maxRecDepth 10000 in
theorem u2l.calls (f:Nat) (hA:∀ f',f' < f → regex_coder_atom.Sp 133 0 f'):regex_coder_atom.Sp 118 1 f:=by
 intro w0 W g gp vc s d h hd hneed hsz hk
 clear hk
 obtain ⟨fin,hfin⟩:∃ fin,Aside0 (regex_coder_atom.M f 1 d s = fin):=⟨_,⟨rfl⟩⟩
 have HS:=Aside0.mk h
 have HN:=Aside0.mk hneed
 have HZ:=Aside0.mk hsz
 clear h hneed hsz
 go_enter Tryz.func118,Tryz.ntmps118
 go_wp2
 go_loopg [] f (fun kq wr => ∃ (sc:ud.CS) (vc:Value),Aside0 (ud.St w0 wr g gp vc sc) ∧ Aside0 (regex_coder_atom.M kq 1 d sc = fin) ∧ Aside0 (sc.bad = true ∨ regex_coder_atom.need 1 sc.p.length ≤ kq) ∧ Aside0 (sc.code.length + 2 * sc.p.length ≤ 1000) ∧ kq ≤ f)
 case atStart => exact ⟨s,vc,HS,hfin,HN,HZ,Nat.le_refl _⟩
 case round =>
  obtain ⟨sc,vc,hSr,hfr,hkr,hcr,hkf⟩:=hrel
  obtain ⟨Ac,cc,ev⟩:=Kd.R_slice hSr.out.code
  subst ev
  obtain ⟨A0,c0,⟨j0,j1,j2⟩,⟨p0,p1,p2⟩,jl,jb,jr⟩:=hSr.out.look
  clear jl jb jr j0 p0
  obtain ⟨mo,HMO⟩:∃ mo,Aside0 (u2g.mo sc = mo):=⟨_,⟨rfl⟩⟩
  obtain ⟨am,HAM⟩:∃ am,Aside0 (uw.am ⟨#[124,41]⟩ sc = am):=⟨_,⟨rfl⟩⟩
  by_cases hcond:mo = true ∧ am = false
  · obtain ⟨rfl,rfl⟩:=hcond
    obtain ⟨hpne,hbad⟩:=regex_coder_atom.mo_ne HMO.out
    have hpl:0 < sc.p.length:=List.length_pos_iff.2 hpne
    obtain ⟨g1,rfl⟩:∃ g1,gk = g1 + 1:=⟨gk - 1,by
     have:=hkr.out.resolve_left (by simp [hbad])
     unfold regex_coder_atom.need at this
     omega⟩
    have hkn:4 * sc.p.length + 2 ≤ g1 + 1:=by
     have:=hkr.out.resolve_left (by simp [hbad])
     unfold regex_coder_atom.need at this
     omega
    obtain ⟨s1,hs1⟩:∃ s1,Aside0 (regex_coder_atom.M g1 0 d sc = s1):=⟨_,⟨rfl⟩⟩
    have hfr2:regex_coder_atom.M g1 1 d (regex_coder_atom.qual sc.code.length s1) = fin:=by
     have h9:=hfr.out
     simp only [regex_coder_atom.M] at h9
     rwa [if_pos ⟨HMO.out,HAM.out⟩,hs1.out] at h9
    obtain ⟨⟨d1,d2,d3⟩,d4⟩:=regex_coder_atom.M_dec g1 0 d sc (fun _ => hpne)
    rw [hs1.out] at d1 d2 d3 d4
    have d5:=d4 rfl (by omega)
    obtain ⟨e1,e2,e3,e4⟩:=regex_coder_atom.qual_dec d2
    have hcr1:=hcr.out
    have hsz2:(regex_coder_atom.qual sc.code.length s1).code.length + 2 * (regex_coder_atom.qual sc.code.length s1).p.length ≤ 1000:=by omega
    have hnd2:(regex_coder_atom.qual sc.code.length s1).bad = true ∨ regex_coder_atom.need 1 (regex_coder_atom.qual sc.code.length s1).p.length ≤ g1:=by
     rcases d5 with h9 | h9
     · exact Or.inl (e4 h9)
     · refine Or.inr ?_
       unfold regex_coder_atom.need
       omega
    have HAN:Aside0 (sc.bad = true ∨ regex_coder_atom.need 0 sc.p.length ≤ g1):=⟨Or.inr (by unfold regex_coder_atom.need;omega)⟩
    have HD1:Aside0 (sc.code.length ≤ s1.code.length ∧ s1.code.length ≤ 1000):=⟨d2,by omega⟩
    have hcl:sc.code.length ≤ 1000:=by omega
    clear d1 d2 d3 d4 d5 e1 e2 e3 e4 hcr1 hfr
    cases hb1:s1.bad with
    | true =>
      have hq:Aside0 (regex_coder_atom.qual sc.code.length s1 = s1):=⟨by
       unfold regex_coder_atom.qual
       rw [if_neg (by simp [hb1])]⟩
      go_wp2_with (first
       | (go_at_call 119;(with_reducible refine (u2g.calls w0 wr g gp (.slice Ac sc.code.length cc) sc hSr.out).mono ?_);rintro e W0 ⟨rfl,hW0⟩;rw [hW0,HMO.out])
       | (go_at_call 132;(with_reducible refine (uw.calls w0 wr g gp (.slice Ac sc.code.length cc) sc _ hSr.out).mono ?_);rintro e W0 ⟨rfl,hW0⟩;rw [hW0,HAM.out])
       | (go_at_call 133;have hAd:=hA g1 (by omega) w0 wr g gp (.slice Ac sc.code.length cc) sc d hSr.out hd HAN.out hcr.out (fun _ => ⟨hbad,hpne⟩);(with_reducible refine hAd.mono ?_);clear hAd;rintro e W1 ⟨rfl,vc1,hS1⟩
          rw [hs1.out] at hS1
          obtain ⟨B1,c1,⟨k0,k1,k2⟩,⟨q0,q1,q2⟩,kl,kb,kr⟩:=hS1.look
          rw [hb1] at k2
          have HS1:=Aside0.mk hS1
          clear hS1 kl kb kr k0 q0))
      go_roundg g1
      case rel =>
       refine ⟨regex_coder_atom.qual sc.code.length s1,vc1,⟨?_⟩,⟨hfr2⟩,⟨hnd2⟩,⟨hsz2⟩,by omega⟩
       rw [hq.out]
       exact HS1.out
      case measure => omega
    | false =>
      obtain ⟨am3,HAM3⟩:∃ am3,Aside0 (uw.am ⟨#[42,43,63]⟩ s1 = am3):=⟨_,⟨rfl⟩⟩
      cases am3 with
      | false =>
        have hq:Aside0 (regex_coder_atom.qual sc.code.length s1 = s1):=⟨by
         unfold regex_coder_atom.qual
         rw [if_neg (by simp [HAM3.out])]⟩
        go_wp2_with (first
         | (go_at_call 119;(with_reducible refine (u2g.calls w0 wr g gp (.slice Ac sc.code.length cc) sc hSr.out).mono ?_);rintro e W0 ⟨rfl,hW0⟩;rw [hW0,HMO.out])
         | (go_at_call 132;(with_reducible refine (uw.calls w0 wr g gp (.slice Ac sc.code.length cc) sc _ hSr.out).mono ?_);rintro e W0 ⟨rfl,hW0⟩;rw [hW0,HAM.out])
         | (go_at_call 133;have hAd:=hA g1 (by omega) w0 wr g gp (.slice Ac sc.code.length cc) sc d hSr.out hd HAN.out hcr.out (fun _ => ⟨hbad,hpne⟩);(with_reducible refine hAd.mono ?_);clear hAd;rintro e W1 ⟨rfl,vc1,hS1⟩
            rw [hs1.out] at hS1
            obtain ⟨B1,c1,⟨k0,k1,k2⟩,⟨q0,q1,q2⟩,kl,kb,kr⟩:=hS1.look
            rw [hb1] at k2
            have HS1:=Aside0.mk hS1
            clear hS1 kl kb kr k0 q0)
         | (go_at_call 132;(with_reducible refine (uw.calls w0 W1 g gp vc1 s1 _ HS1.out).mono ?_);rintro e W0 ⟨rfl,hW0⟩;rw [hW0,HAM3.out]))
        go_roundg g1
        case rel =>
         refine ⟨regex_coder_atom.qual sc.code.length s1,vc1,⟨?_⟩,⟨hfr2⟩,⟨hnd2⟩,⟨hsz2⟩,by omega⟩
         rw [hq.out]
         exact HS1.out
        case measure => omega
      | true =>
        obtain ⟨dr,hdr⟩:∃ dr,Aside0 (s1.code.drop sc.code.length = dr):=⟨_,⟨rfl⟩⟩
        obtain ⟨x3,hx3⟩:∃ x3,Aside0 (ud.step ⟨s1.p,s1.code.take sc.code.length,s1.bad⟩ = x3):=⟨_,⟨rfl⟩⟩
        obtain ⟨r3,s3⟩:=x3
        have hdl:dr.length = s1.code.length - sc.code.length:=by rw [← hdr.out];exact List.length_drop
        have hdl2:dr.length ≤ 1000:=by have:=HD1.out;omega
        have HC3:Aside0 (s3.code.length ≤ 1000):=⟨by
         have h9:=uf.step_code ⟨s1.p,s1.code.take sc.code.length,s1.bad⟩
         rw [hx3.out] at h9
         simp only at h9
         rw [h9,List.length_take]
         omega⟩
        have HQ:Aside0 (regex_coder_atom.qual sc.code.length s1 = if r3 = 42 then regex_coder_atom.put (regex_coder_atom.put (regex_coder_atom.put s3 [⟨2,[],false,(sc.code.length:Int) + 1,(sc.code.length:Int) + (dr.length:Int) + 2⟩]) (dr.map (u1y.sh 1))) [⟨3,[],false,(sc.code.length:Int),0⟩] else if r3 = 43 then regex_coder_atom.put (regex_coder_atom.put s3 dr) [⟨2,[],false,(sc.code.length:Int),(sc.code.length:Int) + (dr.length:Int) + 1⟩] else regex_coder_atom.put (regex_coder_atom.put s3 [⟨2,[],false,(sc.code.length:Int) + 1,(sc.code.length:Int) + (dr.length:Int) + 1⟩]) (dr.map (u1y.sh 1))):=⟨by
         unfold regex_coder_atom.qual
         rw [if_pos ⟨hb1,HAM3.out⟩,hdr.out,hx3.out]⟩
        clear hdl
        by_cases c42:r3 = 42
        · subst c42
          have hq:Aside0 (regex_coder_atom.qual sc.code.length s1 = _):=⟨HQ.out.trans (if_pos rfl)⟩
          go_wp2_with (first
          | (go_at_call 119;(with_reducible refine (u2g.calls w0 wr g gp (.slice Ac sc.code.length cc) sc hSr.out).mono ?_);rintro e W0 ⟨rfl,hW0⟩;rw [hW0,HMO.out])
          | (go_at_call 132;(with_reducible refine (uw.calls w0 wr g gp (.slice Ac sc.code.length cc) sc _ hSr.out).mono ?_);rintro e W0 ⟨rfl,hW0⟩;rw [hW0,HAM.out])
          | (go_at_call 133;have hAd:=hA g1 (by omega) w0 wr g gp (.slice Ac sc.code.length cc) sc d hSr.out hd HAN.out hcr.out (fun _ => ⟨hbad,hpne⟩);(with_reducible refine hAd.mono ?_);clear hAd;rintro e W1 ⟨rfl,vc1,hS1⟩
             rw [hs1.out] at hS1
             obtain ⟨B1,c1,⟨k0,k1,k2⟩,⟨q0,q1,q2⟩,kl,kb,kr⟩:=hS1.look
             rw [hb1] at k2
             have HS1:=Aside0.mk hS1
             clear hS1 kl kb kr k0 q0)
          | (go_at_call 132;(with_reducible refine (uw.calls w0 W1 g gp vc1 s1 _ HS1.out).mono ?_);rintro e W0 ⟨rfl,hW0⟩;rw [hW0,HAM3.out])
          | (go_at_call 122;(with_reducible refine (u3f.calls w0 W1 g gp vc1 s1 sc.code.length HS1.out HD1.out.1 (by have:=HD1.out;omega)).mono ?_);rintro e W2 ⟨v2,vc2,rfl,hR2,hS2,hN2⟩
             rw [hdr.out] at hR2
             obtain ⟨Av,cv,ev⟩:=Kd.R_slice hR2
             subst ev
             have hcv:dr.length ≤ cv:=(Kd.R_reads' hR2).2.1
             have HH2:Aside0 (u2l.Held w0 W2 vc2 (.slice Av dr.length cv) dr):=⟨⟨hR2,hN2⟩⟩
             have HS2:=Aside0.mk hS2
             clear hS2 hR2 hN2)
          | (go_at_call 121;(with_reducible refine (ud.calls w0 W2 g gp vc2 _ HS2.out).mono ?_);rintro e W3 ⟨rfl,hS3,hK3⟩
             rw [hx3.out] at hS3 ⊢
             have HH3:=Aside0.mk (HH2.out.kp HS2.out hK3)
             have HS3:=Aside0.mk hS3
             clear hS3 hK3)
          | (go_at_call 103;(with_reducible refine (u1p.put1a rfl HS3.out (Kd.R_nil _ _ _ _ _) (by have:=HC3.out;omega)).mono ?_);rintro e W4 ⟨rfl,vc4,hS4,hF4⟩
             have HH4:=Aside0.mk (HH3.out.fr HS3.out hF4)
             have HS4:=Aside0.mk hS4
             clear hS4 hF4)
          | (go_at_call 123;(with_reducible refine (u1y.calls w0 W4 Av cv dr 1 HS4.out.below HH4.out.reads hcv (by omega)).mono ?_);rintro e W5 ⟨v5,rfl,hR5,hB5,hN5⟩
             have HS5:=Aside0.mk (u3f.St_below HS4.out hB5)
             have HR5:=Aside0.mk hR5
             clear hR5 hB5 hN5)
          | (go_at_call 103;(with_reducible refine (u1p.calls w0 W5 g gp vc4 v5 _ _ HS5.out HR5.out (by have:=HC3.out;simp only [List.length_append,List.length_map,List.length_cons,List.length_nil];omega)).mono ?_);rintro e W6 ⟨rfl,vc6,hS6,hF6⟩
             have HS6:=Aside0.mk hS6
             clear hS6 hF6)
          | (go_at_call 103;(with_reducible refine (u1p.put1a rfl HS6.out (Kd.R_nil _ _ _ _ _) (by have:=HC3.out;simp only [List.length_append,List.length_map,List.length_cons,List.length_nil];omega)).mono ?_);rintro e W7 ⟨rfl,vc7,hS7,hF7⟩
             have HS7:=Aside0.mk hS7
             clear hS7 hF7))
          go_roundg g1
          case rel =>
           refine ⟨regex_coder_atom.qual sc.code.length s1,vc7,⟨?_⟩,⟨hfr2⟩,⟨hnd2⟩,⟨hsz2⟩,by omega⟩
           rw [hq.out]
           exact HS7.out
          case measure => omega
        have HQ2:=Aside0.mk (HQ.out.trans (if_neg c42))
        by_cases c43:r3 = 43
        · subst c43
          have hq:Aside0 (regex_coder_atom.qual sc.code.length s1 = _):=⟨HQ2.out.trans (if_pos rfl)⟩
          go_wp2_with (first
          | (go_at_call 119;(with_reducible refine (u2g.calls w0 wr g gp (.slice Ac sc.code.length cc) sc hSr.out).mono ?_);rintro e W0 ⟨rfl,hW0⟩;rw [hW0,HMO.out])
          | (go_at_call 132;(with_reducible refine (uw.calls w0 wr g gp (.slice Ac sc.code.length cc) sc _ hSr.out).mono ?_);rintro e W0 ⟨rfl,hW0⟩;rw [hW0,HAM.out])
          | (go_at_call 133;have hAd:=hA g1 (by omega) w0 wr g gp (.slice Ac sc.code.length cc) sc d hSr.out hd HAN.out hcr.out (fun _ => ⟨hbad,hpne⟩);(with_reducible refine hAd.mono ?_);clear hAd;rintro e W1 ⟨rfl,vc1,hS1⟩
             rw [hs1.out] at hS1
             obtain ⟨B1,c1,⟨k0,k1,k2⟩,⟨q0,q1,q2⟩,kl,kb,kr⟩:=hS1.look
             rw [hb1] at k2
             have HS1:=Aside0.mk hS1
             clear hS1 kl kb kr k0 q0)
          | (go_at_call 132;(with_reducible refine (uw.calls w0 W1 g gp vc1 s1 _ HS1.out).mono ?_);rintro e W0 ⟨rfl,hW0⟩;rw [hW0,HAM3.out])
          | (go_at_call 122;(with_reducible refine (u3f.calls w0 W1 g gp vc1 s1 sc.code.length HS1.out HD1.out.1 (by have:=HD1.out;omega)).mono ?_);rintro e W2 ⟨v2,vc2,rfl,hR2,hS2,hN2⟩
             rw [hdr.out] at hR2
             obtain ⟨Av,cv,ev⟩:=Kd.R_slice hR2
             subst ev
             have hcv:dr.length ≤ cv:=(Kd.R_reads' hR2).2.1
             have HH2:Aside0 (u2l.Held w0 W2 vc2 (.slice Av dr.length cv) dr):=⟨⟨hR2,hN2⟩⟩
             have HS2:=Aside0.mk hS2
             clear hS2 hR2 hN2)
          | (go_at_call 121;(with_reducible refine (ud.calls w0 W2 g gp vc2 _ HS2.out).mono ?_);rintro e W3 ⟨rfl,hS3,hK3⟩
             rw [hx3.out] at hS3 ⊢
             have HH3:=Aside0.mk (HH2.out.kp HS2.out hK3)
             have HS3:=Aside0.mk hS3
             clear hS3 hK3)
          | (go_at_call 103;(with_reducible refine (u1p.calls w0 W3 g gp vc2 _ _ _ HS3.out HH3.out.row (by have:=HC3.out;omega)).mono ?_);rintro e W4 ⟨rfl,vc4,hS4,hF4⟩
             have HS4:=Aside0.mk hS4
             clear hS4 hF4)
          | (go_at_call 103;(with_reducible refine (u1p.put1a rfl HS4.out (Kd.R_nil _ _ _ _ _) (by have:=HC3.out;simp only [List.length_append,List.length_map,List.length_cons,List.length_nil];omega)).mono ?_);rintro e W5 ⟨rfl,vc5,hS5,hF5⟩
             have HS5:=Aside0.mk hS5
             clear hS5 hF5))
          go_roundg g1
          case rel =>
           refine ⟨regex_coder_atom.qual sc.code.length s1,vc5,⟨?_⟩,⟨hfr2⟩,⟨hnd2⟩,⟨hsz2⟩,by omega⟩
           rw [hq.out]
           exact HS5.out
          case measure => omega
        · have hq:Aside0 (regex_coder_atom.qual sc.code.length s1 = _):=⟨HQ2.out.trans (if_neg c43)⟩
          have b42:(r3 == 42) = false:=by simp [c42]
          have b43:(r3 == 43) = false:=by simp [c43]
          clear c42 c43
          go_wp2_with (first
          | (go_at_call 119;(with_reducible refine (u2g.calls w0 wr g gp (.slice Ac sc.code.length cc) sc hSr.out).mono ?_);rintro e W0 ⟨rfl,hW0⟩;rw [hW0,HMO.out])
          | (go_at_call 132;(with_reducible refine (uw.calls w0 wr g gp (.slice Ac sc.code.length cc) sc _ hSr.out).mono ?_);rintro e W0 ⟨rfl,hW0⟩;rw [hW0,HAM.out])
          | (go_at_call 133;have hAd:=hA g1 (by omega) w0 wr g gp (.slice Ac sc.code.length cc) sc d hSr.out hd HAN.out hcr.out (fun _ => ⟨hbad,hpne⟩);(with_reducible refine hAd.mono ?_);clear hAd;rintro e W1 ⟨rfl,vc1,hS1⟩
             rw [hs1.out] at hS1
             obtain ⟨B1,c1,⟨k0,k1,k2⟩,⟨q0,q1,q2⟩,kl,kb,kr⟩:=hS1.look
             rw [hb1] at k2
             have HS1:=Aside0.mk hS1
             clear hS1 kl kb kr k0 q0)
          | (go_at_call 132;(with_reducible refine (uw.calls w0 W1 g gp vc1 s1 _ HS1.out).mono ?_);rintro e W0 ⟨rfl,hW0⟩;rw [hW0,HAM3.out])
          | (go_at_call 122;(with_reducible refine (u3f.calls w0 W1 g gp vc1 s1 sc.code.length HS1.out HD1.out.1 (by have:=HD1.out;omega)).mono ?_);rintro e W2 ⟨v2,vc2,rfl,hR2,hS2,hN2⟩
             rw [hdr.out] at hR2
             obtain ⟨Av,cv,ev⟩:=Kd.R_slice hR2
             subst ev
             have hcv:dr.length ≤ cv:=(Kd.R_reads' hR2).2.1
             have HH2:Aside0 (u2l.Held w0 W2 vc2 (.slice Av dr.length cv) dr):=⟨⟨hR2,hN2⟩⟩
             have HS2:=Aside0.mk hS2
             clear hS2 hR2 hN2)
          | (go_at_call 121;(with_reducible refine (ud.calls w0 W2 g gp vc2 _ HS2.out).mono ?_);rintro e W3 ⟨rfl,hS3,hK3⟩
             rw [hx3.out] at hS3 ⊢
             have HH3:=Aside0.mk (HH2.out.kp HS2.out hK3)
             have HS3:=Aside0.mk hS3
             clear hS3 hK3)
          | (go_at_call 103;(with_reducible refine (u1p.put1a rfl HS3.out (Kd.R_nil _ _ _ _ _) (by have:=HC3.out;omega)).mono ?_);rintro e W4 ⟨rfl,vc4,hS4,hF4⟩
             have HH4:=Aside0.mk (HH3.out.fr HS3.out hF4)
             have HS4:=Aside0.mk hS4
             clear hS4 hF4)
          | (go_at_call 123;(with_reducible refine (u1y.calls w0 W4 Av cv dr 1 HS4.out.below HH4.out.reads hcv (by omega)).mono ?_);rintro e W5 ⟨v5,rfl,hR5,hB5,hN5⟩
             have HS5:=Aside0.mk (u3f.St_below HS4.out hB5)
             have HR5:=Aside0.mk hR5
             clear hR5 hB5 hN5)
          | (go_at_call 103;(with_reducible refine (u1p.calls w0 W5 g gp vc4 v5 _ _ HS5.out HR5.out (by have:=HC3.out;simp only [List.length_append,List.length_map,List.length_cons,List.length_nil];omega)).mono ?_);rintro e W6 ⟨rfl,vc6,hS6,hF6⟩
             have HS6:=Aside0.mk hS6
             clear hS6 hF6))
          go_roundg g1
          case rel =>
           refine ⟨regex_coder_atom.qual sc.code.length s1,vc6,⟨?_⟩,⟨hfr2⟩,⟨hnd2⟩,⟨hsz2⟩,by omega⟩
           rw [hq.out]
           exact HS6.out
          case measure => omega
  · have hfe:Aside0 (fin = sc):=⟨by
     have h9:=hfr.out
     cases gk with
     | zero => exact h9.symm
     | succ k =>
       simp only [regex_coder_atom.M] at h9
       rw [HMO.out,HAM.out,if_neg hcond] at h9
       exact h9.symm⟩
    cases mo with
    | false =>
      go_wp2_with (first
       | (go_at_call 119;(with_reducible refine (u2g.calls w0 wr g gp (.slice Ac sc.code.length cc) sc hSr.out).mono ?_);rintro e W0 ⟨rfl,hW0⟩;rw [hW0,HMO.out])
       | (go_at_call 132;(with_reducible refine (uw.calls w0 wr g gp (.slice Ac sc.code.length cc) sc _ hSr.out).mono ?_);rintro e W0 ⟨rfl,hW0⟩;rw [hW0,HAM.out]))
      go_end0
      exact ⟨rfl,_,by rw [hfin.out,hfe.out];exact hSr.out⟩
    | true =>
      cases am with
      | false => exact absurd ⟨rfl,rfl⟩ hcond
      | true =>
        go_wp2_with (first
         | (go_at_call 119;(with_reducible refine (u2g.calls w0 wr g gp (.slice Ac sc.code.length cc) sc hSr.out).mono ?_);rintro e W0 ⟨rfl,hW0⟩;rw [hW0,HMO.out])
         | (go_at_call 132;(with_reducible refine (uw.calls w0 wr g gp (.slice Ac sc.code.length cc) sc _ hSr.out).mono ?_);rintro e W0 ⟨rfl,hW0⟩;rw [hW0,HAM.out]))
        go_end0
        exact ⟨rfl,_,by rw [hfin.out,hfe.out];exact hSr.out⟩
end Go.Proofs.YtgnehcgaplnfkaaGreatDoor.PAll
