/- Texts of this seat, joined in the order in which they build. -/
import Derived.Test.YtmcpeifhapekoaaGreatDoorBr2
import Derived.Test.YtmcpeifhapekoaaGreatDoorBr1
import Derived.Sort.Walk0
namespace Go.Proofs.YtmcpeifhapekoaaGreatDoor.PAll
open Go.RowKit Go.Proofs.YtmcpeifhapekoaaGreatDoorW.PrintWords Go.Proofs.YtmcpeifhapekoaaGreatDoorW.PrintLast Go.Proofs.YtmcpeifhapekoaaGreatDoorW.PrintMore
attribute [local go_sem] u3q u3r max_two min_two u3l u3k u3s u3p
set_option linter.unusedVariables false
set_option linter.unusedSimpArgs false
theorem uu.infoL:(Tryz.prog.info? 66).map (fun i => (i.zero,i.size,i.bytes)) = some (some (.agg #[(.string ⟨#[]⟩),(.string ⟨#[]⟩)]),2,32):=by kernel_rfl
def uu.Out (w0 W:World) (g:Nat) (o:Option (List Tx.Lb × List UInt8)) (e:Ending) (W':World):Prop:=match o with
 | some (l,r) => ∃ v:Value,e = .returned v ∧ Kd.R k66 66 W' W.heap.size (fun k => k ≠ g) v l ∧ ua.St w0 W' g r ∧ u2a W W' g none
 | none => e = .panicked (u2u.chain 280) ∧ Below w0.heap.size w0 W'
theorem uu.out_some {w0 W:World} {g:Nat} {o:Option (List Tx.Lb × List UInt8)} {l:List Tx.Lb} {r:List UInt8} (ho:o = some (l,r)) {v:Value} {W':World} (h1:Kd.R k66 66 W' W.heap.size (fun k => k ≠ g) v l) (h2:ua.St w0 W' g r) (h3:u2a W W' g none):uu.Out w0 W g o (.returned v) W':=by
 subst ho
 exact ⟨v,rfl,h1,h2,h3⟩
theorem uu.out_none {w0 W:World} {g:Nat} {o:Option (List Tx.Lb × List UInt8)} (ho:o = none) {W':World} (h1:Below w0.heap.size w0 W'):uu.Out w0 W g o (.panicked (u2u.chain 280)) W':=by
 subst ho
 exact ⟨rfl,h1⟩
theorem uu.unq_rest:∀ (n:Nat) (l acc a q:List UInt8),l.length ≤ n → Base.unqL l acc = some (a,q) → q.length < l.length
 | 0,l,acc,a,q,hn,h => by
   cases l with
   | nil => rw [Base.unqL_nil] at h;cases h
   | cons c r => simp at hn
 | n + 1,l,acc,a,q,hn,h => by
   cases l with
   | nil => rw [Base.unqL_nil] at h;cases h
   | cons c r =>
     rw [List.length_cons] at hn ⊢
     by_cases h1:c = 34
     · subst h1
       rw [Base.unqL_end] at h
       obtain ⟨_,rfl⟩:=Prod.mk.inj (Option.some.inj h)
       omega
     · by_cases h2:c = 92
       · subst h2
         cases r with
         | nil => rw [Base.unqL_open] at h;cases h
         | cons d z =>
           by_cases h3:d = 34 ∨ d = 92
           · rw [Base.unqL_esc _ _ _ h3] at h
             have:=uu.unq_rest n z _ a q (by simp at hn;omega) h
             rw [List.length_cons]
             omega
           · rw [Base.unqL_bad _ _ _ h3] at h
             cases h
       · rw [Base.unqL_plain _ _ _ h1 h2] at h
         have:=uu.unq_rest n r _ a q (by omega) h
         omega
theorem uu.quoted_rest {q t:List UInt8} {v:ByteArray} (h:Tx.quotedP q = some (v,t)):t.length < q.length:=by
 unfold Tx.quotedP at h
 cases q with
 | nil => cases h
 | cons c r =>
   simp only at h
   split at h
   · obtain ⟨⟨a,z⟩,h1,h2⟩:=Option.map_eq_some_iff.1 h
     obtain ⟨_,rfl⟩:=Prod.mk.inj h2
     have:=uu.unq_rest _ r [] a z (Nat.le_refl _) h1
     rw [List.length_cons]
     simp only
     omega
   · cases h
theorem uu.label_rest {s r:List UInt8} {x:Tx.Lb} (h:Tx.labelP s = some (x,r)):r.length < s.length:=by
 unfold Tx.labelP at h
 obtain ⟨⟨n,q⟩,hn,h⟩:=Option.bind_eq_some_iff.1 h
 obtain ⟨⟨v,t⟩,hv,h⟩:=Option.map_eq_some_iff.1 h
 obtain ⟨_,rfl⟩:=Prod.mk.inj h
 obtain ⟨z,hz,hv⟩:=Option.bind_eq_some_iff.1 hv
 have h1:=u1p.name_rest hn
 have h2:=(u1p.expect_is 61 q).1 z hz
 rw [h2,List.length_cons] at h1
 have h3:=uu.quoted_rest hv
 show t.length < s.length
 omega
def uu.rest (k:Nat) (acc:List Tx.Lb) (s:List UInt8):Option (List Tx.Lb × List UInt8):=(Tx.labelsP k acc s).bind fun q => (Tx.expectP [125] q.2).map fun t => (q.1,t)
theorem uu.rest_comma (k:Nat) (acc:List Tx.Lb) (t:List UInt8):uu.rest (k + 1) acc (44 :: t) = if acc.length ≤ 8 then (Tx.labelP t).bind fun p => uu.rest k (acc ++ [p.1]) p.2 else none:=by
 unfold uu.rest
 conv => lhs;unfold Tx.labelsP
 simp only
 split
 · cases Tx.labelP t <;> rfl
 · rfl
theorem uu.rest_other (k:Nat) (acc:List Tx.Lb) (s:List UInt8) (h:∀ t,s ≠ 44 :: t):uu.rest (k + 1) acc s = (Tx.expectP [125] s).map fun t => (acc,t):=by
 unfold uu.rest
 conv => lhs;unfold Tx.labelsP
 split
 · exact absurd rfl (h _)
 · rfl
theorem uu.pk_ne (s:List UInt8) (c:UInt8) (hc:c.toNat ≠ 0) (h:∀ t,s ≠ c :: t):¬ ua.pk s = (c.toNat:Int):=by
 intro e
 cases s with
 | nil =>
   have e2:(0:Int) = c.toNat:=e
   omega
 | cons d t =>
   have e2:(d.toNat:Int) = c.toNat:=e
   exact h t (by rw [show d = c from UInt8.toNat_inj.1 (by omega)])
theorem uu.grown_keep {W W3 w1:World} {g:Nat} {v:Value} (hk:u2a W W3 g none) (hv:∀ b,v.ownBlock = some b → W.heap.size ≤ b) (hg:W3.grownBy w1 v.ownBlock):u2a W w1 g none :=
 ⟨Nat.le_trans hk.1 hg.size,fun i hi hne hr => (hg.block i (Nat.lt_of_lt_of_le hi hk.1) (fun e => by have:=hv i e.symm;omega)).trans (hk.2 i hi hne hr)⟩
theorem uu.grown_st {w0 W3 w1:World} {g:Nat} {s:List UInt8} {v:Value} (hs:ua.St w0 W3 g s) (hv:∀ b,v.ownBlock = some b → b ≠ g ∧ w0.heap.size ≤ b) (hg:W3.grownBy w1 v.ownBlock):ua.St w0 w1 g s :=
 hs.keep (hs.below.grown hg hs.below.size (fun k hk => (hv k hk).2)) (hg.block g hs.lt (fun e => (hv g e.symm).1 rfl))
structure uu.Own (W w0:World) (g:Nat) (v:Value):Prop where
 base:∀ b,v.ownBlock = some b → W.heap.size ≤ b
 far:∀ b,v.ownBlock = some b → b ≠ g ∧ w0.heap.size ≤ b
theorem uu.own_facts {w0 W W7:World} {g:Nat} {v:Value} {l:List Tx.Lb} (h:Kd.R k66 66 W7 W.heap.size (fun k => k ≠ g) v l) (hw:w0.heap.size ≤ W.heap.size):uu.Own W w0 g v :=
 ⟨fun b hb => Kd.R_base h b hb,fun b hb => ⟨h.1 b hb,Nat.le_trans hw (Kd.R_base h b hb)⟩⟩
set_option maxRecDepth 100000 in
set_option maxHeartbeats 2000000 in
theorem uu.calls (w0 W:World) (g:Nat) (s:List UInt8) (hl:s.length ≤ 1000) (h:ua.St w0 W g s) :
 Calls Tryz.prog 92 #[.pointer (some ⟨g,0,none⟩)] W fun e W' => uu.Out w0 W g (Tx.bracesP s) e W':=by
 have HS:=Aside0.mk h
 have HG:=Aside0.mk h.lt
 clear h
 cases hq:Tx.expectP [123] s with
 | none =>
   have HQ:=Aside0.mk ((u1p.expect_is 123 s).2 hq)
   have HO:Aside0 (Tx.bracesP s = none):=⟨by unfold Tx.bracesP;rw [hq];rfl⟩
   clear hq
   go_enter Tryz.func92,Tryz.ntmps92
   go_wp2_with (go_at_call 82;(with_reducible refine (u1y.calls_no w0 _ g 123 s HQ.out (by exact HS.out)).mono ?_);rintro e W1 ⟨rfl,hb1⟩)
   exact ⟨rfl,uu.out_none HO.out hb1⟩
 | some q =>
   have hs:=(u1p.expect_is 123 s).1 q hq
   cases hx:Tx.labelP q with
   | none =>
     have HO:Aside0 (Tx.bracesP s = none):=⟨by unfold Tx.bracesP;rw [hq];simp [hx]⟩
     subst hs
     have hql:q.length ≤ 1000:=by rw [List.length_cons] at hl;omega
     have HX:=Aside0.mk hx
     clear hq hx
     go_enter Tryz.func92,Tryz.ntmps92
     go_wp2_with (first
      | (go_at_call 82;(with_reducible refine (u1y.calls_ok w0 _ g 123 q (by exact HS.out)).mono ?_);rintro e W1 ⟨rfl,hs1,hk1⟩;have HS1:=Aside0.mk hs1;clear hs1 hk1)
      | (go_at_call 122;(with_reducible refine (u1p.calls_no w0 _ g q (by omega) HX.out (by exact HS1.out)).mono ?_);rintro e W2 ⟨rfl,hb2⟩))
     exact ⟨rfl,uu.out_none HO.out hb2⟩
   | some p =>
     obtain ⟨x,t⟩:=p
     have HO:Aside0 (Tx.bracesP s = uu.rest s.length [x] t):=⟨by unfold Tx.bracesP;rw [hq];simp [hx,uu.rest]⟩
     have htl:=uu.label_rest hx
     subst hs
     have hql:q.length + 1 ≤ 1000:=by rw [List.length_cons] at hl;omega
     have HX:=Aside0.mk hx
     clear hq hx hl
     rw [HO.out,List.length_cons]
     clear HO
     generalize HZ:uu.rest (q.length + 1) [x] t = o
     have HO:=Aside0.mk HZ
     clear HZ
     go_enter Tryz.func92,Tryz.ntmps92
     go_wp2_with (first
      | (go_at_call 82;(with_reducible refine (u1y.calls_ok w0 _ g 123 q (by exact HS.out)).mono ?_);rintro e W1 ⟨rfl,hs1,hk1⟩;have HS1:=Aside0.mk hs1;have HK1:=Aside0.mk hk1;clear hs1 hk1)
      | (go_at_call 122;(with_reducible refine (u1p.calls_ok w0 _ g q (by omega) x t HX.out (by exact HS1.out)).mono ?_);rintro e W2 ⟨rfl,hs2,hk2⟩;have HS2:=Aside0.mk hs2;have HK2:=Aside0.mk (ua.keep_then HK1.out hk2);clear hs2 hk2)
      | ((with_reducible refine u3f (N:=8) rfl ?_);refine Kd.R_lit k66 (w0:=W2) W.heap.size 66 ?hg (N:=8) ?hd (xs:=([x]:List Tx.Lb)) (inner:=[.string x.f0,.string x.f1]) (ok:=fun k => k ≠ g) (okp:=fun _ => False) ?hr ?hp (fun _ hk => hk.elim) ?hf (Below.refl _ _) HK2.out.1 (by simp) ?_;(case hd => rfl);(case hg => rfl);(case hr => first | (go_simp;done) | (go_simp;rfl));(case hp => exact (Reps.c2 (show Kd.M k66 _ _ _ x [.string x.f0,.string x.f1] from (k66_mkM _ _ _ x)) (Reps.none _ _)));(case hf => have h1:=HK2.out.1;have h2:=HG.out;omega);intro v3 w3 ho hb hg_ hnew_;have HR3:=Aside0.mk ho;have HK3:=Aside0.mk (ua.keep_then HK2.out (u2a.of_grown hg_ g));have HS3:=Aside0.mk (HS2.out.more ⟨hg_.os,hg_.tape,hg_.output,hg_.size,fun i hi => hg_.block i hi (by simp)⟩);clear ho hb hg_ hnew_))
     go_loopg [3] (q.length + 1) (fun kq v3 wr => ∃ (acc:List Tx.Lb) (s2:List UInt8),s2.length < kq ∧ s2.length ≤ 1000 ∧ Aside0 (uu.rest kq acc s2 = o) ∧ Aside0 (Kd.R k66 66 wr W.heap.size (fun k => k ≠ g) v3 acc) ∧ Aside0 (ua.St w0 wr g s2) ∧ Aside0 (u2a W wr g none))
     case atStart => exact ⟨[x],t,by omega,by omega,HO,HR3,HS3,HK3⟩
     case round =>
      clear HO HR3 HS3 HK3 HS1 HK1 HS2 HK2
      have HS0:=HS
      clear HS
      obtain ⟨acc,s2,hlk,hl2,HO,HR,HS,HK⟩:=hrel
      obtain ⟨A,c,e⟩:=Kd.R_slice HR.out
      subst e
      obtain ⟨k1,rfl⟩:∃ k1,gk = k1 + 1:=⟨gk - 1,by omega⟩
      by_cases hcm:∃ u,s2 = 44 :: u
      · obtain ⟨u,rfl⟩:=hcm
        rw [List.length_cons] at hlk hl2
        have HP:Aside0 (ua.pk (44 :: u) = 44):=⟨rfl⟩
        rw [uu.rest_comma] at HO
        by_cases h8:acc.length ≤ 8
        · have HT:Aside0 (decide ((acc.length:Int) ≤ 8) = true):=⟨decide_eq_true (by omega)⟩
          have HA8:=Aside0.mk h8
          rw [if_pos h8] at HO
          clear h8
          cases hy:Tx.labelP u with
          | none =>
            rw [hy] at HO
            have HY:=Aside0.mk hy
            clear hy
            go_wp2_with (first
             | (go_at_call 47;(with_reducible refine (u1e.peek_at w0 _ g (44 :: u) 44 HP.out (by exact HS.out)).mono ?_);rintro e W4 ⟨rfl,⟨nd,rfl⟩⟩)
             | (go_at_call 82;(with_reducible refine (u1y.calls_ok w0 _ g 44 u (by exact HS.out.drew nd)).mono ?_);rintro e W5 ⟨rfl,hs5,hk5⟩;have HS5:=Aside0.mk hs5;have HK5:=Aside0.mk (ua.keep_then HK.out (ua.keep_then (u2a.of_below (ub (Below.refl _ _) nd) g none) hk5));have HR5:=Aside0.mk (Kd.R_keep (Kd.R_drewN HR.out nd) hk5 (fun _ hk => hk));clear hs5 hk5)
             | (go_at_call 83;(with_reducible refine (u2p.calls_yes _ HT.out _).mono ?_);rintro e W6 ⟨rfl,rfl⟩)
             | (go_at_call 122;(with_reducible refine (u1p.calls_no w0 _ g u (by omega) HY.out (by exact HS5.out)).mono ?_);rintro e W7 ⟨rfl,hb7⟩))
            exact ⟨rfl,uu.out_none HO.out.symm hb7⟩
          | some p =>
            obtain ⟨y,t2⟩:=p
            rw [hy] at HO
            have hyl:=uu.label_rest hy
            have HY:=Aside0.mk hy
            have HWB:Aside0 (w0.heap.size ≤ W.heap.size):=⟨HS0.out.below.size⟩
            clear hy
            go_wp2_with (first
             | (go_at_call 47;(with_reducible refine (u1e.peek_at w0 _ g (44 :: u) 44 HP.out (by exact HS.out)).mono ?_);rintro e W4 ⟨rfl,⟨nd,rfl⟩⟩)
             | (go_at_call 82;(with_reducible refine (u1y.calls_ok w0 _ g 44 u (by exact HS.out.drew nd)).mono ?_);rintro e W5 ⟨rfl,hs5,hk5⟩;have HS5:=Aside0.mk hs5;have HK5:=Aside0.mk (ua.keep_then HK.out (ua.keep_then (u2a.of_below (ub (Below.refl _ _) nd) g none) hk5));have HR5:=Aside0.mk (Kd.R_keep (Kd.R_drewN HR.out nd) hk5 (fun _ hk => hk));clear hs5 hk5)
             | (go_at_call 83;(with_reducible refine (u2p.calls_yes _ HT.out _).mono ?_);rintro e W6 ⟨rfl,rfl⟩)
             | (go_at_call 122;(with_reducible refine (u1p.calls_ok w0 _ g u (by omega) y t2 HY.out (by exact HS5.out)).mono ?_);rintro e W7 ⟨rfl,hs7,hk7⟩;have HS7:=Aside0.mk hs7;have HK7:=Aside0.mk (ua.keep_then HK5.out hk7);have HR7:=Aside0.mk (Kd.R_keep HR5.out hk7 (fun _ hk => hk));clear hs7 hk7)
             | (at_builtin;refine Kd.R_append k66 (w0:=W7) (W:=W7) W.heap.size rfl (.tmp 18) (.tmp 21) 50 66 (.agg #[(.string ⟨#[]⟩),(.string ⟨#[]⟩)]) 32 rfl Tryz.underlying50 uu.infoL rfl (by decide) (by decide) _ acc y [.string y.f0,.string y.f1] (fun k => k ≠ g) (fun _ => False) rfl rfl (k66_mkM _ _ _ y) (fun _ hk => hk.elim) ?hfr HR7.out (Below.refl _ _) HK7.out.1 ?hbig ?_;(case hfr => have h1:=HS7.out.lt;intro k hk;omega);(case hbig => have:=HA8.out;omega);intro v8 w8 ho hb hg8 hat;have HOW:=Aside0.mk (uu.own_facts HR7.out HWB.out);have HR8:=Aside0.mk ho;have HS8:=Aside0.mk (uu.grown_st HS7.out HOW.out.far hg8);have HK8:=Aside0.mk (uu.grown_keep HK7.out HOW.out.base hg8);clear ho hb hg8 hat))
            go_roundg k1
            case rel => exact ⟨acc ++ [y],t2,by omega,by omega,⟨HO.out⟩,HR8,HS8,HK8⟩
            case measure => omega
        · have HT:Aside0 (decide ((acc.length:Int) ≤ 8) = false):=⟨decide_eq_false (by omega)⟩
          rw [if_neg h8] at HO
          clear h8
          go_wp2_with (first
           | (go_at_call 47;(with_reducible refine (u1e.peek_at w0 _ g (44 :: u) 44 HP.out (by exact HS.out)).mono ?_);rintro e W4 ⟨rfl,⟨nd,rfl⟩⟩)
           | (go_at_call 82;(with_reducible refine (u1y.calls_ok w0 _ g 44 u (by exact HS.out.drew nd)).mono ?_);rintro e W5 ⟨rfl,hs5,hk5⟩;have HS5:=Aside0.mk hs5;have HK5:=Aside0.mk (ua.keep_then HK.out (ua.keep_then (u2a.of_below (ub (Below.refl _ _) nd) g none) hk5));have HR5:=Aside0.mk (Kd.R_keep (Kd.R_drewN HR.out nd) hk5 (fun _ hk => hk));clear hs5 hk5)
           | (go_at_call 83;(with_reducible refine (u2p.calls_not _ HT.out _).mono ?_);rintro e W6 ⟨rfl,rfl⟩))
          exact ⟨rfl,uu.out_none HO.out.symm HS5.out.below⟩
      · obtain ⟨z,hz⟩:∃ z,ua.pk s2 = z:=⟨_,rfl⟩
        have hz44:¬ z = 44:=by
         rw [← hz]
         exact uu.pk_ne s2 44 (by decide) (fun u e => hcm ⟨u,e⟩)
        have HP:=Aside0.mk hz
        have hzb:(z == 44) = false:=beq_eq_false_iff_ne.2 hz44
        rw [uu.rest_other _ _ _ (fun u e => hcm ⟨u,e⟩)] at HO
        clear hz hcm
        cases he:Tx.expectP [125] s2 with
        | none =>
          rw [he] at HO
          have HE:=Aside0.mk ((u1p.expect_is 125 s2).2 he)
          clear he
          go_wp2_with (first
           | (go_at_call 47;(with_reducible refine (u1e.peek_at w0 _ g s2 z HP.out (by exact HS.out)).mono ?_);rintro e W4 ⟨rfl,⟨nd,rfl⟩⟩)
           | (go_at_call 82;(with_reducible refine (u1y.calls_no w0 _ g 125 s2 HE.out (by exact HS.out.drew nd)).mono ?_);rintro e W5 ⟨rfl,hb5⟩))
          exact ⟨rfl,uu.out_none HO.out.symm hb5⟩
        | some r =>
          rw [he] at HO
          have he2:=(u1p.expect_is 125 s2).1 r he
          subst he2
          clear he
          go_wp2_with (first
           | (go_at_call 47;(with_reducible refine (u1e.peek_at w0 _ g (125 :: r) z HP.out (by exact HS.out)).mono ?_);rintro e W4 ⟨rfl,⟨nd,rfl⟩⟩)
           | (go_at_call 82;(with_reducible refine (u1y.calls_ok w0 _ g 125 r (by exact HS.out.drew nd)).mono ?_);rintro e W5 ⟨rfl,hs5,hk5⟩;have HS5:=Aside0.mk hs5;have HK5:=Aside0.mk (ua.keep_then HK.out (ua.keep_then (u2a.of_below (ub (Below.refl _ _) nd) g none) hk5));have HR5:=Aside0.mk (Kd.R_keep (Kd.R_drewN HR.out nd) hk5 (fun _ hk => hk));clear hs5 hk5))
          go_ret
          exact uu.out_some HO.out.symm HR5.out HS5.out HK5.out
theorem u1t.nan (s:ByteArray) (w:World):Calls Tryz.prog 124 #[.string s] w fun e w' => e = .returned (.bool false) ∧ w' = w:=by
 go_enter Tryz.func124,Tryz.ntmps124
 go_wp2
 go_ret
 exact ⟨by simp,rfl⟩
def u1t.cmpB (a b:ByteArray):Int:=if Tx.less a b = true then -1 else if Tx.less b a = true then 1 else 0
theorem u1t.cmp_less (a b:ByteArray):decide (u1t.cmpB a b < 0) = Tx.less a b:=by
 unfold u1t.cmpB
 split
 · rename_i h
   rw [h]
   decide
 · rename_i h
   have h2:Tx.less a b = false:=by simpa using h
   rw [h2]
   split <;> decide
theorem u1t.less_is (a b:ByteArray):Tx.less a b = Op.bytesLess a.toList b.toList:=by
 unfold Tx.less
 rw [ByteArray.toList_eq,ByteArray.toList_eq]
theorem u1t.cmp (a b:ByteArray) (w:World):Calls Tryz.prog 95 #[.string a,.string b] w fun e w' => e = .returned (.int .i64 (u1t.cmpB a b)) ∧ w' = w:=by
 have HE:Aside0 (u1t.cmpB a b = if Op.bytesLess a.toList b.toList = true then -1 else if Op.bytesLess b.toList a.toList = true then 1 else 0):=⟨by unfold u1t.cmpB;rw [u1t.less_is,u1t.less_is]⟩
 rw [HE.out]
 clear HE
 cases h1:Op.bytesLess a.toList b.toList with
 | true =>
   go_enter Tryz.func95,Tryz.ntmps95
   go_wp2_with (go_at_call 124;refine (u1t.nan _ _).mono ?_;rintro e W1 ⟨rfl,rfl⟩)
   go_ret
   exact ⟨rfl,rfl⟩
 | false =>
   cases h2:Op.bytesLess b.toList a.toList with
   | true =>
     go_enter Tryz.func95,Tryz.ntmps95
     go_wp2_with (go_at_call 124;refine (u1t.nan _ _).mono ?_;rintro e W1 ⟨rfl,rfl⟩)
     go_ret
     exact ⟨rfl,rfl⟩
   | false =>
     go_enter Tryz.func95,Tryz.ntmps95
     go_wp2_with (go_at_call 124;refine (u1t.nan _ _).mono ?_;rintro e W1 ⟨rfl,rfl⟩)
     go_ret
     exact ⟨rfl,rfl⟩
theorem u1t.by_name (x y:Tx.Lb) (w:World):Calls Tryz.prog 94 #[.agg #[.string x.f0,.string x.f1],.agg #[.string y.f0,.string y.f1]] w fun e w' => e = .returned (.int .i64 (u1t.cmpB x.f0 y.f0)) ∧ ∃ q os',w' = Go.Sort.grow (w.drewN q) os':=by
 go_enter Tryz.func94,Tryz.ntmps94
 go_wp2_with (go_at_call 95;(with_reducible refine (u1t.cmp _ _ _).mono ?_);rintro e W1 ⟨rfl,rfl⟩)
 go_ret
 exact ⟨rfl,0,#[.cells #[.string x.f0,.string x.f1] 66,.cells #[.string y.f0,.string y.f1] 66],by rw [Go.Sort.alloc_eq_grow,Go.Sort.alloc_eq_grow,Go.Sort.grow_grow];rfl⟩
theorem u1t.cell_at {W:World} {gb c:Nat} {l:List Tx.Lb} {base:Nat} {ok:Nat → Prop} (h:Kd.R k66 66 W base ok (.slice (some ⟨gb,0,none⟩) l.length c) l) (i:Nat) (hi:i < l.length):W.cell? ⟨gb,i * 2,none⟩ = some (.string l[i].f0) ∧ W.cell? ⟨gb,i * 2 + 1,none⟩ = some (.string l[i].f1) ∧ gb < W.heap.size:=by
 obtain ⟨ad,ea,q0,q1⟩:=at_T66 (Kd.R_reads' h).2.2 (i:Int) (by omega) (by omega)
 obtain rfl:ad = ⟨gb,0,none⟩:=by injection ea with ea;exact ea.symm
 have hadd:(⟨gb,0,none⟩:Addr).add ((i:Int).toNat * 2) = ⟨gb,i * 2,none⟩:=by
  rw [show (i:Int).toNat = i from rfl]
  unfold Addr.add
  split
  · rename_i h0
    rw [h0]
  · simp
 rw [hadd] at q0 q1
 have hr:u2g l (i:Int) = l[i]:=by simp [u2g,List.getD_eq_getElem?_getD,hi]
 rw [hr] at q0 q1
 exact ⟨q0,q1,Kd.R_lt h gb (by simp [Value.ownBlock])⟩
theorem u1t.below_grow (W:World) (os:Array Obj):Below W.heap.size W (Go.Sort.grow W os):=⟨rfl,rfl,rfl,by simp,fun i hi => Go.Sort.heap_grow_old W os hi⟩
theorem u1t.thawed {W:World} {gb n c:Nat} {l:List Tx.Lb} {base:Nat} {ok:Nat → Prop} (h:Kd.R k66 66 W base ok (.slice (some ⟨gb,0,none⟩) n c) l):(∀ o,W.frozen? ⟨gb,o,none⟩ = false) ∧ True:=by
 obtain ⟨_,inner,hown,_⟩:=h
 rcases hown.2 with ⟨hv,_⟩ | ⟨g',cap',cur,hv,hb,hh,_⟩
 · cases hv
 injection hv with ha _ _
 injection ha with ha
 injection ha with hg'
 subst hg'
 exact ⟨fun o => uk hh o,trivial⟩
theorem u1t.set_elem {W:World} {gb c n:Nat} {l:List Tx.Lb} {base:Nat} {ok:Nat → Prop} (h:Kd.R k66 66 W base ok (.slice (some ⟨gb,0,none⟩) n c) l) (hn:l.length = n) (i:Nat) (hi:i < n) (x:Tx.Lb) :
 Kd.R k66 66 (W.setCells gb (i * 2) [.string x.f0,.string x.f1]) base ok (.slice (some ⟨gb,0,none⟩) n c) (l.set i x) ∧ W.grownBy (W.setCells gb (i * 2) [.string x.f0,.string x.f1]) (some gb):=by
 subst hn
 obtain ⟨q0,q1,_⟩:=u1t.cell_at h i hi
 have hs:=Kd.R_seg (okp:=fun k => ok k ∧ k ≠ gb) (x':=x) (seg:=[.string x.f0,.string x.f1]) (c:=[.string l[i].f0,.string l[i].f1]) (j:=0) h (i:Int) (by omega) (by omega) rfl (by
  intro j' u hu
  have e2:(i:Int).toNat * k66.sz = i * 2:=rfl
  rw [e2]
  match j',hu with
  | 0,hu => simp at hu;subst hu;exact q0
  | 1,hu => simp at hu;subst hu;exact q1) (by show 0 + 2 ≤ 2;omega) (k66_mkM _ _ _ _) (fun k hk => hk)
 exact hs
set_option maxRecDepth 100000 in
set_option maxHeartbeats 4000000 in
theorem u1t.insertion (W:World) (base:Nat) (ok:Nat → Prop) (gb c:Nat) (l:List Tx.Lb) (hn:l.length ≤ 19) (hR:Kd.R k66 66 W base ok (.slice (some ⟨gb,0,none⟩) l.length c) l) :
 Calls Tryz.prog 145 #[.slice (some ⟨gb,0,none⟩) l.length c,.int .i64 0,.int .i64 (l.length:Int),.func (.func 94) #[] #[]] W fun e W' => e = .returned (.tuple #[]) ∧ Kd.R k66 66 W' base ok (.slice (some ⟨gb,0,none⟩) l.length c) (Tx.sortP l) ∧ W.grownBy W' (some gb):=by
 have HR:=Aside0.mk hR
 have mixed:Tryz.prog.follows .mixedOrders = true:=by kernel_rfl
 clear hR
 go_enter Tryz.func145,Tryz.ntmps145
 go_wp2
 go_loopg [8] (l.length) (fun kq vi wr => ∃ (i:Nat) (cur:List Tx.Lb),vi = .int .i64 i ∧ 1 ≤ i ∧ i ≤ l.length + 1 ∧ l.length ≤ kq + i ∧ Aside0 (cur.length = l.length ∧ cur = Tx.sortedTo l i ++ l.drop i) ∧ Aside0 (Kd.R k66 66 wr base ok (.slice (some ⟨gb,0,none⟩) l.length c) cur) ∧ Aside0 (W.grownBy wr (some gb)))
 case atStart => exact ⟨1,l,by go_num,by omega,by omega,by omega,⟨rfl,by rcases l with _ | ⟨x,l⟩ <;> rfl⟩,HR,⟨World.grownBy.refl _ _⟩⟩
 case round =>
  clear HR
  obtain ⟨i,cur,rfl,hi1,hi2,hkk,HC,HR,HG⟩:=hrel
  by_cases hlt:i < l.length
  · go_wp2
    go_loopg [9] i (fun kj vj wq => ∃ (pa pb:List Tx.Lb) (cur2:List Tx.Lb),vj = .int .i64 (pa.length:Int) ∧ pa.length ≤ kj ∧ pa.length ≤ i ∧ cur2.length = l.length ∧ Aside0 (Tx.sortedTo l i = pa ++ pb ∧ (∀ y ∈ pb,Tx.less l[i].f0 y.f0 = true) ∧ cur2 = pa ++ l[i] :: (pb ++ l.drop (i + 1))) ∧ Aside0 (Kd.R k66 66 wq base ok (.slice (some ⟨gb,0,none⟩) l.length c) cur2) ∧ Aside0 (W.grownBy wq (some gb)))
    case atStart => exact ⟨Tx.sortedTo l i,[],cur,by rw [Tx.sortedTo_len l i (by omega)],by rw [Tx.sortedTo_len l i (by omega)];exact Nat.le_refl _,by rw [Tx.sortedTo_len l i (by omega)];exact Nat.le_refl _,HC.out.1,⟨(List.append_nil _).symm,fun y hy => (by cases hy),by rw [HC.out.2,List.nil_append,List.drop_eq_getElem_cons hlt]⟩,HR,HG⟩
    case round =>
     clear HC HR HG
     obtain ⟨pa,pb,cur2,rfl,hj1,hj2,hcl,HC,HR,HG⟩:=hrel
     cases hpa:pa.reverse with
     | nil =>
       obtain rfl:pa = []:=by simpa using hpa
       have OUT:Aside0 (Tx.sortedTo l (i + 1) ++ l.drop (i + 1) = cur2):=⟨by rw [Tx.sortedTo_next l i hlt [] pb HC.out.1 HC.out.2.1 (fun y hy => (by cases hy)),HC.out.2.2];simp⟩
       have HHC:=Aside0.mk hcl
       clear hpa HC hcl hj1 hj2
       have hjaz:decide (((([]:List Tx.Lb).length:Nat):Int) > 0) = false:=rfl
       have HRd:=Aside0.mk (Kd.R_drew HR.out)
       have HGd:=Aside0.mk (HG.out.trans (grown_of_below (ud (Below.refl _ _)) _))
       rw [List.length_nil]
       go_wp2_with fail
       go_big_region_o
       all_goals go_wp2
       go_roundg (l.length - (i + 1))
       case measure => omega
       case rel => exact ⟨i + 1,cur2,by go_num,by omega,by omega,by omega,⟨HHC.out,OUT.out.symm⟩,HRd,HGd⟩
     | cons y pr =>
       obtain ⟨pq,rfl⟩:∃ pq,pa = pq ++ [y]:=⟨pr.reverse,by rw [← List.reverse_reverse pa,hpa,List.reverse_cons]⟩
       clear hpa
       rw [List.length_append,List.length_singleton] at hj1 hj2
       obtain ⟨jp,hjp⟩:∃ jp,jp = pq.length:=⟨_,rfl⟩
       have hrow:=HC.out.2.2
       have e1:cur2[jp + 1]? = some l[i]:=by rw [hrow];simp [hjp]
       have e2:cur2[jp]? = some y:=by rw [hrow];simp [hjp]
       have b1:jp + 1 < cur2.length:=(List.getElem?_eq_some_iff.1 e1).1
       have b2:jp < cur2.length:=(List.getElem?_eq_some_iff.1 e2).1
       have e3:cur2[jp + 1] = l[i]:=(List.getElem?_eq_some_iff.1 e1).2
       have e4:cur2[jp] = y:=(List.getElem?_eq_some_iff.1 e2).2
       rw [← hcl] at HR
       obtain ⟨x0,x1,hgb⟩:=u1t.cell_at HR.out (jp + 1) b1
       obtain ⟨y0,y1,_⟩:=u1t.cell_at HR.out jp b2
       rw [e3] at x0 x1
       rw [e4] at y0 y1
       rw [hcl] at HR b1 b2
       clear hrow e1 e2 e3 e4
       rw [List.length_append,List.length_singleton,← hjp]
       generalize hxi:l[i] = xi at *
       have HJ:=Aside0.mk hjp
       have HXI:=Aside0.mk hxi
       clear hjp hxi
       have lx0:=fun n os => Go.cell_grown (n:=n) (os:=os) hgb x0
       have lx1:=fun n os => Go.cell_grown (n:=n) (os:=os) hgb x1
       have ly0:=fun n os => Go.cell_grown (n:=n) (os:=os) hgb y0
       have ly1:=fun n os => Go.cell_grown (n:=n) (os:=os) hgb y1
       have hwp:IntKind.i64.wrap (jp:Int) = (jp:Int):=by rw [IntKind.wrap_i64];omega
       have jz:(jp:Int) + 1 < (l.length:Int):=by omega
       have jz1:(jp:Int) < (l.length:Int):=by omega
       have p0:(0:Int) ≤ (jp:Int) + 1:=by omega
       have e0:((jp:Int) + 1).toNat = jp + 1:=by omega
       have hcg:∀ n' os',Calls Tryz.prog 94 #[.agg #[.string xi.f0,.string xi.f1],.agg #[.string y.f0,.string y.f1]] (Go.Sort.grow (wr.drewN n') os') fun e w' => e = .returned (.int .i64 (u1t.cmpB xi.f0 y.f0)) ∧ ∃ q os'',w' = Go.Sort.grow ((Go.Sort.grow (wr.drewN n') os').drewN q) os'':=fun n' os' => u1t.by_name xi y _
       have HHC:=Aside0.mk hcl
       have HJ2:=Aside0.mk hj2
       have HGB:=Aside0.mk hgb
       clear hcl hj2
       have cl:=u1t.cmp_less xi.f0 y.f0
       cases hlv:Tx.less xi.f0 y.f0 with
       | true =>
         rw [hlv] at cl
         go_wp2_with fail
         go_quiet_grown (first | (go_at_call 94;refine Calls.grown_of (hcg _ _)))
         go_wp2_with fail
         have x0':=lx0 nq osq
         have x1':=lx1 nq osq
         have y0':=ly0 nq osq
         have y1':=ly1 nq osq
         have HR2:Aside0 (Kd.R k66 66 (Go.Sort.grow (wr.drewN nq) osq) base ok (.slice (some ⟨gb,0,none⟩) l.length c) cur2):=⟨Kd.R_below (Kd.R_drewN HR.out nq) (u1t.below_grow _ _)⟩
         have HG2:Aside0 (W.grownBy (Go.Sort.grow (wr.drewN nq) osq) (some gb)):=⟨HG.out.trans (grown_of_below (u1h (ub (Below.refl _ _) nq) (u1t.below_grow _ _)) _)⟩
         clear lx0 lx1 ly0 ly1 hcg x0 x1 y0 y1 HR HG
         generalize Go.Sort.grow (wr.drewN nq) osq = wq2 at *
         obtain ⟨fz,_⟩:=u1t.thawed HR2.out
         have n1:¬ jp * 2 = (jp + 1) * 2:=by omega
         have n2:¬ jp * 2 = (jp + 1) * 2 + 1:=by omega
         have n3:¬ jp * 2 + 1 = (jp + 1) * 2:=by omega
         have n4:¬ jp * 2 + 1 = (jp + 1) * 2 + 1:=by omega
         go_big_region_o
         all_goals go_wp2
         obtain ⟨r1,g1⟩:=u1t.set_elem HR2.out HHC.out (jp + 1) (by omega) y
         obtain ⟨r2,g2⟩:=u1t.set_elem r1 (by rw [List.length_set];exact HHC.out) jp (by omega) xi
         have HR3:Aside0 (Kd.R k66 66 ((((wq2.setCell ⟨gb,(jp + 1) * 2,none⟩ (.string y.f0)).setCell ⟨gb,(jp + 1) * 2 + 1,none⟩ (.string y.f1)).setCell ⟨gb,jp * 2,none⟩ (.string xi.f0)).setCell ⟨gb,jp * 2 + 1,none⟩ (.string xi.f1)).drew base ok (.slice (some ⟨gb,0,none⟩) l.length c) ((cur2.set (jp + 1) y).set jp xi)):=⟨Kd.R_drew r2⟩
         have HG3:Aside0 (W.grownBy ((((wq2.setCell ⟨gb,(jp + 1) * 2,none⟩ (.string y.f0)).setCell ⟨gb,(jp + 1) * 2 + 1,none⟩ (.string y.f1)).setCell ⟨gb,jp * 2,none⟩ (.string xi.f0)).setCell ⟨gb,jp * 2 + 1,none⟩ (.string xi.f1)).drew (some gb)):=⟨((HG2.out.trans g1).trans g2).trans (grown_of_below (ud (Below.refl _ _)) _)⟩
         clear r1 g1 r2 g2 HR2 HG2
         go_roundg jp
         case measure => have:=HJ.out;omega
         case rel =>
          refine ⟨pq,y :: pb,(cur2.set (jp + 1) y).set jp xi,by rw [HJ.out],by rw [HJ.out];exact Nat.le_refl _,by have:=HJ.out;have:=HJ2.out;omega,by rw [List.length_set,List.length_set];exact HHC.out,⟨?_,?_,?_⟩,HR3,HG3⟩
          · rw [HC.out.1,List.append_assoc,List.singleton_append]
          · intro z hz
            rcases List.mem_cons.1 hz with rfl | hz
            · exact hlv
            · exact HC.out.2.1 z hz
          · rw [HC.out.2.2,HJ.out]
            simp
       | false =>
         rw [hlv] at cl
         go_wp2_with fail
         go_quiet_grown (first | (go_at_call 94;refine Calls.grown_of (hcg _ _)))
         go_wp2
         have HR2:Aside0 (Kd.R k66 66 (Go.Sort.grow (wr.drewN nq) osq) base ok (.slice (some ⟨gb,0,none⟩) l.length c) cur2):=⟨Kd.R_below (Kd.R_drewN HR.out nq) (u1t.below_grow _ _)⟩
         have HG2:Aside0 (W.grownBy (Go.Sort.grow (wr.drewN nq) osq) (some gb)):=⟨HG.out.trans (grown_of_below (u1h (ub (Below.refl _ _) nq) (u1t.below_grow _ _)) _)⟩
         have OUT:Aside0 (Tx.sortedTo l (i + 1) ++ l.drop (i + 1) = cur2):=⟨by
          rw [Tx.sortedTo_next l i hlt (pq ++ [y]) pb HC.out.1 (fun z hz => by rw [HXI.out];exact HC.out.2.1 z hz) (fun z hz => by
           obtain rfl:y = z:=by simpa using hz
           rw [HXI.out,hlv]
           decide),HC.out.2.2,HXI.out]
          simp⟩
         go_roundg (l.length - (i + 1))
         case measure => omega
         case rel => exact ⟨i + 1,cur2,by go_num,by omega,by omega,by omega,⟨HHC.out,OUT.out.symm⟩,HR2,HG2⟩
  · have hin:i = l.length ∨ i = l.length + 1:=by omega
    have HF:Aside0 (cur = Tx.sortP l):=⟨by
     rw [HC.out.2,List.drop_eq_nil_of_le (by omega),List.append_nil]
     rcases hin with h9 | h9
     · rw [h9,Tx.sortedTo_all]
     · unfold Tx.sortedTo Tx.sortP
       rw [List.take_of_length_le (by omega)]⟩
    clear hin
    go_wp2
    go_end0
    exact ⟨rfl,HF.out ▸ HR.out,HG.out⟩
theorem u1t.insertion_few (W:World) (A:Option Addr) (c:Nat) (l:List Tx.Lb) (hn:l.length ≤ 1) :
 Calls Tryz.prog 145 #[.slice A l.length c,.int .i64 0,.int .i64 (l.length:Int),.func (.func 94) #[] #[]] W fun e W' => e = .returned (.tuple #[]) ∧ W' = W:=by
 have hd:decide ((1:Int) < (l.length:Int)) = false:=decide_eq_false (by omega)
 have hlt:¬ (1:Int) < (l.length:Int):=by omega
 go_enter Tryz.func145,Tryz.ntmps145
 go_wp2
 go_loopg [8] (1) (fun kq vi wr => vi = .int .i64 1 ∧ 0 < kq ∧ wr = W)
 case atStart => exact ⟨by rfl,by omega,rfl⟩
 case round =>
  obtain ⟨rfl,hk,rfl⟩:=hrel
  go_wp2
  go_end0
  exact ⟨rfl,rfl⟩
theorem u1t.sortP_few (l:List Tx.Lb) (hn:l.length ≤ 1):Tx.sortP l = l:=by
 rcases l with _ | ⟨x,_ | ⟨y,l⟩⟩
 · rfl
 · rfl
 · simp at hn
theorem u1t.form {W:World} {base n c:Nat} {ok:Nat → Prop} {A:Option Addr} {xs:List Tx.Lb} (h:Kd.R k66 66 W base ok (.slice A n c) xs) (hn:0 < n):∃ g,A = some ⟨g,0,none⟩:=by
 obtain ⟨_,_,ho,_⟩:=h
 rcases ho.2 with ⟨hv,h0⟩ | ⟨g,cap,cur,hv,_⟩
 · injection hv with _ h1
   omega
 · injection hv with h1
   exact ⟨g,h1⟩
theorem u1t.ins (W:World) (base:Nat) (ok:Nat → Prop) (A:Option Addr) (c:Nat) (l:List Tx.Lb) (hn:l.length ≤ 19) (hR:Kd.R k66 66 W base ok (.slice A l.length c) l) :
 Calls Tryz.prog 145 #[.slice A l.length c,.int .i64 0,.int .i64 (l.length:Int),.func (.func 94) #[] #[]] W fun e W' => e = .returned (.tuple #[]) ∧ Kd.R k66 66 W' base ok (.slice A l.length c) (Tx.sortP l) ∧ W.grownBy W' (Value.slice A l.length c).ownBlock:=by
 by_cases h1:l.length ≤ 1
 · refine (u1t.insertion_few W A c l h1).mono ?_
   rintro e W' ⟨rfl,rfl⟩
   exact ⟨rfl,by rw [u1t.sortP_few l h1];exact hR,World.grownBy.refl _ _⟩
 · obtain ⟨gb,rfl⟩:=u1t.form hR (by omega)
   exact u1t.insertion W base ok gb c l hn hR
set_option maxRecDepth 100000 in
set_option maxHeartbeats 1000000 in
theorem u1t.stable (W:World) (base:Nat) (ok:Nat → Prop) (A:Option Addr) (c:Nat) (l:List Tx.Lb) (hn:l.length ≤ 19) (hR:Kd.R k66 66 W base ok (.slice A l.length c) l) :
 Calls Tryz.prog 123 #[.slice A l.length c,.int .i64 (l.length:Int),.func (.func 94) #[] #[]] W fun e W' => e = .returned (.tuple #[]) ∧ Kd.R k66 66 W' base ok (.slice A l.length c) (Tx.sortP l) ∧ W.grownBy W' (Value.slice A l.length c).ownBlock:=by
 have HR:=Aside0.mk hR
 clear hR
 have h20:¬ (20:Int) ≤ (l.length:Int):=by omega
 have h20b:¬ (20:Int) < (l.length:Int):=by omega
 go_enter Tryz.func123,Tryz.ntmps123
 go_wp2
 go_loopg [7,8] (1) (fun kq v7 v8 wr => v7 = .int .i64 0 ∧ v8 = .int .i64 20 ∧ 0 < kq ∧ wr = W)
 case atStart => exact ⟨by rfl,by rfl,by omega,rfl⟩
 case round =>
  obtain ⟨rfl,rfl,hk,rfl⟩:=hrel
  go_wp2_with (go_at_call 145;(with_reducible refine (u1t.ins _ base ok A c l hn HR.out).mono ?_);rintro e W1 ⟨rfl,hr1,hg1⟩;have HR1:=Aside0.mk hr1;have HG1:=Aside0.mk hg1;clear hr1 hg1)
  go_loopg [6] (1) (fun kq v6 wr => v6 = .int .i64 20 ∧ 0 < kq ∧ wr = W1)
  case atStart => exact ⟨by rfl,by omega,rfl⟩
  case round =>
   obtain ⟨rfl,hk,rfl⟩:=hrel
   go_wp2
   go_end0
   exact ⟨rfl,HR1.out,HG1.out⟩
theorem u1t.calls (W:World) (base:Nat) (ok:Nat → Prop) (A:Option Addr) (c:Nat) (l:List Tx.Lb) (hn:l.length ≤ 19) (hR:Kd.R k66 66 W base ok (.slice A l.length c) l) :
 Calls Tryz.prog 93 #[.slice A l.length c,.func (.func 94) #[] #[]] W fun e W' => e = .returned (.tuple #[]) ∧ Kd.R k66 66 W' base ok (.slice A l.length c) (Tx.sortP l) ∧ W.grownBy W' (Value.slice A l.length c).ownBlock:=by
 have HR:=Aside0.mk hR
 clear hR
 go_enter Tryz.func93,Tryz.ntmps93
 go_wp2_with (go_at_call 123;(with_reducible refine (u1t.stable _ base ok A c l hn HR.out).mono ?_);rintro e W1 ⟨rfl,hr1,hg1⟩;have HR1:=Aside0.mk hr1;have HG1:=Aside0.mk hg1;clear hr1 hg1)
 go_end0
 exact ⟨rfl,HR1.out,HG1.out⟩
mutual
def u1i.j0:Nat → ByteArray → Bool → Option (Int × ByteArray × Bool)
 | 0,_,_ => none
 | k + 1,x0,x5 => (u1n.f k x0 10).bind fun t190 => (if t190 < 1 then (u1i.j1 k x0 x5 t190 true) else (u1i.j1 k x0 x5 t190 (decide (t190 > 19))))
def u1i.j1:Nat → ByteArray → Bool → Int → Bool → Option (Int × ByteArray × Bool)
 | 0,_,_,_,_ => none
 | k + 1,x0,x5,x6,x21 => if x21 = true then (some (0,(⟨#[]⟩:ByteArray),false)) else (if 0 ≤ x6 then (if x6 ≤ (x0.size:Int) then ((u1g.f k (x0.extract 0 (x6:Int).toNat) 10).bind fun bt191 => (if x5 = true then (if bt191.2 = true then (some (wrap64 (IntKind.u64.wrap (-bt191.1)),x0.extract (x6:Int).toNat x0.size,decide (bt191.1 ≤ 9223372036854775808))) else (some (wrap64 (IntKind.u64.wrap (-bt191.1)),x0.extract (x6:Int).toNat x0.size,false))) else (if bt191.2 = true then (some (wrap64 (bt191.1),x0.extract (x6:Int).toNat x0.size,decide (bt191.1 < 9223372036854775808))) else (some (wrap64 (bt191.1),x0.extract (x6:Int).toNat x0.size,false))))) else (none)) else (none))
end
def u1i.f (k:Nat) (a0:ByteArray):Option (Int × ByteArray × Bool):=(uv.f a0 (⟨#[45]⟩:ByteArray)).bind fun t189 => (if t189 = true then (if 1 ≤ (a0.size:Int) then (u1i.j0 k (a0.extract 1 a0.size) t189) else (none)) else (u1i.j0 k a0 t189))
set_option maxHeartbeats 8000000 in
set_option maxRecDepth 100000 in
theorem u1i.calls (k:Nat) (a0:ByteArray) (r1:Int) (r2:ByteArray) (r3:Bool) (w:World) (h:u1i.f k a0 = some (r1,r2,r3)) :
 Calls Tryz.prog 103 #[.string a0] w fun e w' => e = .returned (.tuple #[.int .i64 r1,.string r2,.bool r3]) ∧ us w w':=by
 have H:((uv.f a0 (⟨#[45]⟩:ByteArray)).bind fun t189 => (if t189 = true then (if 1 ≤ (a0.size:Int) then (u1i.j0 k (a0.extract 1 a0.size) t189) else (none)) else (u1i.j0 k a0 t189))) = some (r1,r2,r3):=h
 clear h
 replace H:=Option.bind_eq_some_iff.mp H
 obtain ⟨t189,A20,H⟩:=H
 replace H:(if t189 = true then (if 1 ≤ (a0.size:Int) then (u1i.j0 k (a0.extract 1 a0.size) t189) else (none)) else (u1i.j0 k a0 t189)) = some (r1,r2,r3):=H
 have A2:=Aside0.mk A20
 clear A20
 have HC3:=Aside0.mk H
 clear H
 go_enter Tryz.func103,Tryz.ntmps103
 go_upto_if 11 with (first | (go_at_call 23;(with_reducible refine (uv.calls a0 (⟨#[45]⟩:ByteArray) t189 _ A2.out).mono ?_);rintro e w' ⟨rfl,⟨nd,rfl⟩⟩;(try first | exact ⟨rfl,_,World.drewN_drewN _ _ _⟩ | exact ⟨rfl,_,Eq.trans (World.drewN_drewN _ _ _) (congrArg (World.drewN _) (Nat.add_assoc _ _ _))⟩)))
 repeat (go_quiet (first | (go_at_call 23;(with_reducible refine (uv.calls a0 (⟨#[45]⟩:ByteArray) t189 _ A2.out).mono ?_);rintro e w' ⟨rfl,⟨nd,rfl⟩⟩;(try first | exact ⟨rfl,_,World.drewN_drewN _ _ _⟩ | exact ⟨rfl,_,Eq.trans (World.drewN_drewN _ _ _) (congrArg (World.drewN _) (Nat.add_assoc _ _ _))⟩)));go_upto_if 11 with (first | (go_at_call 23;(with_reducible refine (uv.calls a0 (⟨#[45]⟩:ByteArray) t189 _ A2.out).mono ?_);rintro e w' ⟨rfl,⟨nd,rfl⟩⟩;(try first | exact ⟨rfl,_,World.drewN_drewN _ _ _⟩ | exact ⟨rfl,_,Eq.trans (World.drewN_drewN _ _ _) (congrArg (World.drewN _) (Nat.add_assoc _ _ _))⟩))))
 (try simp only [Act.put,List.setIfInBounds_toArray,List.set_cons_zero,List.set_cons_succ])
 go_cut [0] (fun v0 wc => ∃ (kq:Nat) (x0_2:ByteArray),v0 = .string x0_2 ∧ Aside0 (u1i.j0 kq x0_2 t189 = some (r1,r2,r3)) ∧ Aside0 (kq ≤ k) ∧ us w wc)
 case first =>
  have H:=HC3.out
  clear HC3
  by_cases c4:t189 = true
  · subst c4
    have H1:(if 1 ≤ (a0.size:Int) then (u1i.j0 k (a0.extract 1 a0.size) true) else (none)) = some (r1,r2,r3):=by rw [if_pos rfl] at H;exact H
    clear H
    have H:=H1
    clear H1
    by_cases c5:1 ≤ (a0.size:Int)
    · rw [if_pos c5] at H
      have c5b0:=eq_true c5
      have c5b1:decide (1 ≤ (a0.size:Int)) = true:=decide_eq_true c5
      clear c5
      have H':=Aside0.mk H
      clear H
      go_wp2
      repeat (go_quiet (fail);try go_wp2)
      go_meet
      case rel => exact ⟨_,(a0.extract 1 a0.size),(by first | rfl | (simp;done) | (simp [*];done)),H',⟨by first | omega | exact Nat.le_refl _⟩,by repeat (first | exact us.refl _ | apply us.step)⟩
    · rw [if_neg c5] at H
      exact absurd H (by simp)
  · replace c4:=Bool.eq_false_iff.mpr c4
    subst c4
    have H1:(u1i.j0 k a0 false) = some (r1,r2,r3):=by rw [if_neg (show ¬ (false = true) by decide)] at H;exact H
    clear H
    have H:=H1
    clear H1
    have H':=Aside0.mk H
    clear H
    go_wp2
    repeat (go_quiet (fail);try go_wp2)
    go_meet
    case rel => exact ⟨_,(a0),(by first | rfl | (simp;done) | (simp [*];done)),H',⟨by first | omega | exact Nat.le_refl _⟩,by repeat (first | exact us.refl _ | apply us.step)⟩
 case rest =>
  clear HC3
  try clear c1
  try clear p2
  try clear c4
  try clear c5
  try clear c5b0
  try clear c5b1
  obtain ⟨kq,x0_2,rfl,HA,HJ2,⟨mc2,rfl⟩⟩:=hcut
  cases kq with
  | zero => exact absurd HA.out (by simp [u1i.j0])
  | succ kj2 =>
    have H:=HA.out
    clear HA
    simp only [u1i.j0] at H
    replace H:=Option.bind_eq_some_iff.mp H
    obtain ⟨t190,A60,H⟩:=H
    replace H:(if t190 < 1 then (u1i.j1 kj2 x0_2 t189 t190 true) else (u1i.j1 kj2 x0_2 t189 t190 (decide (t190 > 19)))) = some (r1,r2,r3):=H
    have A6:=Aside0.mk A60
    clear A60
    have HC7:=Aside0.mk H
    clear H
    go_upto_region 5 with (first | (go_at_call 129;(with_reducible refine (u1n.calls kj2 x0_2 10 t190 _ A6.out).mono ?_);rintro e w' ⟨rfl,⟨nd,rfl⟩⟩;(try first | exact ⟨rfl,_,World.drewN_drewN _ _ _⟩ | exact ⟨rfl,_,Eq.trans (World.drewN_drewN _ _ _) (congrArg (World.drewN _) (Nat.add_assoc _ _ _))⟩)))
    repeat (go_quiet (first | (go_at_call 129;(with_reducible refine (u1n.calls kj2 x0_2 10 t190 _ A6.out).mono ?_);rintro e w' ⟨rfl,⟨nd,rfl⟩⟩;(try first | exact ⟨rfl,_,World.drewN_drewN _ _ _⟩ | exact ⟨rfl,_,Eq.trans (World.drewN_drewN _ _ _) (congrArg (World.drewN _) (Nat.add_assoc _ _ _))⟩)));go_upto_region 5 with (first | (go_at_call 129;(with_reducible refine (u1n.calls kj2 x0_2 10 t190 _ A6.out).mono ?_);rintro e w' ⟨rfl,⟨nd,rfl⟩⟩;(try first | exact ⟨rfl,_,World.drewN_drewN _ _ _⟩ | exact ⟨rfl,_,Eq.trans (World.drewN_drewN _ _ _) (congrArg (World.drewN _) (Nat.add_assoc _ _ _))⟩))))
    (try simp only [Act.put,List.setIfInBounds_toArray,List.set_cons_zero,List.set_cons_succ])
    go_cut [21] (fun v21 wc => ∃ (kq:Nat) (x21_6:Bool),v21 = .bool x21_6 ∧ Aside0 (u1i.j1 kq x0_2 t189 t190 x21_6 = some (r1,r2,r3)) ∧ Aside0 (kq ≤ kj2) ∧ us w wc)
    case first =>
     have H:=HC7.out
     clear HC7
     by_cases c8:t190 < 1
     · rw [if_pos c8] at H
       have c8b0:decide (t190 < 1) = true:=decide_eq_true c8
       clear c8
       (first | rw [c8b0] | (simp only [i64_w,i32_w];rw [c8b0]) | skip)
       have H':=Aside0.mk H
       clear H
       go_wp2
       repeat (go_quiet (fail);try go_wp2)
       go_meet
       case rel => exact ⟨_,(true),(by first | rfl | (simp;done) | (simp [*];done)),H',⟨by have:=HJ2.out;first | omega | exact Nat.le_refl _⟩,by repeat (first | exact us.refl _ | apply us.step)⟩
     · rw [if_neg c8] at H
       have c8b0:decide (t190 < 1) = false:=decide_eq_false c8
       clear c8
       (first | rw [c8b0] | (simp only [i64_w,i32_w];rw [c8b0]) | skip)
       have H':=Aside0.mk H
       clear H
       go_wp2
       repeat (go_quiet (fail);try go_wp2)
       go_meet
       case rel => exact ⟨_,(decide (t190 > 19)),(by first | rfl | (simp;done) | (simp [*];done)),H',⟨by have:=HJ2.out;first | omega | exact Nat.le_refl _⟩,by repeat (first | exact us.refl _ | apply us.step)⟩
    case rest =>
     clear HC7
     try clear c1
     try clear c2
     try clear p2
     try clear c4
     try clear c5
     try clear c5b0
     try clear c5b1
     try clear c8
     try clear c8b0
     try clear p2
     obtain ⟨kq,x21_6,rfl,HA,HJ6,⟨mc6,rfl⟩⟩:=hcut
     cases kq with
     | zero => exact absurd HA.out (by simp [u1i.j1])
     | succ kj6 =>
       have H:=HA.out
       clear HA
       simp only [u1i.j1] at H
       by_cases c9:x21_6 = true
       · subst c9
         have H1:(some (0,(⟨#[]⟩:ByteArray),false)) = some (r1,r2,r3):=by rw [if_pos rfl] at H;exact H
         clear H
         have H:=H1
         clear H1
         simp only [Option.some.injEq,Prod.mk.injEq] at H
         obtain ⟨rfl,rfl,rfl⟩:=H
         go_wp2
         repeat (go_quiet (fail);try go_wp2)
         go_ret3
         exact ⟨by first | rfl | (simp;done) | (simp [*];done),by repeat (first | exact us.refl _ | apply us.step)⟩
       · replace c9:=Bool.eq_false_iff.mpr c9
         subst c9
         have H1:(if 0 ≤ t190 then (if t190 ≤ (x0_2.size:Int) then ((u1g.f kj6 (x0_2.extract 0 (t190:Int).toNat) 10).bind fun bt191 => (if t189 = true then (if bt191.2 = true then (some (wrap64 (IntKind.u64.wrap (-bt191.1)),x0_2.extract (t190:Int).toNat x0_2.size,decide (bt191.1 ≤ 9223372036854775808))) else (some (wrap64 (IntKind.u64.wrap (-bt191.1)),x0_2.extract (t190:Int).toNat x0_2.size,false))) else (if bt191.2 = true then (some (wrap64 (bt191.1),x0_2.extract (t190:Int).toNat x0_2.size,decide (bt191.1 < 9223372036854775808))) else (some (wrap64 (bt191.1),x0_2.extract (t190:Int).toNat x0_2.size,false))))) else (none)) else (none)) = some (r1,r2,r3):=by rw [if_neg (show ¬ (false = true) by decide)] at H;exact H
         clear H
         have H:=H1
         clear H1
         by_cases c10:0 ≤ t190
         · rw [if_pos c10] at H
           have c10b0:=eq_true c10
           have c10b1:decide (0 ≤ t190) = true:=decide_eq_true c10
           clear c10
           by_cases c11:t190 ≤ (x0_2.size:Int)
           · rw [if_pos c11] at H
             have c11b0:=eq_true c11
             have c11b1:decide (t190 ≤ (x0_2.size:Int)) = true:=decide_eq_true c11
             clear c11
             replace H:=Option.bind_eq_some_iff.mp H
             obtain ⟨⟨t191,t192⟩,A120,H⟩:=H
             replace H:(if t189 = true then (if t192 = true then (some (wrap64 (IntKind.u64.wrap (-t191)),x0_2.extract (t190:Int).toNat x0_2.size,decide (t191 ≤ 9223372036854775808))) else (some (wrap64 (IntKind.u64.wrap (-t191)),x0_2.extract (t190:Int).toNat x0_2.size,false))) else (if t192 = true then (some (wrap64 (t191),x0_2.extract (t190:Int).toNat x0_2.size,decide (t191 < 9223372036854775808))) else (some (wrap64 (t191),x0_2.extract (t190:Int).toNat x0_2.size,false)))) = some (r1,r2,r3):=H
             have A12:=Aside0.mk A120
             clear A120
             by_cases c13:t189 = true
             · subst c13
               have H1:(if t192 = true then (some (wrap64 (IntKind.u64.wrap (-t191)),x0_2.extract (t190:Int).toNat x0_2.size,decide (t191 ≤ 9223372036854775808))) else (some (wrap64 (IntKind.u64.wrap (-t191)),x0_2.extract (t190:Int).toNat x0_2.size,false))) = some (r1,r2,r3):=by rw [if_pos rfl] at H;exact H
               clear H
               have H:=H1
               clear H1
               have c14b0:=eq_true (of_decide_eq_true (by first | (with_reducible assumption) | assumption):0 ≤ t190)
               have c15b0:=eq_true (of_decide_eq_true (by first | (with_reducible assumption) | assumption):t190 ≤ (x0_2.size:Int))
               by_cases c16:t192 = true
               · subst c16
                 have H1:(some (wrap64 (IntKind.u64.wrap (-t191)),x0_2.extract (t190:Int).toNat x0_2.size,decide (t191 ≤ 9223372036854775808))) = some (r1,r2,r3):=by rw [if_pos rfl] at H;exact H
                 clear H
                 have H:=H1
                 clear H1
                 simp only [Option.some.injEq,Prod.mk.injEq] at H
                 obtain ⟨rfl,rfl,rfl⟩:=H
                 go_wp2_with (first | (go_at_call 130;(with_reducible refine (u1g.calls kj6 (x0_2.extract 0 (t190:Int).toNat) 10 t191 true _ A12.out).mono ?_);rintro e w' ⟨rfl,⟨nd,rfl⟩⟩;(try first | exact ⟨rfl,_,World.drewN_drewN _ _ _⟩ | exact ⟨rfl,_,Eq.trans (World.drewN_drewN _ _ _) (congrArg (World.drewN _) (Nat.add_assoc _ _ _))⟩)))
                 repeat (go_quiet (first | (go_at_call 130;(with_reducible refine (u1g.calls kj6 (x0_2.extract 0 (t190:Int).toNat) 10 t191 true _ A12.out).mono ?_);rintro e w' ⟨rfl,⟨nd,rfl⟩⟩;(try first | exact ⟨rfl,_,World.drewN_drewN _ _ _⟩ | exact ⟨rfl,_,Eq.trans (World.drewN_drewN _ _ _) (congrArg (World.drewN _) (Nat.add_assoc _ _ _))⟩)));try go_wp2_with (first | (go_at_call 130;(with_reducible refine (u1g.calls kj6 (x0_2.extract 0 (t190:Int).toNat) 10 t191 true _ A12.out).mono ?_);rintro e w' ⟨rfl,⟨nd,rfl⟩⟩;(try first | exact ⟨rfl,_,World.drewN_drewN _ _ _⟩ | exact ⟨rfl,_,Eq.trans (World.drewN_drewN _ _ _) (congrArg (World.drewN _) (Nat.add_assoc _ _ _))⟩))))
                 go_ret3
                 exact ⟨by first | rfl | (simp;done) | (simp [*];done),by repeat (first | exact us.refl _ | apply us.step)⟩
               · replace c16:=Bool.eq_false_iff.mpr c16
                 subst c16
                 have H1:(some (wrap64 (IntKind.u64.wrap (-t191)),x0_2.extract (t190:Int).toNat x0_2.size,false)) = some (r1,r2,r3):=by rw [if_neg (show ¬ (false = true) by decide)] at H;exact H
                 clear H
                 have H:=H1
                 clear H1
                 simp only [Option.some.injEq,Prod.mk.injEq] at H
                 obtain ⟨rfl,rfl,rfl⟩:=H
                 go_wp2_with (first | (go_at_call 130;(with_reducible refine (u1g.calls kj6 (x0_2.extract 0 (t190:Int).toNat) 10 t191 false _ A12.out).mono ?_);rintro e w' ⟨rfl,⟨nd,rfl⟩⟩;(try first | exact ⟨rfl,_,World.drewN_drewN _ _ _⟩ | exact ⟨rfl,_,Eq.trans (World.drewN_drewN _ _ _) (congrArg (World.drewN _) (Nat.add_assoc _ _ _))⟩)))
                 repeat (go_quiet (first | (go_at_call 130;(with_reducible refine (u1g.calls kj6 (x0_2.extract 0 (t190:Int).toNat) 10 t191 false _ A12.out).mono ?_);rintro e w' ⟨rfl,⟨nd,rfl⟩⟩;(try first | exact ⟨rfl,_,World.drewN_drewN _ _ _⟩ | exact ⟨rfl,_,Eq.trans (World.drewN_drewN _ _ _) (congrArg (World.drewN _) (Nat.add_assoc _ _ _))⟩)));try go_wp2_with (first | (go_at_call 130;(with_reducible refine (u1g.calls kj6 (x0_2.extract 0 (t190:Int).toNat) 10 t191 false _ A12.out).mono ?_);rintro e w' ⟨rfl,⟨nd,rfl⟩⟩;(try first | exact ⟨rfl,_,World.drewN_drewN _ _ _⟩ | exact ⟨rfl,_,Eq.trans (World.drewN_drewN _ _ _) (congrArg (World.drewN _) (Nat.add_assoc _ _ _))⟩))))
                 go_ret3
                 exact ⟨by first | rfl | (simp;done) | (simp [*];done),by repeat (first | exact us.refl _ | apply us.step)⟩
             · replace c13:=Bool.eq_false_iff.mpr c13
               subst c13
               have H1:(if t192 = true then (some (wrap64 (t191),x0_2.extract (t190:Int).toNat x0_2.size,decide (t191 < 9223372036854775808))) else (some (wrap64 (t191),x0_2.extract (t190:Int).toNat x0_2.size,false))) = some (r1,r2,r3):=by rw [if_neg (show ¬ (false = true) by decide)] at H;exact H
               clear H
               have H:=H1
               clear H1
               have c17b0:=eq_true (of_decide_eq_true (by first | (with_reducible assumption) | assumption):0 ≤ t190)
               have c18b0:=eq_true (of_decide_eq_true (by first | (with_reducible assumption) | assumption):t190 ≤ (x0_2.size:Int))
               by_cases c19:t192 = true
               · subst c19
                 have H1:(some (wrap64 (t191),x0_2.extract (t190:Int).toNat x0_2.size,decide (t191 < 9223372036854775808))) = some (r1,r2,r3):=by rw [if_pos rfl] at H;exact H
                 clear H
                 have H:=H1
                 clear H1
                 simp only [Option.some.injEq,Prod.mk.injEq] at H
                 obtain ⟨rfl,rfl,rfl⟩:=H
                 go_wp2_with (first | (go_at_call 130;(with_reducible refine (u1g.calls kj6 (x0_2.extract 0 (t190:Int).toNat) 10 t191 true _ A12.out).mono ?_);rintro e w' ⟨rfl,⟨nd,rfl⟩⟩;(try first | exact ⟨rfl,_,World.drewN_drewN _ _ _⟩ | exact ⟨rfl,_,Eq.trans (World.drewN_drewN _ _ _) (congrArg (World.drewN _) (Nat.add_assoc _ _ _))⟩)))
                 repeat (go_quiet (first | (go_at_call 130;(with_reducible refine (u1g.calls kj6 (x0_2.extract 0 (t190:Int).toNat) 10 t191 true _ A12.out).mono ?_);rintro e w' ⟨rfl,⟨nd,rfl⟩⟩;(try first | exact ⟨rfl,_,World.drewN_drewN _ _ _⟩ | exact ⟨rfl,_,Eq.trans (World.drewN_drewN _ _ _) (congrArg (World.drewN _) (Nat.add_assoc _ _ _))⟩)));try go_wp2_with (first | (go_at_call 130;(with_reducible refine (u1g.calls kj6 (x0_2.extract 0 (t190:Int).toNat) 10 t191 true _ A12.out).mono ?_);rintro e w' ⟨rfl,⟨nd,rfl⟩⟩;(try first | exact ⟨rfl,_,World.drewN_drewN _ _ _⟩ | exact ⟨rfl,_,Eq.trans (World.drewN_drewN _ _ _) (congrArg (World.drewN _) (Nat.add_assoc _ _ _))⟩))))
                 go_ret3
                 exact ⟨by first | rfl | (simp;done) | (simp [*];done),by repeat (first | exact us.refl _ | apply us.step)⟩
               · replace c19:=Bool.eq_false_iff.mpr c19
                 subst c19
                 have H1:(some (wrap64 (t191),x0_2.extract (t190:Int).toNat x0_2.size,false)) = some (r1,r2,r3):=by rw [if_neg (show ¬ (false = true) by decide)] at H;exact H
                 clear H
                 have H:=H1
                 clear H1
                 simp only [Option.some.injEq,Prod.mk.injEq] at H
                 obtain ⟨rfl,rfl,rfl⟩:=H
                 go_wp2_with (first | (go_at_call 130;(with_reducible refine (u1g.calls kj6 (x0_2.extract 0 (t190:Int).toNat) 10 t191 false _ A12.out).mono ?_);rintro e w' ⟨rfl,⟨nd,rfl⟩⟩;(try first | exact ⟨rfl,_,World.drewN_drewN _ _ _⟩ | exact ⟨rfl,_,Eq.trans (World.drewN_drewN _ _ _) (congrArg (World.drewN _) (Nat.add_assoc _ _ _))⟩)))
                 repeat (go_quiet (first | (go_at_call 130;(with_reducible refine (u1g.calls kj6 (x0_2.extract 0 (t190:Int).toNat) 10 t191 false _ A12.out).mono ?_);rintro e w' ⟨rfl,⟨nd,rfl⟩⟩;(try first | exact ⟨rfl,_,World.drewN_drewN _ _ _⟩ | exact ⟨rfl,_,Eq.trans (World.drewN_drewN _ _ _) (congrArg (World.drewN _) (Nat.add_assoc _ _ _))⟩)));try go_wp2_with (first | (go_at_call 130;(with_reducible refine (u1g.calls kj6 (x0_2.extract 0 (t190:Int).toNat) 10 t191 false _ A12.out).mono ?_);rintro e w' ⟨rfl,⟨nd,rfl⟩⟩;(try first | exact ⟨rfl,_,World.drewN_drewN _ _ _⟩ | exact ⟨rfl,_,Eq.trans (World.drewN_drewN _ _ _) (congrArg (World.drewN _) (Nat.add_assoc _ _ _))⟩))))
                 go_ret3
                 exact ⟨by first | rfl | (simp;done) | (simp [*];done),by repeat (first | exact us.refl _ | apply us.step)⟩
           · rw [if_neg c11] at H
             exact absurd H (by simp)
         · rw [if_neg c10] at H
           exact absurd H (by simp)
def u1a.l0:Nat → ByteArray → Int → Option (Bool)
 | 0,_,_ => none
 | k + 1,x0,x3 => if x3 < (x0.size:Int) then (if 0 ≤ x3 then (if (bt x0 x3) ≥ 97 then (if (bt x0 x3) ≤ 122 then (u1a.l0 k x0 (wrap64 (x3 + 1))) else (if (bt x0 x3) ≥ 65 then (if (bt x0 x3) ≤ 90 then (u1a.l0 k x0 (wrap64 (x3 + 1))) else (if ((bt x0 x3) = 95) then (u1a.l0 k x0 (wrap64 (x3 + 1))) else (if x3 = 0 then (some false) else (if (bt x0 x3) < 48 then (some false) else (if (bt x0 x3) > 57 then (some false) else (u1a.l0 k x0 (wrap64 (x3 + 1)))))))) else (if ((bt x0 x3) = 95) then (u1a.l0 k x0 (wrap64 (x3 + 1))) else (if x3 = 0 then (some false) else (if (bt x0 x3) < 48 then (some false) else (if (bt x0 x3) > 57 then (some false) else (u1a.l0 k x0 (wrap64 (x3 + 1))))))))) else (if (bt x0 x3) ≥ 65 then (if (bt x0 x3) ≤ 90 then (u1a.l0 k x0 (wrap64 (x3 + 1))) else (if ((bt x0 x3) = 95) then (u1a.l0 k x0 (wrap64 (x3 + 1))) else (if x3 = 0 then (some false) else (if (bt x0 x3) < 48 then (some false) else (if (bt x0 x3) > 57 then (some false) else (u1a.l0 k x0 (wrap64 (x3 + 1)))))))) else (if ((bt x0 x3) = 95) then (u1a.l0 k x0 (wrap64 (x3 + 1))) else (if x3 = 0 then (some false) else (if (bt x0 x3) < 48 then (some false) else (if (bt x0 x3) > 57 then (some false) else (u1a.l0 k x0 (wrap64 (x3 + 1))))))))) else (none)) else (if (x0.size:Int) ≥ 1 then (some (decide ((x0.size:Int) ≤ 24))) else (some false))
def u1a.f (k:Nat) (a0:ByteArray):Option (Bool):=u1a.l0 k a0 0
set_option maxHeartbeats 8000000 in
set_option maxRecDepth 100000 in
theorem u1a.calls (k:Nat) (a0:ByteArray) (r:Bool) (w:World) (h:u1a.f k a0 = some r) :
 Calls Tryz.prog 37 #[.string a0] w fun e w' => e = .returned (.bool r) ∧ us w w':=by
 have H:(u1a.l0 k a0 0) = some r:=h
 clear h
 have H':=Aside0.mk H
 clear H
 go_enter Tryz.func37,Tryz.ntmps37
 go_wp2
 go_loopg [3] k (fun kq v3 w' => ∃ (x3_1:Int),v3 = .int .i64 x3_1 ∧ Aside0 (u1a.l0 kq a0 x3_1 = some r) ∧ Aside0 (kq ≤ k) ∧ us w w')
 case atStart => exact ⟨(0),(by first | rfl | (simp;done) | (simp [*];done)),H',⟨Nat.le_refl _⟩,by repeat (first | exact us.refl _ | apply us.step)⟩
 case round =>
  clear H'
  obtain ⟨x3_1,rfl,HA,HK1,⟨m1,rfl⟩⟩:=hrel
  cases gk with
  | zero => exact absurd HA.out (by simp [u1a.l0])
  | succ k1 =>
    have H:=HA.out
    clear HA
    simp only [u1a.l0] at H
    by_cases c2:x3_1 < (a0.size:Int)
    · rw [if_pos c2] at H
      have c2b0:decide (x3_1 < (a0.size:Int)) = true:=decide_eq_true c2
      clear c2
      by_cases c3:0 ≤ x3_1
      · rw [if_pos c3] at H
        have c3b0:decide (0 ≤ x3_1) = true:=decide_eq_true c3
        clear c3
        by_cases c5:(bt a0 x3_1) ≥ 97
        · rw [if_pos c5] at H
          have c5b0:decide (97 ≤ (bt a0 x3_1)) = true:=decide_eq_true c5
          clear c5
          by_cases c6:(bt a0 x3_1) ≤ 122
          · rw [if_pos c6] at H
            have c6b0:decide ((bt a0 x3_1) ≤ 122) = true:=decide_eq_true c6
            clear c6
            have H':=Aside0.mk H
            clear H
            have p4:0 ≤ (x3_1:Int):=of_decide_eq_true (by first | (with_reducible assumption) | assumption)
            have q4:x3_1 < (a0.size:Int):=of_decide_eq_true (by first | (with_reducible assumption) | assumption)
            have hx4:=bt_at a0 x3_1
            replace p4:=eq_true p4
            replace q4:=eq_true q4
            go_wp2
            go_roundg k1
            case measure => have:=HK1.out;omega
            case rel => exact ⟨(wrap64 (x3_1 + 1)),(by first | rfl | (simp;done) | (simp [*];done)),H',⟨by have:=HK1.out;omega⟩,by repeat (first | exact us.refl _ | apply us.step)⟩
          · rw [if_neg c6] at H
            have c6b0:decide ((bt a0 x3_1) ≤ 122) = false:=decide_eq_false c6
            clear c6
            by_cases c7:(bt a0 x3_1) ≥ 65
            · rw [if_pos c7] at H
              have c7b0:decide (65 ≤ (bt a0 x3_1)) = true:=decide_eq_true c7
              clear c7
              by_cases c8:(bt a0 x3_1) ≤ 90
              · rw [if_pos c8] at H
                have c8b0:decide ((bt a0 x3_1) ≤ 90) = true:=decide_eq_true c8
                clear c8
                have H':=Aside0.mk H
                clear H
                have p4:0 ≤ (x3_1:Int):=of_decide_eq_true (by first | (with_reducible assumption) | assumption)
                have q4:x3_1 < (a0.size:Int):=of_decide_eq_true (by first | (with_reducible assumption) | assumption)
                have hx4:=bt_at a0 x3_1
                replace p4:=eq_true p4
                replace q4:=eq_true q4
                go_wp2
                go_roundg k1
                case measure => have:=HK1.out;omega
                case rel => exact ⟨(wrap64 (x3_1 + 1)),(by first | rfl | (simp;done) | (simp [*];done)),H',⟨by have:=HK1.out;omega⟩,by repeat (first | exact us.refl _ | apply us.step)⟩
              · rw [if_neg c8] at H
                have c8b0:decide ((bt a0 x3_1) ≤ 90) = false:=decide_eq_false c8
                clear c8
                by_cases c9:((bt a0 x3_1) = 95)
                · rw [if_pos c9] at H
                  have c9b0:((bt a0 x3_1) == 95) = true:=beq_iff_eq.mpr c9
                  have c9b1:((bt a0 x3_1) != 95) = false:=bne_eq_false_iff_eq.mpr c9
                  clear c9
                  have H':=Aside0.mk H
                  clear H
                  have p4:0 ≤ (x3_1:Int):=of_decide_eq_true (by first | (with_reducible assumption) | assumption)
                  have q4:x3_1 < (a0.size:Int):=of_decide_eq_true (by first | (with_reducible assumption) | assumption)
                  have hx4:=bt_at a0 x3_1
                  replace p4:=eq_true p4
                  replace q4:=eq_true q4
                  go_wp2
                  go_roundg k1
                  case measure => have:=HK1.out;omega
                  case rel => exact ⟨(wrap64 (x3_1 + 1)),(by first | rfl | (simp;done) | (simp [*];done)),H',⟨by have:=HK1.out;omega⟩,by repeat (first | exact us.refl _ | apply us.step)⟩
                · rw [if_neg c9] at H
                  have c9b0:((bt a0 x3_1) == 95) = false:=beq_eq_false_iff_ne.mpr c9
                  have c9b1:((bt a0 x3_1) != 95) = true:=bne_iff_ne.mpr c9
                  by_cases c10:x3_1 = 0
                  · rw [if_pos c10] at H
                    have c10b0:(x3_1 == 0) = true:=beq_iff_eq.mpr c10
                    have c10b1:(x3_1 != 0) = false:=bne_eq_false_iff_eq.mpr c10
                    clear c10
                    obtain rfl:=Option.some.inj H
                    have p4:0 ≤ (x3_1:Int):=of_decide_eq_true (by first | (with_reducible assumption) | assumption)
                    have q4:x3_1 < (a0.size:Int):=of_decide_eq_true (by first | (with_reducible assumption) | assumption)
                    have hx4:=bt_at a0 x3_1
                    replace p4:=eq_true p4
                    replace q4:=eq_true q4
                    go_wp2
                    go_ret
                    exact ⟨by first | rfl | (simp;done) | (simp [*];done),by repeat (first | exact us.refl _ | apply us.step)⟩
                  · rw [if_neg c10] at H
                    have c10b0:(x3_1 == 0) = false:=beq_eq_false_iff_ne.mpr c10
                    have c10b1:(x3_1 != 0) = true:=bne_iff_ne.mpr c10
                    by_cases c11:(bt a0 x3_1) < 48
                    · rw [if_pos c11] at H
                      have c11b0:decide ((bt a0 x3_1) < 48) = true:=decide_eq_true c11
                      clear c11
                      obtain rfl:=Option.some.inj H
                      have p4:0 ≤ (x3_1:Int):=of_decide_eq_true (by first | (with_reducible assumption) | assumption)
                      have q4:x3_1 < (a0.size:Int):=of_decide_eq_true (by first | (with_reducible assumption) | assumption)
                      have hx4:=bt_at a0 x3_1
                      replace p4:=eq_true p4
                      replace q4:=eq_true q4
                      go_wp2
                      go_ret
                      exact ⟨by first | rfl | (simp;done) | (simp [*];done),by repeat (first | exact us.refl _ | apply us.step)⟩
                    · rw [if_neg c11] at H
                      have c11b0:decide ((bt a0 x3_1) < 48) = false:=decide_eq_false c11
                      clear c11
                      by_cases c12:(bt a0 x3_1) > 57
                      · rw [if_pos c12] at H
                        have c12b0:decide (57 < (bt a0 x3_1)) = true:=decide_eq_true c12
                        clear c12
                        obtain rfl:=Option.some.inj H
                        have p4:0 ≤ (x3_1:Int):=of_decide_eq_true (by first | (with_reducible assumption) | assumption)
                        have q4:x3_1 < (a0.size:Int):=of_decide_eq_true (by first | (with_reducible assumption) | assumption)
                        have hx4:=bt_at a0 x3_1
                        replace p4:=eq_true p4
                        replace q4:=eq_true q4
                        go_wp2
                        go_ret
                        exact ⟨by first | rfl | (simp;done) | (simp [*];done),by repeat (first | exact us.refl _ | apply us.step)⟩
                      · rw [if_neg c12] at H
                        have c12b0:decide (57 < (bt a0 x3_1)) = false:=decide_eq_false c12
                        clear c12
                        have H':=Aside0.mk H
                        clear H
                        have p4:0 ≤ (x3_1:Int):=of_decide_eq_true (by first | (with_reducible assumption) | assumption)
                        have q4:x3_1 < (a0.size:Int):=of_decide_eq_true (by first | (with_reducible assumption) | assumption)
                        have hx4:=bt_at a0 x3_1
                        replace p4:=eq_true p4
                        replace q4:=eq_true q4
                        go_wp2
                        go_roundg k1
                        case measure => have:=HK1.out;omega
                        case rel => exact ⟨(wrap64 (x3_1 + 1)),(by first | rfl | (simp;done) | (simp [*];done)),H',⟨by have:=HK1.out;omega⟩,by repeat (first | exact us.refl _ | apply us.step)⟩
            · rw [if_neg c7] at H
              have c7b0:decide (65 ≤ (bt a0 x3_1)) = false:=decide_eq_false c7
              clear c7
              by_cases c13:((bt a0 x3_1) = 95)
              · rw [if_pos c13] at H
                have c13b0:((bt a0 x3_1) == 95) = true:=beq_iff_eq.mpr c13
                have c13b1:((bt a0 x3_1) != 95) = false:=bne_eq_false_iff_eq.mpr c13
                clear c13
                have H':=Aside0.mk H
                clear H
                have p4:0 ≤ (x3_1:Int):=of_decide_eq_true (by first | (with_reducible assumption) | assumption)
                have q4:x3_1 < (a0.size:Int):=of_decide_eq_true (by first | (with_reducible assumption) | assumption)
                have hx4:=bt_at a0 x3_1
                replace p4:=eq_true p4
                replace q4:=eq_true q4
                go_wp2
                go_roundg k1
                case measure => have:=HK1.out;omega
                case rel => exact ⟨(wrap64 (x3_1 + 1)),(by first | rfl | (simp;done) | (simp [*];done)),H',⟨by have:=HK1.out;omega⟩,by repeat (first | exact us.refl _ | apply us.step)⟩
              · rw [if_neg c13] at H
                have c13b0:((bt a0 x3_1) == 95) = false:=beq_eq_false_iff_ne.mpr c13
                have c13b1:((bt a0 x3_1) != 95) = true:=bne_iff_ne.mpr c13
                by_cases c14:x3_1 = 0
                · rw [if_pos c14] at H
                  have c14b0:(x3_1 == 0) = true:=beq_iff_eq.mpr c14
                  have c14b1:(x3_1 != 0) = false:=bne_eq_false_iff_eq.mpr c14
                  clear c14
                  obtain rfl:=Option.some.inj H
                  have p4:0 ≤ (x3_1:Int):=of_decide_eq_true (by first | (with_reducible assumption) | assumption)
                  have q4:x3_1 < (a0.size:Int):=of_decide_eq_true (by first | (with_reducible assumption) | assumption)
                  have hx4:=bt_at a0 x3_1
                  replace p4:=eq_true p4
                  replace q4:=eq_true q4
                  go_wp2
                  go_ret
                  exact ⟨by first | rfl | (simp;done) | (simp [*];done),by repeat (first | exact us.refl _ | apply us.step)⟩
                · rw [if_neg c14] at H
                  have c14b0:(x3_1 == 0) = false:=beq_eq_false_iff_ne.mpr c14
                  have c14b1:(x3_1 != 0) = true:=bne_iff_ne.mpr c14
                  by_cases c15:(bt a0 x3_1) < 48
                  · rw [if_pos c15] at H
                    have c15b0:decide ((bt a0 x3_1) < 48) = true:=decide_eq_true c15
                    clear c15
                    obtain rfl:=Option.some.inj H
                    have p4:0 ≤ (x3_1:Int):=of_decide_eq_true (by first | (with_reducible assumption) | assumption)
                    have q4:x3_1 < (a0.size:Int):=of_decide_eq_true (by first | (with_reducible assumption) | assumption)
                    have hx4:=bt_at a0 x3_1
                    replace p4:=eq_true p4
                    replace q4:=eq_true q4
                    go_wp2
                    go_ret
                    exact ⟨by first | rfl | (simp;done) | (simp [*];done),by repeat (first | exact us.refl _ | apply us.step)⟩
                  · rw [if_neg c15] at H
                    have c15b0:decide ((bt a0 x3_1) < 48) = false:=decide_eq_false c15
                    clear c15
                    by_cases c16:(bt a0 x3_1) > 57
                    · rw [if_pos c16] at H
                      have c16b0:decide (57 < (bt a0 x3_1)) = true:=decide_eq_true c16
                      clear c16
                      obtain rfl:=Option.some.inj H
                      have p4:0 ≤ (x3_1:Int):=of_decide_eq_true (by first | (with_reducible assumption) | assumption)
                      have q4:x3_1 < (a0.size:Int):=of_decide_eq_true (by first | (with_reducible assumption) | assumption)
                      have hx4:=bt_at a0 x3_1
                      replace p4:=eq_true p4
                      replace q4:=eq_true q4
                      go_wp2
                      go_ret
                      exact ⟨by first | rfl | (simp;done) | (simp [*];done),by repeat (first | exact us.refl _ | apply us.step)⟩
                    · rw [if_neg c16] at H
                      have c16b0:decide (57 < (bt a0 x3_1)) = false:=decide_eq_false c16
                      clear c16
                      have H':=Aside0.mk H
                      clear H
                      have p4:0 ≤ (x3_1:Int):=of_decide_eq_true (by first | (with_reducible assumption) | assumption)
                      have q4:x3_1 < (a0.size:Int):=of_decide_eq_true (by first | (with_reducible assumption) | assumption)
                      have hx4:=bt_at a0 x3_1
                      replace p4:=eq_true p4
                      replace q4:=eq_true q4
                      go_wp2
                      go_roundg k1
                      case measure => have:=HK1.out;omega
                      case rel => exact ⟨(wrap64 (x3_1 + 1)),(by first | rfl | (simp;done) | (simp [*];done)),H',⟨by have:=HK1.out;omega⟩,by repeat (first | exact us.refl _ | apply us.step)⟩
        · rw [if_neg c5] at H
          have c5b0:decide (97 ≤ (bt a0 x3_1)) = false:=decide_eq_false c5
          clear c5
          by_cases c17:(bt a0 x3_1) ≥ 65
          · rw [if_pos c17] at H
            have c17b0:decide (65 ≤ (bt a0 x3_1)) = true:=decide_eq_true c17
            clear c17
            by_cases c18:(bt a0 x3_1) ≤ 90
            · rw [if_pos c18] at H
              have c18b0:decide ((bt a0 x3_1) ≤ 90) = true:=decide_eq_true c18
              clear c18
              have H':=Aside0.mk H
              clear H
              have p4:0 ≤ (x3_1:Int):=of_decide_eq_true (by first | (with_reducible assumption) | assumption)
              have q4:x3_1 < (a0.size:Int):=of_decide_eq_true (by first | (with_reducible assumption) | assumption)
              have hx4:=bt_at a0 x3_1
              replace p4:=eq_true p4
              replace q4:=eq_true q4
              go_wp2
              go_roundg k1
              case measure => have:=HK1.out;omega
              case rel => exact ⟨(wrap64 (x3_1 + 1)),(by first | rfl | (simp;done) | (simp [*];done)),H',⟨by have:=HK1.out;omega⟩,by repeat (first | exact us.refl _ | apply us.step)⟩
            · rw [if_neg c18] at H
              have c18b0:decide ((bt a0 x3_1) ≤ 90) = false:=decide_eq_false c18
              clear c18
              by_cases c19:((bt a0 x3_1) = 95)
              · rw [if_pos c19] at H
                have c19b0:((bt a0 x3_1) == 95) = true:=beq_iff_eq.mpr c19
                have c19b1:((bt a0 x3_1) != 95) = false:=bne_eq_false_iff_eq.mpr c19
                clear c19
                have H':=Aside0.mk H
                clear H
                have p4:0 ≤ (x3_1:Int):=of_decide_eq_true (by first | (with_reducible assumption) | assumption)
                have q4:x3_1 < (a0.size:Int):=of_decide_eq_true (by first | (with_reducible assumption) | assumption)
                have hx4:=bt_at a0 x3_1
                replace p4:=eq_true p4
                replace q4:=eq_true q4
                go_wp2
                go_roundg k1
                case measure => have:=HK1.out;omega
                case rel => exact ⟨(wrap64 (x3_1 + 1)),(by first | rfl | (simp;done) | (simp [*];done)),H',⟨by have:=HK1.out;omega⟩,by repeat (first | exact us.refl _ | apply us.step)⟩
              · rw [if_neg c19] at H
                have c19b0:((bt a0 x3_1) == 95) = false:=beq_eq_false_iff_ne.mpr c19
                have c19b1:((bt a0 x3_1) != 95) = true:=bne_iff_ne.mpr c19
                by_cases c20:x3_1 = 0
                · rw [if_pos c20] at H
                  have c20b0:(x3_1 == 0) = true:=beq_iff_eq.mpr c20
                  have c20b1:(x3_1 != 0) = false:=bne_eq_false_iff_eq.mpr c20
                  clear c20
                  obtain rfl:=Option.some.inj H
                  have p4:0 ≤ (x3_1:Int):=of_decide_eq_true (by first | (with_reducible assumption) | assumption)
                  have q4:x3_1 < (a0.size:Int):=of_decide_eq_true (by first | (with_reducible assumption) | assumption)
                  have hx4:=bt_at a0 x3_1
                  replace p4:=eq_true p4
                  replace q4:=eq_true q4
                  go_wp2
                  go_ret
                  exact ⟨by first | rfl | (simp;done) | (simp [*];done),by repeat (first | exact us.refl _ | apply us.step)⟩
                · rw [if_neg c20] at H
                  have c20b0:(x3_1 == 0) = false:=beq_eq_false_iff_ne.mpr c20
                  have c20b1:(x3_1 != 0) = true:=bne_iff_ne.mpr c20
                  by_cases c21:(bt a0 x3_1) < 48
                  · rw [if_pos c21] at H
                    have c21b0:decide ((bt a0 x3_1) < 48) = true:=decide_eq_true c21
                    clear c21
                    obtain rfl:=Option.some.inj H
                    have p4:0 ≤ (x3_1:Int):=of_decide_eq_true (by first | (with_reducible assumption) | assumption)
                    have q4:x3_1 < (a0.size:Int):=of_decide_eq_true (by first | (with_reducible assumption) | assumption)
                    have hx4:=bt_at a0 x3_1
                    replace p4:=eq_true p4
                    replace q4:=eq_true q4
                    go_wp2
                    go_ret
                    exact ⟨by first | rfl | (simp;done) | (simp [*];done),by repeat (first | exact us.refl _ | apply us.step)⟩
                  · rw [if_neg c21] at H
                    have c21b0:decide ((bt a0 x3_1) < 48) = false:=decide_eq_false c21
                    clear c21
                    by_cases c22:(bt a0 x3_1) > 57
                    · rw [if_pos c22] at H
                      have c22b0:decide (57 < (bt a0 x3_1)) = true:=decide_eq_true c22
                      clear c22
                      obtain rfl:=Option.some.inj H
                      have p4:0 ≤ (x3_1:Int):=of_decide_eq_true (by first | (with_reducible assumption) | assumption)
                      have q4:x3_1 < (a0.size:Int):=of_decide_eq_true (by first | (with_reducible assumption) | assumption)
                      have hx4:=bt_at a0 x3_1
                      replace p4:=eq_true p4
                      replace q4:=eq_true q4
                      go_wp2
                      go_ret
                      exact ⟨by first | rfl | (simp;done) | (simp [*];done),by repeat (first | exact us.refl _ | apply us.step)⟩
                    · rw [if_neg c22] at H
                      have c22b0:decide (57 < (bt a0 x3_1)) = false:=decide_eq_false c22
                      clear c22
                      have H':=Aside0.mk H
                      clear H
                      have p4:0 ≤ (x3_1:Int):=of_decide_eq_true (by first | (with_reducible assumption) | assumption)
                      have q4:x3_1 < (a0.size:Int):=of_decide_eq_true (by first | (with_reducible assumption) | assumption)
                      have hx4:=bt_at a0 x3_1
                      replace p4:=eq_true p4
                      replace q4:=eq_true q4
                      go_wp2
                      go_roundg k1
                      case measure => have:=HK1.out;omega
                      case rel => exact ⟨(wrap64 (x3_1 + 1)),(by first | rfl | (simp;done) | (simp [*];done)),H',⟨by have:=HK1.out;omega⟩,by repeat (first | exact us.refl _ | apply us.step)⟩
          · rw [if_neg c17] at H
            have c17b0:decide (65 ≤ (bt a0 x3_1)) = false:=decide_eq_false c17
            clear c17
            by_cases c23:((bt a0 x3_1) = 95)
            · rw [if_pos c23] at H
              have c23b0:((bt a0 x3_1) == 95) = true:=beq_iff_eq.mpr c23
              have c23b1:((bt a0 x3_1) != 95) = false:=bne_eq_false_iff_eq.mpr c23
              clear c23
              have H':=Aside0.mk H
              clear H
              have p4:0 ≤ (x3_1:Int):=of_decide_eq_true (by first | (with_reducible assumption) | assumption)
              have q4:x3_1 < (a0.size:Int):=of_decide_eq_true (by first | (with_reducible assumption) | assumption)
              have hx4:=bt_at a0 x3_1
              replace p4:=eq_true p4
              replace q4:=eq_true q4
              go_wp2
              go_roundg k1
              case measure => have:=HK1.out;omega
              case rel => exact ⟨(wrap64 (x3_1 + 1)),(by first | rfl | (simp;done) | (simp [*];done)),H',⟨by have:=HK1.out;omega⟩,by repeat (first | exact us.refl _ | apply us.step)⟩
            · rw [if_neg c23] at H
              have c23b0:((bt a0 x3_1) == 95) = false:=beq_eq_false_iff_ne.mpr c23
              have c23b1:((bt a0 x3_1) != 95) = true:=bne_iff_ne.mpr c23
              by_cases c24:x3_1 = 0
              · rw [if_pos c24] at H
                have c24b0:(x3_1 == 0) = true:=beq_iff_eq.mpr c24
                have c24b1:(x3_1 != 0) = false:=bne_eq_false_iff_eq.mpr c24
                clear c24
                obtain rfl:=Option.some.inj H
                have p4:0 ≤ (x3_1:Int):=of_decide_eq_true (by first | (with_reducible assumption) | assumption)
                have q4:x3_1 < (a0.size:Int):=of_decide_eq_true (by first | (with_reducible assumption) | assumption)
                have hx4:=bt_at a0 x3_1
                replace p4:=eq_true p4
                replace q4:=eq_true q4
                go_wp2
                go_ret
                exact ⟨by first | rfl | (simp;done) | (simp [*];done),by repeat (first | exact us.refl _ | apply us.step)⟩
              · rw [if_neg c24] at H
                have c24b0:(x3_1 == 0) = false:=beq_eq_false_iff_ne.mpr c24
                have c24b1:(x3_1 != 0) = true:=bne_iff_ne.mpr c24
                by_cases c25:(bt a0 x3_1) < 48
                · rw [if_pos c25] at H
                  have c25b0:decide ((bt a0 x3_1) < 48) = true:=decide_eq_true c25
                  clear c25
                  obtain rfl:=Option.some.inj H
                  have p4:0 ≤ (x3_1:Int):=of_decide_eq_true (by first | (with_reducible assumption) | assumption)
                  have q4:x3_1 < (a0.size:Int):=of_decide_eq_true (by first | (with_reducible assumption) | assumption)
                  have hx4:=bt_at a0 x3_1
                  replace p4:=eq_true p4
                  replace q4:=eq_true q4
                  go_wp2
                  go_ret
                  exact ⟨by first | rfl | (simp;done) | (simp [*];done),by repeat (first | exact us.refl _ | apply us.step)⟩
                · rw [if_neg c25] at H
                  have c25b0:decide ((bt a0 x3_1) < 48) = false:=decide_eq_false c25
                  clear c25
                  by_cases c26:(bt a0 x3_1) > 57
                  · rw [if_pos c26] at H
                    have c26b0:decide (57 < (bt a0 x3_1)) = true:=decide_eq_true c26
                    clear c26
                    obtain rfl:=Option.some.inj H
                    have p4:0 ≤ (x3_1:Int):=of_decide_eq_true (by first | (with_reducible assumption) | assumption)
                    have q4:x3_1 < (a0.size:Int):=of_decide_eq_true (by first | (with_reducible assumption) | assumption)
                    have hx4:=bt_at a0 x3_1
                    replace p4:=eq_true p4
                    replace q4:=eq_true q4
                    go_wp2
                    go_ret
                    exact ⟨by first | rfl | (simp;done) | (simp [*];done),by repeat (first | exact us.refl _ | apply us.step)⟩
                  · rw [if_neg c26] at H
                    have c26b0:decide (57 < (bt a0 x3_1)) = false:=decide_eq_false c26
                    clear c26
                    have H':=Aside0.mk H
                    clear H
                    have p4:0 ≤ (x3_1:Int):=of_decide_eq_true (by first | (with_reducible assumption) | assumption)
                    have q4:x3_1 < (a0.size:Int):=of_decide_eq_true (by first | (with_reducible assumption) | assumption)
                    have hx4:=bt_at a0 x3_1
                    replace p4:=eq_true p4
                    replace q4:=eq_true q4
                    go_wp2
                    go_roundg k1
                    case measure => have:=HK1.out;omega
                    case rel => exact ⟨(wrap64 (x3_1 + 1)),(by first | rfl | (simp;done) | (simp [*];done)),H',⟨by have:=HK1.out;omega⟩,by repeat (first | exact us.refl _ | apply us.step)⟩
      · rw [if_neg c3] at H
        exact absurd H (by simp)
    · rw [if_neg c2] at H
      have c2b0:decide (x3_1 < (a0.size:Int)) = false:=decide_eq_false c2
      clear c2
      by_cases c27:(a0.size:Int) ≥ 1
      · rw [if_pos c27] at H
        have c27b0:decide (1 ≤ (a0.size:Int)) = true:=decide_eq_true c27
        have c27b1:decide (1 ≤ a0.size) = true:=decide_eq_true (by omega)
        clear c27
        obtain rfl:=Option.some.inj H
        go_wp2
        go_ret
        exact ⟨by first | rfl | (simp;done) | (simp [*];done),by repeat (first | exact us.refl _ | apply us.step)⟩
      · rw [if_neg c27] at H
        have c27b0:decide (1 ≤ (a0.size:Int)) = false:=decide_eq_false c27
        have c27b1:decide (1 ≤ a0.size) = false:=decide_eq_false (by omega)
        clear c27
        obtain rfl:=Option.some.inj H
        go_wp2
        go_ret
        exact ⟨by first | rfl | (simp;done) | (simp [*];done),by repeat (first | exact us.refl _ | apply us.step)⟩
def u1v.l0:Nat → ByteArray → Int → Option (ByteArray × ByteArray)
 | 0,_,_ => none
 | k + 1,x0,x4 => if x4 < (x0.size:Int) then (if 0 ≤ x4 then (if x4 ≤ (wrap64 (x4 + 1)) then (if (wrap64 (x4 + 1)) ≤ (x0.size:Int) then (if 1 + (x0.extract (x4:Int).toNat ((wrap64 (x4 + 1)):Int).toNat).size ≤ 9223372036854775807 then ((u1a.f k ((⟨#[97]⟩:ByteArray) ++ (x0.extract (x4:Int).toNat ((wrap64 (x4 + 1)):Int).toNat))).bind fun t113 => (if t113 = true then (u1v.l0 k x0 (wrap64 (x4 + 1))) else (if x4 ≤ (x0.size:Int) then (some (x0.extract 0 (x4:Int).toNat,x0.extract (x4:Int).toNat x0.size)) else (none)))) else (none)) else (none)) else (none)) else (none)) else (if 0 ≤ x4 then (if x4 ≤ (x0.size:Int) then (some (x0.extract 0 (x4:Int).toNat,x0.extract (x4:Int).toNat x0.size)) else (none)) else (none))
def u1v.f (k:Nat) (a0:ByteArray):Option (ByteArray × ByteArray):=u1v.l0 k a0 0
set_option maxHeartbeats 8000000 in
set_option maxRecDepth 100000 in
theorem u1v.calls (k:Nat) (a0:ByteArray) (r1:ByteArray) (r2:ByteArray) (w:World) (h:u1v.f k a0 = some (r1,r2)) :
 Calls Tryz.prog 100 #[.string a0] w fun e w' => e = .returned (.tuple #[.string r1,.string r2]) ∧ us w w':=by
 have H:(u1v.l0 k a0 0) = some (r1,r2):=h
 clear h
 have H':=Aside0.mk H
 clear H
 go_enter Tryz.func100,Tryz.ntmps100
 go_wp2
 repeat (go_quiet (fail);try go_wp2)
 go_loopg [4] k (fun kq v4 w' => ∃ (x4_1:Int),v4 = .int .i64 x4_1 ∧ Aside0 (u1v.l0 kq a0 x4_1 = some (r1,r2)) ∧ Aside0 (kq ≤ k) ∧ us w w')
 case atStart => exact ⟨(0),(by first | rfl | (simp;done) | (simp [*];done)),H',⟨Nat.le_refl _⟩,by repeat (first | exact us.refl _ | apply us.step)⟩
 case round =>
  clear H'
  try clear c1
  obtain ⟨x4_1,rfl,HA,HK1,⟨m1,rfl⟩⟩:=hrel
  cases gk with
  | zero => exact absurd HA.out (by simp [u1v.l0])
  | succ k1 =>
    have H:=HA.out
    clear HA
    simp only [u1v.l0] at H
    by_cases c2:x4_1 < (a0.size:Int)
    · rw [if_pos c2] at H
      have c2b0:decide (x4_1 < (a0.size:Int)) = true:=decide_eq_true c2
      clear c2
      by_cases c3:0 ≤ x4_1
      · rw [if_pos c3] at H
        have c3b0:=eq_true c3
        have c3b1:decide (0 ≤ x4_1) = true:=decide_eq_true c3
        clear c3
        by_cases c4:x4_1 ≤ (wrap64 (x4_1 + 1))
        · rw [if_pos c4] at H
          have c4b0:=eq_true c4
          have c4b1:decide (x4_1 ≤ (wrap64 (x4_1 + 1))) = true:=decide_eq_true c4
          by_cases c5:(wrap64 (x4_1 + 1)) ≤ (a0.size:Int)
          · rw [if_pos c5] at H
            have c5b0:=eq_true c5
            have c5b1:decide ((wrap64 (x4_1 + 1)) ≤ (a0.size:Int)) = true:=decide_eq_true c5
            by_cases c6:1 + (a0.extract (x4_1:Int).toNat ((wrap64 (x4_1 + 1)):Int).toNat).size ≤ 9223372036854775807
            · rw [if_pos c6] at H
              have c6b0:=eq_true c6
              have c6b1:decide (1 + (a0.extract (x4_1:Int).toNat ((wrap64 (x4_1 + 1)):Int).toNat).size ≤ 9223372036854775807) = true:=decide_eq_true c6
              try have c6b2:(9223372036854775807 < 1 + (a0.extract (x4_1:Int).toNat ((wrap64 (x4_1 + 1)):Int).toNat).size) = False:=eq_false (Nat.not_lt.2 c6)
              try (have c6b3:=c6b2;simp only [ByteArray.size_append,Base.size1,(show ∀ a_ b_:UInt8,(⟨#[a_,b_]⟩:ByteArray).size = 2 from fun _ _ => rfl)] at c6b3)
              try (have c6b4:(9223372036854775807 < 1 + (((wrap64 (x4_1 + 1))).toNat - (x4_1).toNat)) = False:=eq_false (by have h4_:=c6;simp only [ByteArray.size_extract,ByteArray.size_append,Base.size1] at h4_;omega))
              replace H:=Option.bind_eq_some_iff.mp H
              obtain ⟨t113,A70,H⟩:=H
              replace H:(if t113 = true then (u1v.l0 k1 a0 (wrap64 (x4_1 + 1))) else (if x4_1 ≤ (a0.size:Int) then (some (a0.extract 0 (x4_1:Int).toNat,a0.extract (x4_1:Int).toNat a0.size)) else (none))) = some (r1,r2):=H
              have A7:=Aside0.mk A70
              clear A70
              by_cases c8:t113 = true
              · subst c8
                have H1:(u1v.l0 k1 a0 (wrap64 (x4_1 + 1))) = some (r1,r2):=by rw [if_pos rfl] at H;exact H
                clear H
                have H:=H1
                clear H1
                have H':=Aside0.mk H
                clear H
                go_wp2_with (first | (go_at_call 37;(with_reducible refine (u1a.calls k1 ((⟨#[97]⟩:ByteArray) ++ (a0.extract (x4_1:Int).toNat ((wrap64 (x4_1 + 1)):Int).toNat)) true _ A7.out).mono ?_);rintro e w' ⟨rfl,⟨nd,rfl⟩⟩;(try first | exact ⟨rfl,_,World.drewN_drewN _ _ _⟩ | exact ⟨rfl,_,Eq.trans (World.drewN_drewN _ _ _) (congrArg (World.drewN _) (Nat.add_assoc _ _ _))⟩)))
                repeat (go_quiet (first | (go_at_call 37;(with_reducible refine (u1a.calls k1 ((⟨#[97]⟩:ByteArray) ++ (a0.extract (x4_1:Int).toNat ((wrap64 (x4_1 + 1)):Int).toNat)) true _ A7.out).mono ?_);rintro e w' ⟨rfl,⟨nd,rfl⟩⟩;(try first | exact ⟨rfl,_,World.drewN_drewN _ _ _⟩ | exact ⟨rfl,_,Eq.trans (World.drewN_drewN _ _ _) (congrArg (World.drewN _) (Nat.add_assoc _ _ _))⟩)));try go_wp2_with (first | (go_at_call 37;(with_reducible refine (u1a.calls k1 ((⟨#[97]⟩:ByteArray) ++ (a0.extract (x4_1:Int).toNat ((wrap64 (x4_1 + 1)):Int).toNat)) true _ A7.out).mono ?_);rintro e w' ⟨rfl,⟨nd,rfl⟩⟩;(try first | exact ⟨rfl,_,World.drewN_drewN _ _ _⟩ | exact ⟨rfl,_,Eq.trans (World.drewN_drewN _ _ _) (congrArg (World.drewN _) (Nat.add_assoc _ _ _))⟩))))
                go_roundg k1
                case measure => have:=HK1.out;omega
                case rel => exact ⟨(wrap64 (x4_1 + 1)),(by first | rfl | (simp;done) | (simp [*];done)),H',⟨by have:=HK1.out;omega⟩,by repeat (first | exact us.refl _ | apply us.step)⟩
              · replace c8:=Bool.eq_false_iff.mpr c8
                subst c8
                have H1:(if x4_1 ≤ (a0.size:Int) then (some (a0.extract 0 (x4_1:Int).toNat,a0.extract (x4_1:Int).toNat a0.size)) else (none)) = some (r1,r2):=by rw [if_neg (show ¬ (false = true) by decide)] at H;exact H
                clear H
                have H:=H1
                clear H1
                have c9b0:=eq_true (of_decide_eq_true (by first | (with_reducible assumption) | assumption):0 ≤ x4_1)
                by_cases c10:x4_1 ≤ (a0.size:Int)
                · rw [if_pos c10] at H
                  have c10b0:=eq_true c10
                  have c10b1:decide (x4_1 ≤ (a0.size:Int)) = true:=decide_eq_true c10
                  clear c10
                  have c11b0:=eq_true (of_decide_eq_true (by first | (with_reducible assumption) | assumption):0 ≤ x4_1)
                  have c12b0:=eq_true (of_decide_eq_true (by first | (with_reducible assumption) | assumption):x4_1 ≤ (a0.size:Int))
                  simp only [Option.some.injEq,Prod.mk.injEq] at H
                  obtain ⟨rfl,rfl⟩:=H
                  go_wp2_with (first | (go_at_call 37;(with_reducible refine (u1a.calls k1 ((⟨#[97]⟩:ByteArray) ++ (a0.extract (x4_1:Int).toNat ((wrap64 (x4_1 + 1)):Int).toNat)) false _ A7.out).mono ?_);rintro e w' ⟨rfl,⟨nd,rfl⟩⟩;(try first | exact ⟨rfl,_,World.drewN_drewN _ _ _⟩ | exact ⟨rfl,_,Eq.trans (World.drewN_drewN _ _ _) (congrArg (World.drewN _) (Nat.add_assoc _ _ _))⟩)))
                  repeat (go_quiet (first | (go_at_call 37;(with_reducible refine (u1a.calls k1 ((⟨#[97]⟩:ByteArray) ++ (a0.extract (x4_1:Int).toNat ((wrap64 (x4_1 + 1)):Int).toNat)) false _ A7.out).mono ?_);rintro e w' ⟨rfl,⟨nd,rfl⟩⟩;(try first | exact ⟨rfl,_,World.drewN_drewN _ _ _⟩ | exact ⟨rfl,_,Eq.trans (World.drewN_drewN _ _ _) (congrArg (World.drewN _) (Nat.add_assoc _ _ _))⟩)));try go_wp2_with (first | (go_at_call 37;(with_reducible refine (u1a.calls k1 ((⟨#[97]⟩:ByteArray) ++ (a0.extract (x4_1:Int).toNat ((wrap64 (x4_1 + 1)):Int).toNat)) false _ A7.out).mono ?_);rintro e w' ⟨rfl,⟨nd,rfl⟩⟩;(try first | exact ⟨rfl,_,World.drewN_drewN _ _ _⟩ | exact ⟨rfl,_,Eq.trans (World.drewN_drewN _ _ _) (congrArg (World.drewN _) (Nat.add_assoc _ _ _))⟩))))
                  go_ret2
                  exact ⟨by first | rfl | (simp;done) | (simp [*];done),by repeat (first | exact us.refl _ | apply us.step)⟩
                · rw [if_neg c10] at H
                  exact absurd H (by simp)
            · rw [if_neg c6] at H
              exact absurd H (by simp)
          · rw [if_neg c5] at H
            exact absurd H (by simp)
        · rw [if_neg c4] at H
          exact absurd H (by simp)
      · rw [if_neg c3] at H
        exact absurd H (by simp)
    · rw [if_neg c2] at H
      have c2b0:decide (x4_1 < (a0.size:Int)) = false:=decide_eq_false c2
      clear c2
      by_cases c13:0 ≤ x4_1
      · rw [if_pos c13] at H
        have c13b0:=eq_true c13
        have c13b1:decide (0 ≤ x4_1) = true:=decide_eq_true c13
        clear c13
        by_cases c14:x4_1 ≤ (a0.size:Int)
        · rw [if_pos c14] at H
          have c14b0:=eq_true c14
          have c14b1:decide (x4_1 ≤ (a0.size:Int)) = true:=decide_eq_true c14
          clear c14
          have c15b0:=eq_true (of_decide_eq_true (by first | (with_reducible assumption) | assumption):0 ≤ x4_1)
          have c16b0:=eq_true (of_decide_eq_true (by first | (with_reducible assumption) | assumption):x4_1 ≤ (a0.size:Int))
          simp only [Option.some.injEq,Prod.mk.injEq] at H
          obtain ⟨rfl,rfl⟩:=H
          go_wp2
          repeat (go_quiet (fail);try go_wp2)
          go_ret2
          exact ⟨by first | rfl | (simp;done) | (simp [*];done),by repeat (first | exact us.refl _ | apply us.step)⟩
        · rw [if_neg c14] at H
          exact absurd H (by simp)
      · rw [if_neg c13] at H
        exact absurd H (by simp)
mutual
def u2i.j0:Nat → List (S66) → Bool → Option (Bool)
 | 0,_,_ => none
 | k + 1,x0,x13 => if x13 = true then (some false) else (u2i.l0 k (⟨#[]⟩:ByteArray) x0 (x0.length:Int) 0)
def u2i.l0:Nat → ByteArray → List (S66) → Int → Int → Option (Bool)
 | 0,_,_,_,_ => none
 | k + 1,x3,x14,x15,x16 => if x16 < x15 then (if 0 ≤ x16 then (if x16 < (x14.length:Int) then ((u2e.f ((u2g x14 x16).f0)).bind fun t103 => (if t103 = true then ((u3i.f ((u2g x14 x16).f1)).bind fun t104 => (if t104 = true then (if ((Op.bytesLess x3.toList (((u2g x14 x16).f0).toList)) = true) then (u2i.l0 k ((u2g x14 x16).f0) x14 x15 (wrap64 (x16 + 1))) else (some false)) else (some false))) else (some false))) else (none)) else (none)) else (some true)
end
def u2i.f (k:Nat) (l0:List (S66)):Option (Bool):=if (l0.length:Int) = 0 then (u2i.j0 k l0 true) else (u2i.j0 k l0 (decide ((l0.length:Int) > 8)))
set_option maxHeartbeats 8000000 in
set_option maxRecDepth 100000 in
theorem u2i.calls (k:Nat) (A0:Option Addr) (c0:Nat) (l0:List (S66)) (r:Bool) (w:World) (hr0:Kd.C k66 w A0 l0.length l0) (hc0:l0.length ≤ c0) (h:u2i.f k l0 = some r) :
 Calls Tryz.prog 33 #[.slice A0 l0.length c0] w fun e w' => e = .returned (.bool r) ∧ Below w.heap.size w w':=by
 have hu66:=Tryz.underlying66
 have HR0:=Aside0.mk hr0
 have HC0:=Aside0.mk hc0
 clear hr0 hc0
 have HB:=Aside0.mk (Below.refl w.heap.size w)
 have H:(if (l0.length:Int) = 0 then (u2i.j0 k l0 true) else (u2i.j0 k l0 (decide ((l0.length:Int) > 8)))) = some r:=h
 clear h
 have HC2:=Aside0.mk H
 clear H
 go_enter Tryz.func33,Tryz.ntmps33
 go_upto_region 1 with (fail)
 go_cut [13] (fun v13 wc => ∃ (kq:Nat) (x13_1:Bool),v13 = .bool x13_1 ∧ Aside0 (u2i.j0 kq l0 x13_1 = some r) ∧ Aside0 (kq ≤ k) ∧ Aside0 (Below w.heap.size w wc))
 case first =>
  have H:=HC2.out
  clear HC2
  by_cases c3:(l0.length:Int) = 0
  · rw [if_pos c3] at H
    have c3b0:((l0.length:Int) == 0) = true:=beq_iff_eq.mpr c3
    have c3b1:((l0.length:Int) != 0) = false:=bne_eq_false_iff_eq.mpr c3
    clear c3
    (first | rw [c3b0] | (simp only [i64_w,i32_w];rw [c3b0]) | skip)
    have H':=Aside0.mk H
    clear H
    go_wp2
    go_meet
    case rel => exact ⟨_,(true),(by first | rfl | (simp;done) | (simp [*];done)),H',⟨by first | omega | exact Nat.le_refl _⟩,⟨by repeat (first | (with_reducible first | exact HB.out | apply uc | apply ub | apply ud) | exact HB.out)⟩⟩
  · rw [if_neg c3] at H
    have c3b0:((l0.length:Int) == 0) = false:=beq_eq_false_iff_ne.mpr c3
    have c3b1:((l0.length:Int) != 0) = true:=bne_iff_ne.mpr c3
    have c3b2:¬ (l0 = []):=fun h_ => c3 (by rw [h_];rfl)
    (first | rw [c3b0] | (simp only [i64_w,i32_w];rw [c3b0]) | skip)
    have H':=Aside0.mk H
    clear H
    go_wp2
    go_meet
    case rel => exact ⟨_,(decide ((l0.length:Int) > 8)),(by first | rfl | (simp;done) | (simp [*];done)),H',⟨by first | omega | exact Nat.le_refl _⟩,⟨by repeat (first | (with_reducible first | exact HB.out | apply uc | apply ub | apply ud) | exact HB.out)⟩⟩
 case rest =>
  clear HC2
  try clear p2
  try clear c3
  try clear c3b0
  try clear c3b1
  try clear c3b2
  obtain ⟨kq,x13_1,rfl,HA,HJ1,HB⟩:=hcut
  cases kq with
  | zero => exact absurd HA.out (by simp [u2i.j0])
  | succ kj1 =>
    have H:=HA.out
    clear HA
    simp only [u2i.j0] at H
    by_cases c4:x13_1 = true
    · subst c4
      have H1:(some false) = some r:=by rw [if_pos rfl] at H;exact H
      clear H
      have H:=H1
      clear H1
      obtain rfl:=Option.some.inj H
      go_wp2
      go_ret
      exact ⟨by first | rfl | (simp [u1k,u1l] <;> rfl) | (simp [*,u1k,u1l] <;> rfl),by repeat (first | (with_reducible first | exact HB.out | apply uc | apply ub | apply ud) | exact HB.out)⟩
    · replace c4:=Bool.eq_false_iff.mpr c4
      subst c4
      have H1:(u2i.l0 kj1 (⟨#[]⟩:ByteArray) l0 (l0.length:Int) 0) = some r:=by rw [if_neg (show ¬ (false = true) by decide)] at H;exact H
      clear H
      have H:=H1
      clear H1
      have H':=Aside0.mk H
      clear H
      go_wp2
      go_loopg [3,16] kj1 (fun kq v3 v16 w' => ∃ (x3_2:ByteArray) (x16_2:Int),v3 = .string x3_2 ∧ v16 = .int .i64 x16_2 ∧ Aside0 (u2i.l0 kq x3_2 l0 (l0.length:Int) x16_2 = some r) ∧ Aside0 (kq ≤ kj1) ∧ Aside0 (Below w.heap.size w w'))
      case atStart => exact ⟨((⟨#[]⟩:ByteArray)),(0),(by first | rfl | (simp;done) | (simp [*];done)),(by first | rfl | (simp;done) | (simp [*];done)),H',⟨Nat.le_refl _⟩,⟨by repeat (first | (with_reducible first | exact HB.out | apply uc | apply ub | apply ud) | exact HB.out)⟩⟩
      case round =>
       clear H'
       try clear p2
       try clear c3
       try clear c3b0
       try clear c3b1
       try clear c3b2
       try clear c4
       try clear p2
       obtain ⟨x3_2,x16_2,rfl,rfl,HA,HK2,HB⟩:=hrel
       cases gk with
       | zero => exact absurd HA.out (by simp [u2i.l0])
       | succ k2 =>
         have H:=HA.out
         clear HA
         simp only [u2i.l0] at H
         by_cases c5:x16_2 < (l0.length:Int)
         · rw [if_pos c5] at H
           have c5b0:decide (x16_2 < (l0.length:Int)) = true:=decide_eq_true c5
           clear c5
           by_cases c6:0 ≤ x16_2
           · rw [if_pos c6] at H
             have c6b0:decide (0 ≤ x16_2) = true:=decide_eq_true c6
             clear c6
             by_cases c7:x16_2 < (l0.length:Int)
             · rw [if_pos c7] at H
               have c7b0:decide (x16_2 < (l0.length:Int)) = true:=decide_eq_true c7
               clear c7
               replace H:=Option.bind_eq_some_iff.mp H
               obtain ⟨t103,A80,H⟩:=H
               replace H:(if t103 = true then ((u3i.f ((u2g l0 x16_2).f1)).bind fun t104 => (if t104 = true then (if ((Op.bytesLess x3_2.toList (((u2g l0 x16_2).f0).toList)) = true) then (u2i.l0 k2 ((u2g l0 x16_2).f0) l0 (l0.length:Int) (wrap64 (x16_2 + 1))) else (some false)) else (some false))) else (some false)) = some r:=H
               have A8:=Aside0.mk A80
               clear A80
               by_cases c9:t103 = true
               · subst c9
                 have H1:((u3i.f ((u2g l0 x16_2).f1)).bind fun t104 => (if t104 = true then (if ((Op.bytesLess x3_2.toList (((u2g l0 x16_2).f0).toList)) = true) then (u2i.l0 k2 ((u2g l0 x16_2).f0) l0 (l0.length:Int) (wrap64 (x16_2 + 1))) else (some false)) else (some false))) = some r:=by rw [if_pos rfl] at H;exact H
                 clear H
                 have H:=H1
                 clear H1
                 replace H:=Option.bind_eq_some_iff.mp H
                 obtain ⟨t104,A100,H⟩:=H
                 replace H:(if t104 = true then (if ((Op.bytesLess x3_2.toList (((u2g l0 x16_2).f0).toList)) = true) then (u2i.l0 k2 ((u2g l0 x16_2).f0) l0 (l0.length:Int) (wrap64 (x16_2 + 1))) else (some false)) else (some false)) = some r:=H
                 have A10:=Aside0.mk A100
                 clear A100
                 by_cases c11:t104 = true
                 · subst c11
                   have H1:(if ((Op.bytesLess x3_2.toList (((u2g l0 x16_2).f0).toList)) = true) then (u2i.l0 k2 ((u2g l0 x16_2).f0) l0 (l0.length:Int) (wrap64 (x16_2 + 1))) else (some false)) = some r:=by rw [if_pos rfl] at H;exact H
                   clear H
                   have H:=H1
                   clear H1
                   by_cases c12:((Op.bytesLess x3_2.toList (((u2g l0 x16_2).f0).toList)) = true)
                   · rw [if_pos c12] at H
                     have c12b0:(Op.bytesLess x3_2.toList (((u2g l0 x16_2).f0).toList)) = true:=c12
                     clear c12
                     have H':=Aside0.mk H
                     clear H
                     have p101:0 ≤ (x16_2:Int):=of_decide_eq_true (by first | (with_reducible assumption) | assumption)
                     have q101:x16_2 < (l0.length:Int):=of_decide_eq_true (by first | (with_reducible assumption) | assumption)
                     obtain ⟨ad101,e101,hx101_0,hx101_1⟩:=at_T66 HR0.out x16_2 p101 q101
                     cases e101
                     replace hx101_0:=(HB.out.cell (World.block_lt_of_cell? w _ hx101_0)).trans hx101_0
                     replace hx101_1:=(HB.out.cell (World.block_lt_of_cell? w _ hx101_1)).trans hx101_1
                     replace p101:=eq_true p101
                     replace q101:=eq_true q101
                     go_wp2_with (first | ((with_reducible refine u3f (N:=5) rfl ?_);(try (refine u3t (by rfl) ?_;dsimp only));refine u3c ?hg (N:=5) ?hd (cs:=#[.string (⟨#[]⟩:ByteArray),.string (⟨#[]⟩:ByteArray)]) (t:=66) ?hr ?_;(case hd => rfl);(case hg => rfl);(case hr => first | (go_simp;done) | (go_simp;rfl));intro gb102 hg w13 hbox hb;have n0_:=Aside0.mk (u1h (by repeat (first | (with_reducible first | exact HB.out | apply uc | apply ub | apply ud) | exact HB.out)) hb);have n1_:=Aside0.mk (hbox);have n2_:=Aside0.mk ((by rw [hg];exact (u1c (by repeat (first | (with_reducible first | exact HB.out | apply uc | apply ub | apply ud) | exact HB.out))):w.heap.size ≤ gb102));have n3_:=Aside0.mk ((by rw [hg];exact (u1c (by repeat (first | (with_reducible first | exact HB.out | apply uc | apply ub | apply ud) | exact HB.out))):w.heap.size ≤ gb102));clear HB;have HB:=n0_;have BK102:=n1_;have GW102:=n2_;have GE102:=n3_;clear n0_ n1_ n2_ n3_;clear hb hbox hg;have hcz14_0:w13.cell? ⟨gb102,0,none⟩ = some (.string (⟨#[]⟩:ByteArray)):=(uj BK102.out 0).trans rfl;have hcz14_1:w13.cell? ⟨gb102,1,none⟩ = some (.string (⟨#[]⟩:ByteArray)):=(uj BK102.out 1).trans rfl;have hfz14_0:=uk BK102.out 0;have hfz14_1:=uk BK102.out 1) | ((with_reducible refine u1u (f:=29) rfl ?_);refine u3e (some 22) rfl rfl Tryz.func29 (by kernel_rfl) rfl #[.string ((u2g l0 x16_2).f0)] rfl (by (try simp only [List.map_toArray,List.map_cons,List.map_nil]);first | done | rfl | (simp only [List.length_drop,List.length_take];rfl)) ?_;(with_reducible refine (u2e.calls ((u2g l0 x16_2).f0) true _ A8.out).mono ?_);rintro e w15 ⟨rfl,hb⟩;refine ⟨_,rfl,?_⟩;have n0_:=Aside0.mk (u2c (g:=gb102) (o:=.cells #[.string ((u2g l0 x16_2).f0),.string ((u2g l0 x16_2).f1)] 66 (0,0)) (by (with_reducible repeat (first | refine ue ?_ _ | refine ug ?_ | refine uf ?_ _));refine u2d (cs:=#[.string ((u2g l0 x16_2).f0),.string (⟨#[]⟩:ByteArray)]) ?_ 1 _ rfl;(with_reducible repeat (first | refine ue ?_ _ | refine ug ?_ | refine uf ?_ _));refine u2d (cs:=#[.string (⟨#[]⟩:ByteArray),.string (⟨#[]⟩:ByteArray)]) ?_ 0 _ rfl;(with_reducible repeat (first | refine ue ?_ _ | refine ug ?_ | refine uf ?_ _));exact BK102.out) hb);have n1_:=Aside0.mk (u1h (by repeat (first | (with_reducible first | exact HB.out | apply uc | apply ub | apply ud | refine ui ?_ GE102.out) | exact HB.out)) hb);clear BK102;clear HB;have BK102:=n0_;have HB:=n1_;clear n0_ n1_;(try clear hb);(try clear hb2);(try clear hk);(try clear hi);have hcz16_0:w15.cell? ⟨gb102,0,none⟩ = some (.string ((u2g l0 x16_2).f0)):=(uj BK102.out 0).trans rfl;have hcz16_1:w15.cell? ⟨gb102,1,none⟩ = some (.string ((u2g l0 x16_2).f1)):=(uj BK102.out 1).trans rfl;have hfz16_0:=uk BK102.out 0;have hfz16_1:=uk BK102.out 1) | (go_at_call 60;(with_reducible refine (u3i.calls ((u2g l0 x16_2).f1) true _ A10.out).mono ?_);rintro e w17 ⟨rfl,hb⟩;have n0_:=Aside0.mk (u2c (g:=gb102) (o:=.cells #[.string ((u2g l0 x16_2).f0),.string ((u2g l0 x16_2).f1)] 66 (0,0)) (by (with_reducible repeat (first | refine ue ?_ _ | refine ug ?_ | refine uf ?_ _));exact BK102.out) hb);have n1_:=Aside0.mk (u1h (by repeat (first | (with_reducible first | exact HB.out | apply uc | apply ub | apply ud | refine ui ?_ GE102.out) | exact HB.out)) hb);clear BK102;clear HB;have BK102:=n0_;have HB:=n1_;clear n0_ n1_;(try clear hb);(try clear hb2);(try clear hk);(try clear hi);have hcz18_0:w17.cell? ⟨gb102,0,none⟩ = some (.string ((u2g l0 x16_2).f0)):=(uj BK102.out 0).trans rfl;have hcz18_1:w17.cell? ⟨gb102,1,none⟩ = some (.string ((u2g l0 x16_2).f1)):=(uj BK102.out 1).trans rfl;have hfz18_0:=uk BK102.out 0;have hfz18_1:=uk BK102.out 1))
                     go_roundg k2
                     case measure => have:=HJ1.out;have:=HK2.out;omega
                     case rel => exact ⟨((u2g l0 x16_2).f0),(wrap64 (x16_2 + 1)),(by first | rfl | (simp;done) | (simp [*];done)),(by first | rfl | (simp;done) | (simp [*];done)),H',⟨by have:=HJ1.out;have:=HK2.out;omega⟩,⟨by repeat (first | (with_reducible first | exact HB.out | apply uc | apply ub | apply ud | refine ui ?_ GE102.out) | exact HB.out)⟩⟩
                   · rw [if_neg c12] at H
                     have c12b0:(Op.bytesLess x3_2.toList (((u2g l0 x16_2).f0).toList)) = false:=by simpa using c12
                     clear c12
                     obtain rfl:=Option.some.inj H
                     have p101:0 ≤ (x16_2:Int):=of_decide_eq_true (by first | (with_reducible assumption) | assumption)
                     have q101:x16_2 < (l0.length:Int):=of_decide_eq_true (by first | (with_reducible assumption) | assumption)
                     obtain ⟨ad101,e101,hx101_0,hx101_1⟩:=at_T66 HR0.out x16_2 p101 q101
                     cases e101
                     replace hx101_0:=(HB.out.cell (World.block_lt_of_cell? w _ hx101_0)).trans hx101_0
                     replace hx101_1:=(HB.out.cell (World.block_lt_of_cell? w _ hx101_1)).trans hx101_1
                     replace p101:=eq_true p101
                     replace q101:=eq_true q101
                     go_wp2_with (first | ((with_reducible refine u3f (N:=5) rfl ?_);(try (refine u3t (by rfl) ?_;dsimp only));refine u3c ?hg (N:=5) ?hd (cs:=#[.string (⟨#[]⟩:ByteArray),.string (⟨#[]⟩:ByteArray)]) (t:=66) ?hr ?_;(case hd => rfl);(case hg => rfl);(case hr => first | (go_simp;done) | (go_simp;rfl));intro gb102 hg w19 hbox hb;have n0_:=Aside0.mk (u1h (by repeat (first | (with_reducible first | exact HB.out | apply uc | apply ub | apply ud) | exact HB.out)) hb);have n1_:=Aside0.mk (hbox);have n2_:=Aside0.mk ((by rw [hg];exact (u1c (by repeat (first | (with_reducible first | exact HB.out | apply uc | apply ub | apply ud) | exact HB.out))):w.heap.size ≤ gb102));have n3_:=Aside0.mk ((by rw [hg];exact (u1c (by repeat (first | (with_reducible first | exact HB.out | apply uc | apply ub | apply ud) | exact HB.out))):w.heap.size ≤ gb102));clear HB;have HB:=n0_;have BK102:=n1_;have GW102:=n2_;have GE102:=n3_;clear n0_ n1_ n2_ n3_;clear hb hbox hg;have hcz20_0:w19.cell? ⟨gb102,0,none⟩ = some (.string (⟨#[]⟩:ByteArray)):=(uj BK102.out 0).trans rfl;have hcz20_1:w19.cell? ⟨gb102,1,none⟩ = some (.string (⟨#[]⟩:ByteArray)):=(uj BK102.out 1).trans rfl;have hfz20_0:=uk BK102.out 0;have hfz20_1:=uk BK102.out 1) | ((with_reducible refine u1u (f:=29) rfl ?_);refine u3e (some 22) rfl rfl Tryz.func29 (by kernel_rfl) rfl #[.string ((u2g l0 x16_2).f0)] rfl (by (try simp only [List.map_toArray,List.map_cons,List.map_nil]);first | done | rfl | (simp only [List.length_drop,List.length_take];rfl)) ?_;(with_reducible refine (u2e.calls ((u2g l0 x16_2).f0) true _ A8.out).mono ?_);rintro e w21 ⟨rfl,hb⟩;refine ⟨_,rfl,?_⟩;have n0_:=Aside0.mk (u2c (g:=gb102) (o:=.cells #[.string ((u2g l0 x16_2).f0),.string ((u2g l0 x16_2).f1)] 66 (0,0)) (by (with_reducible repeat (first | refine ue ?_ _ | refine ug ?_ | refine uf ?_ _));refine u2d (cs:=#[.string ((u2g l0 x16_2).f0),.string (⟨#[]⟩:ByteArray)]) ?_ 1 _ rfl;(with_reducible repeat (first | refine ue ?_ _ | refine ug ?_ | refine uf ?_ _));refine u2d (cs:=#[.string (⟨#[]⟩:ByteArray),.string (⟨#[]⟩:ByteArray)]) ?_ 0 _ rfl;(with_reducible repeat (first | refine ue ?_ _ | refine ug ?_ | refine uf ?_ _));exact BK102.out) hb);have n1_:=Aside0.mk (u1h (by repeat (first | (with_reducible first | exact HB.out | apply uc | apply ub | apply ud | refine ui ?_ GE102.out) | exact HB.out)) hb);clear BK102;clear HB;have BK102:=n0_;have HB:=n1_;clear n0_ n1_;(try clear hb);(try clear hb2);(try clear hk);(try clear hi);have hcz22_0:w21.cell? ⟨gb102,0,none⟩ = some (.string ((u2g l0 x16_2).f0)):=(uj BK102.out 0).trans rfl;have hcz22_1:w21.cell? ⟨gb102,1,none⟩ = some (.string ((u2g l0 x16_2).f1)):=(uj BK102.out 1).trans rfl;have hfz22_0:=uk BK102.out 0;have hfz22_1:=uk BK102.out 1) | (go_at_call 60;(with_reducible refine (u3i.calls ((u2g l0 x16_2).f1) true _ A10.out).mono ?_);rintro e w23 ⟨rfl,hb⟩;have n0_:=Aside0.mk (u2c (g:=gb102) (o:=.cells #[.string ((u2g l0 x16_2).f0),.string ((u2g l0 x16_2).f1)] 66 (0,0)) (by (with_reducible repeat (first | refine ue ?_ _ | refine ug ?_ | refine uf ?_ _));exact BK102.out) hb);have n1_:=Aside0.mk (u1h (by repeat (first | (with_reducible first | exact HB.out | apply uc | apply ub | apply ud | refine ui ?_ GE102.out) | exact HB.out)) hb);clear BK102;clear HB;have BK102:=n0_;have HB:=n1_;clear n0_ n1_;(try clear hb);(try clear hb2);(try clear hk);(try clear hi);have hcz24_0:w23.cell? ⟨gb102,0,none⟩ = some (.string ((u2g l0 x16_2).f0)):=(uj BK102.out 0).trans rfl;have hcz24_1:w23.cell? ⟨gb102,1,none⟩ = some (.string ((u2g l0 x16_2).f1)):=(uj BK102.out 1).trans rfl;have hfz24_0:=uk BK102.out 0;have hfz24_1:=uk BK102.out 1))
                     go_ret
                     exact ⟨by first | rfl | (simp [u1k,u1l] <;> rfl) | (simp [*,u1k,u1l] <;> rfl),by repeat (first | (with_reducible first | exact HB.out | apply uc | apply ub | apply ud | refine ui ?_ GE102.out) | exact HB.out)⟩
                 · replace c11:=Bool.eq_false_iff.mpr c11
                   subst c11
                   have H1:(some false) = some r:=by rw [if_neg (show ¬ (false = true) by decide)] at H;exact H
                   clear H
                   have H:=H1
                   clear H1
                   obtain rfl:=Option.some.inj H
                   have p101:0 ≤ (x16_2:Int):=of_decide_eq_true (by first | (with_reducible assumption) | assumption)
                   have q101:x16_2 < (l0.length:Int):=of_decide_eq_true (by first | (with_reducible assumption) | assumption)
                   obtain ⟨ad101,e101,hx101_0,hx101_1⟩:=at_T66 HR0.out x16_2 p101 q101
                   cases e101
                   replace hx101_0:=(HB.out.cell (World.block_lt_of_cell? w _ hx101_0)).trans hx101_0
                   replace hx101_1:=(HB.out.cell (World.block_lt_of_cell? w _ hx101_1)).trans hx101_1
                   replace p101:=eq_true p101
                   replace q101:=eq_true q101
                   go_wp2_with (first | ((with_reducible refine u3f (N:=5) rfl ?_);(try (refine u3t (by rfl) ?_;dsimp only));refine u3c ?hg (N:=5) ?hd (cs:=#[.string (⟨#[]⟩:ByteArray),.string (⟨#[]⟩:ByteArray)]) (t:=66) ?hr ?_;(case hd => rfl);(case hg => rfl);(case hr => first | (go_simp;done) | (go_simp;rfl));intro gb102 hg w25 hbox hb;have n0_:=Aside0.mk (u1h (by repeat (first | (with_reducible first | exact HB.out | apply uc | apply ub | apply ud) | exact HB.out)) hb);have n1_:=Aside0.mk (hbox);have n2_:=Aside0.mk ((by rw [hg];exact (u1c (by repeat (first | (with_reducible first | exact HB.out | apply uc | apply ub | apply ud) | exact HB.out))):w.heap.size ≤ gb102));have n3_:=Aside0.mk ((by rw [hg];exact (u1c (by repeat (first | (with_reducible first | exact HB.out | apply uc | apply ub | apply ud) | exact HB.out))):w.heap.size ≤ gb102));clear HB;have HB:=n0_;have BK102:=n1_;have GW102:=n2_;have GE102:=n3_;clear n0_ n1_ n2_ n3_;clear hb hbox hg;have hcz26_0:w25.cell? ⟨gb102,0,none⟩ = some (.string (⟨#[]⟩:ByteArray)):=(uj BK102.out 0).trans rfl;have hcz26_1:w25.cell? ⟨gb102,1,none⟩ = some (.string (⟨#[]⟩:ByteArray)):=(uj BK102.out 1).trans rfl;have hfz26_0:=uk BK102.out 0;have hfz26_1:=uk BK102.out 1) | ((with_reducible refine u1u (f:=29) rfl ?_);refine u3e (some 22) rfl rfl Tryz.func29 (by kernel_rfl) rfl #[.string ((u2g l0 x16_2).f0)] rfl (by (try simp only [List.map_toArray,List.map_cons,List.map_nil]);first | done | rfl | (simp only [List.length_drop,List.length_take];rfl)) ?_;(with_reducible refine (u2e.calls ((u2g l0 x16_2).f0) true _ A8.out).mono ?_);rintro e w27 ⟨rfl,hb⟩;refine ⟨_,rfl,?_⟩;have n0_:=Aside0.mk (u2c (g:=gb102) (o:=.cells #[.string ((u2g l0 x16_2).f0),.string ((u2g l0 x16_2).f1)] 66 (0,0)) (by (with_reducible repeat (first | refine ue ?_ _ | refine ug ?_ | refine uf ?_ _));refine u2d (cs:=#[.string ((u2g l0 x16_2).f0),.string (⟨#[]⟩:ByteArray)]) ?_ 1 _ rfl;(with_reducible repeat (first | refine ue ?_ _ | refine ug ?_ | refine uf ?_ _));refine u2d (cs:=#[.string (⟨#[]⟩:ByteArray),.string (⟨#[]⟩:ByteArray)]) ?_ 0 _ rfl;(with_reducible repeat (first | refine ue ?_ _ | refine ug ?_ | refine uf ?_ _));exact BK102.out) hb);have n1_:=Aside0.mk (u1h (by repeat (first | (with_reducible first | exact HB.out | apply uc | apply ub | apply ud | refine ui ?_ GE102.out) | exact HB.out)) hb);clear BK102;clear HB;have BK102:=n0_;have HB:=n1_;clear n0_ n1_;(try clear hb);(try clear hb2);(try clear hk);(try clear hi);have hcz28_0:w27.cell? ⟨gb102,0,none⟩ = some (.string ((u2g l0 x16_2).f0)):=(uj BK102.out 0).trans rfl;have hcz28_1:w27.cell? ⟨gb102,1,none⟩ = some (.string ((u2g l0 x16_2).f1)):=(uj BK102.out 1).trans rfl;have hfz28_0:=uk BK102.out 0;have hfz28_1:=uk BK102.out 1) | (go_at_call 60;(with_reducible refine (u3i.calls ((u2g l0 x16_2).f1) false _ A10.out).mono ?_);rintro e w29 ⟨rfl,hb⟩;have n0_:=Aside0.mk (u2c (g:=gb102) (o:=.cells #[.string ((u2g l0 x16_2).f0),.string ((u2g l0 x16_2).f1)] 66 (0,0)) (by (with_reducible repeat (first | refine ue ?_ _ | refine ug ?_ | refine uf ?_ _));exact BK102.out) hb);have n1_:=Aside0.mk (u1h (by repeat (first | (with_reducible first | exact HB.out | apply uc | apply ub | apply ud | refine ui ?_ GE102.out) | exact HB.out)) hb);clear BK102;clear HB;have BK102:=n0_;have HB:=n1_;clear n0_ n1_;(try clear hb);(try clear hb2);(try clear hk);(try clear hi)))
                   go_ret
                   exact ⟨by first | rfl | (simp [u1k,u1l] <;> rfl) | (simp [*,u1k,u1l] <;> rfl),by repeat (first | (with_reducible first | exact HB.out | apply uc | apply ub | apply ud | refine ui ?_ GE102.out) | exact HB.out)⟩
               · replace c9:=Bool.eq_false_iff.mpr c9
                 subst c9
                 have H1:(some false) = some r:=by rw [if_neg (show ¬ (false = true) by decide)] at H;exact H
                 clear H
                 have H:=H1
                 clear H1
                 obtain rfl:=Option.some.inj H
                 have p101:0 ≤ (x16_2:Int):=of_decide_eq_true (by first | (with_reducible assumption) | assumption)
                 have q101:x16_2 < (l0.length:Int):=of_decide_eq_true (by first | (with_reducible assumption) | assumption)
                 obtain ⟨ad101,e101,hx101_0,hx101_1⟩:=at_T66 HR0.out x16_2 p101 q101
                 cases e101
                 replace hx101_0:=(HB.out.cell (World.block_lt_of_cell? w _ hx101_0)).trans hx101_0
                 replace hx101_1:=(HB.out.cell (World.block_lt_of_cell? w _ hx101_1)).trans hx101_1
                 replace p101:=eq_true p101
                 replace q101:=eq_true q101
                 go_wp2_with (first | ((with_reducible refine u3f (N:=5) rfl ?_);(try (refine u3t (by rfl) ?_;dsimp only));refine u3c ?hg (N:=5) ?hd (cs:=#[.string (⟨#[]⟩:ByteArray),.string (⟨#[]⟩:ByteArray)]) (t:=66) ?hr ?_;(case hd => rfl);(case hg => rfl);(case hr => first | (go_simp;done) | (go_simp;rfl));intro gb102 hg w30 hbox hb;have n0_:=Aside0.mk (u1h (by repeat (first | (with_reducible first | exact HB.out | apply uc | apply ub | apply ud) | exact HB.out)) hb);have n1_:=Aside0.mk (hbox);have n2_:=Aside0.mk ((by rw [hg];exact (u1c (by repeat (first | (with_reducible first | exact HB.out | apply uc | apply ub | apply ud) | exact HB.out))):w.heap.size ≤ gb102));have n3_:=Aside0.mk ((by rw [hg];exact (u1c (by repeat (first | (with_reducible first | exact HB.out | apply uc | apply ub | apply ud) | exact HB.out))):w.heap.size ≤ gb102));clear HB;have HB:=n0_;have BK102:=n1_;have GW102:=n2_;have GE102:=n3_;clear n0_ n1_ n2_ n3_;clear hb hbox hg;have hcz31_0:w30.cell? ⟨gb102,0,none⟩ = some (.string (⟨#[]⟩:ByteArray)):=(uj BK102.out 0).trans rfl;have hcz31_1:w30.cell? ⟨gb102,1,none⟩ = some (.string (⟨#[]⟩:ByteArray)):=(uj BK102.out 1).trans rfl;have hfz31_0:=uk BK102.out 0;have hfz31_1:=uk BK102.out 1) | ((with_reducible refine u1u (f:=29) rfl ?_);refine u3e (some 22) rfl rfl Tryz.func29 (by kernel_rfl) rfl #[.string ((u2g l0 x16_2).f0)] rfl (by (try simp only [List.map_toArray,List.map_cons,List.map_nil]);first | done | rfl | (simp only [List.length_drop,List.length_take];rfl)) ?_;(with_reducible refine (u2e.calls ((u2g l0 x16_2).f0) false _ A8.out).mono ?_);rintro e w32 ⟨rfl,hb⟩;refine ⟨_,rfl,?_⟩;have n0_:=Aside0.mk (u2c (g:=gb102) (o:=.cells #[.string ((u2g l0 x16_2).f0),.string ((u2g l0 x16_2).f1)] 66 (0,0)) (by (with_reducible repeat (first | refine ue ?_ _ | refine ug ?_ | refine uf ?_ _));refine u2d (cs:=#[.string ((u2g l0 x16_2).f0),.string (⟨#[]⟩:ByteArray)]) ?_ 1 _ rfl;(with_reducible repeat (first | refine ue ?_ _ | refine ug ?_ | refine uf ?_ _));refine u2d (cs:=#[.string (⟨#[]⟩:ByteArray),.string (⟨#[]⟩:ByteArray)]) ?_ 0 _ rfl;(with_reducible repeat (first | refine ue ?_ _ | refine ug ?_ | refine uf ?_ _));exact BK102.out) hb);have n1_:=Aside0.mk (u1h (by repeat (first | (with_reducible first | exact HB.out | apply uc | apply ub | apply ud | refine ui ?_ GE102.out) | exact HB.out)) hb);clear BK102;clear HB;have BK102:=n0_;have HB:=n1_;clear n0_ n1_;(try clear hb);(try clear hb2);(try clear hk);(try clear hi)))
                 go_ret
                 exact ⟨by first | rfl | (simp [u1k,u1l] <;> rfl) | (simp [*,u1k,u1l] <;> rfl),by repeat (first | (with_reducible first | exact HB.out | apply uc | apply ub | apply ud | refine ui ?_ GE102.out) | exact HB.out)⟩
             · rw [if_neg c7] at H
               exact absurd H (by simp)
           · rw [if_neg c6] at H
             exact absurd H (by simp)
         · rw [if_neg c5] at H
           have c5b0:decide (x16_2 < (l0.length:Int)) = false:=decide_eq_false c5
           clear c5
           obtain rfl:=Option.some.inj H
           go_wp2
           go_ret
           exact ⟨by first | rfl | (simp [u1k,u1l] <;> rfl) | (simp [*,u1k,u1l] <;> rfl),by repeat (first | (with_reducible first | exact HB.out | apply uc | apply ub | apply ud) | exact HB.out)⟩
end Go.Proofs.YtmcpeifhapekoaaGreatDoor.PAll
namespace Go.Proofs.YtmcpeifhapekoaaGreatDoor.Laws
open Go.RowKit Go.Proofs.YtmcpeifhapekoaaGreatDoor.PAll Go.Proofs.YtmcpeifhapekoaaGreatDoorW.PrintWords Go.Proofs.YtmcpeifhapekoaaGreatDoorW.PrintLast
set_option linter.unusedVariables false
set_option linter.unusedSimpArgs false
def okFrom:List UInt8 → List S66 → Bool
 | _,[] => true
 | last,x :: r => Base.nameB x.f0 && Base.valueB x.f1 && Op.bytesLess last x.f0.data.toList && okFrom x.f0.data.toList r
def canB (l:List S66):Bool:=decide (1 ≤ l.length) && decide (l.length ≤ 8) && okFrom [] l
theorem rd_drop (l:List S66) (i:Nat) (x:S66) (r:List S66) (h:l.drop i = x :: r):u2g l (i:Int) = x ∧ i < l.length ∧ l.drop (i + 1) = r:=by
 have hlt:i < l.length:=by
  rcases Nat.lt_or_ge i l.length with h1 | h1
  · exact h1
  · rw [List.drop_eq_nil_of_le h1] at h
    cases h
 rw [List.drop_eq_getElem_cons hlt] at h
 obtain ⟨h1,h2⟩:=List.cons.inj h
 refine ⟨?_,hlt,h2⟩
 rw [← h1]
 simp [u2g,List.getD_eq_getElem?_getD,hlt]
theorem can_l0 (l:List S66) (hl:l.length ≤ 8):∀ (r:List S66) (i:Nat) (last:ByteArray),l.drop i = r →
 Ev (fun k => u2i.l0 k last l (l.length:Int) (i:Int)) (okFrom last.data.toList r):=by
 intro r
 induction r with
 | nil =>
   intro i last h
   have hi:l.length ≤ i:=by
    rcases Nat.lt_or_ge i l.length with h1 | h1
    · rw [List.drop_eq_getElem_cons h1] at h
      cases h
    · exact h1
   refine Ev.step (f:=fun _ => some true) (fun k => ?_) (Ev.now _)
   simp only [u2i.l0]
   rw [if_neg (by omega)]
 | cons x r ih =>
   intro i last h
   obtain ⟨hx,hi,hr⟩:=rd_drop l i x r h
   have hw:wrap64 ((i:Int) + 1) = ((i + 1:Nat):Int):=Base.wrap_nat i (by omega)
   have h1:((i:Int) < (l.length:Int)):=by omega
   have h0:((0:Int) ≤ (i:Int)):=by omega
   cases hn:Base.nameB x.f0 with
   | false =>
     refine Ev.step (f:=fun _ => some false) (fun k => ?_) ?_
     · simp only [u2i.l0]
       rw [if_pos h1,if_pos h0,if_pos h1,hx]
       simp [u2e.f,hn]
     · have:okFrom last.data.toList (x :: r) = false:=by simp [okFrom,hn]
       rw [this]
       exact Ev.now _
   | true =>
     cases hv:Base.valueB x.f1 with
     | false =>
       refine Ev.step (f:=fun _ => some false) (fun k => ?_) ?_
       · simp only [u2i.l0]
         rw [if_pos h1,if_pos h0,if_pos h1,hx]
         simp [u2e.f,u3i.f,hn,hv]
       · have:okFrom last.data.toList (x :: r) = false:=by simp [okFrom,hn,hv]
         rw [this]
         exact Ev.now _
     | true =>
       cases hb:Op.bytesLess last.data.toList x.f0.data.toList with
       | false =>
         refine Ev.step (f:=fun _ => some false) (fun k => ?_) ?_
         · simp only [u2i.l0]
           rw [if_pos h1,if_pos h0,if_pos h1,hx]
           simp [u2e.f,u3i.f,hn,hv,ByteArray.toList_eq,hb]
         · have:okFrom last.data.toList (x :: r) = false:=by simp [okFrom,hn,hv,hb]
           rw [this]
           exact Ev.now _
       | true =>
         have ih2:=ih (i + 1) x.f0 hr
         refine Ev.step (f:=fun k => u2i.l0 k x.f0 l (l.length:Int) ((i + 1:Nat):Int)) (fun k => ?_) ?_
         · simp only [u2i.l0]
           rw [if_pos h1,if_pos h0,if_pos h1,hx,hw]
           simp [u2e.f,u3i.f,hn,hv,ByteArray.toList_eq,hb]
         · have:okFrom last.data.toList (x :: r) = okFrom x.f0.data.toList r:=by simp [okFrom,hn,hv,hb]
           rw [this]
           exact ih2
theorem can_ev (l:List S66):Ev (fun k => u2i.f k l) (canB l):=by
 by_cases h0:l.length = 0
 · have hc:canB l = false:=by simp [canB,h0]
   rw [hc]
   refine Ev.congr (f:=fun k => u2i.j0 k l true) (fun k => ?_) ?_
   · simp only [u2i.f]
     rw [if_pos (by omega)]
   · refine Ev.step (f:=fun _ => some false) (fun k => ?_) (Ev.now _)
     simp only [u2i.j0]
     simp
 · refine Ev.congr (f:=fun k => u2i.j0 k l (decide ((l.length:Int) > 8))) (fun k => ?_) ?_
   · simp only [u2i.f]
     rw [if_neg (by omega)]
   · by_cases h8:l.length ≤ 8
     · have hc:canB l = okFrom [] l:=by
        have h1:1 ≤ l.length:=by omega
        simp [canB,h1,h8]
       rw [hc]
       refine Ev.step (f:=fun k => u2i.l0 k (⟨#[]⟩:ByteArray) l (l.length:Int) 0) (fun k => ?_) (can_l0 l h8 l 0 ⟨#[]⟩ rfl)
       simp only [u2i.j0]
       rw [if_neg (by simp;omega)]
     · have hc:canB l = false:=by simp [canB,h8]
       rw [hc]
       refine Ev.step (f:=fun _ => some false) (fun k => ?_) (Ev.now _)
       simp only [u2i.j0]
       rw [if_pos (by simp;omega)]
theorem nameB_size {s:ByteArray} (h:Base.nameB s = true):1 ≤ s.size ∧ s.size ≤ 24:=by
 simp only [Base.nameB,Bool.and_eq_true,decide_eq_true_eq] at h
 omega
end Go.Proofs.YtmcpeifhapekoaaGreatDoor.Laws
namespace Go.Proofs.YtmcpeifhapekoaaGreatDoor.Tx
open Go.RowKit Go.Proofs.YtmcpeifhapekoaaGreatDoor.PAll Go.Proofs.YtmcpeifhapekoaaGreatDoorW.PrintWords Go.Proofs.YtmcpeifhapekoaaGreatDoorW.PrintLast
open Go.Proofs.YtmcpeifhapekoaaGreatDoor.Laws (okFrom canB)
set_option linter.unusedVariables false
set_option linter.unusedSimpArgs false
theorem expect_cons (c d:UInt8) (t:B8):expectP [c] (d :: t) = if d = c then some t else none:=by
 unfold expectP
 by_cases h:d = c
 · subst h
   simp [List.isPrefixOf]
 · rw [if_neg h,if_neg]
   simp [List.isPrefixOf]
   exact fun e => h e.symm
theorem expect_nil (c:UInt8):expectP [c] [] = none:=by
 unfold expectP
 simp [List.isPrefixOf]
def okN (l:List Lb):Bool:=l.all fun x => Base.nameB x.f0
theorem label_is (s:B8):labelP s = if Base.nameB (Base.ofL (s.takeWhile wordC)) = true then (valP (s.dropWhile wordC)).map fun q => (⟨Base.ofL (s.takeWhile wordC),q.1⟩,q.2) else none:=by
 unfold labelP nameP
 split <;> rfl
theorem raw_some:∀ (n:Nat) (s:B8) (p:List Lb × B8),rawP n s = some p → 1 ≤ p.1.length
 | 0,s,p,h => by cases h
 | n + 1,s,p,h => by
   unfold rawP at h
   cases hv:valP (s.dropWhile wordC) with
   | none => rw [hv] at h;cases h
   | some q =>
     rw [hv] at h
     obtain ⟨v,t0⟩:=q
     cases t0 with
     | nil => cases h
     | cons c t =>
       simp only [Option.bind_some] at h
       by_cases hc:c = 44
       · rw [if_pos hc] at h
         cases hr:rawP n t with
         | none => rw [hr] at h;cases h
         | some p' =>
           rw [hr] at h
           cases Option.some.inj h
           simp
       · rw [if_neg hc] at h
         by_cases hd:c = 125
         · rw [if_pos hd] at h
           cases Option.some.inj h
           simp
         · rw [if_neg hd] at h
           cases h
theorem labels_raw:∀ (n:Nat) (acc:List Lb) (s:B8),acc.length ≤ 8 → ((labelP s).bind fun p => (labelsP n (acc ++ [p.1]) p.2).bind fun q => (expectP [125] q.2).map fun t => (q.1,t)) =
 (rawP n s).bind fun p => if okN p.1 = true ∧ acc.length + p.1.length ≤ 9 then some (acc ++ p.1,p.2) else none
 | 0,acc,s,ha => by
   unfold rawP
   cases labelP s <;> rfl
 | n + 1,acc,s,ha => by
   rw [label_is]
   unfold rawP
   cases hv:valP (s.dropWhile wordC) with
   | none =>
     simp only [Option.map_none,Option.bind_none]
     split <;> rfl
   | some q =>
     obtain ⟨v,t0⟩:=q
     simp only [Option.map_some,Option.bind_some]
     by_cases hn:Base.nameB (Base.ofL (s.takeWhile wordC)) = true
     · rw [if_pos hn]
       simp only [Option.bind_some]
       cases t0 with
       | nil => simp [labelsP,expect_nil]
       | cons c t =>
         simp only
         by_cases hc:c = 44
         · subst hc
           rw [if_pos rfl]
           have ih:=labels_raw n (acc ++ [⟨Base.ofL (s.takeWhile wordC),v⟩]) t
           simp only [labelsP,List.length_append,List.length_singleton] at ih ⊢
           by_cases h8:acc.length + 1 ≤ 8
           · rw [if_pos h8]
             have e:∀ (o:Option (Lb × B8)) (f:Lb × B8 → Option (List Lb × B8)) (g:List Lb × B8 → Option (List Lb × B8)),(o.bind f).bind g = o.bind fun p => (f p).bind g:=fun o f g => by cases o <;> rfl
             rw [e,ih h8]
             cases rawP n t with
             | none => rfl
             | some p' =>
               simp only [Option.bind_some,Option.map_some,okN,List.all_cons,hn,Bool.true_and,List.length_cons,List.append_assoc,List.singleton_append]
               rw [show acc.length + 1 + p'.1.length = acc.length + (p'.1.length + 1) by omega]
           · rw [if_neg h8]
             cases hr:rawP n t with
             | none => rfl
             | some p' =>
               have:=raw_some n t p' hr
               simp only [Option.bind_some,Option.map_some,Option.bind_none,List.length_cons]
               rw [if_neg (by rintro ⟨_,h9⟩;omega)]
         · rw [if_neg hc]
           have e:labelsP (n + 1) (acc ++ [⟨Base.ofL (s.takeWhile wordC),v⟩]) (c :: t) = some (acc ++ [⟨Base.ofL (s.takeWhile wordC),v⟩],c :: t):=by
            unfold labelsP
            split
            · rename_i h9
              injection h9 with h9
              exact absurd h9 hc
            · rfl
           rw [e]
           simp only [Option.bind_some,expect_cons]
           by_cases hd:c = 125
           · rw [if_pos hd,if_pos hd]
             simp only [Option.map_some,Option.bind_some,okN,List.all_cons,List.all_nil,hn,Bool.true_and,List.length_singleton]
             rw [if_pos ⟨trivial,by omega⟩]
           · rw [if_neg hd,if_neg hd]
             rfl
     · rw [if_neg hn]
       simp only [Option.bind_none]
       cases t0 with
       | nil => rfl
       | cons c t =>
         simp only
         have hf:∀ l:List Lb,okN (⟨Base.ofL (s.takeWhile wordC),v⟩ :: l) = false:=fun l => by
          have h0:Base.nameB (Base.ofL (s.takeWhile wordC)) = false:=by simpa using hn
          simp only [okN,List.all_cons,h0,Bool.false_and]
         by_cases hc:c = 44
         · rw [if_pos hc]
           cases rawP n t with
           | none => rfl
           | some p' => simp [hf]
         · rw [if_neg hc]
           by_cases hd:c = 125
           · rw [if_pos hd]
             simp [hf]
           · rw [if_neg hd]
             rfl
theorem insR_perm (x:Lb):∀ r:List Lb,(insR x r).Perm (x :: r)
 | [] => List.Perm.refl _
 | y :: r => by
   unfold insR
   split
   · exact ((insR_perm x r).cons y).trans (List.Perm.swap x y r)
   · exact List.Perm.refl _
theorem ins_fold_perm:∀ (l acc:List Lb),(l.foldl (fun r x => insR x r) acc).Perm (acc ++ l)
 | [],acc => by simp
 | x :: l,acc => by
   rw [List.foldl_cons]
   refine (ins_fold_perm l (insR x acc)).trans ?_
   refine ((insR_perm x acc).append_right l).trans ?_
   exact List.perm_middle.symm
theorem addR_some (x:Lb):∀ (r:List Lb),(addR x r = some (insR x r)) ∨ (addR x r = none ∧ ∃ y ∈ r,y.f0 = x.f0)
 | [] => Or.inl rfl
 | y :: r => by
   unfold addR insR
   by_cases h:less x.f0 y.f0 = true
   · rw [if_pos h,if_pos h]
     rcases addR_some x r with h1 | ⟨h1,z,hz,hz2⟩
     · rw [h1]
       exact Or.inl rfl
     · rw [h1]
       exact Or.inr ⟨rfl,z,List.mem_cons_of_mem _ hz,hz2⟩
   · rw [if_neg h,if_neg h]
     by_cases h1:y.f0 = x.f0
     · rw [if_pos h1]
       exact Or.inr ⟨rfl,y,List.mem_cons_self ..,h1⟩
     · rw [if_neg h1]
       exact Or.inl rfl
theorem addsR_some:∀ (l acc:List Lb),addsR acc l = some (l.foldl (fun r x => insR x r) acc) ∨ (addsR acc l = none ∧ ¬ ((acc ++ l).map (·.f0)).Nodup)
 | [],acc => Or.inl rfl
 | x :: l,acc => by
   unfold addsR
   rw [List.foldl_cons]
   rcases addR_some x acc with h | ⟨h,y,hy,hy2⟩
   · rw [h]
     rcases addsR_some l (insR x acc) with h1 | ⟨h1,h2⟩
     · exact Or.inl h1
     · refine Or.inr ⟨h1,fun hd => h2 ?_⟩
       have hp:(insR x acc ++ l).Perm (acc ++ x :: l):=((insR_perm x acc).append_right l).trans List.perm_middle.symm
       exact (hp.map _).nodup_iff.2 hd
   · rw [h]
     refine Or.inr ⟨rfl,fun hd => ?_⟩
     rw [List.map_append,List.nodup_append] at hd
     exact hd.2.2 y.f0 (List.mem_map_of_mem hy) x.f0 (by simp) hy2
theorem less_iff (a b:List UInt8):Op.bytesLess a b = true ↔ a < b:=by rw [Go.Proofs.bytesLess_eq];exact decide_eq_true_iff
theorem less_tr {a b c:List UInt8} (h1:Op.bytesLess a b = true) (h2:Op.bytesLess b c = true):Op.bytesLess a c = true:=by
 rw [less_iff] at *
 exact List.lt_trans h1 h2
theorem ok_above:∀ (l:List Lb) (last:List UInt8),okFrom last l = true → ∀ x ∈ l,Op.bytesLess last x.f0.data.toList = true
 | y :: l,last,h,x,hx => by
   unfold okFrom at h
   rw [Bool.and_eq_true,Bool.and_eq_true] at h
   rcases List.mem_cons.1 hx with rfl | hx
   · exact h.1.2
   · exact less_tr h.1.2 (ok_above l _ h.2 x hx)
theorem ok_nodup:∀ (l:List Lb) (last:List UInt8),okFrom last l = true → (l.map (·.f0)).Nodup
 | [],last,h => List.nodup_nil
 | y :: l,last,h => by
   unfold okFrom at h
   rw [Bool.and_eq_true] at h
   rw [List.map_cons,List.nodup_cons]
   refine ⟨fun hm => ?_,ok_nodup l _ h.2⟩
   obtain ⟨x,hx,e⟩:=List.mem_map.1 hm
   have:=ok_above l _ h.2 x hx
   rw [e,Base.less_irrefl] at this
   cases this
theorem can_names {l:List Lb} (h:canB l = true):l.length ≤ 8 ∧ okN l = true ∧ (l.map (·.f0)).Nodup:=by
 unfold canB at h
 rw [Bool.and_eq_true,Bool.and_eq_true] at h
 refine ⟨of_decide_eq_true h.1.2,?_,ok_nodup _ _ h.2⟩
 have:∀ (l:List Lb) (last:List UInt8),okFrom last l = true → okN l = true:=fun l => by
  induction l with
  | nil => exact fun _ _ => rfl
  | cons y l ih =>
    intro last h
    unfold okFrom at h
    rw [Bool.and_eq_true,Bool.and_eq_true,Bool.and_eq_true] at h
    unfold okN
    rw [List.all_cons,h.1.1.1,Bool.true_and]
    exact ih _ h.2
 exact this _ _ h.2
theorem okN_perm {a b:List Lb} (h:a.Perm b):okN a = okN b:=by
 unfold okN
 rw [Bool.eq_iff_iff,List.all_eq_true,List.all_eq_true]
 exact ⟨fun g x hx => g x (h.mem_iff.2 hx),fun g x hx => g x (h.mem_iff.1 hx)⟩
def labsR (s:B8):Option (List Lb × B8) :=
 if s.takeWhile wordC ≠ [] ∧ Base.nameB (Base.ofL (s.takeWhile wordC)) = false then none else
  match s.dropWhile wordC with
  | 123 :: t => bracesR (t.length + 1) (if s.takeWhile wordC ≠ [] then [⟨metric,Base.ofL (s.takeWhile wordC)⟩] else []) t
  | _ => some (if s.takeWhile wordC ≠ [] then [⟨metric,Base.ofL (s.takeWhile wordC)⟩] else [],s.dropWhile wordC)
theorem rest_same {α:Type} (E:List Lb → B8 → Option α) (l0:List Lb) (h0:l0.length ≤ 1) (s:B8) :
 ((restP l0 s).bind fun p => if canB (sortP p.1) = true then E (sortP p.1) p.2 else none) =
   (match s with | 123 :: t => bracesR (t.length + 1) l0 t | _ => some (l0,s)).bind fun p => if canB p.1.reverse = true then E p.1.reverse p.2 else none:=by
 have hs0:∀ l:List Lb,sortP (l0 ++ l) = (l.foldl (fun r x => insR x r) l0).reverse:=fun l => by
  unfold sortP
  rw [List.foldl_append]
  match l0,h0 with
  | [],_ => rfl
  | [x],_ => rfl
 have hs1:sortP l0 = l0.reverse:=by
  have:=hs0 []
  simpa using this
 unfold restP
 split
 · rename_i t
   unfold bracesP
   rw [expect_cons,if_pos rfl]
   simp only [Option.bind_some]
   have e:=labels_raw (t.length + 1) [] t (by simp)
   simp only [List.nil_append] at e
   rw [show (123 :: t:B8).length = t.length + 1 from rfl,e,bracesR_raw]
   cases hr:rawP (t.length + 1) t with
   | none => rfl
   | some p =>
     obtain ⟨ls,r⟩:=p
     simp only [Option.bind_some,List.length_nil,Nat.zero_add]
     have hp:=ins_fold_perm ls l0
     rcases addsR_some ls l0 with ha | ⟨ha,hd⟩
     · rw [ha]
       by_cases hc:canB (ls.foldl (fun r x => insR x r) l0).reverse = true
       · obtain ⟨g1,g2,g3⟩:=can_names hc
         have hl:l0.length + ls.length ≤ 8:=by
          rw [List.length_reverse,hp.length_eq,List.length_append] at g1
          exact g1
         have hk:okN ls = true:=by
          rw [okN_perm (List.reverse_perm _),okN_perm hp] at g2
          unfold okN at g2 ⊢
          rw [List.all_append,Bool.and_eq_true] at g2
          exact g2.2
         rw [if_pos ⟨hk,by omega⟩,if_pos (by omega)]
         simp only [Option.map_some,Option.bind_some,hs0,hc,if_true]
       · split
         · simp only [Option.map_some,Option.bind_some,hs0]
           rw [if_neg hc]
           split
           · simp only [Option.map_some,Option.bind_some]
             rw [if_neg hc]
           · rfl
         · split
           · simp only [Option.map_some,Option.map_none,Option.bind_some,Option.bind_none]
             rw [if_neg hc]
           · rfl
     · rw [ha]
       have hn:¬ canB (sortP (l0 ++ ls)) = true:=fun hc => by
        obtain ⟨_,_,g3⟩:=can_names hc
        rw [hs0] at g3
        exact hd ((((List.reverse_perm _).trans hp).map (·.f0)).nodup_iff.1 g3)
       split
       · simp only [Option.map_some,Option.bind_some]
         rw [if_neg hn]
         split <;> rfl
       · split <;> rfl
 · rename_i h9
   simp only [Option.bind_some,hs1]
theorem labs_same {α:Type} (E:List Lb → B8 → Option α) (s:B8) :
 ((labsP s).bind fun p => if canB (sortP p.1) = true then E (sortP p.1) p.2 else none) = (labsR s).bind fun p => if canB p.1.reverse = true then E p.1.reverse p.2 else none:=by
 unfold labsP labsR headP
 cases s with
 | nil => simpa using rest_same E [] (by simp) []
 | cons c r =>
   simp only
   by_cases hw:wordC c = true
   · have ht:(c :: r).takeWhile wordC = c :: r.takeWhile wordC:=by simp [hw]
     rw [if_pos hw]
     unfold nameP
     by_cases hn:Base.nameB (Base.ofL ((c :: r).takeWhile wordC)) = true
     · rw [if_pos hn,if_neg (by rw [hn];rintro ⟨_,h9⟩;cases h9),if_pos (by rw [ht];simp)]
       simp only [Option.map_some,Option.bind_some]
       exact rest_same E [⟨metric,Base.ofL ((c :: r).takeWhile wordC)⟩] (by simp) _
     · rw [if_neg hn,if_pos ⟨by rw [ht];simp,by simpa using hn⟩]
       rfl
   · have ht:(c :: r).takeWhile wordC = []:=by simp [hw]
     have hd:(c :: r).dropWhile wordC = c :: r:=by simp [hw]
     rw [if_neg hw,ht,if_neg (by simp),hd,if_neg (by simp)]
     simp only [Option.bind_some]
     exact rest_same E [] (by simp) (c :: r)
end Go.Proofs.YtmcpeifhapekoaaGreatDoor.Tx
namespace Go.Proofs.YtmcpeifhapekoaaGreatDoor.Tx
open Go.RowKit Go.Proofs.YtmcpeifhapekoaaGreatDoor.PAll Go.Proofs.YtmcpeifhapekoaaGreatDoorW.PrintWords Go.Proofs.YtmcpeifhapekoaaGreatDoorW.PrintLast
open Go.Proofs.YtmcpeifhapekoaaGreatDoor.Laws (okFrom canB)
theorem awake_read:readP canB [117,112,123,106,111,98,61,34,120,34,125,32,48,120,49,102,32,55] 0 = (some ⟨[⟨metric,Base.ofL [117,112]⟩,⟨Base.ofL [106,111,98],Base.ofL [120]⟩],7,31⟩,me0,0):=by kernel_rfl
end Go.Proofs.YtmcpeifhapekoaaGreatDoor.Tx
namespace Go.Proofs.YtmcpeifhapekoaaGreatDoor.PAll
open Go.RowKit Go.Proofs.YtmcpeifhapekoaaGreatDoorW.PrintWords Go.Proofs.YtmcpeifhapekoaaGreatDoorW.PrintLast Go.Proofs.YtmcpeifhapekoaaGreatDoorW.PrintMore
attribute [local go_sem] u3q u3r max_two min_two u3l u3k u3s u3p
set_option linter.unusedVariables false
set_option linter.unusedSimpArgs false
mutual
def uz.j0:Nat → ByteArray → Bool → Option (ByteArray × ByteArray × Int)
 | 0,_,_ => none
 | k + 1,x0,x14 => if x14 = true then (some ((⟨#[]⟩:ByteArray),(⟨#[]⟩:ByteArray),5)) else (uz.l0 k x0 (⟨#[]⟩:ByteArray) 1)
def uz.l0:Nat → ByteArray → ByteArray → Int → Option (ByteArray × ByteArray × Int)
 | 0,_,_,_ => none
 | k + 1,x0,x5,x6 => if x6 < (x0.size:Int) then (if 0 ≤ x6 then (if (bt x0 x6) = 34 then (if 0 ≤ (wrap64 (x6 + 1)) then (if (wrap64 (x6 + 1)) ≤ (x0.size:Int) then (some (x5,x0.extract ((wrap64 (x6 + 1)):Int).toNat x0.size,0)) else (none)) else (none)) else (if (bt x0 x6) = 92 then (if (wrap64 (x6 + 1)) ≥ (x0.size:Int) then (some ((⟨#[]⟩:ByteArray),(⟨#[]⟩:ByteArray),5)) else (if 0 ≤ (wrap64 (x6 + 1)) then (if (wrap64 (x6 + 1)) < (x0.size:Int) then (if (bt x0 (wrap64 (x6 + 1))) = 34 then (if (wrap64 (x6 + 1)) ≤ (wrap64 ((wrap64 (x6 + 1)) + 1)) then (if (wrap64 ((wrap64 (x6 + 1)) + 1)) ≤ (x0.size:Int) then (if x5.size + (x0.extract ((wrap64 (x6 + 1)):Int).toNat ((wrap64 ((wrap64 (x6 + 1)) + 1)):Int).toNat).size ≤ 9223372036854775807 then (uz.l0 k x0 (x5 ++ (x0.extract ((wrap64 (x6 + 1)):Int).toNat ((wrap64 ((wrap64 (x6 + 1)) + 1)):Int).toNat)) (wrap64 ((wrap64 (x6 + 1)) + 1))) else (none)) else (none)) else (none)) else (if (bt x0 (wrap64 (x6 + 1))) = 92 then (if (wrap64 (x6 + 1)) ≤ (wrap64 ((wrap64 (x6 + 1)) + 1)) then (if (wrap64 ((wrap64 (x6 + 1)) + 1)) ≤ (x0.size:Int) then (if x5.size + (x0.extract ((wrap64 (x6 + 1)):Int).toNat ((wrap64 ((wrap64 (x6 + 1)) + 1)):Int).toNat).size ≤ 9223372036854775807 then (uz.l0 k x0 (x5 ++ (x0.extract ((wrap64 (x6 + 1)):Int).toNat ((wrap64 ((wrap64 (x6 + 1)) + 1)):Int).toNat)) (wrap64 ((wrap64 (x6 + 1)) + 1))) else (none)) else (none)) else (none)) else (some ((⟨#[]⟩:ByteArray),(⟨#[]⟩:ByteArray),5)))) else (none)) else (none))) else (if x6 ≤ (wrap64 (x6 + 1)) then (if (wrap64 (x6 + 1)) ≤ (x0.size:Int) then (if x5.size + (x0.extract (x6:Int).toNat ((wrap64 (x6 + 1)):Int).toNat).size ≤ 9223372036854775807 then (uz.l0 k x0 (x5 ++ (x0.extract (x6:Int).toNat ((wrap64 (x6 + 1)):Int).toNat)) (wrap64 (x6 + 1))) else (none)) else (none)) else (none)))) else (none)) else (some ((⟨#[]⟩:ByteArray),(⟨#[]⟩:ByteArray),5))
end
def uz.f (k:Nat) (a0:ByteArray):Option (ByteArray × ByteArray × Int):=if (a0.size:Int) = 0 then (uz.j0 k a0 true) else (if 0 < (a0.size:Int) then (uz.j0 k a0 ((bt a0 0) != 34)) else (none))
set_option maxHeartbeats 8000000 in
set_option maxRecDepth 100000 in
theorem uz.calls (k:Nat) (a0:ByteArray) (r1:ByteArray) (r2:ByteArray) (r3:Int) (w:World) (h:uz.f k a0 = some (r1,r2,r3)) :
 Calls Tryz.prog 127 #[.string a0] w fun e w' => e = .returned (.tuple #[.string r1,.string r2,.int .i64 r3]) ∧ us w w':=by
 have H:(if (a0.size:Int) = 0 then (uz.j0 k a0 true) else (if 0 < (a0.size:Int) then (uz.j0 k a0 ((bt a0 0) != 34)) else (none))) = some (r1,r2,r3):=h
 clear h
 have HC2:=Aside0.mk H
 clear H
 go_enter Tryz.func127,Tryz.ntmps127
 go_upto_region 1 with (fail)
 repeat (go_quiet (fail);go_upto_region 1 with (fail))
 go_cut [14] (fun v14 wc => ∃ (kq:Nat) (x14_1:Bool),v14 = .bool x14_1 ∧ Aside0 (uz.j0 kq a0 x14_1 = some (r1,r2,r3)) ∧ Aside0 (kq ≤ k) ∧ us w wc)
 case first =>
  have H:=HC2.out
  clear HC2
  by_cases c3:(a0.size:Int) = 0
  · rw [if_pos c3] at H
    have c3b0:((a0.size:Int) == 0) = true:=beq_iff_eq.mpr c3
    have c3b1:((a0.size:Int) != 0) = false:=bne_eq_false_iff_eq.mpr c3
    clear c3
    (first | rw [c3b0] | (simp only [i64_w,i32_w];rw [c3b0]) | skip)
    have H':=Aside0.mk H
    clear H
    go_wp2
    repeat (go_quiet (fail);try go_wp2)
    go_meet
    case rel => exact ⟨_,(true),(by first | rfl | (simp;done) | (simp [*];done)),H',⟨by first | omega | exact Nat.le_refl _⟩,by repeat (first | exact us.refl _ | apply us.step)⟩
  · rw [if_neg c3] at H
    have c3b0:((a0.size:Int) == 0) = false:=beq_eq_false_iff_ne.mpr c3
    have c3b1:((a0.size:Int) != 0) = true:=bne_iff_ne.mpr c3
    (first | rw [c3b0] | (simp only [i64_w,i32_w];rw [c3b0]) | skip)
    by_cases c4:0 < (a0.size:Int)
    · rw [if_pos c4] at H
      have c4b0:decide (0 < (a0.size:Int)) = true:=decide_eq_true c4
      have c4b1:decide (0 < a0.size) = true:=decide_eq_true (by omega)
      clear c4
      have H':=Aside0.mk H
      clear H
      have p5:0 ≤ (0:Int):=(by omega)
      have q5:0 < a0.size:=(by have:(0:Int) < (a0.size:Int):=of_decide_eq_true (by first | (with_reducible assumption) | assumption);omega)
      have hx5:∀ h:0 < a0.size,((a0[0]'h).toNat:Int) = bt a0 0:=bt_at a0 0
      clear p5
      have qi5:(0 < (a0.size:Int)) = True:=eq_true (of_decide_eq_true (by first | (with_reducible assumption) | assumption))
      replace q5:=eq_true q5
      go_wp2
      repeat (go_quiet (fail);try go_wp2)
      go_meet
      case rel => exact ⟨_,(((bt a0 0) != 34)),(by first | rfl | (simp;done) | (simp [*];done)),H',⟨by first | omega | exact Nat.le_refl _⟩,by repeat (first | exact us.refl _ | apply us.step)⟩
    · rw [if_neg c4] at H
      exact absurd H (by simp)
 case rest =>
  clear HC2
  try clear c1
  try clear p2
  try clear c3
  try clear c3b0
  try clear c3b1
  try clear c4
  try clear c4b0
  try clear c4b1
  try clear p5
  try clear q5
  try clear hx5
  try clear qi5
  try clear p5
  try clear q5
  obtain ⟨kq,x14_1,rfl,HA,HJ1,⟨mc1,rfl⟩⟩:=hcut
  cases kq with
  | zero => exact absurd HA.out (by simp [uz.j0])
  | succ kj1 =>
    have H:=HA.out
    clear HA
    simp only [uz.j0] at H
    by_cases c6:x14_1 = true
    · subst c6
      have H1:(some ((⟨#[]⟩:ByteArray),(⟨#[]⟩:ByteArray),5)) = some (r1,r2,r3):=by rw [if_pos rfl] at H;exact H
      clear H
      have H:=H1
      clear H1
      simp only [Option.some.injEq,Prod.mk.injEq] at H
      obtain ⟨rfl,rfl,rfl⟩:=H
      go_wp2
      repeat (go_quiet (fail);try go_wp2)
      go_ret3
      exact ⟨by first | rfl | (simp;done) | (simp [*];done),by repeat (first | exact us.refl _ | apply us.step)⟩
    · replace c6:=Bool.eq_false_iff.mpr c6
      subst c6
      have H1:(uz.l0 kj1 a0 (⟨#[]⟩:ByteArray) 1) = some (r1,r2,r3):=by rw [if_neg (show ¬ (false = true) by decide)] at H;exact H
      clear H
      have H:=H1
      clear H1
      have H':=Aside0.mk H
      clear H
      go_wp2
      repeat (go_quiet (fail);try go_wp2)
      go_loopg [5,6] kj1 (fun kq v5 v6 w' => ∃ (x5_2:ByteArray) (x6_2:Int),v5 = .string x5_2 ∧ v6 = .int .i64 x6_2 ∧ Aside0 (uz.l0 kq a0 x5_2 x6_2 = some (r1,r2,r3)) ∧ Aside0 (kq ≤ kj1) ∧ us w w')
      case atStart => exact ⟨((⟨#[]⟩:ByteArray)),(1),(by first | rfl | (simp;done) | (simp [*];done)),(by first | rfl | (simp;done) | (simp [*];done)),H',⟨Nat.le_refl _⟩,by repeat (first | exact us.refl _ | apply us.step)⟩
      case round =>
       clear H'
       try clear c1
       try clear p2
       try clear c3
       try clear c3b0
       try clear c3b1
       try clear c4
       try clear c4b0
       try clear c4b1
       try clear p5
       try clear q5
       try clear hx5
       try clear qi5
       try clear c6
       try clear p2
       try clear p5
       try clear q5
       obtain ⟨x5_2,x6_2,rfl,rfl,HA,HK2,⟨m2,rfl⟩⟩:=hrel
       cases gk with
       | zero => exact absurd HA.out (by simp [uz.l0])
       | succ k2 =>
         have H:=HA.out
         clear HA
         simp only [uz.l0] at H
         by_cases c7:x6_2 < (a0.size:Int)
         · rw [if_pos c7] at H
           have c7b0:decide (x6_2 < (a0.size:Int)) = true:=decide_eq_true c7
           clear c7
           by_cases c8:0 ≤ x6_2
           · rw [if_pos c8] at H
             have c8b0:decide (0 ≤ x6_2) = true:=decide_eq_true c8
             clear c8
             by_cases c10:(bt a0 x6_2) = 34
             · rw [if_pos c10] at H
               have c10b0:((bt a0 x6_2) == 34) = true:=beq_iff_eq.mpr c10
               have c10b1:((bt a0 x6_2) != 34) = false:=bne_eq_false_iff_eq.mpr c10
               clear c10
               obtain ⟨ji11,hji11⟩:∃ j_:Int,(wrap64 (x6_2 + 1)) = j_:=⟨_,rfl⟩
               replace H:(if 0 ≤ (ji11) then (if (ji11) ≤ (a0.size:Int) then (some (x5_2,a0.extract ((ji11):Int).toNat a0.size,0)) else (none)) else (none)) = some (r1,r2,r3):=by first | (rw [hji11] at H;exact H) | (simp only [hji11] at H ⊢;exact H)
               have hji11w:(IntKind.i64.wrap (x6_2 + 1)) = ji11:=(i64_w _).trans hji11
               by_cases c12:0 ≤ (ji11)
               · rw [if_pos c12] at H
                 have c12b0:=eq_true c12
                 have c12b1:decide (0 ≤ (ji11)) = true:=decide_eq_true c12
                 clear c12
                 by_cases c13:(ji11) ≤ (a0.size:Int)
                 · rw [if_pos c13] at H
                   have c13b0:=eq_true c13
                   have c13b1:decide ((ji11) ≤ (a0.size:Int)) = true:=decide_eq_true c13
                   clear c13
                   simp only [Option.some.injEq,Prod.mk.injEq] at H
                   obtain ⟨rfl,rfl,rfl⟩:=H
                   have p9:0 ≤ (x6_2:Int):=of_decide_eq_true (by first | (with_reducible assumption) | assumption)
                   have q9:x6_2 < (a0.size:Int):=of_decide_eq_true (by first | (with_reducible assumption) | assumption)
                   have hx9:=bt_at a0 x6_2
                   replace p9:=eq_true p9
                   replace q9:=eq_true q9
                   go_wp2
                   repeat (go_quiet (fail);try go_wp2)
                   go_ret3
                   exact ⟨by first | rfl | (simp;done) | (simp only [← hji11] <;> (first | rfl | simp)) | (simp [*];done),by repeat (first | exact us.refl _ | apply us.step)⟩
                 · rw [if_neg c13] at H
                   exact absurd H (by simp)
               · rw [if_neg c12] at H
                 exact absurd H (by simp)
             · rw [if_neg c10] at H
               have c10b0:((bt a0 x6_2) == 34) = false:=beq_eq_false_iff_ne.mpr c10
               have c10b1:((bt a0 x6_2) != 34) = true:=bne_iff_ne.mpr c10
               by_cases c15:(bt a0 x6_2) = 92
               · rw [if_pos c15] at H
                 have c15b0:((bt a0 x6_2) == 92) = true:=beq_iff_eq.mpr c15
                 have c15b1:((bt a0 x6_2) != 92) = false:=bne_eq_false_iff_eq.mpr c15
                 clear c15
                 by_cases c16:(wrap64 (x6_2 + 1)) ≥ (a0.size:Int)
                 · rw [if_pos c16] at H
                   have c16b0:decide ((a0.size:Int) ≤ (wrap64 (x6_2 + 1))) = true:=decide_eq_true c16
                   clear c16
                   simp only [Option.some.injEq,Prod.mk.injEq] at H
                   obtain ⟨rfl,rfl,rfl⟩:=H
                   have p9:0 ≤ (x6_2:Int):=of_decide_eq_true (by first | (with_reducible assumption) | assumption)
                   have q9:x6_2 < (a0.size:Int):=of_decide_eq_true (by first | (with_reducible assumption) | assumption)
                   have hx9:=bt_at a0 x6_2
                   replace p9:=eq_true p9
                   replace q9:=eq_true q9
                   have p14:0 ≤ (x6_2:Int):=of_decide_eq_true (by first | (with_reducible assumption) | assumption)
                   have q14:x6_2 < (a0.size:Int):=of_decide_eq_true (by first | (with_reducible assumption) | assumption)
                   have hx14:=bt_at a0 x6_2
                   replace p14:=eq_true p14
                   replace q14:=eq_true q14
                   go_wp2
                   repeat (go_quiet (fail);try go_wp2)
                   go_ret3
                   exact ⟨by first | rfl | (simp;done) | (simp [*];done),by repeat (first | exact us.refl _ | apply us.step)⟩
                 · rw [if_neg c16] at H
                   have c16b0:decide ((a0.size:Int) ≤ (wrap64 (x6_2 + 1))) = false:=decide_eq_false c16
                   clear c16
                   obtain ⟨ji17,hji17⟩:∃ j_:Int,(wrap64 (x6_2 + 1)) = j_:=⟨_,rfl⟩
                   replace H:(if 0 ≤ (ji17) then (if (ji17) < (a0.size:Int) then (if (bt a0 (ji17)) = 34 then (if (ji17) ≤ (wrap64 ((ji17) + 1)) then (if (wrap64 ((ji17) + 1)) ≤ (a0.size:Int) then (if x5_2.size + (a0.extract ((ji17):Int).toNat ((wrap64 ((ji17) + 1)):Int).toNat).size ≤ 9223372036854775807 then (uz.l0 k2 a0 (x5_2 ++ (a0.extract ((ji17):Int).toNat ((wrap64 ((ji17) + 1)):Int).toNat)) (wrap64 ((ji17) + 1))) else (none)) else (none)) else (none)) else (if (bt a0 (ji17)) = 92 then (if (ji17) ≤ (wrap64 ((ji17) + 1)) then (if (wrap64 ((ji17) + 1)) ≤ (a0.size:Int) then (if x5_2.size + (a0.extract ((ji17):Int).toNat ((wrap64 ((ji17) + 1)):Int).toNat).size ≤ 9223372036854775807 then (uz.l0 k2 a0 (x5_2 ++ (a0.extract ((ji17):Int).toNat ((wrap64 ((ji17) + 1)):Int).toNat)) (wrap64 ((ji17) + 1))) else (none)) else (none)) else (none)) else (some ((⟨#[]⟩:ByteArray),(⟨#[]⟩:ByteArray),5)))) else (none)) else (none)) = some (r1,r2,r3):=by first | (rw [hji17] at H;exact H) | (simp only [hji17] at H ⊢;exact H)
                   (try rw [hji17] at c16b0)
                   have hji17w:(IntKind.i64.wrap (x6_2 + 1)) = ji17:=(i64_w _).trans hji17
                   by_cases c18:0 ≤ (ji17)
                   · rw [if_pos c18] at H
                     have c18b0:decide (0 ≤ (ji17)) = true:=decide_eq_true c18
                     clear c18
                     by_cases c19:(ji17) < (a0.size:Int)
                     · rw [if_pos c19] at H
                       have c19b0:decide ((ji17) < (a0.size:Int)) = true:=decide_eq_true c19
                       clear c19
                       by_cases c21:(bt a0 (ji17)) = 34
                       · rw [if_pos c21] at H
                         have c21b0:((bt a0 (ji17)) == 34) = true:=beq_iff_eq.mpr c21
                         have c21b1:((bt a0 (ji17)) != 34) = false:=bne_eq_false_iff_eq.mpr c21
                         clear c21
                         have c22b0:=eq_true (of_decide_eq_true (by first | (with_reducible assumption) | assumption):0 ≤ (ji17))
                         by_cases c23:(ji17) ≤ (wrap64 ((ji17) + 1))
                         · rw [if_pos c23] at H
                           have c23b0:=eq_true c23
                           have c23b1:decide ((ji17) ≤ (wrap64 ((ji17) + 1))) = true:=decide_eq_true c23
                           by_cases c24:(wrap64 ((ji17) + 1)) ≤ (a0.size:Int)
                           · rw [if_pos c24] at H
                             have c24b0:=eq_true c24
                             have c24b1:decide ((wrap64 ((ji17) + 1)) ≤ (a0.size:Int)) = true:=decide_eq_true c24
                             by_cases c25:x5_2.size + (a0.extract ((ji17):Int).toNat ((wrap64 ((ji17) + 1)):Int).toNat).size ≤ 9223372036854775807
                             · rw [if_pos c25] at H
                               have c25b0:=eq_true c25
                               have c25b1:decide (x5_2.size + (a0.extract ((ji17):Int).toNat ((wrap64 ((ji17) + 1)):Int).toNat).size ≤ 9223372036854775807) = true:=decide_eq_true c25
                               try have c25b2:(9223372036854775807 < x5_2.size + (a0.extract ((ji17):Int).toNat ((wrap64 ((ji17) + 1)):Int).toNat).size) = False:=eq_false (Nat.not_lt.2 c25)
                               try (have c25b3:=c25b2;simp only [ByteArray.size_append,Base.size1,(show ∀ a_ b_:UInt8,(⟨#[a_,b_]⟩:ByteArray).size = 2 from fun _ _ => rfl)] at c25b3)
                               have H':=Aside0.mk H
                               clear H
                               have p9:0 ≤ (x6_2:Int):=of_decide_eq_true (by first | (with_reducible assumption) | assumption)
                               have q9:x6_2 < (a0.size:Int):=of_decide_eq_true (by first | (with_reducible assumption) | assumption)
                               have hx9:=bt_at a0 x6_2
                               replace p9:=eq_true p9
                               replace q9:=eq_true q9
                               have p14:0 ≤ (x6_2:Int):=of_decide_eq_true (by first | (with_reducible assumption) | assumption)
                               have q14:x6_2 < (a0.size:Int):=of_decide_eq_true (by first | (with_reducible assumption) | assumption)
                               have hx14:=bt_at a0 x6_2
                               replace p14:=eq_true p14
                               replace q14:=eq_true q14
                               have p20:0 ≤ ((ji17):Int):=of_decide_eq_true (by first | (with_reducible assumption) | assumption)
                               have q20:(ji17) < (a0.size:Int):=of_decide_eq_true (by first | (with_reducible assumption) | assumption)
                               have hx20:=bt_at a0 (ji17)
                               replace p20:=eq_true p20
                               replace q20:=eq_true q20
                               go_wp2
                               repeat (go_quiet (fail);try go_wp2)
                               go_roundg k2
                               case measure => have:=HJ1.out;have:=HK2.out;omega
                               case rel => exact ⟨(x5_2 ++ (a0.extract ((ji17):Int).toNat ((wrap64 ((ji17) + 1)):Int).toNat)),(wrap64 ((ji17) + 1)),(by first | rfl | (simp;done) | (simp only [← hji17] <;> (first | rfl | simp)) | (simp [*];done)),(by first | rfl | (simp;done) | (simp only [← hji17] <;> (first | rfl | simp)) | (simp [*];done)),H',⟨by have:=HJ1.out;have:=HK2.out;omega⟩,by repeat (first | exact us.refl _ | apply us.step)⟩
                             · rw [if_neg c25] at H
                               exact absurd H (by simp)
                           · rw [if_neg c24] at H
                             exact absurd H (by simp)
                         · rw [if_neg c23] at H
                           exact absurd H (by simp)
                       · rw [if_neg c21] at H
                         have c21b0:((bt a0 (ji17)) == 34) = false:=beq_eq_false_iff_ne.mpr c21
                         have c21b1:((bt a0 (ji17)) != 34) = true:=bne_iff_ne.mpr c21
                         by_cases c27:(bt a0 (ji17)) = 92
                         · rw [if_pos c27] at H
                           have c27b0:((bt a0 (ji17)) == 92) = true:=beq_iff_eq.mpr c27
                           have c27b1:((bt a0 (ji17)) != 92) = false:=bne_eq_false_iff_eq.mpr c27
                           clear c27
                           have c28b0:=eq_true (of_decide_eq_true (by first | (with_reducible assumption) | assumption):0 ≤ (ji17))
                           by_cases c29:(ji17) ≤ (wrap64 ((ji17) + 1))
                           · rw [if_pos c29] at H
                             have c29b0:=eq_true c29
                             have c29b1:decide ((ji17) ≤ (wrap64 ((ji17) + 1))) = true:=decide_eq_true c29
                             by_cases c30:(wrap64 ((ji17) + 1)) ≤ (a0.size:Int)
                             · rw [if_pos c30] at H
                               have c30b0:=eq_true c30
                               have c30b1:decide ((wrap64 ((ji17) + 1)) ≤ (a0.size:Int)) = true:=decide_eq_true c30
                               by_cases c31:x5_2.size + (a0.extract ((ji17):Int).toNat ((wrap64 ((ji17) + 1)):Int).toNat).size ≤ 9223372036854775807
                               · rw [if_pos c31] at H
                                 have c31b0:=eq_true c31
                                 have c31b1:decide (x5_2.size + (a0.extract ((ji17):Int).toNat ((wrap64 ((ji17) + 1)):Int).toNat).size ≤ 9223372036854775807) = true:=decide_eq_true c31
                                 try have c31b2:(9223372036854775807 < x5_2.size + (a0.extract ((ji17):Int).toNat ((wrap64 ((ji17) + 1)):Int).toNat).size) = False:=eq_false (Nat.not_lt.2 c31)
                                 try (have c31b3:=c31b2;simp only [ByteArray.size_append,Base.size1,(show ∀ a_ b_:UInt8,(⟨#[a_,b_]⟩:ByteArray).size = 2 from fun _ _ => rfl)] at c31b3)
                                 have H':=Aside0.mk H
                                 clear H
                                 have p9:0 ≤ (x6_2:Int):=of_decide_eq_true (by first | (with_reducible assumption) | assumption)
                                 have q9:x6_2 < (a0.size:Int):=of_decide_eq_true (by first | (with_reducible assumption) | assumption)
                                 have hx9:=bt_at a0 x6_2
                                 replace p9:=eq_true p9
                                 replace q9:=eq_true q9
                                 have p14:0 ≤ (x6_2:Int):=of_decide_eq_true (by first | (with_reducible assumption) | assumption)
                                 have q14:x6_2 < (a0.size:Int):=of_decide_eq_true (by first | (with_reducible assumption) | assumption)
                                 have hx14:=bt_at a0 x6_2
                                 replace p14:=eq_true p14
                                 replace q14:=eq_true q14
                                 have p20:0 ≤ ((ji17):Int):=of_decide_eq_true (by first | (with_reducible assumption) | assumption)
                                 have q20:(ji17) < (a0.size:Int):=of_decide_eq_true (by first | (with_reducible assumption) | assumption)
                                 have hx20:=bt_at a0 (ji17)
                                 replace p20:=eq_true p20
                                 replace q20:=eq_true q20
                                 have p26:0 ≤ ((ji17):Int):=of_decide_eq_true (by first | (with_reducible assumption) | assumption)
                                 have q26:(ji17) < (a0.size:Int):=of_decide_eq_true (by first | (with_reducible assumption) | assumption)
                                 have hx26:=bt_at a0 (ji17)
                                 replace p26:=eq_true p26
                                 replace q26:=eq_true q26
                                 go_wp2
                                 repeat (go_quiet (fail);try go_wp2)
                                 go_roundg k2
                                 case measure => have:=HJ1.out;have:=HK2.out;omega
                                 case rel => exact ⟨(x5_2 ++ (a0.extract ((ji17):Int).toNat ((wrap64 ((ji17) + 1)):Int).toNat)),(wrap64 ((ji17) + 1)),(by first | rfl | (simp;done) | (simp only [← hji17] <;> (first | rfl | simp)) | (simp [*];done)),(by first | rfl | (simp;done) | (simp only [← hji17] <;> (first | rfl | simp)) | (simp [*];done)),H',⟨by have:=HJ1.out;have:=HK2.out;omega⟩,by repeat (first | exact us.refl _ | apply us.step)⟩
                               · rw [if_neg c31] at H
                                 exact absurd H (by simp)
                             · rw [if_neg c30] at H
                               exact absurd H (by simp)
                           · rw [if_neg c29] at H
                             exact absurd H (by simp)
                         · rw [if_neg c27] at H
                           have c27b0:((bt a0 (ji17)) == 92) = false:=beq_eq_false_iff_ne.mpr c27
                           have c27b1:((bt a0 (ji17)) != 92) = true:=bne_iff_ne.mpr c27
                           simp only [Option.some.injEq,Prod.mk.injEq] at H
                           obtain ⟨rfl,rfl,rfl⟩:=H
                           have p9:0 ≤ (x6_2:Int):=of_decide_eq_true (by first | (with_reducible assumption) | assumption)
                           have q9:x6_2 < (a0.size:Int):=of_decide_eq_true (by first | (with_reducible assumption) | assumption)
                           have hx9:=bt_at a0 x6_2
                           replace p9:=eq_true p9
                           replace q9:=eq_true q9
                           have p14:0 ≤ (x6_2:Int):=of_decide_eq_true (by first | (with_reducible assumption) | assumption)
                           have q14:x6_2 < (a0.size:Int):=of_decide_eq_true (by first | (with_reducible assumption) | assumption)
                           have hx14:=bt_at a0 x6_2
                           replace p14:=eq_true p14
                           replace q14:=eq_true q14
                           have p20:0 ≤ ((ji17):Int):=of_decide_eq_true (by first | (with_reducible assumption) | assumption)
                           have q20:(ji17) < (a0.size:Int):=of_decide_eq_true (by first | (with_reducible assumption) | assumption)
                           have hx20:=bt_at a0 (ji17)
                           replace p20:=eq_true p20
                           replace q20:=eq_true q20
                           have p26:0 ≤ ((ji17):Int):=of_decide_eq_true (by first | (with_reducible assumption) | assumption)
                           have q26:(ji17) < (a0.size:Int):=of_decide_eq_true (by first | (with_reducible assumption) | assumption)
                           have hx26:=bt_at a0 (ji17)
                           replace p26:=eq_true p26
                           replace q26:=eq_true q26
                           go_wp2
                           repeat (go_quiet (fail);try go_wp2)
                           go_ret3
                           exact ⟨by first | rfl | (simp;done) | (simp only [← hji17] <;> (first | rfl | simp)) | (simp [*];done),by repeat (first | exact us.refl _ | apply us.step)⟩
                     · rw [if_neg c19] at H
                       exact absurd H (by simp)
                   · rw [if_neg c18] at H
                     exact absurd H (by simp)
               · rw [if_neg c15] at H
                 have c15b0:((bt a0 x6_2) == 92) = false:=beq_eq_false_iff_ne.mpr c15
                 have c15b1:((bt a0 x6_2) != 92) = true:=bne_iff_ne.mpr c15
                 have c32b0:=eq_true (of_decide_eq_true (by first | (with_reducible assumption) | assumption):0 ≤ x6_2)
                 by_cases c33:x6_2 ≤ (wrap64 (x6_2 + 1))
                 · rw [if_pos c33] at H
                   have c33b0:=eq_true c33
                   have c33b1:decide (x6_2 ≤ (wrap64 (x6_2 + 1))) = true:=decide_eq_true c33
                   by_cases c34:(wrap64 (x6_2 + 1)) ≤ (a0.size:Int)
                   · rw [if_pos c34] at H
                     have c34b0:=eq_true c34
                     have c34b1:decide ((wrap64 (x6_2 + 1)) ≤ (a0.size:Int)) = true:=decide_eq_true c34
                     by_cases c35:x5_2.size + (a0.extract (x6_2:Int).toNat ((wrap64 (x6_2 + 1)):Int).toNat).size ≤ 9223372036854775807
                     · rw [if_pos c35] at H
                       have c35b0:=eq_true c35
                       have c35b1:decide (x5_2.size + (a0.extract (x6_2:Int).toNat ((wrap64 (x6_2 + 1)):Int).toNat).size ≤ 9223372036854775807) = true:=decide_eq_true c35
                       try have c35b2:(9223372036854775807 < x5_2.size + (a0.extract (x6_2:Int).toNat ((wrap64 (x6_2 + 1)):Int).toNat).size) = False:=eq_false (Nat.not_lt.2 c35)
                       try (have c35b3:=c35b2;simp only [ByteArray.size_append,Base.size1,(show ∀ a_ b_:UInt8,(⟨#[a_,b_]⟩:ByteArray).size = 2 from fun _ _ => rfl)] at c35b3)
                       try (have c35b4:(9223372036854775807 < x5_2.size + (((wrap64 (x6_2 + 1))).toNat - (x6_2).toNat)) = False:=eq_false (by have h4_:=c35;simp only [ByteArray.size_extract,ByteArray.size_append,Base.size1] at h4_;omega))
                       have H':=Aside0.mk H
                       clear H
                       have p9:0 ≤ (x6_2:Int):=of_decide_eq_true (by first | (with_reducible assumption) | assumption)
                       have q9:x6_2 < (a0.size:Int):=of_decide_eq_true (by first | (with_reducible assumption) | assumption)
                       have hx9:=bt_at a0 x6_2
                       replace p9:=eq_true p9
                       replace q9:=eq_true q9
                       have p14:0 ≤ (x6_2:Int):=of_decide_eq_true (by first | (with_reducible assumption) | assumption)
                       have q14:x6_2 < (a0.size:Int):=of_decide_eq_true (by first | (with_reducible assumption) | assumption)
                       have hx14:=bt_at a0 x6_2
                       replace p14:=eq_true p14
                       replace q14:=eq_true q14
                       go_wp2
                       repeat (go_quiet (fail);try go_wp2)
                       go_roundg k2
                       case measure => have:=HJ1.out;have:=HK2.out;omega
                       case rel => exact ⟨(x5_2 ++ (a0.extract (x6_2:Int).toNat ((wrap64 (x6_2 + 1)):Int).toNat)),(wrap64 (x6_2 + 1)),(by first | rfl | (simp;done) | (simp [*];done)),(by first | rfl | (simp;done) | (simp [*];done)),H',⟨by have:=HJ1.out;have:=HK2.out;omega⟩,by repeat (first | exact us.refl _ | apply us.step)⟩
                     · rw [if_neg c35] at H
                       exact absurd H (by simp)
                   · rw [if_neg c34] at H
                     exact absurd H (by simp)
                 · rw [if_neg c33] at H
                   exact absurd H (by simp)
           · rw [if_neg c8] at H
             exact absurd H (by simp)
         · rw [if_neg c7] at H
           have c7b0:decide (x6_2 < (a0.size:Int)) = false:=decide_eq_false c7
           clear c7
           simp only [Option.some.injEq,Prod.mk.injEq] at H
           obtain ⟨rfl,rfl,rfl⟩:=H
           go_wp2
           repeat (go_quiet (fail);try go_wp2)
           go_ret3
           exact ⟨by first | rfl | (simp;done) | (simp [*];done),by repeat (first | exact us.refl _ | apply us.step)⟩
end Go.Proofs.YtmcpeifhapekoaaGreatDoor.PAll
namespace Go.Proofs.YtmcpeifhapekoaaGreatDoor.Laws
open Go.RowKit Go.Proofs.YtmcpeifhapekoaaGreatDoor.PAll Go.Proofs.YtmcpeifhapekoaaGreatDoorW.PrintWords Go.Proofs.YtmcpeifhapekoaaGreatDoorW.PrintLast
set_option linter.unusedVariables false
set_option linter.unusedSimpArgs false
theorem head_drop (s:ByteArray) (i:Nat) (c:UInt8) (r:List UInt8) (h:s.data.toList.drop i = c :: r):i < s.size ∧ bt s (i:Int) = (c.toNat:Int) ∧ s.data.toList.drop (i + 1) = r ∧ (s.extract i (i + 1)) = Base.ofL [c] ∧ r.length + i + 1 = s.size:=by
 have hlt:i < s.data.toList.length:=by
  rcases Nat.lt_or_ge i s.data.toList.length with h1 | h1
  · exact h1
  · rw [List.drop_eq_nil_of_le h1] at h
    cases h
 have hs:s.size = s.data.toList.length:=Base.size_list s
 have hlen:(s.data.toList.drop i).length = s.data.toList.length - i:=List.length_drop
 rw [h] at hlen
 simp only [List.length_cons] at hlen
 have h':=h
 rw [List.drop_eq_getElem_cons hlt] at h
 obtain ⟨h1,h2⟩:=List.cons.inj h
 refine ⟨by omega,?_,h2,?_,by omega⟩
 · rw [Base.bt_list s i (by omega),List.getD_eq_getElem?_getD,List.getElem?_eq_getElem hlt,h1]
   rfl
 · refine Base.ext_data ?_
   rw [Base.extract_list,Base.ofL_data,h']
   have:i + 1 - i = 1:=by omega
   rw [this]
   rfl
theorem byte_is (c:UInt8):((c.toNat:Int) = 34 ↔ c = 34) ∧ ((c.toNat:Int) = 92 ↔ c = 92):=by
 refine ⟨⟨fun e => UInt8.toNat_inj.1 (by simpa using (by omega:c.toNat = 34)),fun e => by rw [e];rfl⟩,⟨fun e => UInt8.toNat_inj.1 (by simpa using (by omega:c.toNat = 92)),fun e => by rw [e];rfl⟩⟩
theorem drop_end (s:ByteArray) (i:Nat) (h:s.data.toList.drop i = []):s.size ≤ i:=by
 have hs:s.size = s.data.toList.length:=Base.size_list s
 rcases Nat.lt_or_ge i s.data.toList.length with h1 | h1
 · rw [List.drop_eq_getElem_cons h1] at h
   cases h
 · omega
def outU (o:Option (List UInt8 × List UInt8)):ByteArray × ByteArray × Int:=match o with
 | some (a,q) => (Base.ofL a,Base.ofL q,0)
 | none => (⟨#[]⟩,⟨#[]⟩,5)
theorem unq_cons (s:ByteArray) (r:List UInt8) (h:s.data.toList = 34 :: r):Base.unq s = outU (Base.unqL r []):=by
 unfold Base.unq
 rw [h]
 simp only [outU,if_true]
 cases Base.unqL r [] with
 | none => rfl
 | some y => rfl
theorem unq_else (s:ByteArray) (h:∀ r,s.data.toList ≠ 34 :: r):Base.unq s = ((⟨#[]⟩:ByteArray),(⟨#[]⟩:ByteArray),5):=by
 unfold Base.unq
 cases hl:s.data.toList with
 | nil => rfl
 | cons c r =>
   have hc:¬ c = 34:=fun e => h r (by rw [hl,e])
   simp only [hc,if_false]
theorem runq_l0 (s:ByteArray) (hs:s.size ≤ 1000000000000000):∀ (n:Nat) (r:List UInt8) (i:Nat) (acc:ByteArray),r.length ≤ n → s.data.toList.drop i = r → i ≤ s.size → acc.size ≤ i →
 Ev (fun k => uz.l0 k s acc (i:Int)) (outU (Base.unqL r acc.data.toList)):=by
 intro n
 induction n with
 | zero =>
   intro r i acc hn h hi ha
   have hr:r = []:=List.eq_nil_of_length_eq_zero (by omega)
   subst hr
   have hi2:=drop_end s i h
   rw [Base.unqL_nil]
   refine Ev.step (f:=fun _ => some (outU none)) (fun k => ?_) (Ev.now _)
   simp only [uz.l0]
   rw [if_neg (by omega)]
   rfl
 | succ n ih =>
   intro r i acc hn h hi ha
   cases r with
   | nil =>
     have hi2:=drop_end s i h
     rw [Base.unqL_nil]
     refine Ev.step (f:=fun _ => some (outU none)) (fun k => ?_) (Ev.now _)
     simp only [uz.l0]
     rw [if_neg (by omega)]
     rfl
   | cons c r =>
     obtain ⟨hlt,hbt',hr,hex,hlen⟩:=head_drop s i c r h
     have hbt:=Aside0.mk hbt'
     clear hbt'
     have hw:wrap64 ((i:Int) + 1) = ((i + 1:Nat):Int):=Base.wrap_nat i (by omega)
     have h1:((i:Int) < (s.size:Int)):=by omega
     have h0:((0:Int) ≤ (i:Int)):=by omega
     have hb:=Aside0.mk (byte_is c)
     have hsz1:∀ d:UInt8,(Base.ofL [d]).size = 1:=fun d => by rw [Base.size_list,Base.ofL_data];rfl
     by_cases h34:c = 34
     · rw [h34,Base.unqL_end]
       refine Ev.step (f:=fun _ => some (outU (some (acc.data.toList,r)))) (fun k => ?_) (Ev.now _)
       simp only [uz.l0]
       rw [if_pos h1,if_pos h0,hbt.out,if_pos (hb.out.1.2 h34),hw,if_pos (by omega),if_pos (by omega)]
       have e1:s.extract ((i + 1:Nat):Int).toNat s.size = Base.ofL r:=Base.ext_data (by rw [Base.extract_rest,Base.ofL_data];exact hr)
       rw [e1]
       simp only [outU,Base.ofL_of]
     · have hn34:Aside0 (¬ (c.toNat:Int) = 34):=⟨fun e => h34 (hb.out.1.1 e)⟩
       by_cases h92:c = 92
       · cases r with
         | nil =>
           rw [h92,Base.unqL_open]
           have hi3:=drop_end s (i + 1) hr
           refine Ev.step (f:=fun _ => some (outU none)) (fun k => ?_) (Ev.now _)
           simp only [uz.l0]
           rw [if_pos h1,if_pos h0,hbt.out,if_neg hn34.out,if_pos (hb.out.2.2 h92),hw,if_pos (by omega)]
           rfl
         | cons d q =>
           obtain ⟨hlt2,hbt2',hr2,hex2,hlen2⟩:=head_drop s (i + 1) d q hr
           have hbt2:=Aside0.mk hbt2'
           clear hbt2'
           have hb2:=Aside0.mk (byte_is d)
           have hw2:wrap64 (((i + 1:Nat):Int) + 1) = ((i + 1 + 1:Nat):Int):=Base.wrap_nat (i + 1) (by omega)
           have h5:((0:Int) ≤ ((i + 1:Nat):Int)):=Int.natCast_nonneg _
           have h6:(((i + 1:Nat):Int) < (s.size:Int)):=by omega
           have h7:¬ (((i + 1:Nat):Int) ≥ (s.size:Int)):=by omega
           have h8:(((i + 1:Nat):Int) ≤ ((i + 1 + 1:Nat):Int)):=by omega
           have h9:(((i + 1 + 1:Nat):Int) ≤ (s.size:Int)):=by omega
           have hexd:s.extract ((i + 1:Nat):Int).toNat ((i + 1 + 1:Nat):Int).toNat = Base.ofL [d]:=hex2
           by_cases hd:d = 34 ∨ d = 92
           · have ih2:=ih q (i + 1 + 1) (acc ++ Base.ofL [d]) (by simp at hn;omega) hr2 (by omega) (by rw [Base.size_list,Base.append_data,List.length_append,← Base.size_list,Base.ofL_data];simp;omega)
             rw [h92,Base.unqL_esc d q _ hd]
             rw [Base.append_data,Base.ofL_data] at ih2
             refine Ev.step (fun k => ?_) ih2
             simp only [uz.l0]
             rw [if_pos h1,if_pos h0,hbt.out,if_neg hn34.out,if_pos (hb.out.2.2 h92),hw,if_neg h7,if_pos h5,if_pos h6,hbt2.out,hw2]
             rcases hd with hd | hd
             · rw [if_pos (hb2.out.1.2 hd),if_pos h8,if_pos h9,hexd,if_pos (by rw [hsz1];omega)]
             · rw [if_neg (fun e => by have:=hb2.out.1.1 e;rw [hd] at this;exact absurd this (by decide)),if_pos (hb2.out.2.2 hd),if_pos h8,if_pos h9,hexd,if_pos (by rw [hsz1];omega)]
           · rw [h92,Base.unqL_bad d q _ hd]
             refine Ev.step (f:=fun _ => some (outU none)) (fun k => ?_) (Ev.now _)
             simp only [uz.l0]
             rw [if_pos h1,if_pos h0,hbt.out,if_neg hn34.out,if_pos (hb.out.2.2 h92),hw,if_neg h7,if_pos h5,if_pos h6,hbt2.out,if_neg (fun e => hd (.inl (hb2.out.1.1 e))),if_neg (fun e => hd (.inr (hb2.out.2.1 e)))]
             rfl
       · have ih2:=ih r (i + 1) (acc ++ Base.ofL [c]) (by simp at hn;omega) hr (by omega) (by rw [Base.size_list,Base.append_data,List.length_append,← Base.size_list,Base.ofL_data];simp;omega)
         have hexc:s.extract (i:Int).toNat ((i + 1:Nat):Int).toNat = Base.ofL [c]:=hex
         rw [Base.unqL_plain c r _ h34 h92]
         rw [Base.append_data,Base.ofL_data] at ih2
         refine Ev.step (fun k => ?_) ih2
         simp only [uz.l0]
         rw [if_pos h1,if_pos h0,hbt.out,if_neg hn34.out,if_neg (fun e => h92 (hb.out.2.1 e)),hw,if_pos (by omega),if_pos (by omega),hexc,if_pos (by rw [hsz1];omega)]
theorem runq_ev (s:ByteArray) (hs:s.size ≤ 1000000000000000):Ev (fun k => uz.f k s) (Base.unq s):=by
 by_cases h0:s.size = 0
 · have hu:Base.unq s = ((⟨#[]⟩:ByteArray),(⟨#[]⟩:ByteArray),5):=unq_else s (fun r hr => by
    have:=Base.size_list s
    rw [hr] at this
    simp at this
    omega)
   rw [hu]
   refine Ev.congr (f:=fun k => uz.j0 k s true) (fun k => ?_) ?_
   · simp only [uz.f]
     rw [if_pos (by omega)]
   · refine Ev.step (f:=fun _ => some ((⟨#[]⟩:ByteArray),(⟨#[]⟩:ByteArray),5)) (fun k => ?_) (Ev.now _)
     simp [uz.j0]
 · refine Ev.congr (f:=fun k => uz.j0 k s ((bt s 0) != 34)) (fun k => ?_) ?_
   · simp only [uz.f]
     rw [if_neg (by omega),if_pos (by omega)]
   · cases hl:s.data.toList with
     | nil =>
       have h9:=Base.size_list s
       rw [hl] at h9
       exact absurd h9 h0
     | cons c r =>
       obtain ⟨hlt,hbt,hr,hex,hlen⟩:=head_drop s 0 c r (by simpa using hl)
       have hbt0:bt s 0 = (c.toNat:Int):=hbt
       by_cases h34:c = 34
       · rw [unq_cons s r (by rw [hl,h34])]
         have h2:=runq_l0 s hs r.length r 1 ⟨#[]⟩ (Nat.le_refl _) (by simpa using hr) (by omega) (by decide)
         refine Ev.step (fun k => ?_) h2
         simp only [uz.j0]
         rw [hbt0,if_neg (by simp [(byte_is c).1.2 h34])]
         rfl
       · rw [unq_else s (fun r' hr' => h34 (by rw [hl] at hr';exact (List.cons.inj hr').1))]
         refine Ev.step (f:=fun _ => some ((⟨#[]⟩:ByteArray),(⟨#[]⟩:ByteArray),5)) (fun k => ?_) (Ev.now _)
         simp only [uz.j0]
         rw [hbt0,if_pos (by simpa using fun e => h34 ((byte_is c).1.1 e))]
end Go.Proofs.YtmcpeifhapekoaaGreatDoor.Laws
namespace Go.Proofs.YtmcpeifhapekoaaGreatDoor.PAll
open Go.RowKit Go.Proofs.YtmcpeifhapekoaaGreatDoorW.PrintWords Go.Proofs.YtmcpeifhapekoaaGreatDoorW.PrintLast Go.Proofs.YtmcpeifhapekoaaGreatDoorW.PrintMore
attribute [local go_sem] u3q u3r max_two min_two u3l u3k u3s u3p
set_option linter.unusedVariables false
set_option linter.unusedSimpArgs false
structure uh.Mid (w0 W wx:World) (g:Nat) (v:Value) (l:List Tx.Lb) (s:List UInt8):Prop where
 row:Kd.R k66 66 wx W.heap.size (fun k => k ≠ g ∧ k ≠ W.heap.size) v l
 st:ua.St w0 wx g s
 keep:u2a W wx g none
 res:wx.heap[W.heap.size]? = some (.cells #[.slice none 0 0,.int .i64 0,.int .u64 0] 53 (0,0))
 lt:g < W.heap.size
theorem uh.Mid.scan {w0 W wx w':World} {g:Nat} {v:Value} {l:List Tx.Lb} {s s':List UInt8} (h:uh.Mid w0 W wx g v l s) (hs:ua.St w0 w' g s') (hk:u2a wx w' g none):uh.Mid w0 W w' g v l s' :=
 ⟨Kd.R_keep h.row hk (fun _ hk => hk.1),hs,ua.keep_then h.keep hk,ua.kept_at hk (by have:=h.lt;omega) h.res,h.lt⟩
theorem uh.Mid.more {w0 W wx w':World} {g:Nat} {v:Value} {l:List Tx.Lb} {s:List UInt8} (h:uh.Mid w0 W wx g v l s) (hb:Below wx.heap.size wx w'):uh.Mid w0 W w' g v l s:=h.scan (h.st.more hb) (u2a.of_below hb g none)
theorem uh.Mid.drew {w0 W wx:World} {g:Nat} {v:Value} {l:List Tx.Lb} {s:List UInt8} (h:uh.Mid w0 W wx g v l s) (n:Nat):uh.Mid w0 W (wx.drewN n) g v l s:=h.more (ub (Below.refl _ _) n)
theorem uh.Mid.own {w0 W wx:World} {g:Nat} {v:Value} {l:List Tx.Lb} {s:List UInt8} (h:uh.Mid w0 W wx g v l s):∀ b,v.ownBlock = some b → b ≠ g ∧ b ≠ W.heap.size ∧ W.heap.size ≤ b ∧ w0.heap.size ≤ b:=fun b hb =>
 ⟨(h.row.1 b hb).1,(h.row.1 b hb).2,Kd.R_base h.row b hb,Nat.le_trans (Nat.le_trans h.st.base (Nat.le_of_lt h.lt)) (Kd.R_base h.row b hb)⟩
theorem uh.Mid.app {w0 W wx w1:World} {g:Nat} {v v1:Value} {l l1:List Tx.Lb} {s:List UInt8} (h:uh.Mid w0 W wx g v l s) (hg:wx.grownBy w1 v.ownBlock) (hr:Kd.R k66 66 w1 W.heap.size (fun k => k ≠ g ∧ k ≠ W.heap.size) v1 l1):uh.Mid w0 W w1 g v1 l1 s :=
 ⟨hr,uu.grown_st h.st (fun b hb => ⟨(h.own b hb).1,(h.own b hb).2.2.2⟩) hg,uu.grown_keep h.keep (fun b hb => (h.own b hb).2.2.1) hg,u3b h.res hg (fun e => (h.own _ e.symm).2.1 rfl),h.lt⟩
theorem uh.Mid.start {w0 W:World} {g:Nat} {s:List UInt8} (h:ua.St w0 W g s):uh.Mid w0 W (W.alloc (.cells #[.slice none 0 0,.int .i64 0,.int .u64 0] 53)) g (.slice none 0 0) [] s :=
 ⟨Kd.R_nil _ _ _ _ _,h.one_more _,keep_alloc (u2a.refl _ _ _) _,ua.new_at W _,h.lt⟩
def uh.hd (s:List UInt8):Bool:=match s with
 | [] => false
 | c :: _ => Tx.wordC c
theorem uh.named_at (s:List UInt8) (z:Int) (hz:ua.pk s = z) (W:World):Calls Tryz.prog 91 #[.int .u8 z] W fun e W' => e = .returned (.bool (uh.hd s)) ∧ us W W':=by
 subst hz
 cases s with
 | nil => exact text_named.calls _ _ _ (by decide)
 | cons c r => exact u1m.test_named c _ rfl W
theorem uh.head_is (s:List UInt8):Tx.headP s = if uh.hd s = true then (Tx.nameP s).map fun p => ([⟨Tx.metric,p.1⟩],p.2) else some ([],s):=by
 cases s with
 | nil => rfl
 | cons c r => rfl
theorem uh.rest_is (l:List Tx.Lb) (s:List UInt8):((∃ u,s = 123 :: u) ∧ Tx.restP l s = (Tx.bracesP s).map fun q => (l ++ q.1,q.2)) ∨ ((∀ u,s ≠ 123 :: u) ∧ Tx.restP l s = some (l,s)):=by
 by_cases h:∃ u,s = 123 :: u
 · obtain ⟨u,rfl⟩:=h
   exact Or.inl ⟨⟨u,rfl⟩,rfl⟩
 · refine Or.inr ⟨fun u e => h ⟨u,e⟩,?_⟩
   unfold Tx.restP
   split
   · exact absurd ⟨_,rfl⟩ h
   · rfl
theorem uh.labels_len:∀ (n:Nat) (acc:List Tx.Lb) (s:List UInt8) (l:List Tx.Lb) (r:List UInt8),acc.length ≤ 9 → Tx.labelsP n acc s = some (l,r) → l.length ≤ 9 ∧ r.length ≤ s.length
 | 0,acc,s,l,r,_,h => by cases h
 | n + 1,acc,s,l,r,ha,h => by
   unfold Tx.labelsP at h
   split at h
   · split at h
     · rename_i h8
       obtain ⟨⟨x,t⟩,hx,h⟩:=Option.bind_eq_some_iff.1 h
       have h1:=uu.label_rest hx
       obtain ⟨h2,h3⟩:=uh.labels_len n _ t l r (by rw [List.length_append,List.length_singleton];omega) h
       exact ⟨h2,by rw [List.length_cons];omega⟩
     · cases h
   · obtain ⟨rfl,rfl⟩:=Prod.mk.inj (Option.some.inj h)
     exact ⟨ha,Nat.le_refl _⟩
theorem uh.braces_len {s r:List UInt8} {l:List Tx.Lb} (h:Tx.bracesP s = some (l,r)):l.length ≤ 9 ∧ r.length ≤ s.length:=by
 unfold Tx.bracesP at h
 obtain ⟨q,hq,h⟩:=Option.bind_eq_some_iff.1 h
 obtain ⟨⟨x,t⟩,hx,h⟩:=Option.bind_eq_some_iff.1 h
 obtain ⟨⟨l2,t2⟩,hl,h⟩:=Option.bind_eq_some_iff.1 h
 obtain ⟨t3,ht,h⟩:=Option.map_eq_some_iff.1 h
 obtain ⟨rfl,rfl⟩:=Prod.mk.inj h
 have h1:=(u1p.expect_is 123 s).1 q hq
 have h2:=(u1p.expect_is 125 t2).1 t3 ht
 have h3:=uu.label_rest hx
 obtain ⟨h4,h5⟩:=uh.labels_len _ _ t l2 t2 (by simp) hl
 refine ⟨h4,?_⟩
 rw [h1,List.length_cons]
 rw [h2,List.length_cons] at h5
 omega
theorem uh.br_no (w0 W:World) (g:Nat) (s:List UInt8) (hl:s.length ≤ 1000) (hq:Tx.bracesP s = none) (h:ua.St w0 W g s):Calls Tryz.prog 92 #[.pointer (some ⟨g,0,none⟩)] W fun e W' => e = .panicked (u2u.chain 280) ∧ Below w0.heap.size w0 W' :=
 (uu.calls w0 W g s hl h).mono fun e W' ho => by rw [hq] at ho;exact ho
theorem uh.br_ok (w0 W:World) (g:Nat) (s:List UInt8) (hl:s.length ≤ 1000) (l:List Tx.Lb) (r:List UInt8) (hq:Tx.bracesP s = some (l,r)) (h:ua.St w0 W g s):Calls Tryz.prog 92 #[.pointer (some ⟨g,0,none⟩)] W fun e W' => ∃ A c,e = .returned (.slice A l.length c) ∧ Kd.R k66 66 W' W.heap.size (fun k => k ≠ g) (.slice A l.length c) l ∧ ua.St w0 W' g r ∧ u2a W W' g none :=
 (uu.calls w0 W g s hl h).mono fun e W' ho => by
   rw [hq] at ho
   obtain ⟨v,rfl,h1,h2,h3⟩:=ho
   obtain ⟨A,c,rfl⟩:=Kd.R_slice h1
   exact ⟨A,c,rfl,h1,h2,h3⟩
theorem uh.Mid.new {w0 W wx:World} {g:Nat} {v:Value} {l:List Tx.Lb} {s:List UInt8} (h:uh.Mid w0 W wx g v l s) (o:Obj):uh.Mid w0 W (wx.alloc o) g v l s:=h.more (Below.alloc (Below.refl _ _) (Nat.le_refl _) o)
theorem uh.Mid.set {w0 W wx:World} {g:Nat} {v:Value} {l:List Tx.Lb} {s:List UInt8} (h:uh.Mid w0 W wx g v l s) (b i:Nat) (u:Value) (h1:b ≠ g) (h2:b ≠ W.heap.size) (h3:W.heap.size ≤ b) (hne:some b ≠ v.ownBlock):uh.Mid w0 W (wx.setCell ⟨b,i,none⟩ u) g v l s :=
 ⟨Kd.R_mono (Kd.R_far (p:=⟨b,i,none⟩) (Kd.R_far1 h.row rfl hne) (fun k hk => hk.2) u) (fun k hk => hk.1),h.st.far (p:=⟨b,i,none⟩) (Nat.le_trans (Nat.le_trans h.st.base (Nat.le_of_lt h.lt)) h3) (fun e => h1 e.symm) u,ua.keep_new h.keep (p:=⟨b,i,none⟩) h3 u,u2m h.res (p:=⟨b,i,none⟩) (fun e => h2 e.symm) u,h.lt⟩
theorem uh.look3 {W:World} {b t:Nat} {u v x:Value} (h:W.heap[b]? = some (.cells #[u,v,x] t (0,0))):(W.cell? ⟨b,0,none⟩ = some u ∧ W.cell? ⟨b,1,none⟩ = some v ∧ W.cell? ⟨b,2,none⟩ = some x) ∧ (W.frozen? ⟨b,0,none⟩ = false ∧ W.frozen? ⟨b,1,none⟩ = false ∧ W.frozen? ⟨b,2,none⟩ = false):=by
 have h0:=uj h 0
 have h1:=uj h 1
 have h2:=uj h 2
 simp only [List.size_toArray,List.length_cons,List.length_nil,List.getElem?_toArray,List.getElem?_cons_zero,List.getElem?_cons_succ] at h0 h1 h2
 exact ⟨⟨h0,h1,h2⟩,uk h 0,uk h 1,uk h 2⟩
theorem uh.can_at (k:Nat) (A:Option Addr) (c n base:Nat) (ok:Nat → Prop) (ls:List Tx.Lb) (b:Bool) (w:World) (hR:Kd.R k66 66 w base ok (.slice A n c) ls) (h:u2i.f k ls = some b):Calls Tryz.prog 33 #[.slice A n c] w fun e w' => e = .returned (.bool b) ∧ Below w.heap.size w w':=by
 obtain ⟨h1,h2,h3⟩:=Kd.R_reads' hR
 subst h1
 exact u2i.calls k A c ls b w h3 h2 h
theorem uh.drop_len (p:UInt8 → Bool) (s:List UInt8):(s.dropWhile p).length ≤ s.length:=by
 have h1:=congrArg List.length (List.takeWhile_append_dropWhile (p:=p) (l:=s))
 rw [List.length_append] at h1
 omega
theorem uh.valueD_rest {h:Bool} {most:Nat} {base n:Int} {s r:List UInt8} (hv:Tx.valueD h most base s = some (n,r)):r.length ≤ s.length:=by
 unfold Tx.valueD at hv
 obtain ⟨⟨d,r'⟩,hd,hv⟩:=Option.bind_eq_some_iff.1 hv
 obtain ⟨n',hn,hv⟩:=Option.map_eq_some_iff.1 hv
 obtain ⟨_,rfl⟩:=Prod.mk.inj hv
 exact (u1o.dig_is hd).2.2
theorem uh.value_rest {n:Int} {s r:List UInt8} (hv:Tx.valueP s = some (n,r)):r.length ≤ s.length:=by
 rcases u1o.value_is s with ⟨q,hq,e⟩ | ⟨hq,e⟩
 · rw [e] at hv
   have:=uh.valueD_rest hv
   rw [hq,List.length_cons,List.length_cons]
   omega
 · rw [e] at hv
   exact uh.valueD_rest hv
theorem uh.time_rest {n:Int} {s r:List UInt8} (hv:Tx.timeP s = some (n,r)):r.length ≤ s.length:=by
 rcases u1e.time_is s with ⟨q,hq,e⟩ | ⟨hq,e⟩
 · rw [e] at hv
   obtain ⟨⟨n',r'⟩,hd,hv⟩:=Option.bind_eq_some_iff.1 hv
   simp only at hv
   split at hv
   · obtain ⟨_,rfl⟩:=Prod.mk.inj (Option.some.inj hv)
     have:=uh.valueD_rest hd
     rw [hq,List.length_cons]
     omega
   · cases hv
 · rw [e] at hv
   obtain ⟨⟨n',r'⟩,hd,hv⟩:=Option.bind_eq_some_iff.1 hv
   simp only at hv
   split at hv
   · obtain ⟨_,rfl⟩:=Prod.mk.inj (Option.some.inj hv)
     exact uh.valueD_rest hd
   · cases hv
def uh.Out (w0 W:World) (g:Nat) (o:Option Tx.Rw) (e:Ending) (W':World):Prop:=match o with
 | some r => ∃ v:Value,e = .returned (.agg #[v,.int .i64 r.f1,.int .u64 r.f2]) ∧ Kd.R k66 66 W' W.heap.size (fun k => k ≠ g) v r.f0 ∧ Below w0.heap.size w0 W' ∧ u2a W W' g none
 | none => e = .panicked (u2u.chain 280) ∧ Below w0.heap.size w0 W'
theorem uh.out_none {w0 W:World} {g:Nat} {o:Option Tx.Rw} (ho:o = none) {W':World} (h1:Below w0.heap.size w0 W'):uh.Out w0 W g o (.panicked (u2u.chain 280)) W':=by
 subst ho
 exact ⟨rfl,h1⟩
theorem uh.out_some {w0 W:World} {g:Nat} {o:Option Tx.Rw} {l:List Tx.Lb} {t n:Int} (ho:o = some ⟨l,t,n⟩) {v:Value} {W':World} (h1:Kd.R k66 66 W' W.heap.size (fun k => k ≠ g) v l) (h2:Below w0.heap.size w0 W') (h3:u2a W W' g none):uh.Out w0 W g o (.returned (.agg #[v,.int .i64 t,.int .u64 n])) W':=by
 subst ho
 exact ⟨v,rfl,h1,h2,h3⟩
set_option maxRecDepth 100000 in
set_option maxHeartbeats 4000000 in
theorem uh.calls (can:List Tx.Lb → Bool) (hcan:∀ l:List Tx.Lb,l.length ≤ 10 → ∃ k,u2i.f k l = some (can l)) (w0 W:World) (g:Nat) (s:List UInt8) (now:Int) (hl:s.length ≤ 1000) (h:ua.St w0 W g s) :
 Calls Tryz.prog 50 #[.pointer (some ⟨g,0,none⟩),.int .i64 now] W fun e W' => uh.Out w0 W g (Tx.sampleP can s now) e W':=by
 have HM:=Aside0.mk (uh.Mid.start h)
 have HCN:=Aside0.mk hcan
 generalize HZ:Tx.sampleP can s now = o
 have HO:=Aside0.mk HZ
 obtain ⟨z,hz⟩:∃ z,ua.pk s = z:=⟨_,rfl⟩
 have HP:=Aside0.mk hz
 have hh:=uh.head_is s
 clear h hcan HZ hz
 go_enter Tryz.func50,Tryz.ntmps50
 go_upto_if 10 with (first
  | (go_at_call 47;(with_reducible refine (u1e.peek_at w0 _ g s z HP.out (by exact HM.out.st)).mono ?_);rintro e W1 ⟨rfl,⟨nd,rfl⟩⟩)
  | (go_at_call 91;(with_reducible refine (uh.named_at s z HP.out _).mono ?_);rintro e W2 ⟨rfl,⟨md,rfl⟩⟩))
 go_cut [5] (fun v5 wx => ∃ (l0:List Tx.Lb) (s1:List UInt8),Tx.headP s = some (l0,s1) ∧ l0.length ≤ 1 ∧ s1.length ≤ 1000 ∧ Aside0 (uh.Mid w0 W wx g v5 l0 s1))
 case first =>
  cases hhd:uh.hd s with
  | true =>
    rw [hhd,if_pos rfl] at hh
    cases hn:Tx.nameP s with
    | none =>
      have HN:=Aside0.mk hn
      have HE:Aside0 (o = none):=⟨by rw [← HO.out];unfold Tx.sampleP Tx.labsP;rw [hh,hn];rfl⟩
      clear hn hh
      go_wp2_with (go_at_call 81;(with_reducible refine (u2v.calls_no w0 _ g s (by omega) HN.out (by exact (HM.out.drew _).st)).mono ?_);rintro e W3 ⟨rfl,hb3⟩)
      exact ⟨rfl,uh.out_none HE.out hb3⟩
    | some p =>
      obtain ⟨n,r⟩:=p
      rw [hn] at hh
      have hr:=u1p.name_rest hn
      have HN:=Aside0.mk hn
      have HH:=Aside0.mk hh
      clear hn hh
      go_wp2_with (first
       | (go_at_call 81;(with_reducible refine (u2v.calls_ok w0 _ g s (by omega) n r HN.out (by exact (HM.out.drew _).st)).mono ?_);rintro e W3 ⟨rfl,hs3,hk3⟩;have HM3:=Aside0.mk ((HM.out.drew _).scan hs3 hk3);clear hs3 hk3)
       | ((with_reducible refine gate_builtin (b:=.append) (xs:=#[.tmp 11,.tmp 15]) rfl ?_);at_builtin;refine Kd.R_append k66 (w0:=W3) (W:=W3) W.heap.size rfl (.tmp 11) (.tmp 15) 50 66 (.agg #[(.string ⟨#[]⟩),(.string ⟨#[]⟩)]) 32 rfl Tryz.underlying50 uu.infoL rfl (by decide) (by decide) _ [] (⟨Tx.metric,n⟩:Tx.Lb) [.string Tx.metric,.string n] (fun k => k ≠ g ∧ k ≠ W.heap.size) (fun _ => False) rfl rfl (k66_mkM _ _ _ _) (fun _ hk => hk.elim) ?hfr HM3.out.row (Below.refl _ _) HM3.out.keep.1 (by decide) ?_;(case hfr => have h1:=HM3.out.st.lt;have h2:=u3g HM3.out.res;intro k hk;omega);intro v8 w8 ho hb hg8 hat;have HM8:=Aside0.mk (HM3.out.app hg8 ho);clear ho hb hg8 hat))
      go_meet
      exact ⟨[⟨Tx.metric,n⟩],r,HH.out,Nat.le_refl _,by omega,HM8⟩
  | false =>
    rw [hhd,if_neg (by decide)] at hh
    have HH:=Aside0.mk hh
    clear hh
    go_wp2_with fail
    go_meet
    exact ⟨[],s,HH.out,by decide,hl,⟨HM.out.drew _⟩⟩
 case rest =>
  clear HM HP hh
  obtain ⟨l0,s1,hh,hl0,hs1,HM⟩:=hcut
  obtain ⟨A0,c0,e0⟩:=Kd.R_slice HM.out.row
  subst e0
  have HH:=Aside0.mk hh
  obtain ⟨y,hy⟩:∃ y,ua.pk s1 = y:=⟨_,rfl⟩
  have HP:=Aside0.mk hy
  clear hh hy
  go_upto_if 19 with (go_at_call 47;(with_reducible refine (u1e.peek_at w0 _ g s1 y HP.out (by exact HM.out.st)).mono ?_);rintro e W1 ⟨rfl,⟨nd,rfl⟩⟩)
  go_cut [5] (fun v5 wx => ∃ (l:List Tx.Lb) (s2:List UInt8),Tx.labsP s = some (l,s2) ∧ l.length ≤ 10 ∧ s2.length ≤ 1000 ∧ Aside0 (uh.Mid w0 W wx g v5 l s2))
  case first =>
   rcases uh.rest_is l0 s1 with ⟨⟨u,hu⟩,hr⟩ | ⟨hu,hr⟩
   · have hb5:(y == 123) = true:=by
      have h1:=HP.out
      rw [hu] at h1
      rw [← h1]
      rfl
     cases hq:Tx.bracesP s1 with
     | none =>
       have HQ:=Aside0.mk hq
       have HE:Aside0 (o = none):=⟨by rw [← HO.out];unfold Tx.sampleP Tx.labsP;rw [HH.out];simp only [Option.bind_some];rw [hr,hq];rfl⟩
       clear hq hr hu
       go_wp2_with (go_at_call 92;(with_reducible refine (uh.br_no w0 _ g s1 (by omega) HQ.out (by exact (HM.out.drew _).st)).mono ?_);rintro e W3 ⟨rfl,hb3⟩)
       exact ⟨rfl,uh.out_none HE.out hb3⟩
     | some p =>
       obtain ⟨lb,r⟩:=p
       obtain ⟨hlb,hrl⟩:=uh.braces_len hq
       have HQ:=Aside0.mk hq
       have HL:Aside0 (Tx.labsP s = some (l0 ++ lb,r)):=⟨by unfold Tx.labsP;rw [HH.out];simp only [Option.bind_some];rw [hr,hq];rfl⟩
       clear hq hr hu
       go_wp2_with (first
        | (go_at_call 92;(with_reducible refine (uh.br_ok w0 _ g s1 (by omega) lb r HQ.out (by exact (HM.out.drew _).st)).mono ?_);rintro e W3 ⟨A,c,rfl,hr3,hs3,hk3⟩;have HM3:=Aside0.mk ((HM.out.drew _).scan hs3 hk3);have HR3:=Aside0.mk (Kd.R_reads' hr3).2.2;clear hr3 hs3 hk3)
        | ((with_reducible refine gate_builtin (b:=.append) (xs:=#[.tmp 20,.tmp 22]) rfl ?_);at_builtin;refine Kd.R_append_rows k66 (w0:=W3) W.heap.size rfl (.tmp 20) (.tmp 22) 50 66 (.agg #[(.string ⟨#[]⟩),(.string ⟨#[]⟩)]) 32 rfl Tryz.underlying50 uu.infoL rfl (by decide) (by omega) _ l0 lb _ _ _ (fun k => k ≠ g ∧ k ≠ W.heap.size) (fun _ => False) rfl rfl HM3.out.row HR3.out (fun _ _ h => h) (fun _ h => h.elim) ?hfr (Below.refl _ _) HM3.out.keep.1 ?hbig ?_;(case hfr => have h1:=HM3.out.st.lt;have h2:=u3g HM3.out.res;intro k hk;omega);(case hbig => omega);intro v8 w8 ho hb hg8 hat;have HM8:=Aside0.mk (HM3.out.app hg8 ho);clear ho hb hg8 hat))
       go_meet
       exact ⟨l0 ++ lb,r,HL.out,by rw [List.length_append];omega,by omega,HM8⟩
   · have hb5:(y == 123) = false:=beq_eq_false_iff_ne.2 (by
      intro e
      exact uu.pk_ne s1 123 (by decide) hu (HP.out.trans e))
     have HL:Aside0 (Tx.labsP s = some (l0,s1)):=⟨by unfold Tx.labsP;rw [HH.out];simp only [Option.bind_some];exact hr⟩
     clear hr hu
     go_wp2_with fail
     go_meet
     exact ⟨l0,s1,HL.out,by omega,hs1,⟨HM.out.drew _⟩⟩
  case rest =>
   clear HM HP HH
   obtain ⟨l,s2,hh,hl2,hs2,HM⟩:=hcut
   obtain ⟨A,c,e0⟩:=Kd.R_slice HM.out.row
   subst e0
   have HH:=Aside0.mk hh
   have hsl:(Tx.sortP l).length = l.length:=by
    rw [← Tx.sortedTo_all,Tx.sortedTo_len l l.length (Nat.le_refl _)]
   obtain ⟨kc,hkc⟩:=HCN.out (Tx.sortP l) (by omega)
   have HSL:=Aside0.mk hsl
   have HKC:=Aside0.mk hkc
   have hsz:=u1s.txt (s2.takeWhile Tx.blankC)
   obtain ⟨_,tw2,tw2n⟩:=hsz
   clear hh hkc hsl HCN
   have HOV:Aside0 (o = if can (Tx.sortP l) = true then (Tx.endP s2 now).map fun q => ⟨Tx.sortP l,q.1,q.2⟩ else none):=⟨by rw [← HO.out];unfold Tx.sampleP;rw [HH.out];rfl⟩
   clear HO HH
   cases hc:can (Tx.sortP l) with
   | false =>
     rw [hc] at HKC HOV
     have HE:Aside0 (o = none):=⟨by rw [HOV.out];rfl⟩
     clear hc tw2 tw2n
     go_wp2_with (first
      | (go_at_call 93;(with_reducible refine (u1t.calls _ W.heap.size (fun k => k ≠ g ∧ k ≠ W.heap.size) A c l (by omega) HM.out.row).mono ?_);rintro e W3 ⟨rfl,hr3,hg3⟩;have HM3:=Aside0.mk (HM.out.app hg3 hr3);clear hr3 hg3)
      | (go_at_call 33;(with_reducible refine (uh.can_at kc A c l.length _ _ (Tx.sortP l) _ _ HM3.out.row HKC.out).mono ?_);rintro e W4 ⟨rfl,hb4⟩;have HM4:=Aside0.mk (HM3.out.more hb4);clear hb4)
      | (go_at_call 83;(with_reducible refine (u2p.calls_no _).mono ?_);rintro e W9 ⟨rfl,rfl⟩))
     exact ⟨rfl,uh.out_none HE.out HM4.out.st.below⟩
   | true =>
     rw [hc] at HKC HOV
     have HOW:Aside0 (o = (Tx.endP s2 now).map fun q => ⟨Tx.sortP l,q.1,q.2⟩):=⟨by rw [HOV.out,if_pos rfl]⟩
     clear hc HOV
     by_cases htw:s2.takeWhile Tx.blankC = []
     · obtain ⟨e1,e2⟩:=tw2n htw
       have HE:Aside0 (o = none):=⟨by rw [HOW.out];unfold Tx.endP;rw [if_pos htw];rfl⟩
       clear tw2 tw2n htw
       go_wp2_with (first
        | (go_at_call 93;(with_reducible refine (u1t.calls _ W.heap.size (fun k => k ≠ g ∧ k ≠ W.heap.size) A c l (by omega) HM.out.row).mono ?_);rintro e W3 ⟨rfl,hr3,hg3⟩;have HM3:=Aside0.mk (HM.out.app hg3 hr3);clear hr3 hg3)
        | (go_at_call 33;(with_reducible refine (uh.can_at kc A c l.length _ _ (Tx.sortP l) _ _ HM3.out.row HKC.out).mono ?_);rintro e W4 ⟨rfl,hb4⟩;have HM4:=Aside0.mk (HM3.out.more hb4);clear hb4)
        | (go_at_call 83;(with_reducible refine (u2p.calls_ok _).mono ?_);rintro e W9 ⟨rfl,rfl⟩)
        | (go_at_call 96;(with_reducible refine (u1m.calls_blank w0 _ g s2 (by omega) (by exact HM4.out.st)).mono ?_);rintro e W5 ⟨rfl,hs5,hk5⟩;have HM5:=Aside0.mk (HM4.out.scan hs5 hk5);clear hs5 hk5)
        | (go_at_call 83;(with_reducible refine (u2p.calls_no _).mono ?_);rintro e W9 ⟨rfl,rfl⟩))
       exact ⟨rfl,uh.out_none HE.out HM5.out.st.below⟩
     · obtain ⟨e1,e2⟩:=tw2 htw
       have hd2:=uh.drop_len Tx.blankC s2
       cases hv:Tx.valueP (s2.dropWhile Tx.blankC) with
       | none =>
         have HV:=Aside0.mk hv
         have HE:Aside0 (o = none):=⟨by rw [HOW.out];unfold Tx.endP;rw [if_neg htw,hv];rfl⟩
         clear tw2 tw2n htw hv
         go_wp2_with (first
          | (go_at_call 93;(with_reducible refine (u1t.calls _ W.heap.size (fun k => k ≠ g ∧ k ≠ W.heap.size) A c l (by omega) HM.out.row).mono ?_);rintro e W3 ⟨rfl,hr3,hg3⟩;have HM3:=Aside0.mk (HM.out.app hg3 hr3);clear hr3 hg3)
          | (go_at_call 33;(with_reducible refine (uh.can_at kc A c l.length _ _ (Tx.sortP l) _ _ HM3.out.row HKC.out).mono ?_);rintro e W4 ⟨rfl,hb4⟩;have HM4:=Aside0.mk (HM3.out.more hb4);clear hb4)
          | (go_at_call 83;(with_reducible refine (u2p.calls_ok _).mono ?_);rintro e W9 ⟨rfl,rfl⟩)
          | (go_at_call 96;(with_reducible refine (u1m.calls_blank w0 _ g s2 (by omega) (by exact HM4.out.st)).mono ?_);rintro e W5 ⟨rfl,hs5,hk5⟩;have HM5:=Aside0.mk (HM4.out.scan hs5 hk5);clear hs5 hk5)
          | (go_at_call 98;(with_reducible refine (u1o.calls_no w0 _ g _ (by omega) HV.out (by exact HM5.out.st)).mono ?_);rintro e W6 ⟨rfl,hb6⟩))
         exact ⟨rfl,uh.out_none HE.out hb6⟩
       | some p =>
         obtain ⟨n,s4⟩:=p
         have hs4:=uh.value_rest hv
         have HV:=Aside0.mk hv
         have HOX:Aside0 (o = (if s4.dropWhile Tx.blankC = [] then some (now,n) else if s4.takeWhile Tx.blankC = [] then none else (Tx.timeP (s4.dropWhile Tx.blankC)).bind fun q => if q.2.dropWhile Tx.blankC = [] then some (q.1,n) else none).map fun q => ⟨Tx.sortP l,q.1,q.2⟩):=⟨by rw [HOW.out];unfold Tx.endP;rw [if_neg htw,hv];rfl⟩
         clear tw2 tw2n htw hv HOW
         have hd4:=uh.drop_len Tx.blankC s4
         obtain ⟨_,dw,dwn⟩:=u1s.txt (s4.dropWhile Tx.blankC)
         obtain ⟨b44,hb44⟩:∃ b:Bool,(Base.ofL (s4.dropWhile Tx.blankC)).toList.isEmpty = !b:=⟨_,(Bool.not_not _).symm⟩
         have HB44:=Aside0.mk hb44
         go_upto_if 44 with (first
          | (go_at_call 93;(with_reducible refine (u1t.calls _ W.heap.size (fun k => k ≠ g ∧ k ≠ W.heap.size) A c l (by omega) HM.out.row).mono ?_);rintro e W3 ⟨rfl,hr3,hg3⟩;have HM3:=Aside0.mk (HM.out.app hg3 hr3);clear hr3 hg3)
          | (go_at_call 33;(with_reducible refine (uh.can_at kc A c l.length _ _ (Tx.sortP l) _ _ HM3.out.row HKC.out).mono ?_);rintro e W4 ⟨rfl,hb4⟩;have HM4:=Aside0.mk (HM3.out.more hb4);clear hb4)
          | (go_at_call 83;(with_reducible refine (u2p.calls_ok _).mono ?_);rintro e W9 ⟨rfl,rfl⟩)
          | (go_at_call 96;(with_reducible refine (u1m.calls_blank w0 _ g s2 (by omega) (by exact HM4.out.st)).mono ?_);rintro e W5 ⟨rfl,hs5,hk5⟩;have HM5:=Aside0.mk (HM4.out.scan hs5 hk5);clear hs5 hk5)
          | (go_at_call 98;(with_reducible refine (u1o.calls_ok w0 _ g _ (by omega) n s4 HV.out (by exact HM5.out.st)).mono ?_);rintro e W6 ⟨rfl,hs6,hk6⟩;have HM6:=Aside0.mk (HM5.out.scan hs6 hk6);clear hs6 hk6)
          | (go_at_call 96;(with_reducible refine (u1m.calls_blank w0 _ g s4 (by omega) (by exact (HM6.out.new _).st)).mono ?_);rintro e W7 ⟨rfl,hs7,hk7⟩;have HM7:=Aside0.mk ((HM6.out.new _).scan hs7 hk7);have HB7:=Aside0.mk (ua.kept_at hk7 (by have:=HM6.out.st.lt;omega) (ua.new_at W6 _));obtain ⟨h0,f0⟩:=hs7.look;clear hs7 hk7))
         go_cut [7] (fun v7 wx => ∃ (t:Int) (s6:List UInt8),s6.length ≤ 1000 ∧ Aside0 (o = if s6 = [] then some ⟨Tx.sortP l,t,n⟩ else none) ∧ Aside0 (uh.Mid w0 W wx g (.slice A l.length c) (Tx.sortP l) s6) ∧ Aside0 (wx.heap[W6.heap.size]? = some (.cells #[.slice A l.length c,.int .i64 t,.int .u64 n] 53 (0,0))))
         case first =>
          clear hb44
          obtain ⟨_,gw,gwn⟩:=u1s.txt (s4.takeWhile Tx.blankC)
          by_cases he5:s4.dropWhile Tx.blankC = []
          · obtain ⟨e3,e4⟩:=dwn he5
            obtain rfl:b44 = false:=by have h1:=HB44.out;rw [e3] at h1;revert h1;cases b44 <;> decide
            have HF:Aside0 (o = if s4.dropWhile Tx.blankC = [] then some ⟨Tx.sortP l,now,n⟩ else none):=⟨by rw [HOX.out,if_pos he5,if_pos he5];rfl⟩
            clear he5 dw dwn gw gwn HOX
            go_wp2_with fail
            go_meet
            exact ⟨now,s4.dropWhile Tx.blankC,by omega,HF,HM7,HB7⟩
          · obtain ⟨e3,e4⟩:=dw he5
            obtain rfl:b44 = true:=by have h1:=HB44.out;rw [e3] at h1;revert h1;cases b44 <;> decide
            by_cases hg4:s4.takeWhile Tx.blankC = []
            · obtain ⟨e5,e6⟩:=gwn hg4
              have HE:Aside0 (o = none):=⟨by rw [HOX.out,if_neg he5,if_pos hg4];rfl⟩
              clear he5 dw dwn gw gwn HOX hg4
              go_wp2_with (go_at_call 83;(with_reducible refine (u2p.calls_no _).mono ?_);rintro e W9 ⟨rfl,rfl⟩)
              exact ⟨rfl,uh.out_none HE.out HM7.out.st.below⟩
            · obtain ⟨e5,e6⟩:=gw hg4
              cases ht:Tx.timeP (s4.dropWhile Tx.blankC) with
              | none =>
                have HT:=Aside0.mk ht
                have HE:Aside0 (o = none):=⟨by rw [HOX.out,if_neg he5,if_neg hg4,ht];rfl⟩
                clear he5 dw dwn gw gwn HOX hg4 ht
                go_wp2_with (first
                 | (go_at_call 83;(with_reducible refine (u2p.calls_ok _).mono ?_);rintro e W9 ⟨rfl,rfl⟩)
                 | (go_at_call 99;(with_reducible refine (u1e.calls_no w0 _ g _ (by omega) HT.out (by exact HM7.out.st)).mono ?_);rintro e W8 ⟨rfl,hb8⟩))
                exact ⟨rfl,uh.out_none HE.out hb8⟩
              | some p =>
                obtain ⟨t,s7⟩:=p
                have hs7:=uh.time_rest ht
                have hd7:=uh.drop_len Tx.blankC s7
                have HT:=Aside0.mk ht
                have HF:Aside0 (o = if s7.dropWhile Tx.blankC = [] then some ⟨Tx.sortP l,t,n⟩ else none):=⟨by
                 rw [HOX.out,if_neg he5,if_neg hg4,ht]
                 simp only [Option.bind_some]
                 split <;> rfl⟩
                have N1:Aside0 (W6.heap.size ≠ g):=⟨by have:=HM6.out.st.lt;omega⟩
                have N2:Aside0 (W6.heap.size ≠ W.heap.size ∧ W.heap.size ≤ W6.heap.size):=⟨by have:=u3g HM6.out.res;omega⟩
                have N3:Aside0 (some W6.heap.size ≠ (Value.slice A l.length c).ownBlock):=⟨fun e => by have:=Kd.R_lt HM6.out.row W6.heap.size e.symm;omega⟩
                have n1:¬ g = W6.heap.size:=fun e => N1.out e.symm
                clear he5 dw dwn gw gwn HOX hg4 ht h0 f0
                go_wp2_with (first
                 | (go_at_call 83;(with_reducible refine (u2p.calls_ok _).mono ?_);rintro e W9 ⟨rfl,rfl⟩)
                 | (go_at_call 99;(with_reducible refine (u1e.calls_ok w0 _ g _ (by omega) t s7 HT.out (by exact HM7.out.st)).mono ?_);rintro e W8 ⟨rfl,hs8,hk8⟩;have HM8:=Aside0.mk (HM7.out.scan hs8 hk8);have HB8:=Aside0.mk (ua.kept_at hk8 N1.out HB7.out);obtain ⟨⟨a0,a1,a2⟩,b0,b1,b2⟩:=uh.look3 HB8.out;clear hs8 hk8)
                 | (go_at_call 96;(with_reducible refine (u1m.calls_blank w0 _ g s7 (by omega) (by exact (HM8.out.set W6.heap.size 1 _ N1.out N2.out.1 N2.out.2 N3.out).st)).mono ?_);rintro e W9 ⟨rfl,hs9,hk9⟩;have HM9:=Aside0.mk ((HM8.out.set W6.heap.size 1 _ N1.out N2.out.1 N2.out.2 N3.out).scan hs9 hk9);have HB9:=Aside0.mk (ua.kept_at hk9 N1.out (blk_set HB8.out 1 (.int .i64 t)));clear hs9 hk9))
                go_meet
                exact ⟨t,s7.dropWhile Tx.blankC,by omega,HF,HM9,HB9⟩
         case rest =>
          have N1:Aside0 (W6.heap.size ≠ g):=⟨by have:=HM6.out.st.lt;omega⟩
          have N2:Aside0 (W6.heap.size ≠ W.heap.size ∧ W.heap.size ≤ W6.heap.size):=⟨by have:=u3g HM6.out.res;omega⟩
          clear HM HM3 HM4 HM5 HM6 HM7 HB7 h0 f0 HOX hb44 HB44 dw dwn
          obtain ⟨t,s6,hs6,HF,HM,HB⟩:=hcut
          obtain ⟨h0,f0⟩:=HM.out.st.look
          obtain ⟨⟨a0,a1,a2⟩,b0,b1,b2⟩:=uh.look3 HB.out
          obtain ⟨⟨c0,c1,c2⟩,d0,d1,d2⟩:=uh.look3 HM.out.res
          obtain ⟨_,dw,dwn⟩:=u1s.txt s6
          have n1:¬ W6.heap.size = W.heap.size:=N2.out.1
          have n2:¬ W.heap.size = W6.heap.size:=fun e => N2.out.1 e.symm
          by_cases he:s6 = []
          · obtain ⟨e3,e4⟩:=dwn he
            have HE:Aside0 (o = some ⟨Tx.sortP l,t,n⟩):=⟨by rw [HF.out,if_pos he]⟩
            clear dw dwn he HF
            go_wp2_with (go_at_call 83;(with_reducible refine (u2p.calls_ok _).mono ?_);rintro e W9 ⟨rfl,rfl⟩)
            refine bodyPost_ret (v:=.agg #[.slice A l.length c,.int .i64 t,.int .u64 n]) (by simp [results,Tryz.results50,go_sem,c0,c1,c2]) rfl (uh.out_some HE.out ?_ ?_ ?_)
            · exact Kd.R_mono (Kd.R_far (p:=⟨W.heap.size,2,none⟩) (Kd.R_far (p:=⟨W.heap.size,1,none⟩) (Kd.R_far (p:=⟨W.heap.size,0,none⟩) HM.out.row (fun k hk => hk.2) _) (fun k hk => hk.2) _) (fun k hk => hk.2) _) (fun k hk => hk.1)
            · have hw:w0.heap.size ≤ W.heap.size:=Nat.le_trans HM.out.st.base (Nat.le_of_lt HM.out.lt)
              exact ((HM.out.st.below.setCell (p:=⟨W.heap.size,0,none⟩) hw _).setCell (p:=⟨W.heap.size,1,none⟩) hw _).setCell (p:=⟨W.heap.size,2,none⟩) hw _
            · exact ua.keep_new (p:=⟨W.heap.size,2,none⟩) (ua.keep_new (p:=⟨W.heap.size,1,none⟩) (ua.keep_new (p:=⟨W.heap.size,0,none⟩) HM.out.keep (Nat.le_refl _) _) (Nat.le_refl _) _) (Nat.le_refl _) _
          · obtain ⟨e3,e4⟩:=dw he
            have HE:Aside0 (o = none):=⟨by rw [HF.out,if_neg he]⟩
            clear dw dwn he HF
            go_wp2_with (go_at_call 83;(with_reducible refine (u2p.calls_no _).mono ?_);rintro e W9 ⟨rfl,rfl⟩)
            exact ⟨rfl,uh.out_none HE.out HM.out.st.below⟩
def ut.Places (D:DataW Unit) (L:List S34):Prop:=Maps.IsMap D ∧ (∀ (i:Nat) (h:i < L.length),Maps.has D (.string L[i].f0.data.toList) = true ∧ ∀ z,D.atKey (.string L[i].f0.data.toList) z = .lit (.int .i64 (i:Int))) ∧ ∀ key:ByteArray,(∀ x ∈ L,x.f0 ≠ key) → Maps.has D (.string key.data.toList) = false
structure ut.Bk (w0 W:World) (g:Nat) (L:List S34):Prop where
 base:w0.heap.size ≤ g
 ex:∃ (v:Value) (bm:Nat) (D:DataW Unit),W.heap[g]? = some (.cells #[v,.map (some bm)] 47 (0,0)) ∧ W.ownsMap Tryz.prog 9 (plainElem Tryz.prog 3) bm L.length D ∧ ut.Places D L ∧ Kd.R k34 34 W w0.heap.size (fun _ => True) v L ∧ w0.heap.size ≤ bm
theorem ut.law9:Maps.Keyed Tryz.prog 9:=Maps.string_keyed Tryz.underlying9
theorem ut.zero3 (w:World):(zeroValue 3).run Tryz.prog w = .ok (.int .i64 0) w:=by kernel_rfl
def ut.set (m x:S34) (help:Bool):S34:=if help = true then ⟨x.f0,x.f1,m.f2⟩ else ⟨x.f0,m.f1,x.f2⟩
def ut.noteS (m:S34) (help:Bool):List S34 → List S34
 | [] => [m]
 | x :: l => if x.f0 = m.f0 then ut.set m x help :: l else x :: ut.noteS m help l
theorem ut.note_new (m:S34) (help:Bool):∀ L:List S34,(∀ x ∈ L,x.f0 ≠ m.f0) → ut.noteS m help L = L ++ [m]
 | [],_ => rfl
 | x :: l,h => by
   unfold ut.noteS
   rw [if_neg (h x (List.mem_cons_self ..)),ut.note_new m help l (fun y hy => h y (List.mem_cons_of_mem _ hy))]
   rfl
theorem ut.note_met (m:S34) (help:Bool):∀ (L:List S34) (i:Nat) (hi:i < L.length),L[i].f0 = m.f0 → (∀ (j:Nat) (hj:j < L.length),L[j].f0 = m.f0 → j = i) → ut.noteS m help L = L.set i (ut.set m L[i] help)
 | x :: l,0,hi,h,_ => by
   unfold ut.noteS
   rw [if_pos (show x.f0 = m.f0 from h)]
   rfl
 | x :: l,i + 1,hi,h,hu => by
   have hx:¬ x.f0 = m.f0:=fun e => by
    have:=hu 0 (by simp) e
    omega
   unfold ut.noteS
   rw [if_neg hx,List.set_cons_succ]
   have:=ut.note_met m help l i (by simpa using hi) (by simpa using h) (fun j hj e => by
    have:=hu (j + 1) (by simpa using hj) (by simpa using e)
    omega)
   rw [this]
   rfl
theorem ut.there (D:DataW Unit) (L:List S34) (key:ByteArray) (h:ut.Places D L):(∃ (i:Nat) (hi:i < L.length),L[i].f0 = key ∧ (∀ (j:Nat) (hj:j < L.length),L[j].f0 = key → j = i) ∧ Maps.has D (.string key.data.toList) = true ∧ ∀ z,D.atKey (.string key.data.toList) z = .lit (.int .i64 (i:Int))) ∨ ((∀ x ∈ L,x.f0 ≠ key) ∧ Maps.has D (.string key.data.toList) = false):=by
 by_cases hk:∃ x ∈ L,x.f0 = key
 · obtain ⟨x,hx,rfl⟩:=hk
   obtain ⟨i,hi,rfl⟩:=List.getElem_of_mem hx
   obtain ⟨h1,h2⟩:=h.2.1 i hi
   refine Or.inl ⟨i,hi,rfl,fun j hj e => ?_,h1,h2⟩
   have h3:=(h.2.1 j hj).2 (.lit (.int .i64 0))
   rw [e,h2] at h3
   injection h3 with h3
   injection h3 with _ h3
   omega
 · exact Or.inr ⟨fun x hx e => hk ⟨x,hx,e⟩,h.2.2 key (fun x hx e => hk ⟨x,hx,e⟩)⟩
def ut.Stay (W W':World):Prop:=∀ (k t:Nat) (cells:Array Value),W.heap[k]? = some (.cells cells t (0,0)) → t ≠ 47 → t ≠ 34 → W'.heap[k]? = W.heap[k]?
set_option maxRecDepth 100000 in
set_option maxHeartbeats 2000000 in
theorem ut.met (W:World) (g bm gs cap n i:Nat) (D:DataW Unit) (a b c:ByteArray) (help:Bool) (x y z:Value) (hi:i < n) (hne:¬ gs = g)
 (hg:W.heap[g]? = some (.cells #[.slice (some ⟨gs,0,none⟩) n cap,.map (some bm)] 47 (0,0))) (hown:W.ownsMap Tryz.prog 9 (plainElem Tryz.prog 3) bm n D) (ha:a.size ≤ maxLen)
 (hhas:Maps.has D (.string a.data.toList) = true) (hat:∀ z,D.atKey (.string a.data.toList) z = .lit (.int .i64 (i:Int)))
 (cs:Array Value) (hs:W.heap[gs]? = some (.cells cs 34 (0,0))) (hy:cs[i * 3 + 1]? = some y) (hz:cs[i * 3 + 2]? = some z) :
 Calls Tryz.prog 19 #[.pointer (some ⟨g,0,none⟩),.agg #[.string a,.string b,.string c],.bool help] W fun e W' => e = .returned (.tuple #[]) ∧ ∃ q,W' = (((W.alloc (.cells #[.string a,.string b,.string c] 34)).setCell ⟨gs,i * 3 + (if help = true then 2 else 1),none⟩ (.string (if help = true then c else b)))).drewN q:=by
 have hkey:=WideMaps.keyOf_string_mk (P:=Tryz.prog) Tryz.underlying9 ha
 have hg1:=ua.new_old hg (.cells #[.string a,.string b,.string c] 34)
 have hn1:=ua.new_at W (.cells #[.string a,.string b,.string c] 34)
 have hlk:(Instr.lookup 45 (.map (some bm)) (.string a) true).run Tryz.prog (W.alloc (.cells #[.string a,.string b,.string c] 34)).drew = .ok (.tuple #[.int .i64 (i:Int),.bool true]) (W.alloc (.cells #[.string a,.string b,.string c] 34)).drew:=by
  have h1:((W.alloc (.cells #[.string a,.string b,.string c] 34)).drew).ownsMap Tryz.prog 9 (plainElem Tryz.prog 3) bm n D:=(hown.alloc _).drew
  obtain ⟨v,ps,h2,h3⟩:=h1.look_ok ut.law9 Tryz.underlying45 (ut.zero3 _) (plainElem_int Tryz.underlying3 (by decide)) hkey
  rw [hhas] at h2
  rw [hat] at h3
  obtain ⟨c,rfl,h4,_⟩:=plainElem_int_inv Tryz.underlying3 h3
  injection h4 with h4 _
  injection h4 with h4
  injection h4 with _ h4
  rw [h2,h4]
 obtain ⟨b0,b1,b2,b3⟩:=ua.look2 hg1
 have hs1:=ua.new_old hs (.cells #[.string a,.string b,.string c] 34)
 have c1:=(uj hs1 (i * 3 + 1)).trans hy
 have c2:=(uj hs1 (i * 3 + 2)).trans hz
 have f1:=uk hs1 (i * 3 + 1)
 have f2:=uk hs1 (i * 3 + 2)
 have k1:¬ gs = W.heap.size:=by have:=u3g hs;omega
 have k2:¬ W.heap.size = gs:=fun e => k1 e.symm
 have k3:¬ g = gs:=fun e => hne e.symm
 clear hs1 hs hy hz hown hhas hat
 have hi2:(i:Int) < (n:Int):=by omega
 have mixed:Tryz.prog.follows .mixedOrders = true:=by kernel_rfl
 go_enter Tryz.func19,Tryz.ntmps19
 go_wp2
 have m1:¬ g = W.heap.size:=by have:=u3g hg;omega
 have m2:¬ W.heap.size = g:=fun e => m1 e.symm
 obtain ⟨⟨d0,d1,d2⟩,d3⟩:=uh.look3 hn1
 clear hg hn1 hg1
 generalize hW1:W.alloc (.cells #[.string a,.string b,.string c] 34) = W1 at *
 have HW1:=Aside0.mk hW1
 clear hW1
 generalize W.heap.size = zz at *
 cases help with
 | true =>
   go_region_o
   all_goals go_wp2
   go_region_o
   all_goals go_wp2
   all_goals go_end0
   all_goals exact ⟨rfl,2,by rw [HW1.out];rfl⟩
 | false =>
   go_region_o
   all_goals go_wp2
   go_region_o
   all_goals go_wp2
   all_goals go_end0
   all_goals exact ⟨rfl,2,by rw [HW1.out];rfl⟩
theorem ut.step_run {P:Program} {ops:Array Oper} {o:Oper} {a:Act} {w:World} {K:Act → World → Prop} {Q:Exit → Act → World → Prop} {E:Prop} (hgd:o.guard = none) (s x:Operand) (t:TypeId)
 (ho:o.op = .call { callee:=.builtin .append,args:=#[s,x],argTypes:=#[t,t] }) (v u:Value) (hs:a.eval s = v) (hx:a.eval x = u) (v':Value) (w':World) (hrun:(Builtin.append_ #[t,t] o.type #[v,u]).run P w = .ok v' w') (hK:K (a.put o.dst v') w') :
 if Region.wanted o (yielded ops a.tmps) = true then Oper.wp P o a w K Q else E:=by
 have hw:Region.wanted o (yielded ops a.tmps) = true:=by simp [Region.wanted,hgd]
 rw [if_pos hw]
 unfold Oper.wp execOp
 simp only [ho,resolve,invoke,builtin,Sem.run_bind,Sem.run_pure,Result.andThen_ok,List.map_toArray,List.map_cons,List.map_nil,hs,hx,hrun]
 exact hK
set_option maxRecDepth 100000 in
set_option maxHeartbeats 2000000 in
theorem ut.fresh (W W2 W3:World) (g bm n:Nat) (i:Int) (a b c:ByteArray) (help:Bool) (A:Option Addr) (cap:Nat) (A3:Option Addr) (n3 c3:Nat)
 (hg:W.heap[g]? = some (.cells #[.slice A n cap,.map (some bm)] 47 (0,0)))
 (hlk:(Instr.lookup 45 (.map (some bm)) (.string a) true).run Tryz.prog (W.alloc (.cells #[.string a,.string b,.string c] 34)).drew = .ok (.tuple #[.int .i64 i,.bool false]) (W.alloc (.cells #[.string a,.string b,.string c] 34)).drew)
 (hup:(Instr.mapUpdate 45 (.map (some bm)) (.string a) (.int .i64 (n:Int))).run Tryz.prog (W.alloc (.cells #[.string a,.string b,.string c] 34)).drew.drew = .ok () W2)
 (hg2:W2.heap[g]? = some (.cells #[.slice A n cap,.map (some bm)] 47 (0,0))) (hz2:W2.heap[W.heap.size]? = some (.cells #[.string a,.string b,.string c] 34 (0,0)))
 (hap:(Builtin.append_ #[25,25] 25 #[.slice A n cap,.slice (some ⟨W2.heap.size,0,none⟩) 1 1]).run Tryz.prog (W2.drew.alloc (.cells #[.string a,.string b,.string c] 34)) = .ok (.slice A3 n3 c3) W3)
 (hg3:W3.heap[g]? = some (.cells #[.slice A n cap,.map (some bm)] 47 (0,0))) :
 Calls Tryz.prog 19 #[.pointer (some ⟨g,0,none⟩),.agg #[.string a,.string b,.string c],.bool help] W fun e W' => e = .returned (.tuple #[]) ∧ W' = W3.setCell ⟨g,0,none⟩ (.slice A3 n3 c3):=by
 have hg1:=ua.new_old hg (.cells #[.string a,.string b,.string c] 34)
 have hn1:=ua.new_at W (.cells #[.string a,.string b,.string c] 34)
 obtain ⟨b0,b1,b2,b3⟩:=ua.look2 hg1
 obtain ⟨g0,g1,g2,g3⟩:=ua.look2 hg2
 obtain ⟨h0,h1,h2,h3⟩:=ua.look2 hg3
 obtain ⟨⟨d0,d1,d2⟩,d3⟩:=uh.look3 hn1
 obtain ⟨⟨e0,e1,e2⟩,e3⟩:=uh.look3 hz2
 have m1:¬ g = W.heap.size:=by have:=u3g hg;omega
 have m2:¬ W.heap.size = g:=fun e => m1 e.symm
 have hg4:=ua.new_old hg2 (.cells #[.string a,.string b,.string c] 34)
 have hz4:=ua.new_old hz2 (.cells #[.string a,.string b,.string c] 34)
 obtain ⟨i0,i1,i2,i3⟩:=ua.look2 hg4
 obtain ⟨⟨j0,j1,j2⟩,j3⟩:=uh.look3 hz4
 have hap2:(Builtin.append_ #[25,25] 25 #[.slice A n cap,.slice (some ⟨W2.heap.size,0,none⟩) 1 1]).run Tryz.prog (W2.alloc (.cells #[.string a,.string b,.string c] 34)).drew = .ok (.slice A3 n3 c3) W3:=hap
 clear hg hn1 hg1 hg2 hg3 hz2 hg4 hz4
 have mixed:Tryz.prog.follows .mixedOrders = true:=by kernel_rfl
 go_enter Tryz.func19,Tryz.ntmps19
 go_wp2
 generalize W.alloc (.cells #[.string a,.string b,.string c] 34) = W1 at *
 generalize W.heap.size = zz at *
 go_region_o
 all_goals go_wp2
 go_region_o
 all_goals go_wp2
 go_region_law (refine ut.step_run rfl (.tmp 45) (.tmp 47) 25 rfl _ _ (by rfl) (by rfl) _ _ hap ?_)
 all_goals go_wp2
 all_goals go_end0
 all_goals exact ⟨rfl,rfl⟩
theorem ut.run_app {P:Program} {α:Type} (d:Kd α) (base:Nat) (t e:TypeId) (z:Value) (bytes:Nat) (ht:P.underlying t = some (.slice e)) (hinfo:(P.info? e).map (fun i => (i.zero,i.size,i.bytes)) = some (some z,d.sz,bytes)) (hz:z.cells.size = d.sz) (hs0:0 < d.sz) (hb0:0 < bytes)
 (W:World) (v:Value) (xs:List α) (p:α) (cs:List Value) (ok okp:Nat → Prop) (hp:d.M W base okp p cs) (hokp:∀ k,okp k → ok k ∧ some k ≠ v.ownBlock) (hfresh:∀ k,W.heap.size ≤ k → ok k)
 (HO:d.R e W base ok v xs) (hbase:base ≤ W.heap.size) (hl:(xs.length + 1) * bytes ≤ 140737488355328) :
 ∃ (A3:Option Addr) (c3:Nat) (w1:World),(Builtin.append_ #[t,t] t #[v,.slice (some ⟨W.heap.size,0,none⟩) 1 1]).run P (W.alloc (.cells cs.toArray e)) = .ok (.slice A3 (xs.length + 1) c3) w1 ∧ d.R e w1 base ok (.slice A3 (xs.length + 1) c3) (xs ++ [p]) ∧ W.grownBy w1 v.ownBlock:=by
 obtain ⟨h0,inner,hown,hr⟩:=HO
 obtain ⟨i0,hi,hzz⟩:=Option.map_eq_some_iff.1 hinfo
 simp only [Prod.mk.injEq] at hzz
 obtain ⟨hz0,hz1,hz2⟩:=hzz
 have hlen:xs.length + 1 ≤ 140737488355328:=Nat.le_trans (Nat.le_mul_of_pos_right _ hb0) hl
 have hcs:=d.K_len (d.K_of_M hp)
 obtain ⟨v',w',hrun,hown',hg,_,hat⟩:=run_append_own_at (P:=P) (W.alloc (.cells cs.toArray e)) base t t e i0 z d.sz bytes ht hi hz0 hz1 hz2 hz hs0 v xs.length inner (hown.alloc _) ⟨W.heap.size,0,none⟩ 1 1 cs (by rw [hcs];simp)
  (by simpa using World.news_of_block (cs:=cs.toArray) (t:=e) (fr:=(0,0)) (heap_alloc_new W (.cells cs.toArray e))) (d.K_one (d.K_of_M hp)) (by simp only [maxLen];omega) hl (by simp;omega)
 have hg':W.grownBy w' v.ownBlock:=World.grownBy.trans (World.grownBy_alloc W _ _) hg
 have hR:=Kd.R_appended h0 hr hp hokp hfresh hown' hg' (by
  rcases hat with hat | hat
  · exact .inl hat
  · exact .inr ⟨_,hat,by simp⟩)
 obtain ⟨A,c,rfl⟩:=Kd.R_slice hR
 rw [List.length_append,List.length_singleton] at hrun hR
 exact ⟨A,c,w',hrun,hR,hg'⟩
theorem ut.infoM:(Tryz.prog.info? 34).map (fun i => (i.zero,i.size,i.bytes)) = some (some (.agg #[(.string ⟨#[]⟩),(.string ⟨#[]⟩),(.string ⟨#[]⟩)]),3,48):=by kernel_rfl
theorem ut.names {D:DataW Unit} {L L':List S34} (h:ut.Places D L) (e:L'.map (·.f0) = L.map (·.f0)):ut.Places D L':=by
 have hl:L'.length = L.length:=by
  have:=congrArg List.length e
  rwa [List.length_map,List.length_map] at this
 have hat:∀ (i:Nat) (h1:i < L'.length),L'[i].f0 = (L[i]'(by omega)).f0:=fun i h1 => by
  have h2:=congrArg (fun l:List ByteArray => l[i]?) e
  simp only [List.getElem?_map] at h2
  rw [List.getElem?_eq_getElem h1,List.getElem?_eq_getElem (by omega:i < L.length)] at h2
  exact Option.some.inj h2
 refine ⟨h.1,fun i h1 => ?_,fun key hk => h.2.2 key fun x hx e1 => ?_⟩
 · rw [hat i h1]
   exact h.2.1 i (by omega)
 · obtain ⟨i,hi,rfl⟩:=List.getElem_of_mem hx
   exact hk L'[i] (List.getElem_mem (by omega)) ((hat i (by omega)).trans e1)
theorem ut.one_more {D:DataW Unit} {L:List S34} (h:ut.Places D L) (m:S34) (hs:m.f0.size ≤ maxLen) (hn:∀ x ∈ L,x.f0 ≠ m.f0):ut.Places (D.put (.string m.f0.data.toList) (.lit (.int .i64 (L.length:Int)))) (L ++ [m]):=by
 have hk:WideAt.IsKeyLit (.string m.f0.data.toList):=trivial
 have hne:∀ a:ByteArray,a ≠ m.f0 → (Lit.string a.data.toList) ≠ .string m.f0.data.toList:=fun a h1 h2 => h1 (by injection h2 with h2;exact Base.ext_data h2)
 refine ⟨h.1.put _ _,fun i hi => ?_,fun key hkey => ?_⟩
 · by_cases h1:i < L.length
   · have e1:(L ++ [m])[i] = L[i]:=List.getElem_append_left h1
     have h2:=hne _ (hn _ (List.getElem_mem h1))
     rw [e1]
     refine ⟨(Maps.has_put_other h2 _).trans (h.2.1 i h1).1,fun z => (Maps.atKey_put_other h2 _ z).trans ((h.2.1 i h1).2 z)⟩
   · have e0:i = L.length:=by
      rw [List.length_append,List.length_singleton] at hi
      omega
     subst e0
     have e1:(L ++ [m])[L.length] = m:=by simp
     rw [e1]
     exact ⟨Maps.has_put_same h.1 hk _,fun z => Maps.atKey_put_same h.1 hk _ z⟩
 · have h1:=hne key (fun e => hkey m (by simp) e.symm)
   rw [Maps.has_put_other h1]
   exact h.2.2 key (fun x hx => hkey x (by simp [hx]))
theorem ut.stay_grown {W W':World} {v:Value} (hg:W.grownBy W' v.ownBlock) (hv:∀ k,v.ownBlock = some k → ∃ cells,W.heap[k]? = some (.cells cells 34 (0,0))):ut.Stay W W':=fun k t cells h _ h2 => hg.block k (u3g h) (fun e => by
 obtain ⟨c,hc⟩:=hv k e.symm
 rw [h] at hc
 injection hc with hc
 injection hc with _ hc
 exact h2 hc)
theorem ut.calls (w0 W:World) (g:Nat) (L:List S34) (m:S34) (help:Bool) (h:ut.Bk w0 W g L) (hb:Below w0.heap.size w0 W) (hm:m.f0.size ≤ maxLen) (hl:L.length ≤ 1000000000000) :
 Calls Tryz.prog 19 #[.pointer (some ⟨g,0,none⟩),.agg #[.string m.f0,.string m.f1,.string m.f2],.bool help] W fun e W' => e = .returned (.tuple #[]) ∧ ut.Bk w0 W' g (ut.noteS m help L) ∧ Below w0.heap.size w0 W' ∧ ut.Stay W W' ∧ W.heap.size ≤ W'.heap.size:=by
 obtain ⟨hbase,v,bm,D,hg,hown,hp,hR,hbm⟩:=h
 rcases ut.there D L m.f0 hp with ⟨i,hi,hn,hu,hhas,hat⟩ | ⟨hn,hhas⟩
 · obtain ⟨gs,cap,rfl,hgs,hlt,cells,hcs⟩:=Kd.R_form hR (by omega)
   obtain ⟨c,hc1,hc2,hc3,hc4⟩:=Kd.R_elem hR z34 (i:Int) (by omega) (by omega)
   have hxi:L.getD (i:Int).toNat z34 = L[i]:=by
    rw [Int.toNat_natCast,List.getD_eq_getElem?_getD,List.getElem?_eq_getElem hi]
    rfl
   rw [hxi] at hc2
   obtain rfl:=k34_openM hc2
   have hne:¬ gs = g:=blk_ne hcs hg (by decide)
   have hnb:bm ≠ gs:=fun e => by
    obtain ⟨es,clock,hb1,_⟩:=hown
    rw [e,hcs] at hb1
    cases hb1
   have y1:=(uj hcs (i * 3 + 1)).symm.trans (hc3 1 _ rfl)
   have y2:=(uj hcs (i * 3 + 2)).symm.trans (hc3 2 _ rfl)
   refine (ut.met W g bm gs cap L.length i D m.f0 m.f1 m.f2 help .nilIface _ _ hi hne hg hown hm hhas hat cells hcs y1 y2).mono ?_
   rintro e W' ⟨he,q,rfl⟩
   have hset:=ut.note_met m help L i hi hn hu
   have hA:=Kd.R_alloc hR (.cells #[.string m.f0,.string m.f1,.string m.f2] 34)
   have hg1:=ua.new_old hg (.cells #[.string m.f0,.string m.f1,.string m.f2] 34)
   have hcc:∀ (j:Nat) u,([.string L[i].f0,.string L[i].f1,.string L[i].f2]:List Value)[j]? = some u → (W.alloc (.cells #[.string m.f0,.string m.f1,.string m.f2] 34)).cell? ⟨gs,(i:Int).toNat * 3 + j,none⟩ = some u:=fun j u hj => by
    have h1:=hc3 j u hj
    have h2:=ua.new_old hcs (.cells #[.string m.f0,.string m.f1,.string m.f2] 34)
    exact (uj h2 _).trans ((uj hcs _).symm.trans h1)
   have hseg:Kd.R k34 34 ((W.alloc (.cells #[.string m.f0,.string m.f1,.string m.f2] 34)).setCell ⟨gs,i * 3 + (if help = true then 2 else 1),none⟩ (.string (if help = true then m.f2 else m.f1))) w0.heap.size (fun _ => True) (.slice (some ⟨gs,0,none⟩) L.length cap) (L.set i (ut.set m L[i] help)):=by
    cases help with
    | true =>
      have:=(Kd.R_seg hA (i:Int) (by omega) (by omega) (c:=[.string L[i].f0,.string L[i].f1,.string L[i].f2]) (seg:=[.string m.f2]) (j:=2) rfl hcc (Nat.le_refl 3) (x':=ut.set m L[i] true) (okp:=fun k => k ≠ gs) (k34_mkM _ _ _ ⟨L[i].f0,L[i].f1,m.f2⟩) (fun k hk => ⟨trivial,hk⟩)).1
      exact this
    | false =>
      have:=(Kd.R_seg hA (i:Int) (by omega) (by omega) (c:=[.string L[i].f0,.string L[i].f1,.string L[i].f2]) (seg:=[.string m.f1]) (j:=1) rfl hcc (show 1 + 1 ≤ 3 by decide) (x':=ut.set m L[i] false) (okp:=fun k => k ≠ gs) (k34_mkM _ _ _ ⟨L[i].f0,m.f1,L[i].f2⟩) (fun k hk => ⟨trivial,hk⟩)).1
      exact this
   have hle:(L.set i (ut.set m L[i] help)).length = L.length:=List.length_set
   have hnm:(L.set i (ut.set m L[i] help)).map (·.f0) = L.map (·.f0):=by
    rw [List.map_set]
    have e1:(ut.set m L[i] help).f0 = (L.map (·.f0))[i]'(by rw [List.length_map];exact hi):=by
     rw [List.getElem_map]
     unfold ut.set
     split <;> rfl
    rw [e1,List.set_getElem_self]
   refine ⟨he,⟨hbase,.slice (some ⟨gs,0,none⟩) L.length cap,bm,D,?_,?_,?_,?_,hbm⟩,?_,?_,?_⟩
   · exact u2m hg1 (fun e => hne e.symm) _
   · rw [hset,hle]
     exact ((hown.alloc _).setCell (a:=⟨gs,i * 3 + (if help = true then 2 else 1),none⟩) hnb _)
   · rw [hset]
     exact ut.names hp hnm
   · rw [hset]
     exact Kd.R_drewN hseg q
   · exact ub (Below.setCell (uc hb _) hgs _) q
   · intro k t cells' h1 h2 h3
     have h4:=ua.new_old h1 (.cells #[.string m.f0,.string m.f1,.string m.f2] 34)
     have h5:k ≠ gs:=blk_ne h1 hcs h3
     exact (u2m h4 h5 _).trans h1.symm
   · show W.heap.size ≤ ((W.alloc _).setCell _ _).heap.size
     rw [World.size_setCell,World.size_alloc]
     omega
 · obtain ⟨A,cap,rfl⟩:=Kd.R_slice hR
   have hkey:=WideMaps.keyOf_string_mk (P:=Tryz.prog) Tryz.underlying9 hm
   have hown1:((W.alloc (.cells #[.string m.f0,.string m.f1,.string m.f2] 34)).drew).ownsMap Tryz.prog 9 (plainElem Tryz.prog 3) bm L.length D:=(hown.alloc _).drew
   obtain ⟨v1,ps,h2,h3⟩:=hown1.look_ok ut.law9 Tryz.underlying45 (ut.zero3 _) (plainElem_int Tryz.underlying3 (by decide)) hkey
   rw [hhas] at h2
   obtain ⟨z1,rfl,_,_⟩:=plainElem_int_inv Tryz.underlying3 h3
   have hw:(Lit.int .i64 (L.length:Int)).wf = true:=by
    have:(L.length:Int) ≤ 1000000000000:=by omega
    simp [Lit.wf,IntKind.min,IntKind.max,IntKind.signed,IntKind.bits]
    omega
   obtain ⟨W2,hup,hown2,hg2⟩:=(hown1.drew).update ut.law9 Tryz.underlying45 (by unfold maxLen;omega) hkey (plainElem_int Tryz.underlying3 hw)
   have hgg:(W.alloc (.cells #[.string m.f0,.string m.f1,.string m.f2] 34)).grownBy W2 (some bm):=⟨hg2.os,hg2.tape,hg2.output,hg2.size,hg2.block⟩
   have hgb:∀ (k t:Nat) (cells:Array Value),W.heap[k]? = some (.cells cells t (0,0)) → W2.heap[k]? = some (.cells cells t (0,0)):=fun k t cells h1 => by
    have hne:some k ≠ some bm:=fun e => by
     injection e with e
     subst e
     obtain ⟨es,clock,hb1,_⟩:=hown
     rw [h1] at hb1
     cases hb1
    exact u3b (ua.new_old h1 _) hgg hne
   have hsz2:W.heap.size < W2.heap.size:=by
    have:=hgg.size
    rw [World.size_alloc] at this
    omega
   have hR2:Kd.R k34 34 W2 w0.heap.size (fun _ => True) (.slice A L.length cap) L:=Kd.R_mono (Kd.R_step (Kd.R_bound hR) (fun k hk _ => by
    obtain ⟨_,_,_,q,_,cells,hc⟩:=hk
    exact (hgb k q cells hc).trans hc.symm)) (fun _ _ => trivial)
   have hz2:W2.heap[W.heap.size]? = some (.cells #[.string m.f0,.string m.f1,.string m.f2] 34 (0,0)):=u3b (ua.new_at W _) hgg (fun e => by
    injection e with e
    have:=hown.lt
    omega)
   obtain ⟨A3,c3,W3,hap,hR3,hg3⟩:=ut.run_app k34 w0.heap.size 25 34 (.agg #[(.string ⟨#[]⟩),(.string ⟨#[]⟩),(.string ⟨#[]⟩)]) 48 Tryz.underlying25 ut.infoM rfl (by decide) (by decide) W2.drew (.slice A L.length cap) L m [.string m.f0,.string m.f1,.string m.f2] (fun _ => True) (fun _ => False) (k34_mkM _ _ _ m) (fun _ hk => hk.elim) (fun _ _ => trivial) (Kd.R_drew hR2) (by show w0.heap.size ≤ W2.heap.size;have:=hb.size;omega) (by omega)
   have hg3':W2.grownBy W3 (Value.slice A L.length cap).ownBlock:=⟨hg3.os,hg3.tape,hg3.output,hg3.size,hg3.block⟩
   have hty:=Kd.R_typed hR2
   have hgW3:W3.heap[g]? = some (.cells #[.slice A L.length cap,.map (some bm)] 47 (0,0)):=u3b (hgb _ _ _ hg) hg3' (Kd.R_ne hR2 (hgb _ _ _ hg) (by decide))
   refine (ut.fresh W W2 W3 g bm L.length z1 m.f0 m.f1 m.f2 help A cap A3 (L.length + 1) c3 hg h2 hup (hgb _ _ _ hg) hz2 hap hgW3).mono ?_
   rintro e W' ⟨he,rfl⟩
   have hnew:=ut.note_new m help L hn
   have hbW2:Below w0.heap.size w0 W2:=(uc hb (.cells #[.string m.f0,.string m.f1,.string m.f2] 34)).grown hgg (by rw [World.size_alloc];have:=hb.size;omega) (fun k hk => by injection hk with hk;omega)
   have hbW3:Below w0.heap.size w0 W3:=hbW2.grown hg3' (by have:=hb.size;omega) (Kd.R_base hR2)
   have hmg:bm ≠ g:=fun e => by
    obtain ⟨es,clock,hb1,_⟩:=hown
    rw [e,hg] at hb1
    cases hb1
   refine ⟨he,⟨hbase,.slice A3 (L.length + 1) c3,bm,D.put (.string m.f0.data.toList) (.lit (.int .i64 (L.length:Int))),?_,?_,?_,?_,hbm⟩,?_,?_,?_⟩
   · rw [blk_set hgW3]
     rfl
   · rw [hnew,List.length_append,List.length_singleton]
     refine World.ownsMap.setCell (a:=⟨g,0,none⟩) ?_ hmg _
     refine World.ownsMap.kept hown2 (w':=W3) hg3' ?_
     intro e1
     obtain ⟨cells,hc⟩:=hty bm e1.symm
     obtain ⟨es,clock,hb1,_⟩:=hown2
     rw [hb1] at hc
     cases hc
   · rw [hnew]
     exact ut.one_more hp m hm hn
   · rw [hnew]
     exact Kd.R_set hR3 hgW3 (by decide) 0 _
   · exact hbW3.setCell hbase _
   · intro k t cells h1 h4 h5
     have h6:=hgb k t cells h1
     have h7:=ut.stay_grown hg3' hty k t cells h6 h4 h5
     have h8:k ≠ g:=blk_ne h1 hg h4
     exact (Below.heap_setCell W3 ⟨g,0,none⟩ _ k h8).trans (h7.trans (h6.trans h1.symm))
   · rw [World.size_setCell]
     have:=hg3'.size
     omega
end Go.Proofs.YtmcpeifhapekoaaGreatDoor.PAll
