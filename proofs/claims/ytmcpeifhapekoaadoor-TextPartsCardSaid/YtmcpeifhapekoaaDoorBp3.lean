/- Texts of this seat, joined in the order in which they build. -/
import Derived.Test.YtmcpeifhapekoaaDoorBp2
import Derived.Test.YtmcpeifhapekoaaDoorBp1
namespace Go.Proofs.YtmcpeifhapekoaaDoor.PAll
open Go.RowKit Go.Proofs.YtmcpeifhapekoaaDoorW.PrintWords Go.Proofs.YtmcpeifhapekoaaDoorW.PrintLast Go.Proofs.YtmcpeifhapekoaaDoorW.PrintMore
attribute [local go_sem] max2_int min2_int max_two min_two max_three min_three max_four min_four
set_option linter.unusedVariables false
set_option linter.unusedSimpArgs false
structure uc.Mid (w0 W wx:World) (g:Nat) (v:Value) (l:List Tx.Lb) (s:List UInt8):Prop where
 row:Kd.R k37 37 wx W.heap.size (fun k => k ≠ g ∧ k ≠ W.heap.size) v l
 st:ua.St w0 wx g s
 keep:uz W wx g none
 res:wx.heap[W.heap.size]? = some (.cells #[.slice none 0 0,.int .i64 0,.int .u64 0] 25 (0,0))
 lt:g < W.heap.size
theorem uc.Mid.scan {w0 W wx w':World} {g:Nat} {v:Value} {l:List Tx.Lb} {s s':List UInt8} (h:uc.Mid w0 W wx g v l s) (hs:ua.St w0 w' g s') (hk:uz wx w' g none):uc.Mid w0 W w' g v l s' :=
 ⟨Kd.R_keep h.row hk (fun _ hk => hk.1),hs,ua.keep_then h.keep hk,ua.kept_at hk (by have:=h.lt;omega) h.res,h.lt⟩
theorem uc.Mid.more {w0 W wx w':World} {g:Nat} {v:Value} {l:List Tx.Lb} {s:List UInt8} (h:uc.Mid w0 W wx g v l s) (hb:Below wx.heap.size wx w'):uc.Mid w0 W w' g v l s:=h.scan (h.st.more hb) (uz.of_below hb g none)
theorem uc.Mid.drew {w0 W wx:World} {g:Nat} {v:Value} {l:List Tx.Lb} {s:List UInt8} (h:uc.Mid w0 W wx g v l s) (n:Nat):uc.Mid w0 W (wx.drewN n) g v l s:=h.more (ud (Below.refl _ _) n)
theorem uc.Mid.own {w0 W wx:World} {g:Nat} {v:Value} {l:List Tx.Lb} {s:List UInt8} (h:uc.Mid w0 W wx g v l s):∀ b,v.ownBlock = some b → b ≠ g ∧ b ≠ W.heap.size ∧ W.heap.size ≤ b ∧ w0.heap.size ≤ b:=fun b hb =>
 ⟨(h.row.1 b hb).1,(h.row.1 b hb).2,Kd.R_base h.row b hb,Nat.le_trans (Nat.le_trans h.st.base (Nat.le_of_lt h.lt)) (Kd.R_base h.row b hb)⟩
theorem uc.Mid.app {w0 W wx w1:World} {g:Nat} {v v1:Value} {l l1:List Tx.Lb} {s:List UInt8} (h:uc.Mid w0 W wx g v l s) (hg:wx.grownBy w1 v.ownBlock) (hr:Kd.R k37 37 w1 W.heap.size (fun k => k ≠ g ∧ k ≠ W.heap.size) v1 l1):uc.Mid w0 W w1 g v1 l1 s :=
 ⟨hr,ug.grown_st h.st (fun b hb => ⟨(h.own b hb).1,(h.own b hb).2.2.2⟩) hg,ug.grown_keep h.keep (fun b hb => (h.own b hb).2.2.1) hg,blk_grown h.res hg (fun e => (h.own _ e.symm).2.1 rfl),h.lt⟩
theorem uc.Mid.start {w0 W:World} {g:Nat} {s:List UInt8} (h:ua.St w0 W g s):uc.Mid w0 W (W.alloc (.cells #[.slice none 0 0,.int .i64 0,.int .u64 0] 25)) g (.slice none 0 0) [] s :=
 ⟨Kd.R_nil _ _ _ _ _,h.one_more _,keep_alloc (uz.refl _ _ _) _,ua.new_at W _,h.lt⟩
def uc.hd (s:List UInt8):Bool:=match s with
 | [] => false
 | c :: _ => Tx.wordC c
theorem uc.named_at (s:List UInt8) (z:Int) (hz:ua.pk s = z) (W:World):Calls Tryd.prog 55 #[.int .u8 z] W fun e W' => e = .returned (.bool (uc.hd s)) ∧ u1c W W':=by
 subst hz
 cases s with
 | nil => exact text_named.calls _ _ _ (by decide)
 | cons c r => exact uq.test_named c _ rfl W
theorem uc.head_is (s:List UInt8):Tx.headP s = if uc.hd s = true then (Tx.nameP s).map fun p => ([⟨Tx.metric,p.1⟩],p.2) else some ([],s):=by
 cases s with
 | nil => rfl
 | cons c r => rfl
theorem uc.rest_is (l:List Tx.Lb) (s:List UInt8):((∃ u,s = 123 :: u) ∧ Tx.restP l s = (Tx.bracesP s).map fun q => (l ++ q.1,q.2)) ∨ ((∀ u,s ≠ 123 :: u) ∧ Tx.restP l s = some (l,s)):=by
 by_cases h:∃ u,s = 123 :: u
 · obtain ⟨u,rfl⟩:=h
   exact Or.inl ⟨⟨u,rfl⟩,rfl⟩
 · refine Or.inr ⟨fun u e => h ⟨u,e⟩,?_⟩
   unfold Tx.restP
   split
   · exact absurd ⟨_,rfl⟩ h
   · rfl
theorem uc.labels_len:∀ (n:Nat) (acc:List Tx.Lb) (s:List UInt8) (l:List Tx.Lb) (r:List UInt8),acc.length ≤ 9 → Tx.labelsP n acc s = some (l,r) → l.length ≤ 9 ∧ r.length ≤ s.length
 | 0,acc,s,l,r,_,h => by cases h
 | n + 1,acc,s,l,r,ha,h => by
   unfold Tx.labelsP at h
   split at h
   · split at h
     · rename_i h8
       obtain ⟨⟨x,t⟩,hx,h⟩:=Option.bind_eq_some_iff.1 h
       have h1:=ug.label_rest hx
       obtain ⟨h2,h3⟩:=uc.labels_len n _ t l r (by rw [List.length_append,List.length_singleton];omega) h
       exact ⟨h2,by rw [List.length_cons];omega⟩
     · cases h
   · obtain ⟨rfl,rfl⟩:=Prod.mk.inj (Option.some.inj h)
     exact ⟨ha,Nat.le_refl _⟩
theorem uc.braces_len {s r:List UInt8} {l:List Tx.Lb} (h:Tx.bracesP s = some (l,r)):l.length ≤ 9 ∧ r.length ≤ s.length:=by
 unfold Tx.bracesP at h
 obtain ⟨q,hq,h⟩:=Option.bind_eq_some_iff.1 h
 obtain ⟨⟨x,t⟩,hx,h⟩:=Option.bind_eq_some_iff.1 h
 obtain ⟨⟨l2,t2⟩,hl,h⟩:=Option.bind_eq_some_iff.1 h
 obtain ⟨t3,ht,h⟩:=Option.map_eq_some_iff.1 h
 obtain ⟨rfl,rfl⟩:=Prod.mk.inj h
 have h1:=(us.expect_is 123 s).1 q hq
 have h2:=(us.expect_is 125 t2).1 t3 ht
 have h3:=ug.label_rest hx
 obtain ⟨h4,h5⟩:=uc.labels_len _ _ t l2 t2 (by simp) hl
 refine ⟨h4,?_⟩
 rw [h1,List.length_cons]
 rw [h2,List.length_cons] at h5
 omega
theorem uc.br_no (w0 W:World) (g:Nat) (s:List UInt8) (hl:s.length ≤ 1000) (hq:Tx.bracesP s = none) (h:ua.St w0 W g s):Calls Tryd.prog 56 #[.pointer (some ⟨g,0,none⟩)] W fun e W' => e = .panicked (u1r.chain 280) ∧ Below w0.heap.size w0 W' :=
 (ug.calls w0 W g s hl h).mono fun e W' ho => by rw [hq] at ho;exact ho
theorem uc.br_ok (w0 W:World) (g:Nat) (s:List UInt8) (hl:s.length ≤ 1000) (l:List Tx.Lb) (r:List UInt8) (hq:Tx.bracesP s = some (l,r)) (h:ua.St w0 W g s):Calls Tryd.prog 56 #[.pointer (some ⟨g,0,none⟩)] W fun e W' => ∃ A c,e = .returned (.slice A l.length c) ∧ Kd.R k37 37 W' W.heap.size (fun k => k ≠ g) (.slice A l.length c) l ∧ ua.St w0 W' g r ∧ uz W W' g none :=
 (ug.calls w0 W g s hl h).mono fun e W' ho => by
   rw [hq] at ho
   obtain ⟨v,rfl,h1,h2,h3⟩:=ho
   obtain ⟨A,c,rfl⟩:=Kd.R_slice h1
   exact ⟨A,c,rfl,h1,h2,h3⟩
theorem uc.Mid.new {w0 W wx:World} {g:Nat} {v:Value} {l:List Tx.Lb} {s:List UInt8} (h:uc.Mid w0 W wx g v l s) (o:Obj):uc.Mid w0 W (wx.alloc o) g v l s:=h.more (Below.alloc (Below.refl _ _) (Nat.le_refl _) o)
theorem uc.Mid.set {w0 W wx:World} {g:Nat} {v:Value} {l:List Tx.Lb} {s:List UInt8} (h:uc.Mid w0 W wx g v l s) (b i:Nat) (u:Value) (h1:b ≠ g) (h2:b ≠ W.heap.size) (h3:W.heap.size ≤ b) (hne:some b ≠ v.ownBlock):uc.Mid w0 W (wx.setCell ⟨b,i,none⟩ u) g v l s :=
 ⟨Kd.R_mono (Kd.R_far (p:=⟨b,i,none⟩) (Kd.R_far1 h.row rfl hne) (fun k hk => hk.2) u) (fun k hk => hk.1),h.st.far (p:=⟨b,i,none⟩) (Nat.le_trans (Nat.le_trans h.st.base (Nat.le_of_lt h.lt)) h3) (fun e => h1 e.symm) u,ua.keep_new h.keep (p:=⟨b,i,none⟩) h3 u,blk_far h.res (p:=⟨b,i,none⟩) (fun e => h2 e.symm) u,h.lt⟩
theorem uc.look3 {W:World} {b t:Nat} {u v x:Value} (h:W.heap[b]? = some (.cells #[u,v,x] t (0,0))):(W.cell? ⟨b,0,none⟩ = some u ∧ W.cell? ⟨b,1,none⟩ = some v ∧ W.cell? ⟨b,2,none⟩ = some x) ∧ (W.frozen? ⟨b,0,none⟩ = false ∧ W.frozen? ⟨b,1,none⟩ = false ∧ W.frozen? ⟨b,2,none⟩ = false):=by
 have h0:=u1f h 0
 have h1:=u1f h 1
 have h2:=u1f h 2
 simp only [List.size_toArray,List.length_cons,List.length_nil,List.getElem?_toArray,List.getElem?_cons_zero,List.getElem?_cons_succ] at h0 h1 h2
 exact ⟨⟨h0,h1,h2⟩,u1a h 0,u1a h 1,u1a h 2⟩
theorem uc.can_at (k:Nat) (A:Option Addr) (c n base:Nat) (ok:Nat → Prop) (ls:List Tx.Lb) (b:Bool) (w:World) (hR:Kd.R k37 37 w base ok (.slice A n c) ls) (h:u1g.f k ls = some b):Calls Tryd.prog 60 #[.slice A n c] w fun e w' => e = .returned (.bool b) ∧ Below w.heap.size w w':=by
 obtain ⟨h1,h2,h3⟩:=Kd.R_reads' hR
 subst h1
 exact u1g.calls k A c ls b w h3 h2 h
theorem uc.drop_len (p:UInt8 → Bool) (s:List UInt8):(s.dropWhile p).length ≤ s.length:=by
 have h1:=congrArg List.length (List.takeWhile_append_dropWhile (p:=p) (l:=s))
 rw [List.length_append] at h1
 omega
theorem uc.valueD_rest {h:Bool} {most:Nat} {base n:Int} {s r:List UInt8} (hv:Tx.valueD h most base s = some (n,r)):r.length ≤ s.length:=by
 unfold Tx.valueD at hv
 obtain ⟨⟨d,r'⟩,hd,hv⟩:=Option.bind_eq_some_iff.1 hv
 obtain ⟨n',hn,hv⟩:=Option.map_eq_some_iff.1 hv
 obtain ⟨_,rfl⟩:=Prod.mk.inj hv
 exact (ur.dig_is hd).2.2
theorem uc.value_rest {n:Int} {s r:List UInt8} (hv:Tx.valueP s = some (n,r)):r.length ≤ s.length:=by
 rcases ur.value_is s with ⟨q,hq,e⟩ | ⟨hq,e⟩
 · rw [e] at hv
   have:=uc.valueD_rest hv
   rw [hq,List.length_cons,List.length_cons]
   omega
 · rw [e] at hv
   exact uc.valueD_rest hv
theorem uc.time_rest {n:Int} {s r:List UInt8} (hv:Tx.timeP s = some (n,r)):r.length ≤ s.length:=by
 rcases uk.time_is s with ⟨q,hq,e⟩ | ⟨hq,e⟩
 · rw [e] at hv
   obtain ⟨⟨n',r'⟩,hd,hv⟩:=Option.bind_eq_some_iff.1 hv
   simp only at hv
   split at hv
   · obtain ⟨_,rfl⟩:=Prod.mk.inj (Option.some.inj hv)
     have:=uc.valueD_rest hd
     rw [hq,List.length_cons]
     omega
   · cases hv
 · rw [e] at hv
   obtain ⟨⟨n',r'⟩,hd,hv⟩:=Option.bind_eq_some_iff.1 hv
   simp only at hv
   split at hv
   · obtain ⟨_,rfl⟩:=Prod.mk.inj (Option.some.inj hv)
     exact uc.valueD_rest hd
   · cases hv
def uc.Out (w0 W:World) (g:Nat) (o:Option Tx.Rw) (e:Ending) (W':World):Prop:=match o with
 | some r => ∃ v:Value,e = .returned (.agg #[v,.int .i64 r.f1,.int .u64 r.f2]) ∧ Kd.R k37 37 W' W.heap.size (fun k => k ≠ g) v r.f0 ∧ Below w0.heap.size w0 W' ∧ uz W W' g none
 | none => e = .panicked (u1r.chain 280) ∧ Below w0.heap.size w0 W'
theorem uc.out_none {w0 W:World} {g:Nat} {o:Option Tx.Rw} (ho:o = none) {W':World} (h1:Below w0.heap.size w0 W'):uc.Out w0 W g o (.panicked (u1r.chain 280)) W':=by
 subst ho
 exact ⟨rfl,h1⟩
theorem uc.out_some {w0 W:World} {g:Nat} {o:Option Tx.Rw} {l:List Tx.Lb} {t n:Int} (ho:o = some ⟨l,t,n⟩) {v:Value} {W':World} (h1:Kd.R k37 37 W' W.heap.size (fun k => k ≠ g) v l) (h2:Below w0.heap.size w0 W') (h3:uz W W' g none):uc.Out w0 W g o (.returned (.agg #[v,.int .i64 t,.int .u64 n])) W':=by
 subst ho
 exact ⟨v,rfl,h1,h2,h3⟩
set_option maxRecDepth 100000 in
set_option maxHeartbeats 4000000 in
theorem uc.calls (can:List Tx.Lb → Bool) (hcan:∀ l:List Tx.Lb,l.length ≤ 10 → ∃ k,u1g.f k l = some (can l)) (w0 W:World) (g:Nat) (s:List UInt8) (now:Int) (hl:s.length ≤ 1000) (h:ua.St w0 W g s) :
 Calls Tryd.prog 34 #[.pointer (some ⟨g,0,none⟩),.int .i64 now] W fun e W' => uc.Out w0 W g (Tx.sampleP can s now) e W':=by
 have HM:=Aside0.mk (uc.Mid.start h)
 have HCN:=Aside0.mk hcan
 generalize HZ:Tx.sampleP can s now = o
 have HO:=Aside0.mk HZ
 obtain ⟨z,hz⟩:∃ z,ua.pk s = z:=⟨_,rfl⟩
 have HP:=Aside0.mk hz
 have hh:=uc.head_is s
 clear h hcan HZ hz
 go_enter Tryd.func34,Tryd.ntmps34
 go_upto_if 10 with (first
  | (go_at_call 31;(with_reducible refine (uk.peek_at w0 _ g s z HP.out (by exact HM.out.st)).mono ?_);rintro e W1 ⟨rfl,⟨nd,rfl⟩⟩)
  | (go_at_call 55;(with_reducible refine (uc.named_at s z HP.out _).mono ?_);rintro e W2 ⟨rfl,⟨md,rfl⟩⟩))
 go_cut [5] (fun v5 wx => ∃ (l0:List Tx.Lb) (s1:List UInt8),Tx.headP s = some (l0,s1) ∧ l0.length ≤ 1 ∧ s1.length ≤ 1000 ∧ Aside0 (uc.Mid w0 W wx g v5 l0 s1))
 case first =>
  cases hhd:uc.hd s with
  | true =>
    rw [hhd,if_pos rfl] at hh
    cases hn:Tx.nameP s with
    | none =>
      have HN:=Aside0.mk hn
      have HE:Aside0 (o = none):=⟨by rw [← HO.out];unfold Tx.sampleP Tx.labsP;rw [hh,hn];rfl⟩
      clear hn hh
      go_wp2_with (go_at_call 43;(with_reducible refine (u1p.calls_no w0 _ g s (by omega) HN.out (by exact (HM.out.drew _).st)).mono ?_);rintro e W3 ⟨rfl,hb3⟩)
      exact ⟨rfl,uc.out_none HE.out hb3⟩
    | some p =>
      obtain ⟨n,r⟩:=p
      rw [hn] at hh
      have hr:=us.name_rest hn
      have HN:=Aside0.mk hn
      have HH:=Aside0.mk hh
      clear hn hh
      go_wp2_with (first
       | (go_at_call 43;(with_reducible refine (u1p.calls_ok w0 _ g s (by omega) n r HN.out (by exact (HM.out.drew _).st)).mono ?_);rintro e W3 ⟨rfl,hs3,hk3⟩;have HM3:=Aside0.mk ((HM.out.drew _).scan hs3 hk3);clear hs3 hk3)
       | ((with_reducible refine u1t (b:=.append) (xs:=#[.tmp 11,.tmp 15]) rfl ?_);at_builtin;refine Kd.R_append k37 (w0:=W3) (W:=W3) W.heap.size rfl (.tmp 11) (.tmp 15) 22 37 (.agg #[(.string ⟨#[]⟩),(.string ⟨#[]⟩)]) 32 rfl Tryd.underlying22 ug.infoL rfl (by decide) (by decide) _ [] (⟨Tx.metric,n⟩:Tx.Lb) [.string Tx.metric,.string n] (fun k => k ≠ g ∧ k ≠ W.heap.size) (fun _ => False) rfl rfl (k37_mkM _ _ _ _) (fun _ hk => hk.elim) ?hfr HM3.out.row (Below.refl _ _) HM3.out.keep.1 (by decide) ?_;(case hfr => have h1:=HM3.out.st.lt;have h2:=blk_lt HM3.out.res;intro k hk;omega);intro v8 w8 ho hb hg8 hat;have HM8:=Aside0.mk (HM3.out.app hg8 ho);clear ho hb hg8 hat))
      go_meet
      exact ⟨[⟨Tx.metric,n⟩],r,HH.out,Nat.le_refl _,by omega,HM8⟩
  | false =>
    rw [hhd,if_neg (by decide)] at hh
    have HH:=Aside0.mk hh
    clear hh
    go_wp2_with fail
    go_meet
    exact ⟨[],s,HH.out,by decide,hl,⟨HM.out.drew _⟩⟩
 case rest =>
  clear HM HP hh
  obtain ⟨l0,s1,hh,hl0,hs1,HM⟩:=hcut
  obtain ⟨A0,c0,e0⟩:=Kd.R_slice HM.out.row
  subst e0
  have HH:=Aside0.mk hh
  obtain ⟨y,hy⟩:∃ y,ua.pk s1 = y:=⟨_,rfl⟩
  have HP:=Aside0.mk hy
  clear hh hy
  go_upto_if 19 with (go_at_call 31;(with_reducible refine (uk.peek_at w0 _ g s1 y HP.out (by exact HM.out.st)).mono ?_);rintro e W1 ⟨rfl,⟨nd,rfl⟩⟩)
  go_cut [5] (fun v5 wx => ∃ (l:List Tx.Lb) (s2:List UInt8),Tx.labsP s = some (l,s2) ∧ l.length ≤ 10 ∧ s2.length ≤ 1000 ∧ Aside0 (uc.Mid w0 W wx g v5 l s2))
  case first =>
   rcases uc.rest_is l0 s1 with ⟨⟨u,hu⟩,hr⟩ | ⟨hu,hr⟩
   · have hb5:(y == 123) = true:=by
      have h1:=HP.out
      rw [hu] at h1
      rw [← h1]
      rfl
     cases hq:Tx.bracesP s1 with
     | none =>
       have HQ:=Aside0.mk hq
       have HE:Aside0 (o = none):=⟨by rw [← HO.out];unfold Tx.sampleP Tx.labsP;rw [HH.out];simp only [Option.bind_some];rw [hr,hq];rfl⟩
       clear hq hr hu
       go_wp2_with (go_at_call 56;(with_reducible refine (uc.br_no w0 _ g s1 (by omega) HQ.out (by exact (HM.out.drew _).st)).mono ?_);rintro e W3 ⟨rfl,hb3⟩)
       exact ⟨rfl,uc.out_none HE.out hb3⟩
     | some p =>
       obtain ⟨lb,r⟩:=p
       obtain ⟨hlb,hrl⟩:=uc.braces_len hq
       have HQ:=Aside0.mk hq
       have HL:Aside0 (Tx.labsP s = some (l0 ++ lb,r)):=⟨by unfold Tx.labsP;rw [HH.out];simp only [Option.bind_some];rw [hr,hq];rfl⟩
       clear hq hr hu
       go_wp2_with (first
        | (go_at_call 56;(with_reducible refine (uc.br_ok w0 _ g s1 (by omega) lb r HQ.out (by exact (HM.out.drew _).st)).mono ?_);rintro e W3 ⟨A,c,rfl,hr3,hs3,hk3⟩;have HM3:=Aside0.mk ((HM.out.drew _).scan hs3 hk3);have HR3:=Aside0.mk (Kd.R_reads' hr3).2.2;clear hr3 hs3 hk3)
        | ((with_reducible refine u1t (b:=.append) (xs:=#[.tmp 20,.tmp 22]) rfl ?_);at_builtin;refine Kd.R_append_rows k37 (w0:=W3) W.heap.size rfl (.tmp 20) (.tmp 22) 22 37 (.agg #[(.string ⟨#[]⟩),(.string ⟨#[]⟩)]) 32 rfl Tryd.underlying22 ug.infoL rfl (by decide) (by omega) _ l0 lb _ _ _ (fun k => k ≠ g ∧ k ≠ W.heap.size) (fun _ => False) rfl rfl HM3.out.row HR3.out (fun _ _ h => h) (fun _ h => h.elim) ?hfr (Below.refl _ _) HM3.out.keep.1 ?hbig ?_;(case hfr => have h1:=HM3.out.st.lt;have h2:=blk_lt HM3.out.res;intro k hk;omega);(case hbig => omega);intro v8 w8 ho hb hg8 hat;have HM8:=Aside0.mk (HM3.out.app hg8 ho);clear ho hb hg8 hat))
       go_meet
       exact ⟨l0 ++ lb,r,HL.out,by rw [List.length_append];omega,by omega,HM8⟩
   · have hb5:(y == 123) = false:=beq_eq_false_iff_ne.2 (by
      intro e
      exact ug.pk_ne s1 123 (by decide) hu (HP.out.trans e))
     have HL:Aside0 (Tx.labsP s = some (l0,s1)):=⟨by unfold Tx.labsP;rw [HH.out];simp only [Option.bind_some];exact hr⟩
     clear hr hu
     go_wp2_with fail
     go_meet
     exact ⟨l0,s1,HL.out,by omega,hs1,⟨HM.out.drew _⟩⟩
  case rest =>
   clear HM HP HH
   obtain ⟨l,s2,hh,hl2,hs2,HM⟩:=hcut
   obtain ⟨A,c,e0⟩:=Kd.R_slice HM.out.row
   subst e0
   have HH:=Aside0.mk hh
   have hsl:(Tx.sortP l).length = l.length:=by
    rw [← Tx.sortedTo_all,Tx.sortedTo_len l l.length (Nat.le_refl _)]
   obtain ⟨kc,hkc⟩:=HCN.out (Tx.sortP l) (by omega)
   have HSL:=Aside0.mk hsl
   have HKC:=Aside0.mk hkc
   have hsz:=ut.txt (s2.takeWhile Tx.blankC)
   obtain ⟨_,tw2,tw2n⟩:=hsz
   clear hh hkc hsl HCN
   have HOV:Aside0 (o = if can (Tx.sortP l) = true then (Tx.endP s2 now).map fun q => ⟨Tx.sortP l,q.1,q.2⟩ else none):=⟨by rw [← HO.out];unfold Tx.sampleP;rw [HH.out];rfl⟩
   clear HO HH
   cases hc:can (Tx.sortP l) with
   | false =>
     rw [hc] at HKC HOV
     have HE:Aside0 (o = none):=⟨by rw [HOV.out];rfl⟩
     clear hc tw2 tw2n
     go_wp2_with (first
      | (go_at_call 57;(with_reducible refine (uu.calls _ W.heap.size (fun k => k ≠ g ∧ k ≠ W.heap.size) A c l (by omega) HM.out.row).mono ?_);rintro e W3 ⟨rfl,hr3,hg3⟩;have HM3:=Aside0.mk (HM.out.app hg3 hr3);clear hr3 hg3)
      | (go_at_call 60;(with_reducible refine (uc.can_at kc A c l.length _ _ (Tx.sortP l) _ _ HM3.out.row HKC.out).mono ?_);rintro e W4 ⟨rfl,hb4⟩;have HM4:=Aside0.mk (HM3.out.more hb4);clear hb4)
      | (go_at_call 45;(with_reducible refine (u1l.calls_no _).mono ?_);rintro e W9 ⟨rfl,rfl⟩))
     exact ⟨rfl,uc.out_none HE.out HM4.out.st.below⟩
   | true =>
     rw [hc] at HKC HOV
     have HOW:Aside0 (o = (Tx.endP s2 now).map fun q => ⟨Tx.sortP l,q.1,q.2⟩):=⟨by rw [HOV.out,if_pos rfl]⟩
     clear hc HOV
     by_cases htw:s2.takeWhile Tx.blankC = []
     · obtain ⟨e1,e2⟩:=tw2n htw
       have HE:Aside0 (o = none):=⟨by rw [HOW.out];unfold Tx.endP;rw [if_pos htw];rfl⟩
       clear tw2 tw2n htw
       go_wp2_with (first
        | (go_at_call 57;(with_reducible refine (uu.calls _ W.heap.size (fun k => k ≠ g ∧ k ≠ W.heap.size) A c l (by omega) HM.out.row).mono ?_);rintro e W3 ⟨rfl,hr3,hg3⟩;have HM3:=Aside0.mk (HM.out.app hg3 hr3);clear hr3 hg3)
        | (go_at_call 60;(with_reducible refine (uc.can_at kc A c l.length _ _ (Tx.sortP l) _ _ HM3.out.row HKC.out).mono ?_);rintro e W4 ⟨rfl,hb4⟩;have HM4:=Aside0.mk (HM3.out.more hb4);clear hb4)
        | (go_at_call 45;(with_reducible refine (u1l.calls_ok _).mono ?_);rintro e W9 ⟨rfl,rfl⟩)
        | (go_at_call 61;(with_reducible refine (uq.calls_blank w0 _ g s2 (by omega) (by exact HM4.out.st)).mono ?_);rintro e W5 ⟨rfl,hs5,hk5⟩;have HM5:=Aside0.mk (HM4.out.scan hs5 hk5);clear hs5 hk5)
        | (go_at_call 45;(with_reducible refine (u1l.calls_no _).mono ?_);rintro e W9 ⟨rfl,rfl⟩))
       exact ⟨rfl,uc.out_none HE.out HM5.out.st.below⟩
     · obtain ⟨e1,e2⟩:=tw2 htw
       have hd2:=uc.drop_len Tx.blankC s2
       cases hv:Tx.valueP (s2.dropWhile Tx.blankC) with
       | none =>
         have HV:=Aside0.mk hv
         have HE:Aside0 (o = none):=⟨by rw [HOW.out];unfold Tx.endP;rw [if_neg htw,hv];rfl⟩
         clear tw2 tw2n htw hv
         go_wp2_with (first
          | (go_at_call 57;(with_reducible refine (uu.calls _ W.heap.size (fun k => k ≠ g ∧ k ≠ W.heap.size) A c l (by omega) HM.out.row).mono ?_);rintro e W3 ⟨rfl,hr3,hg3⟩;have HM3:=Aside0.mk (HM.out.app hg3 hr3);clear hr3 hg3)
          | (go_at_call 60;(with_reducible refine (uc.can_at kc A c l.length _ _ (Tx.sortP l) _ _ HM3.out.row HKC.out).mono ?_);rintro e W4 ⟨rfl,hb4⟩;have HM4:=Aside0.mk (HM3.out.more hb4);clear hb4)
          | (go_at_call 45;(with_reducible refine (u1l.calls_ok _).mono ?_);rintro e W9 ⟨rfl,rfl⟩)
          | (go_at_call 61;(with_reducible refine (uq.calls_blank w0 _ g s2 (by omega) (by exact HM4.out.st)).mono ?_);rintro e W5 ⟨rfl,hs5,hk5⟩;have HM5:=Aside0.mk (HM4.out.scan hs5 hk5);clear hs5 hk5)
          | (go_at_call 63;(with_reducible refine (ur.calls_no w0 _ g _ (by omega) HV.out (by exact HM5.out.st)).mono ?_);rintro e W6 ⟨rfl,hb6⟩))
         exact ⟨rfl,uc.out_none HE.out hb6⟩
       | some p =>
         obtain ⟨n,s4⟩:=p
         have hs4:=uc.value_rest hv
         have HV:=Aside0.mk hv
         have HOX:Aside0 (o = (if s4.dropWhile Tx.blankC = [] then some (now,n) else if s4.takeWhile Tx.blankC = [] then none else (Tx.timeP (s4.dropWhile Tx.blankC)).bind fun q => if q.2.dropWhile Tx.blankC = [] then some (q.1,n) else none).map fun q => ⟨Tx.sortP l,q.1,q.2⟩):=⟨by rw [HOW.out];unfold Tx.endP;rw [if_neg htw,hv];rfl⟩
         clear tw2 tw2n htw hv HOW
         have hd4:=uc.drop_len Tx.blankC s4
         obtain ⟨_,dw,dwn⟩:=ut.txt (s4.dropWhile Tx.blankC)
         obtain ⟨b44,hb44⟩:∃ b:Bool,(Base.ofL (s4.dropWhile Tx.blankC)).toList.isEmpty = !b:=⟨_,(Bool.not_not _).symm⟩
         have HB44:=Aside0.mk hb44
         go_upto_if 44 with (first
          | (go_at_call 57;(with_reducible refine (uu.calls _ W.heap.size (fun k => k ≠ g ∧ k ≠ W.heap.size) A c l (by omega) HM.out.row).mono ?_);rintro e W3 ⟨rfl,hr3,hg3⟩;have HM3:=Aside0.mk (HM.out.app hg3 hr3);clear hr3 hg3)
          | (go_at_call 60;(with_reducible refine (uc.can_at kc A c l.length _ _ (Tx.sortP l) _ _ HM3.out.row HKC.out).mono ?_);rintro e W4 ⟨rfl,hb4⟩;have HM4:=Aside0.mk (HM3.out.more hb4);clear hb4)
          | (go_at_call 45;(with_reducible refine (u1l.calls_ok _).mono ?_);rintro e W9 ⟨rfl,rfl⟩)
          | (go_at_call 61;(with_reducible refine (uq.calls_blank w0 _ g s2 (by omega) (by exact HM4.out.st)).mono ?_);rintro e W5 ⟨rfl,hs5,hk5⟩;have HM5:=Aside0.mk (HM4.out.scan hs5 hk5);clear hs5 hk5)
          | (go_at_call 63;(with_reducible refine (ur.calls_ok w0 _ g _ (by omega) n s4 HV.out (by exact HM5.out.st)).mono ?_);rintro e W6 ⟨rfl,hs6,hk6⟩;have HM6:=Aside0.mk (HM5.out.scan hs6 hk6);clear hs6 hk6)
          | (go_at_call 61;(with_reducible refine (uq.calls_blank w0 _ g s4 (by omega) (by exact (HM6.out.new _).st)).mono ?_);rintro e W7 ⟨rfl,hs7,hk7⟩;have HM7:=Aside0.mk ((HM6.out.new _).scan hs7 hk7);have HB7:=Aside0.mk (ua.kept_at hk7 (by have:=HM6.out.st.lt;omega) (ua.new_at W6 _));obtain ⟨h0,f0⟩:=hs7.look;clear hs7 hk7))
         go_cut [7] (fun v7 wx => ∃ (t:Int) (s6:List UInt8),s6.length ≤ 1000 ∧ Aside0 (o = if s6 = [] then some ⟨Tx.sortP l,t,n⟩ else none) ∧ Aside0 (uc.Mid w0 W wx g (.slice A l.length c) (Tx.sortP l) s6) ∧ Aside0 (wx.heap[W6.heap.size]? = some (.cells #[.slice A l.length c,.int .i64 t,.int .u64 n] 25 (0,0))))
         case first =>
          clear hb44
          obtain ⟨_,gw,gwn⟩:=ut.txt (s4.takeWhile Tx.blankC)
          by_cases he5:s4.dropWhile Tx.blankC = []
          · obtain ⟨e3,e4⟩:=dwn he5
            obtain rfl:b44 = false:=by have h1:=HB44.out;rw [e3] at h1;revert h1;cases b44 <;> decide
            have HF:Aside0 (o = if s4.dropWhile Tx.blankC = [] then some ⟨Tx.sortP l,now,n⟩ else none):=⟨by rw [HOX.out,if_pos he5,if_pos he5];rfl⟩
            clear he5 dw dwn gw gwn HOX
            go_wp2_with fail
            go_meet
            exact ⟨now,s4.dropWhile Tx.blankC,by omega,HF,HM7,HB7⟩
          · obtain ⟨e3,e4⟩:=dw he5
            obtain rfl:b44 = true:=by have h1:=HB44.out;rw [e3] at h1;revert h1;cases b44 <;> decide
            by_cases hg4:s4.takeWhile Tx.blankC = []
            · obtain ⟨e5,e6⟩:=gwn hg4
              have HE:Aside0 (o = none):=⟨by rw [HOX.out,if_neg he5,if_pos hg4];rfl⟩
              clear he5 dw dwn gw gwn HOX hg4
              go_wp2_with (go_at_call 45;(with_reducible refine (u1l.calls_no _).mono ?_);rintro e W9 ⟨rfl,rfl⟩)
              exact ⟨rfl,uc.out_none HE.out HM7.out.st.below⟩
            · obtain ⟨e5,e6⟩:=gw hg4
              cases ht:Tx.timeP (s4.dropWhile Tx.blankC) with
              | none =>
                have HT:=Aside0.mk ht
                have HE:Aside0 (o = none):=⟨by rw [HOX.out,if_neg he5,if_neg hg4,ht];rfl⟩
                clear he5 dw dwn gw gwn HOX hg4 ht
                go_wp2_with (first
                 | (go_at_call 45;(with_reducible refine (u1l.calls_ok _).mono ?_);rintro e W9 ⟨rfl,rfl⟩)
                 | (go_at_call 64;(with_reducible refine (uk.calls_no w0 _ g _ (by omega) HT.out (by exact HM7.out.st)).mono ?_);rintro e W8 ⟨rfl,hb8⟩))
                exact ⟨rfl,uc.out_none HE.out hb8⟩
              | some p =>
                obtain ⟨t,s7⟩:=p
                have hs7:=uc.time_rest ht
                have hd7:=uc.drop_len Tx.blankC s7
                have HT:=Aside0.mk ht
                have HF:Aside0 (o = if s7.dropWhile Tx.blankC = [] then some ⟨Tx.sortP l,t,n⟩ else none):=⟨by
                 rw [HOX.out,if_neg he5,if_neg hg4,ht]
                 simp only [Option.bind_some]
                 split <;> rfl⟩
                have N1:Aside0 (W6.heap.size ≠ g):=⟨by have:=HM6.out.st.lt;omega⟩
                have N2:Aside0 (W6.heap.size ≠ W.heap.size ∧ W.heap.size ≤ W6.heap.size):=⟨by have:=blk_lt HM6.out.res;omega⟩
                have N3:Aside0 (some W6.heap.size ≠ (Value.slice A l.length c).ownBlock):=⟨fun e => by have:=Kd.R_lt HM6.out.row W6.heap.size e.symm;omega⟩
                have n1:¬ g = W6.heap.size:=fun e => N1.out e.symm
                clear he5 dw dwn gw gwn HOX hg4 ht h0 f0
                go_wp2_with (first
                 | (go_at_call 45;(with_reducible refine (u1l.calls_ok _).mono ?_);rintro e W9 ⟨rfl,rfl⟩)
                 | (go_at_call 64;(with_reducible refine (uk.calls_ok w0 _ g _ (by omega) t s7 HT.out (by exact HM7.out.st)).mono ?_);rintro e W8 ⟨rfl,hs8,hk8⟩;have HM8:=Aside0.mk (HM7.out.scan hs8 hk8);have HB8:=Aside0.mk (ua.kept_at hk8 N1.out HB7.out);obtain ⟨⟨a0,a1,a2⟩,b0,b1,b2⟩:=uc.look3 HB8.out;clear hs8 hk8)
                 | (go_at_call 61;(with_reducible refine (uq.calls_blank w0 _ g s7 (by omega) (by exact (HM8.out.set W6.heap.size 1 _ N1.out N2.out.1 N2.out.2 N3.out).st)).mono ?_);rintro e W9 ⟨rfl,hs9,hk9⟩;have HM9:=Aside0.mk ((HM8.out.set W6.heap.size 1 _ N1.out N2.out.1 N2.out.2 N3.out).scan hs9 hk9);have HB9:=Aside0.mk (ua.kept_at hk9 N1.out (blk_set HB8.out 1 (.int .i64 t)));clear hs9 hk9))
                go_meet
                exact ⟨t,s7.dropWhile Tx.blankC,by omega,HF,HM9,HB9⟩
         case rest =>
          have N1:Aside0 (W6.heap.size ≠ g):=⟨by have:=HM6.out.st.lt;omega⟩
          have N2:Aside0 (W6.heap.size ≠ W.heap.size ∧ W.heap.size ≤ W6.heap.size):=⟨by have:=blk_lt HM6.out.res;omega⟩
          clear HM HM3 HM4 HM5 HM6 HM7 HB7 h0 f0 HOX hb44 HB44 dw dwn
          obtain ⟨t,s6,hs6,HF,HM,HB⟩:=hcut
          obtain ⟨h0,f0⟩:=HM.out.st.look
          obtain ⟨⟨a0,a1,a2⟩,b0,b1,b2⟩:=uc.look3 HB.out
          obtain ⟨⟨c0,c1,c2⟩,d0,d1,d2⟩:=uc.look3 HM.out.res
          obtain ⟨_,dw,dwn⟩:=ut.txt s6
          have n1:¬ W6.heap.size = W.heap.size:=N2.out.1
          have n2:¬ W.heap.size = W6.heap.size:=fun e => N2.out.1 e.symm
          by_cases he:s6 = []
          · obtain ⟨e3,e4⟩:=dwn he
            have HE:Aside0 (o = some ⟨Tx.sortP l,t,n⟩):=⟨by rw [HF.out,if_pos he]⟩
            clear dw dwn he HF
            go_wp2_with (go_at_call 45;(with_reducible refine (u1l.calls_ok _).mono ?_);rintro e W9 ⟨rfl,rfl⟩)
            refine bodyPost_ret (v:=.agg #[.slice A l.length c,.int .i64 t,.int .u64 n]) (by simp [results,Tryd.results34,go_sem,c0,c1,c2]) rfl (uc.out_some HE.out ?_ ?_ ?_)
            · exact Kd.R_mono (Kd.R_far (p:=⟨W.heap.size,2,none⟩) (Kd.R_far (p:=⟨W.heap.size,1,none⟩) (Kd.R_far (p:=⟨W.heap.size,0,none⟩) HM.out.row (fun k hk => hk.2) _) (fun k hk => hk.2) _) (fun k hk => hk.2) _) (fun k hk => hk.1)
            · have hw:w0.heap.size ≤ W.heap.size:=Nat.le_trans HM.out.st.base (Nat.le_of_lt HM.out.lt)
              exact ((HM.out.st.below.setCell (p:=⟨W.heap.size,0,none⟩) hw _).setCell (p:=⟨W.heap.size,1,none⟩) hw _).setCell (p:=⟨W.heap.size,2,none⟩) hw _
            · exact ua.keep_new (p:=⟨W.heap.size,2,none⟩) (ua.keep_new (p:=⟨W.heap.size,1,none⟩) (ua.keep_new (p:=⟨W.heap.size,0,none⟩) HM.out.keep (Nat.le_refl _) _) (Nat.le_refl _) _) (Nat.le_refl _) _
          · obtain ⟨e3,e4⟩:=dw he
            have HE:Aside0 (o = none):=⟨by rw [HF.out,if_neg he]⟩
            clear dw dwn he HF
            go_wp2_with (go_at_call 45;(with_reducible refine (u1l.calls_no _).mono ?_);rintro e W9 ⟨rfl,rfl⟩)
            exact ⟨rfl,uc.out_none HE.out HM.out.st.below⟩
def uh.Places (D:DataW Unit) (L:List S51):Prop:=Maps.IsMap D ∧ (∀ (i:Nat) (h:i < L.length),Maps.has D (.string L[i].f0.data.toList) = true ∧ ∀ z,D.atKey (.string L[i].f0.data.toList) z = .lit (.int .i64 (i:Int))) ∧ ∀ key:ByteArray,(∀ x ∈ L,x.f0 ≠ key) → Maps.has D (.string key.data.toList) = false
structure uh.Bk (w0 W:World) (g:Nat) (L:List S51):Prop where
 base:w0.heap.size ≤ g
 ex:∃ (v:Value) (bm:Nat) (D:DataW Unit),W.heap[g]? = some (.cells #[v,.map (some bm)] 63 (0,0)) ∧ W.ownsMap Tryd.prog 9 (plainElem Tryd.prog 3) bm L.length D ∧ uh.Places D L ∧ Kd.R k51 51 W w0.heap.size (fun _ => True) v L ∧ w0.heap.size ≤ bm
theorem uh.law9:Maps.Keyed Tryd.prog 9:=Maps.string_keyed Tryd.underlying9
theorem uh.zero3 (w:World):(zeroValue 3).run Tryd.prog w = .ok (.int .i64 0) w:=by kernel_rfl
def uh.set (m x:S51) (help:Bool):S51:=if help = true then ⟨x.f0,x.f1,m.f2⟩ else ⟨x.f0,m.f1,x.f2⟩
def uh.noteS (m:S51) (help:Bool):List S51 → List S51
 | [] => [m]
 | x :: l => if x.f0 = m.f0 then uh.set m x help :: l else x :: uh.noteS m help l
theorem uh.note_new (m:S51) (help:Bool):∀ L:List S51,(∀ x ∈ L,x.f0 ≠ m.f0) → uh.noteS m help L = L ++ [m]
 | [],_ => rfl
 | x :: l,h => by
   unfold uh.noteS
   rw [if_neg (h x (List.mem_cons_self ..)),uh.note_new m help l (fun y hy => h y (List.mem_cons_of_mem _ hy))]
   rfl
theorem uh.note_met (m:S51) (help:Bool):∀ (L:List S51) (i:Nat) (hi:i < L.length),L[i].f0 = m.f0 → (∀ (j:Nat) (hj:j < L.length),L[j].f0 = m.f0 → j = i) → uh.noteS m help L = L.set i (uh.set m L[i] help)
 | x :: l,0,hi,h,_ => by
   unfold uh.noteS
   rw [if_pos (show x.f0 = m.f0 from h)]
   rfl
 | x :: l,i + 1,hi,h,hu => by
   have hx:¬ x.f0 = m.f0:=fun e => by
    have:=hu 0 (by simp) e
    omega
   unfold uh.noteS
   rw [if_neg hx,List.set_cons_succ]
   have:=uh.note_met m help l i (by simpa using hi) (by simpa using h) (fun j hj e => by
    have:=hu (j + 1) (by simpa using hj) (by simpa using e)
    omega)
   rw [this]
   rfl
theorem uh.there (D:DataW Unit) (L:List S51) (key:ByteArray) (h:uh.Places D L):(∃ (i:Nat) (hi:i < L.length),L[i].f0 = key ∧ (∀ (j:Nat) (hj:j < L.length),L[j].f0 = key → j = i) ∧ Maps.has D (.string key.data.toList) = true ∧ ∀ z,D.atKey (.string key.data.toList) z = .lit (.int .i64 (i:Int))) ∨ ((∀ x ∈ L,x.f0 ≠ key) ∧ Maps.has D (.string key.data.toList) = false):=by
 by_cases hk:∃ x ∈ L,x.f0 = key
 · obtain ⟨x,hx,rfl⟩:=hk
   obtain ⟨i,hi,rfl⟩:=List.getElem_of_mem hx
   obtain ⟨h1,h2⟩:=h.2.1 i hi
   refine Or.inl ⟨i,hi,rfl,fun j hj e => ?_,h1,h2⟩
   have h3:=(h.2.1 j hj).2 (.lit (.int .i64 0))
   rw [e,h2] at h3
   injection h3 with h3
   injection h3 with _ h3
   omega
 · exact Or.inr ⟨fun x hx e => hk ⟨x,hx,e⟩,h.2.2 key (fun x hx e => hk ⟨x,hx,e⟩)⟩
def uh.Stay (W W':World):Prop:=∀ (k t:Nat) (cells:Array Value),W.heap[k]? = some (.cells cells t (0,0)) → t ≠ 63 → t ≠ 51 → W'.heap[k]? = W.heap[k]?
set_option maxRecDepth 100000 in
set_option maxHeartbeats 2000000 in
theorem uh.met (W:World) (g bm gs cap n i:Nat) (D:DataW Unit) (a b c:ByteArray) (help:Bool) (x y z:Value) (hi:i < n) (hne:¬ gs = g)
 (hg:W.heap[g]? = some (.cells #[.slice (some ⟨gs,0,none⟩) n cap,.map (some bm)] 63 (0,0))) (hown:W.ownsMap Tryd.prog 9 (plainElem Tryd.prog 3) bm n D) (ha:a.size ≤ maxLen)
 (hhas:Maps.has D (.string a.data.toList) = true) (hat:∀ z,D.atKey (.string a.data.toList) z = .lit (.int .i64 (i:Int)))
 (cs:Array Value) (hs:W.heap[gs]? = some (.cells cs 51 (0,0))) (hy:cs[i * 3 + 1]? = some y) (hz:cs[i * 3 + 2]? = some z) :
 Calls Tryd.prog 23 #[.pointer (some ⟨g,0,none⟩),.agg #[.string a,.string b,.string c],.bool help] W fun e W' => e = .returned (.tuple #[]) ∧ ∃ q,W' = (((W.alloc (.cells #[.string a,.string b,.string c] 51)).setCell ⟨gs,i * 3 + (if help = true then 2 else 1),none⟩ (.string (if help = true then c else b)))).drewN q:=by
 have hkey:=WideMaps.keyOf_string_mk (P:=Tryd.prog) Tryd.underlying9 ha
 have hg1:=ua.new_old hg (.cells #[.string a,.string b,.string c] 51)
 have hn1:=ua.new_at W (.cells #[.string a,.string b,.string c] 51)
 have hlk:(Instr.lookup 61 (.map (some bm)) (.string a) true).run Tryd.prog (W.alloc (.cells #[.string a,.string b,.string c] 51)).drew = .ok (.tuple #[.int .i64 (i:Int),.bool true]) (W.alloc (.cells #[.string a,.string b,.string c] 51)).drew:=by
  have h1:((W.alloc (.cells #[.string a,.string b,.string c] 51)).drew).ownsMap Tryd.prog 9 (plainElem Tryd.prog 3) bm n D:=(hown.alloc _).drew
  obtain ⟨v,ps,h2,h3⟩:=h1.look_ok uh.law9 Tryd.underlying61 (uh.zero3 _) (plainElem_int Tryd.underlying3 (by decide)) hkey
  rw [hhas] at h2
  rw [hat] at h3
  obtain ⟨c,rfl,h4,_⟩:=plainElem_int_inv Tryd.underlying3 h3
  injection h4 with h4 _
  injection h4 with h4
  injection h4 with _ h4
  rw [h2,h4]
 obtain ⟨b0,b1,b2,b3⟩:=ua.look2 hg1
 have hs1:=ua.new_old hs (.cells #[.string a,.string b,.string c] 51)
 have c1:=(u1f hs1 (i * 3 + 1)).trans hy
 have c2:=(u1f hs1 (i * 3 + 2)).trans hz
 have f1:=u1a hs1 (i * 3 + 1)
 have f2:=u1a hs1 (i * 3 + 2)
 have k1:¬ gs = W.heap.size:=by have:=blk_lt hs;omega
 have k2:¬ W.heap.size = gs:=fun e => k1 e.symm
 have k3:¬ g = gs:=fun e => hne e.symm
 clear hs1 hs hy hz hown hhas hat
 have hi2:(i:Int) < (n:Int):=by omega
 have mixed:Tryd.prog.follows .mixedOrders = true:=by kernel_rfl
 go_enter Tryd.func23,Tryd.ntmps23
 go_wp2
 have m1:¬ g = W.heap.size:=by have:=blk_lt hg;omega
 have m2:¬ W.heap.size = g:=fun e => m1 e.symm
 obtain ⟨⟨d0,d1,d2⟩,d3⟩:=uc.look3 hn1
 clear hg hn1 hg1
 generalize hW1:W.alloc (.cells #[.string a,.string b,.string c] 51) = W1 at *
 have HW1:=Aside0.mk hW1
 clear hW1
 generalize W.heap.size = zz at *
 cases help with
 | true =>
   go_region_o
   all_goals go_wp2
   go_region_o
   all_goals go_wp2
   all_goals go_end0
   all_goals exact ⟨rfl,2,by rw [HW1.out];rfl⟩
 | false =>
   go_region_o
   all_goals go_wp2
   go_region_o
   all_goals go_wp2
   all_goals go_end0
   all_goals exact ⟨rfl,2,by rw [HW1.out];rfl⟩
theorem uh.step_run {P:Program} {ops:Array Oper} {o:Oper} {a:Act} {w:World} {K:Act → World → Prop} {Q:Exit → Act → World → Prop} {E:Prop} (hgd:o.guard = none) (s x:Operand) (t:TypeId)
 (ho:o.op = .call { callee:=.builtin .append,args:=#[s,x],argTypes:=#[t,t] }) (v u:Value) (hs:a.eval s = v) (hx:a.eval x = u) (v':Value) (w':World) (hrun:(Builtin.append_ #[t,t] o.type #[v,u]).run P w = .ok v' w') (hK:K (a.put o.dst v') w') :
 if Region.wanted o (yielded ops a.tmps) = true then Oper.wp P o a w K Q else E:=by
 have hw:Region.wanted o (yielded ops a.tmps) = true:=by simp [Region.wanted,hgd]
 rw [if_pos hw]
 unfold Oper.wp execOp
 simp only [ho,resolve,invoke,builtin,Sem.run_bind,Sem.run_pure,Result.andThen_ok,List.map_toArray,List.map_cons,List.map_nil,hs,hx,hrun]
 exact hK
set_option maxRecDepth 100000 in
set_option maxHeartbeats 2000000 in
theorem uh.fresh (W W2 W3:World) (g bm n:Nat) (i:Int) (a b c:ByteArray) (help:Bool) (A:Option Addr) (cap:Nat) (A3:Option Addr) (n3 c3:Nat)
 (hg:W.heap[g]? = some (.cells #[.slice A n cap,.map (some bm)] 63 (0,0)))
 (hlk:(Instr.lookup 61 (.map (some bm)) (.string a) true).run Tryd.prog (W.alloc (.cells #[.string a,.string b,.string c] 51)).drew = .ok (.tuple #[.int .i64 i,.bool false]) (W.alloc (.cells #[.string a,.string b,.string c] 51)).drew)
 (hup:(Instr.mapUpdate 61 (.map (some bm)) (.string a) (.int .i64 (n:Int))).run Tryd.prog (W.alloc (.cells #[.string a,.string b,.string c] 51)).drew.drew = .ok () W2)
 (hg2:W2.heap[g]? = some (.cells #[.slice A n cap,.map (some bm)] 63 (0,0))) (hz2:W2.heap[W.heap.size]? = some (.cells #[.string a,.string b,.string c] 51 (0,0)))
 (hap:(Builtin.append_ #[45,45] 45 #[.slice A n cap,.slice (some ⟨W2.heap.size,0,none⟩) 1 1]).run Tryd.prog (W2.drew.alloc (.cells #[.string a,.string b,.string c] 51)) = .ok (.slice A3 n3 c3) W3)
 (hg3:W3.heap[g]? = some (.cells #[.slice A n cap,.map (some bm)] 63 (0,0))) :
 Calls Tryd.prog 23 #[.pointer (some ⟨g,0,none⟩),.agg #[.string a,.string b,.string c],.bool help] W fun e W' => e = .returned (.tuple #[]) ∧ W' = W3.setCell ⟨g,0,none⟩ (.slice A3 n3 c3):=by
 have hg1:=ua.new_old hg (.cells #[.string a,.string b,.string c] 51)
 have hn1:=ua.new_at W (.cells #[.string a,.string b,.string c] 51)
 obtain ⟨b0,b1,b2,b3⟩:=ua.look2 hg1
 obtain ⟨g0,g1,g2,g3⟩:=ua.look2 hg2
 obtain ⟨h0,h1,h2,h3⟩:=ua.look2 hg3
 obtain ⟨⟨d0,d1,d2⟩,d3⟩:=uc.look3 hn1
 obtain ⟨⟨e0,e1,e2⟩,e3⟩:=uc.look3 hz2
 have m1:¬ g = W.heap.size:=by have:=blk_lt hg;omega
 have m2:¬ W.heap.size = g:=fun e => m1 e.symm
 have hg4:=ua.new_old hg2 (.cells #[.string a,.string b,.string c] 51)
 have hz4:=ua.new_old hz2 (.cells #[.string a,.string b,.string c] 51)
 obtain ⟨i0,i1,i2,i3⟩:=ua.look2 hg4
 obtain ⟨⟨j0,j1,j2⟩,j3⟩:=uc.look3 hz4
 have hap2:(Builtin.append_ #[45,45] 45 #[.slice A n cap,.slice (some ⟨W2.heap.size,0,none⟩) 1 1]).run Tryd.prog (W2.alloc (.cells #[.string a,.string b,.string c] 51)).drew = .ok (.slice A3 n3 c3) W3:=hap
 clear hg hn1 hg1 hg2 hg3 hz2 hg4 hz4
 have mixed:Tryd.prog.follows .mixedOrders = true:=by kernel_rfl
 go_enter Tryd.func23,Tryd.ntmps23
 go_wp2
 generalize W.alloc (.cells #[.string a,.string b,.string c] 51) = W1 at *
 generalize W.heap.size = zz at *
 go_region_o
 all_goals go_wp2
 go_region_o
 all_goals go_wp2
 go_region_law (refine uh.step_run rfl (.tmp 45) (.tmp 47) 45 rfl _ _ (by rfl) (by rfl) _ _ hap ?_)
 all_goals go_wp2
 all_goals go_end0
 all_goals exact ⟨rfl,rfl⟩
theorem uh.run_app {P:Program} {α:Type} (d:Kd α) (base:Nat) (t e:TypeId) (z:Value) (bytes:Nat) (ht:P.underlying t = some (.slice e)) (hinfo:(P.info? e).map (fun i => (i.zero,i.size,i.bytes)) = some (some z,d.sz,bytes)) (hz:z.cells.size = d.sz) (hs0:0 < d.sz) (hb0:0 < bytes)
 (W:World) (v:Value) (xs:List α) (p:α) (cs:List Value) (ok okp:Nat → Prop) (hp:d.M W base okp p cs) (hokp:∀ k,okp k → ok k ∧ some k ≠ v.ownBlock) (hfresh:∀ k,W.heap.size ≤ k → ok k)
 (HO:d.R e W base ok v xs) (hbase:base ≤ W.heap.size) (hl:(xs.length + 1) * bytes ≤ 140737488355328) :
 ∃ (A3:Option Addr) (c3:Nat) (w1:World),(Builtin.append_ #[t,t] t #[v,.slice (some ⟨W.heap.size,0,none⟩) 1 1]).run P (W.alloc (.cells cs.toArray e)) = .ok (.slice A3 (xs.length + 1) c3) w1 ∧ d.R e w1 base ok (.slice A3 (xs.length + 1) c3) (xs ++ [p]) ∧ W.grownBy w1 v.ownBlock:=by
 obtain ⟨h0,inner,hown,hr⟩:=HO
 obtain ⟨i0,hi,hzz⟩:=Option.map_eq_some_iff.1 hinfo
 simp only [Prod.mk.injEq] at hzz
 obtain ⟨hz0,hz1,hz2⟩:=hzz
 have hlen:xs.length + 1 ≤ 140737488355328:=Nat.le_trans (Nat.le_mul_of_pos_right _ hb0) hl
 have hcs:=d.K_len (d.K_of_M hp)
 obtain ⟨v',w',hrun,hown',hg,_,hat⟩:=run_append_own_at (P:=P) (W.alloc (.cells cs.toArray e)) base t t e i0 z d.sz bytes ht hi hz0 hz1 hz2 hz hs0 v xs.length inner (hown.alloc _) ⟨W.heap.size,0,none⟩ 1 1 cs (by rw [hcs];simp)
  (by simpa using World.news_of_block (cs:=cs.toArray) (t:=e) (fr:=(0,0)) (heap_alloc_new W (.cells cs.toArray e))) (d.K_one (d.K_of_M hp)) (by simp only [maxLen];omega) hl (by simp;omega)
 have hg':W.grownBy w' v.ownBlock:=World.grownBy.trans (World.grownBy_alloc W _ _) hg
 have hR:=Kd.R_appended h0 hr hp hokp hfresh hown' hg' (by
  rcases hat with hat | hat
  · exact .inl hat
  · exact .inr ⟨_,hat,by simp⟩)
 obtain ⟨A,c,rfl⟩:=Kd.R_slice hR
 rw [List.length_append,List.length_singleton] at hrun hR
 exact ⟨A,c,w',hrun,hR,hg'⟩
theorem uh.infoM:(Tryd.prog.info? 51).map (fun i => (i.zero,i.size,i.bytes)) = some (some (.agg #[(.string ⟨#[]⟩),(.string ⟨#[]⟩),(.string ⟨#[]⟩)]),3,48):=by kernel_rfl
theorem uh.names {D:DataW Unit} {L L':List S51} (h:uh.Places D L) (e:L'.map (·.f0) = L.map (·.f0)):uh.Places D L':=by
 have hl:L'.length = L.length:=by
  have:=congrArg List.length e
  rwa [List.length_map,List.length_map] at this
 have hat:∀ (i:Nat) (h1:i < L'.length),L'[i].f0 = (L[i]'(by omega)).f0:=fun i h1 => by
  have h2:=congrArg (fun l:List ByteArray => l[i]?) e
  simp only [List.getElem?_map] at h2
  rw [List.getElem?_eq_getElem h1,List.getElem?_eq_getElem (by omega:i < L.length)] at h2
  exact Option.some.inj h2
 refine ⟨h.1,fun i h1 => ?_,fun key hk => h.2.2 key fun x hx e1 => ?_⟩
 · rw [hat i h1]
   exact h.2.1 i (by omega)
 · obtain ⟨i,hi,rfl⟩:=List.getElem_of_mem hx
   exact hk L'[i] (List.getElem_mem (by omega)) ((hat i (by omega)).trans e1)
theorem uh.one_more {D:DataW Unit} {L:List S51} (h:uh.Places D L) (m:S51) (hs:m.f0.size ≤ maxLen) (hn:∀ x ∈ L,x.f0 ≠ m.f0):uh.Places (D.put (.string m.f0.data.toList) (.lit (.int .i64 (L.length:Int)))) (L ++ [m]):=by
 have hk:WideAt.IsKeyLit (.string m.f0.data.toList):=trivial
 have hne:∀ a:ByteArray,a ≠ m.f0 → (Lit.string a.data.toList) ≠ .string m.f0.data.toList:=fun a h1 h2 => h1 (by injection h2 with h2;exact Base.ext_data h2)
 refine ⟨h.1.put _ _,fun i hi => ?_,fun key hkey => ?_⟩
 · by_cases h1:i < L.length
   · have e1:(L ++ [m])[i] = L[i]:=List.getElem_append_left h1
     have h2:=hne _ (hn _ (List.getElem_mem h1))
     rw [e1]
     refine ⟨(Maps.has_put_other h2 _).trans (h.2.1 i h1).1,fun z => (Maps.atKey_put_other h2 _ z).trans ((h.2.1 i h1).2 z)⟩
   · have e0:i = L.length:=by
      rw [List.length_append,List.length_singleton] at hi
      omega
     subst e0
     have e1:(L ++ [m])[L.length] = m:=by simp
     rw [e1]
     exact ⟨Maps.has_put_same h.1 hk _,fun z => Maps.atKey_put_same h.1 hk _ z⟩
 · have h1:=hne key (fun e => hkey m (by simp) e.symm)
   rw [Maps.has_put_other h1]
   exact h.2.2 key (fun x hx => hkey x (by simp [hx]))
theorem uh.stay_grown {W W':World} {v:Value} (hg:W.grownBy W' v.ownBlock) (hv:∀ k,v.ownBlock = some k → ∃ cells,W.heap[k]? = some (.cells cells 51 (0,0))):uh.Stay W W':=fun k t cells h _ h2 => hg.block k (blk_lt h) (fun e => by
 obtain ⟨c,hc⟩:=hv k e.symm
 rw [h] at hc
 injection hc with hc
 injection hc with _ hc
 exact h2 hc)
theorem uh.calls (w0 W:World) (g:Nat) (L:List S51) (m:S51) (help:Bool) (h:uh.Bk w0 W g L) (hb:Below w0.heap.size w0 W) (hm:m.f0.size ≤ maxLen) (hl:L.length ≤ 1000000000000) :
 Calls Tryd.prog 23 #[.pointer (some ⟨g,0,none⟩),.agg #[.string m.f0,.string m.f1,.string m.f2],.bool help] W fun e W' => e = .returned (.tuple #[]) ∧ uh.Bk w0 W' g (uh.noteS m help L) ∧ Below w0.heap.size w0 W' ∧ uh.Stay W W' ∧ W.heap.size ≤ W'.heap.size:=by
 obtain ⟨hbase,v,bm,D,hg,hown,hp,hR,hbm⟩:=h
 rcases uh.there D L m.f0 hp with ⟨i,hi,hn,hu,hhas,hat⟩ | ⟨hn,hhas⟩
 · obtain ⟨gs,cap,rfl,hgs,hlt,cells,hcs⟩:=Kd.R_form hR (by omega)
   obtain ⟨c,hc1,hc2,hc3,hc4⟩:=Kd.R_elem hR z51 (i:Int) (by omega) (by omega)
   have hxi:L.getD (i:Int).toNat z51 = L[i]:=by
    rw [Int.toNat_natCast,List.getD_eq_getElem?_getD,List.getElem?_eq_getElem hi]
    rfl
   rw [hxi] at hc2
   obtain rfl:=k51_openM hc2
   have hne:¬ gs = g:=blk_ne hcs hg (by decide)
   have hnb:bm ≠ gs:=fun e => by
    obtain ⟨es,clock,hb1,_⟩:=hown
    rw [e,hcs] at hb1
    cases hb1
   have y1:=(u1f hcs (i * 3 + 1)).symm.trans (hc3 1 _ rfl)
   have y2:=(u1f hcs (i * 3 + 2)).symm.trans (hc3 2 _ rfl)
   refine (uh.met W g bm gs cap L.length i D m.f0 m.f1 m.f2 help .nilIface _ _ hi hne hg hown hm hhas hat cells hcs y1 y2).mono ?_
   rintro e W' ⟨he,q,rfl⟩
   have hset:=uh.note_met m help L i hi hn hu
   have hA:=Kd.R_alloc hR (.cells #[.string m.f0,.string m.f1,.string m.f2] 51)
   have hg1:=ua.new_old hg (.cells #[.string m.f0,.string m.f1,.string m.f2] 51)
   have hcc:∀ (j:Nat) u,([.string L[i].f0,.string L[i].f1,.string L[i].f2]:List Value)[j]? = some u → (W.alloc (.cells #[.string m.f0,.string m.f1,.string m.f2] 51)).cell? ⟨gs,(i:Int).toNat * 3 + j,none⟩ = some u:=fun j u hj => by
    have h1:=hc3 j u hj
    have h2:=ua.new_old hcs (.cells #[.string m.f0,.string m.f1,.string m.f2] 51)
    exact (u1f h2 _).trans ((u1f hcs _).symm.trans h1)
   have hseg:Kd.R k51 51 ((W.alloc (.cells #[.string m.f0,.string m.f1,.string m.f2] 51)).setCell ⟨gs,i * 3 + (if help = true then 2 else 1),none⟩ (.string (if help = true then m.f2 else m.f1))) w0.heap.size (fun _ => True) (.slice (some ⟨gs,0,none⟩) L.length cap) (L.set i (uh.set m L[i] help)):=by
    cases help with
    | true =>
      have:=(Kd.R_seg hA (i:Int) (by omega) (by omega) (c:=[.string L[i].f0,.string L[i].f1,.string L[i].f2]) (seg:=[.string m.f2]) (j:=2) rfl hcc (Nat.le_refl 3) (x':=uh.set m L[i] true) (okp:=fun k => k ≠ gs) (k51_mkM _ _ _ ⟨L[i].f0,L[i].f1,m.f2⟩) (fun k hk => ⟨trivial,hk⟩)).1
      exact this
    | false =>
      have:=(Kd.R_seg hA (i:Int) (by omega) (by omega) (c:=[.string L[i].f0,.string L[i].f1,.string L[i].f2]) (seg:=[.string m.f1]) (j:=1) rfl hcc (show 1 + 1 ≤ 3 by decide) (x':=uh.set m L[i] false) (okp:=fun k => k ≠ gs) (k51_mkM _ _ _ ⟨L[i].f0,m.f1,L[i].f2⟩) (fun k hk => ⟨trivial,hk⟩)).1
      exact this
   have hle:(L.set i (uh.set m L[i] help)).length = L.length:=List.length_set
   have hnm:(L.set i (uh.set m L[i] help)).map (·.f0) = L.map (·.f0):=by
    rw [List.map_set]
    have e1:(uh.set m L[i] help).f0 = (L.map (·.f0))[i]'(by rw [List.length_map];exact hi):=by
     rw [List.getElem_map]
     unfold uh.set
     split <;> rfl
    rw [e1,List.set_getElem_self]
   refine ⟨he,⟨hbase,.slice (some ⟨gs,0,none⟩) L.length cap,bm,D,?_,?_,?_,?_,hbm⟩,?_,?_,?_⟩
   · exact blk_far hg1 (fun e => hne e.symm) _
   · rw [hset,hle]
     exact ((hown.alloc _).setCell (a:=⟨gs,i * 3 + (if help = true then 2 else 1),none⟩) hnb _)
   · rw [hset]
     exact uh.names hp hnm
   · rw [hset]
     exact Kd.R_drewN hseg q
   · exact ud (Below.setCell (uf hb _) hgs _) q
   · intro k t cells' h1 h2 h3
     have h4:=ua.new_old h1 (.cells #[.string m.f0,.string m.f1,.string m.f2] 51)
     have h5:k ≠ gs:=blk_ne h1 hcs h3
     exact (blk_far h4 h5 _).trans h1.symm
   · show W.heap.size ≤ ((W.alloc _).setCell _ _).heap.size
     rw [World.size_setCell,World.size_alloc]
     omega
 · obtain ⟨A,cap,rfl⟩:=Kd.R_slice hR
   have hkey:=WideMaps.keyOf_string_mk (P:=Tryd.prog) Tryd.underlying9 hm
   have hown1:((W.alloc (.cells #[.string m.f0,.string m.f1,.string m.f2] 51)).drew).ownsMap Tryd.prog 9 (plainElem Tryd.prog 3) bm L.length D:=(hown.alloc _).drew
   obtain ⟨v1,ps,h2,h3⟩:=hown1.look_ok uh.law9 Tryd.underlying61 (uh.zero3 _) (plainElem_int Tryd.underlying3 (by decide)) hkey
   rw [hhas] at h2
   obtain ⟨z1,rfl,_,_⟩:=plainElem_int_inv Tryd.underlying3 h3
   have hw:(Lit.int .i64 (L.length:Int)).wf = true:=by
    have:(L.length:Int) ≤ 1000000000000:=by omega
    simp [Lit.wf,IntKind.min,IntKind.max,IntKind.signed,IntKind.bits]
    omega
   obtain ⟨W2,hup,hown2,hg2⟩:=(hown1.drew).update uh.law9 Tryd.underlying61 (by unfold maxLen;omega) hkey (plainElem_int Tryd.underlying3 hw)
   have hgg:(W.alloc (.cells #[.string m.f0,.string m.f1,.string m.f2] 51)).grownBy W2 (some bm):=⟨hg2.os,hg2.tape,hg2.output,hg2.size,hg2.block⟩
   have hgb:∀ (k t:Nat) (cells:Array Value),W.heap[k]? = some (.cells cells t (0,0)) → W2.heap[k]? = some (.cells cells t (0,0)):=fun k t cells h1 => by
    have hne:some k ≠ some bm:=fun e => by
     injection e with e
     subst e
     obtain ⟨es,clock,hb1,_⟩:=hown
     rw [h1] at hb1
     cases hb1
    exact blk_grown (ua.new_old h1 _) hgg hne
   have hsz2:W.heap.size < W2.heap.size:=by
    have:=hgg.size
    rw [World.size_alloc] at this
    omega
   have hR2:Kd.R k51 51 W2 w0.heap.size (fun _ => True) (.slice A L.length cap) L:=Kd.R_mono (Kd.R_step (Kd.R_bound hR) (fun k hk _ => by
    obtain ⟨_,_,_,q,_,cells,hc⟩:=hk
    exact (hgb k q cells hc).trans hc.symm)) (fun _ _ => trivial)
   have hz2:W2.heap[W.heap.size]? = some (.cells #[.string m.f0,.string m.f1,.string m.f2] 51 (0,0)):=blk_grown (ua.new_at W _) hgg (fun e => by
    injection e with e
    have:=hown.lt
    omega)
   obtain ⟨A3,c3,W3,hap,hR3,hg3⟩:=uh.run_app k51 w0.heap.size 45 51 (.agg #[(.string ⟨#[]⟩),(.string ⟨#[]⟩),(.string ⟨#[]⟩)]) 48 Tryd.underlying45 uh.infoM rfl (by decide) (by decide) W2.drew (.slice A L.length cap) L m [.string m.f0,.string m.f1,.string m.f2] (fun _ => True) (fun _ => False) (k51_mkM _ _ _ m) (fun _ hk => hk.elim) (fun _ _ => trivial) (Kd.R_drew hR2) (by show w0.heap.size ≤ W2.heap.size;have:=hb.size;omega) (by omega)
   have hg3':W2.grownBy W3 (Value.slice A L.length cap).ownBlock:=⟨hg3.os,hg3.tape,hg3.output,hg3.size,hg3.block⟩
   have hty:=Kd.R_typed hR2
   have hgW3:W3.heap[g]? = some (.cells #[.slice A L.length cap,.map (some bm)] 63 (0,0)):=blk_grown (hgb _ _ _ hg) hg3' (Kd.R_ne hR2 (hgb _ _ _ hg) (by decide))
   refine (uh.fresh W W2 W3 g bm L.length z1 m.f0 m.f1 m.f2 help A cap A3 (L.length + 1) c3 hg h2 hup (hgb _ _ _ hg) hz2 hap hgW3).mono ?_
   rintro e W' ⟨he,rfl⟩
   have hnew:=uh.note_new m help L hn
   have hbW2:Below w0.heap.size w0 W2:=(uf hb (.cells #[.string m.f0,.string m.f1,.string m.f2] 51)).grown hgg (by rw [World.size_alloc];have:=hb.size;omega) (fun k hk => by injection hk with hk;omega)
   have hbW3:Below w0.heap.size w0 W3:=hbW2.grown hg3' (by have:=hb.size;omega) (Kd.R_base hR2)
   have hmg:bm ≠ g:=fun e => by
    obtain ⟨es,clock,hb1,_⟩:=hown
    rw [e,hg] at hb1
    cases hb1
   refine ⟨he,⟨hbase,.slice A3 (L.length + 1) c3,bm,D.put (.string m.f0.data.toList) (.lit (.int .i64 (L.length:Int))),?_,?_,?_,?_,hbm⟩,?_,?_,?_⟩
   · rw [blk_set hgW3]
     rfl
   · rw [hnew,List.length_append,List.length_singleton]
     refine World.ownsMap.setCell (a:=⟨g,0,none⟩) ?_ hmg _
     refine World.ownsMap.kept hown2 (w':=W3) hg3' ?_
     intro e1
     obtain ⟨cells,hc⟩:=hty bm e1.symm
     obtain ⟨es,clock,hb1,_⟩:=hown2
     rw [hb1] at hc
     cases hc
   · rw [hnew]
     exact uh.one_more hp m hm hn
   · rw [hnew]
     exact Kd.R_set hR3 hgW3 (by decide) 0 _
   · exact hbW3.setCell hbase _
   · intro k t cells h1 h4 h5
     have h6:=hgb k t cells h1
     have h7:=uh.stay_grown hg3' hty k t cells h6 h4 h5
     have h8:k ≠ g:=blk_ne h1 hg h4
     exact (Below.heap_setCell W3 ⟨g,0,none⟩ _ k h8).trans (h7.trans (h6.trans h1.symm))
   · rw [World.size_setCell]
     have:=hg3'.size
     omega
theorem ui.pre_is (p s:List UInt8):uw.f (Base.ofL s) (Base.ofL p) = some (p.isPrefixOf s):=by
 have hs:(Base.ofL s).size = s.length:=(Tx.cut_ofL s 0 (by omega)).2.2
 have hp:(Base.ofL p).size = p.length:=(Tx.cut_ofL p 0 (by omega)).2.2
 unfold uw.f u1b.f
 rw [hs,hp]
 by_cases h:p.length ≤ s.length
 · have e1:((Base.ofL s).extract 0 ((p.length:Int)).toNat).toList = s.take p.length:=by
    rw [ByteArray.toList_eq,Base.extract_list,Base.ofL_data]
    simp
   have e2:(Base.ofL p).toList = p:=by rw [ByteArray.toList_eq,Base.ofL_data]
   have e4:(s.take p.length == p) = p.isPrefixOf s:=by
    rw [Bool.eq_iff_iff,beq_iff_eq,List.isPrefixOf_iff_prefix]
    constructor
    · intro e
      rw [← e]
      exact List.take_prefix _ _
    · intro e
      exact (List.prefix_iff_eq_take.1 e).symm
   rw [if_pos (by omega),if_pos (by omega),if_pos (by omega),e1,e2,e4]
   rfl
 · have e5:p.isPrefixOf s = false:=by
    cases e:p.isPrefixOf s with
    | false => rfl
    | true => exact absurd (List.IsPrefix.length_le (List.isPrefixOf_iff_prefix.1 e)) h
   rw [if_neg (by omega),e5]
   rfl
theorem ui.known_is (s:List UInt8):text_known.f (Base.ofL s) = some (Tx.knownL s):=by
 have e:(Base.ofL s).toList = s:=by rw [ByteArray.toList_eq,Base.ofL_data]
 unfold text_known.f Tx.knownL Tx.kinds
 rw [e]
 simp only [List.contains_cons,List.contains_nil,Bool.or_false]
 repeat' split
 all_goals first
  | (rename_i h;subst h;rfl)
  | (simp_all;done)
  | (simp_all [beq_iff_eq])
theorem ui.both {s:List UInt8} (h:Tx.typeW.isPrefixOf s = true):Tx.helpW.isPrefixOf s = false:=by
 obtain ⟨t,rfl⟩:=List.isPrefixOf_iff_prefix.1 h
 rfl
theorem ui.pre_len {p s:List UInt8} (h:p.isPrefixOf s = true):p.length ≤ s.length:=List.IsPrefix.length_le (List.isPrefixOf_iff_prefix.1 h)
theorem ui.three {w0 W W4:World} {g:Nat} (hB:Below w0.heap.size w0 W4) (hw:w0.heap.size ≤ W.heap.size) (hk:uz W W4 g none) (u v x:Value):Below w0.heap.size w0 (((W4.setCell ⟨W.heap.size,0,none⟩ u).setCell ⟨W.heap.size,1,none⟩ v).setCell ⟨W.heap.size,2,none⟩ x) ∧ uz W (((W4.setCell ⟨W.heap.size,0,none⟩ u).setCell ⟨W.heap.size,1,none⟩ v).setCell ⟨W.heap.size,2,none⟩ x) g none :=
 ⟨((hB.setCell (p:=⟨W.heap.size,0,none⟩) hw u).setCell (p:=⟨W.heap.size,1,none⟩) hw v).setCell (p:=⟨W.heap.size,2,none⟩) hw x,ua.keep_new (p:=⟨W.heap.size,2,none⟩) (ua.keep_new (p:=⟨W.heap.size,1,none⟩) (ua.keep_new (p:=⟨W.heap.size,0,none⟩) hk (Nat.le_refl _) u) (Nat.le_refl _) v) (Nat.le_refl _) x⟩
theorem ui.res0 (W:World) (t n g:Nat) (b:ByteArray) (hg:g < W.heap.size):(((W.alloc (.cells #[.string ⟨#[]⟩,.string ⟨#[]⟩,.string ⟨#[]⟩] t)).drewN n).setCell ⟨g,0,none⟩ (.string b)).heap[W.heap.size]? = some (.cells #[.string ⟨#[]⟩,.string ⟨#[]⟩,.string ⟨#[]⟩] t (0,0)) :=
 (Below.heap_setCell _ ⟨g,0,none⟩ _ W.heap.size (by show W.heap.size ≠ g;omega)).trans (ua.new_at W _)
def ui.Out (w0 W:World) (g:Nat) (o:Option Tx.Me) (e:Ending) (W':World):Prop:=match o with
 | some m => e = .returned (.agg #[.string m.1,.string m.2.1,.string m.2.2]) ∧ Below w0.heap.size w0 W' ∧ uz W W' g none
 | none => e = .panicked (u1r.chain 280) ∧ Below w0.heap.size w0 W'
theorem ui.out_none {w0 W:World} {g:Nat} {o:Option Tx.Me} (ho:o = none) {W':World} (h1:Below w0.heap.size w0 W'):ui.Out w0 W g o (.panicked (u1r.chain 280)) W':=by
 subst ho
 exact ⟨rfl,h1⟩
theorem ui.out_some {w0 W:World} {g:Nat} {o:Option Tx.Me} {a b c:ByteArray} (ho:o = some (a,b,c)) {W':World} (h2:Below w0.heap.size w0 W') (h3:uz W W' g none):ui.Out w0 W g o (.returned (.agg #[.string a,.string b,.string c])) W':=by
 subst ho
 exact ⟨rfl,h2,h3⟩
set_option maxRecDepth 100000 in
set_option maxHeartbeats 2000000 in
theorem ui.other (w0 W:World) (g:Nat) (s:List UInt8) (hl:s.length ≤ 1000) (hh:Tx.helpW.isPrefixOf s = false) (ht:Tx.typeW.isPrefixOf s = false) (h:ua.St w0 W g s) :
 Calls Tryd.prog 32 #[.pointer (some ⟨g,0,none⟩)] W fun e W' => ui.Out w0 W g (Tx.remarkP s) e W':=by
 have HE:Aside0 (Tx.remarkP s = some (Base.ofL [],Base.ofL [],Base.ofL [])):=⟨by unfold Tx.remarkP;rw [hh,ht];rfl⟩
 have H1:Aside0 (uw.f (Base.ofL s) (⟨#[35,32,72,69,76,80,32]⟩:ByteArray) = some false):=⟨(ui.pre_is Tx.helpW s).trans (by rw [hh])⟩
 have H2:Aside0 (uw.f (Base.ofL s) (⟨#[35,32,84,89,80,69,32]⟩:ByteArray) = some false):=⟨(ui.pre_is Tx.typeW s).trans (by rw [ht])⟩
 have HS:=Aside0.mk h
 have hS1:=h.one_more (.cells #[.string ⟨#[]⟩,.string ⟨#[]⟩,.string ⟨#[]⟩] 51)
 obtain ⟨h0,f0⟩:=hS1.look
 clear h hh ht hS1
 go_enter Tryd.func32,Tryd.ntmps32
 go_wp2_with fail
 go_quiet (first
  | (go_at_call 24;(with_reducible refine (uw.calls _ _ _ _ H1.out).mono ?_);rintro e w' ⟨rfl,⟨nd,rfl⟩⟩;exact ⟨rfl,_,World.drewN_drewN _ _ _⟩)
  | (go_at_call 24;(with_reducible refine (uw.calls _ _ _ _ H2.out).mono ?_);rintro e w' ⟨rfl,⟨nd,rfl⟩⟩;exact ⟨rfl,_,World.drewN_drewN _ _ _⟩))
 go_wp2
 refine bodyPost_ret (v:=.agg #[.string ⟨#[]⟩,.string ⟨#[]⟩,.string ⟨#[]⟩]) (by simp [results,Tryd.results32,go_sem]) rfl (ui.out_some HE.out ?_ ?_)
 · exact (ui.three (g:=g) (u1k HS.out.below HS.out.below.size (ud (uf (Below.refl _ _) _) nq)) HS.out.below.size (keep_drewN (keep_alloc (uz.refl _ _ _) _) nq) _ _ _).1
 · exact (ui.three (g:=g) (u1k HS.out.below HS.out.below.size (ud (uf (Below.refl _ _) _) nq)) HS.out.below.size (keep_drewN (keep_alloc (uz.refl _ _ _) _) nq) _ _ _).2
set_option maxRecDepth 100000 in
set_option maxHeartbeats 4000000 in
theorem ui.help (w0 W:World) (g:Nat) (s:List UInt8) (hl:s.length ≤ 1000) (hh:Tx.helpW.isPrefixOf s = true) (ht:Tx.typeW.isPrefixOf s = false) (h:ua.St w0 W g s) :
 Calls Tryd.prog 32 #[.pointer (some ⟨g,0,none⟩)] W fun e W' => ui.Out w0 W g (Tx.remarkP s) e W':=by
 have H1:Aside0 (uw.f (Base.ofL s) (⟨#[35,32,72,69,76,80,32]⟩:ByteArray) = some true):=⟨(ui.pre_is Tx.helpW s).trans (by rw [hh])⟩
 have H2:Aside0 (uw.f (Base.ofL s) (⟨#[35,32,84,89,80,69,32]⟩:ByteArray) = some false):=⟨(ui.pre_is Tx.typeW s).trans (by rw [ht])⟩
 have HS:=Aside0.mk h
 have HG:=Aside0.mk h.lt
 have hS1:=h.one_more (.cells #[.string ⟨#[]⟩,.string ⟨#[]⟩,.string ⟨#[]⟩] 51)
 obtain ⟨h0,f0⟩:=hS1.look
 have h7:7 ≤ s.length:=ui.pre_len hh
 have hdl:(s.drop 7).length ≤ 1000:=by rw [List.length_drop];omega
 have hsz:(Base.ofL s).size = s.length:=(Tx.cut_ofL s 0 (by omega)).2.2
 have hcut:(Base.ofL s).extract 7 s.length = Base.ofL (s.drop 7):=by
  have:=(Tx.cut_ofL s 7 h7).2.1
  rwa [hsz] at this
 have HO:Aside0 (Tx.remarkP s = (Tx.nameP (s.drop 7)).bind fun p => (Tx.expectP [32] p.2).bind fun r => if Tx.plainL r = true then some (p.1,Base.ofL [],Base.ofL r) else none):=⟨by unfold Tx.remarkP;rw [hh,ht];rfl⟩
 generalize hoo:Tx.remarkP s = o at HO ⊢
 clear hoo h hh ht hS1
 cases hn:Tx.nameP (s.drop 7) with
 | none =>
   have HE:Aside0 (o = none):=⟨by rw [HO.out,hn];rfl⟩
   have HN:=Aside0.mk hn
   clear hn HO
   go_enter Tryd.func32,Tryd.ntmps32
   go_wp2_with fail
   go_quiet (first
    | (go_at_call 24;(with_reducible refine (uw.calls _ _ _ _ H1.out).mono ?_);rintro e w' ⟨rfl,⟨nd,rfl⟩⟩;exact ⟨rfl,_,World.drewN_drewN _ _ _⟩)
    | (go_at_call 24;(with_reducible refine (uw.calls _ _ _ _ H2.out).mono ?_);rintro e w' ⟨rfl,⟨nd,rfl⟩⟩;exact ⟨rfl,_,World.drewN_drewN _ _ _⟩))
   go_wp2_with (first
    | (go_at_call 43;(with_reducible refine (u1p.calls_no w0 _ g (s.drop 7) (by omega) HN.out (by exact ((HS.out.one_more _).drew nq).set _)).mono ?_);rintro e W2 ⟨rfl,hb2⟩))
   exact ⟨rfl,ui.out_none HE.out hb2⟩
 | some p =>
   obtain ⟨n,r⟩:=p
   have hr:=us.name_rest hn
   have HN:=Aside0.mk hn
   cases he:Tx.expectP [32] r with
   | none =>
     have HE2:Aside0 (o = none):=⟨by rw [HO.out,hn];simp only [Option.bind_some];rw [he];rfl⟩
     have HE:=Aside0.mk ((us.expect_is 32 r).2 he)
     clear hn he HO
     go_enter Tryd.func32,Tryd.ntmps32
     go_wp2_with fail
     go_quiet (first
      | (go_at_call 24;(with_reducible refine (uw.calls _ _ _ _ H1.out).mono ?_);rintro e w' ⟨rfl,⟨nd,rfl⟩⟩;exact ⟨rfl,_,World.drewN_drewN _ _ _⟩)
      | (go_at_call 24;(with_reducible refine (uw.calls _ _ _ _ H2.out).mono ?_);rintro e w' ⟨rfl,⟨nd,rfl⟩⟩;exact ⟨rfl,_,World.drewN_drewN _ _ _⟩))
     go_wp2_with (first
      | (go_at_call 43;(with_reducible refine (u1p.calls_ok w0 _ g (s.drop 7) (by omega) n r HN.out (by exact ((HS.out.one_more _).drew nq).set _)).mono ?_);rintro e W2 ⟨rfl,hs2,hk2⟩;have HS2:=Aside0.mk hs2;have HL2:Aside0 (W.heap.size < W2.heap.size):=⟨by have:=hk2.1;simp at this;omega⟩;have B2:=Aside0.mk (ua.kept_at hk2 (by have:=HG.out;omega) (ui.res0 W 51 nq g (Base.ofL (s.drop 7)) HG.out));have HK2:=Aside0.mk (ua.keep_then ((keep_drewN (keep_alloc (uz.refl W g none) (.cells #[.string ⟨#[]⟩,.string ⟨#[]⟩,.string ⟨#[]⟩] 51)) nq).set_ 0 (.string (Base.ofL (s.drop 7)))) hk2);clear hs2 hk2)
      | (go_at_call 44;(with_reducible refine (ux.calls_no w0 _ g 32 r HE.out (by exact HS2.out.one_more _)).mono ?_);rintro e W3 ⟨rfl,hb3⟩))
     exact ⟨rfl,ui.out_none HE2.out hb3⟩
   | some t =>
     have hrt:=(us.expect_is 32 r).1 t he
     have HV:Aside0 (o = if Tx.plainL t = true then some (n,Base.ofL [],Base.ofL t) else none):=⟨by rw [HO.out,hn];simp only [Option.bind_some];rw [he];rfl⟩
     subst hrt
     rw [List.length_cons] at hr
     clear hn he HO
     cases htt:Tx.plainL t with
     | false =>
       have HE:Aside0 (o = none):=⟨by rw [HV.out,htt];rfl⟩
       have HT:Aside0 (Tx.plainL t = false):=⟨htt⟩
       clear htt HV
       go_enter Tryd.func32,Tryd.ntmps32
       go_wp2_with fail
       go_quiet (first
        | (go_at_call 24;(with_reducible refine (uw.calls _ _ _ _ H1.out).mono ?_);rintro e w' ⟨rfl,⟨nd,rfl⟩⟩;exact ⟨rfl,_,World.drewN_drewN _ _ _⟩)
        | (go_at_call 24;(with_reducible refine (uw.calls _ _ _ _ H2.out).mono ?_);rintro e w' ⟨rfl,⟨nd,rfl⟩⟩;exact ⟨rfl,_,World.drewN_drewN _ _ _⟩))
       go_wp2_with (first
        | (go_at_call 43;(with_reducible refine (u1p.calls_ok w0 _ g (s.drop 7) (by omega) n (32 :: t) HN.out (by exact ((HS.out.one_more _).drew nq).set _)).mono ?_);rintro e W2 ⟨rfl,hs2,hk2⟩;have HS2:=Aside0.mk hs2;have HL2:Aside0 (W.heap.size < W2.heap.size):=⟨by have:=hk2.1;simp at this;omega⟩;have B2:=Aside0.mk (ua.kept_at hk2 (by have:=HG.out;omega) (ui.res0 W 51 nq g (Base.ofL (s.drop 7)) HG.out));have HK2:=Aside0.mk (ua.keep_then ((keep_drewN (keep_alloc (uz.refl W g none) (.cells #[.string ⟨#[]⟩,.string ⟨#[]⟩,.string ⟨#[]⟩] 51)) nq).set_ 0 (.string (Base.ofL (s.drop 7)))) hk2);clear hs2 hk2)
        | (go_at_call 44;(with_reducible refine (ux.calls_ok w0 _ g 32 t (by exact HS2.out.one_more _)).mono ?_);rintro e W3 ⟨rfl,hs3,hk3⟩;have HS3:=Aside0.mk hs3;have B3:=Aside0.mk (ua.kept_at (b:=W.heap.size) hk3 (by have:=HG.out;omega) (ua.new_old B2.out _));have C3:=Aside0.mk (ua.kept_at hk3 (by have:=HG.out;have:=HL2.out;omega) (ua.new_at W2 _));have HK3:=Aside0.mk (ua.keep_then HK2.out (ua.keep_from hk3));clear h0 f0;obtain ⟨h0,f0⟩:=hs3.look;clear hs3 hk3)
        | (go_at_call 47;(with_reducible refine (u1x.calls t (by omega) _).mono ?_);rw [HT.out];rintro e W4 ⟨rfl,hb4⟩;have HS4:=Aside0.mk (HS3.out.more hb4);have B4:=Aside0.mk (ua.below_at hb4 B3.out);have C4:=Aside0.mk (ua.below_at hb4 C3.out);have HK4:=Aside0.mk (ua.keep_then HK3.out (uz.of_below hb4 g none));clear h0 f0;obtain ⟨h0,f0⟩:=HS4.out.look;obtain ⟨⟨a0,a1,a2⟩,a3,a4,a5⟩:=uc.look3 B4.out;obtain ⟨⟨c0,c1,c2⟩,c3,c4,c5⟩:=uc.look3 C4.out;clear hb4)
        | (go_at_call 45;(with_reducible refine (u1l.calls_no _).mono ?_);rintro e W5 ⟨rfl,rfl⟩))
       exact ⟨rfl,ui.out_none HE.out HS4.out.below⟩
     | true =>
       have HE:Aside0 (o = some (n,Base.ofL [],Base.ofL t)):=⟨by rw [HV.out,htt];rfl⟩
       have HT:Aside0 (Tx.plainL t = true):=⟨htt⟩
       have N1:Aside0 (g < W.heap.size):=⟨HG.out⟩
       clear htt HV
       go_enter Tryd.func32,Tryd.ntmps32
       go_wp2_with fail
       go_quiet (first
        | (go_at_call 24;(with_reducible refine (uw.calls _ _ _ _ H1.out).mono ?_);rintro e w' ⟨rfl,⟨nd,rfl⟩⟩;exact ⟨rfl,_,World.drewN_drewN _ _ _⟩)
        | (go_at_call 24;(with_reducible refine (uw.calls _ _ _ _ H2.out).mono ?_);rintro e w' ⟨rfl,⟨nd,rfl⟩⟩;exact ⟨rfl,_,World.drewN_drewN _ _ _⟩))
       go_wp2_with (first
        | (go_at_call 43;(with_reducible refine (u1p.calls_ok w0 _ g (s.drop 7) (by omega) n (32 :: t) HN.out (by exact ((HS.out.one_more _).drew nq).set _)).mono ?_);rintro e W2 ⟨rfl,hs2,hk2⟩;have HS2:=Aside0.mk hs2;have HL2:Aside0 (W.heap.size < W2.heap.size):=⟨by have:=hk2.1;simp at this;omega⟩;have B2:=Aside0.mk (ua.kept_at hk2 (by have:=HG.out;omega) (ui.res0 W 51 nq g (Base.ofL (s.drop 7)) HG.out));have HK2:=Aside0.mk (ua.keep_then ((keep_drewN (keep_alloc (uz.refl W g none) (.cells #[.string ⟨#[]⟩,.string ⟨#[]⟩,.string ⟨#[]⟩] 51)) nq).set_ 0 (.string (Base.ofL (s.drop 7)))) hk2);clear hs2 hk2)
        | (go_at_call 44;(with_reducible refine (ux.calls_ok w0 _ g 32 t (by exact HS2.out.one_more _)).mono ?_);rintro e W3 ⟨rfl,hs3,hk3⟩;have HS3:=Aside0.mk hs3;have B3:=Aside0.mk (ua.kept_at (b:=W.heap.size) hk3 (by have:=HG.out;omega) (ua.new_old B2.out _));have C3:=Aside0.mk (ua.kept_at hk3 (by have:=HG.out;have:=HL2.out;omega) (ua.new_at W2 _));have HK3:=Aside0.mk (ua.keep_then HK2.out (ua.keep_from hk3));clear h0 f0;obtain ⟨h0,f0⟩:=hs3.look;clear hs3 hk3)
        | (go_at_call 47;(with_reducible refine (u1x.calls t (by omega) _).mono ?_);rw [HT.out];rintro e W4 ⟨rfl,hb4⟩;have HS4:=Aside0.mk (HS3.out.more hb4);have B4:=Aside0.mk (ua.below_at hb4 B3.out);have C4:=Aside0.mk (ua.below_at hb4 C3.out);have HK4:=Aside0.mk (ua.keep_then HK3.out (uz.of_below hb4 g none));clear h0 f0;obtain ⟨h0,f0⟩:=HS4.out.look;obtain ⟨⟨a0,a1,a2⟩,a3,a4,a5⟩:=uc.look3 B4.out;obtain ⟨⟨c0,c1,c2⟩,c3,c4,c5⟩:=uc.look3 C4.out;clear hb4;have n1:¬ W2.heap.size = g:=(by have:=HG.out;have:=HL2.out;omega);have n2:¬ W.heap.size = g:=(by have:=HG.out;omega);have n3:¬ W.heap.size = W2.heap.size:=(by have:=HL2.out;omega);have n4:¬ g = W2.heap.size:=fun e => n1 e.symm;have n5:¬ g = W.heap.size:=fun e => n2 e.symm;have n6:¬ W2.heap.size = W.heap.size:=fun e => n3 e.symm)
        | (go_at_call 45;(with_reducible refine (u1l.calls_ok _).mono ?_);rintro e W5 ⟨rfl,rfl⟩))
       refine bodyPost_ret (v:=.agg #[.string n,.string ⟨#[]⟩,.string (Base.ofL t)]) (by simp [results,Tryd.results32,go_sem,a0,a1,a2,n1,n2,n3,n4,n5,n6]) rfl ?_
       have hw:w0.heap.size ≤ W.heap.size:=HS.out.below.size
       have hw2:w0.heap.size ≤ W2.heap.size:=HS2.out.below.size
       have h3:=ui.three (u:=.string n) (v:=.string ⟨#[]⟩) (x:=.string (Base.ofL t)) (HS4.out.below.setCell (p:=⟨W2.heap.size,2,none⟩) hw2 (.string (Base.ofL t))) hw (ua.keep_new (p:=⟨W2.heap.size,2,none⟩) HK4.out (by have:=HL2.out;show W.heap.size ≤ W2.heap.size;omega) (.string (Base.ofL t)))
       exact ui.out_some HE.out h3.1 h3.2
set_option maxRecDepth 100000 in
set_option maxHeartbeats 4000000 in
theorem ui.type (w0 W:World) (g:Nat) (s:List UInt8) (hl:s.length ≤ 1000) (hh:Tx.helpW.isPrefixOf s = false) (ht:Tx.typeW.isPrefixOf s = true) (h:ua.St w0 W g s) :
 Calls Tryd.prog 32 #[.pointer (some ⟨g,0,none⟩)] W fun e W' => ui.Out w0 W g (Tx.remarkP s) e W':=by
 have H1:Aside0 (uw.f (Base.ofL s) (⟨#[35,32,72,69,76,80,32]⟩:ByteArray) = some false):=⟨(ui.pre_is Tx.helpW s).trans (by rw [hh])⟩
 have H2:Aside0 (uw.f (Base.ofL s) (⟨#[35,32,84,89,80,69,32]⟩:ByteArray) = some true):=⟨(ui.pre_is Tx.typeW s).trans (by rw [ht])⟩
 have HS:=Aside0.mk h
 have HG:=Aside0.mk h.lt
 have hS1:=h.one_more (.cells #[.string ⟨#[]⟩,.string ⟨#[]⟩,.string ⟨#[]⟩] 51)
 obtain ⟨h0,f0⟩:=hS1.look
 have h7:7 ≤ s.length:=ui.pre_len ht
 have hdl:(s.drop 7).length ≤ 1000:=by rw [List.length_drop];omega
 have hsz:(Base.ofL s).size = s.length:=(Tx.cut_ofL s 0 (by omega)).2.2
 have hcut:(Base.ofL s).extract 7 s.length = Base.ofL (s.drop 7):=by
  have:=(Tx.cut_ofL s 7 h7).2.1
  rwa [hsz] at this
 have HO:Aside0 (Tx.remarkP s = (Tx.nameP (s.drop 7)).bind fun p => (Tx.expectP [32] p.2).bind fun r => if Tx.knownL r = true then some (p.1,Base.ofL r,Base.ofL []) else none):=⟨by unfold Tx.remarkP;rw [hh,ht];rfl⟩
 generalize hoo:Tx.remarkP s = o at HO ⊢
 clear hoo h hh ht hS1
 cases hn:Tx.nameP (s.drop 7) with
 | none =>
   have HE:Aside0 (o = none):=⟨by rw [HO.out,hn];rfl⟩
   have HN:=Aside0.mk hn
   clear hn HO
   go_enter Tryd.func32,Tryd.ntmps32
   go_wp2_with fail
   go_quiet (first
    | (go_at_call 24;(with_reducible refine (uw.calls _ _ _ _ H1.out).mono ?_);rintro e w' ⟨rfl,⟨nd,rfl⟩⟩;exact ⟨rfl,_,World.drewN_drewN _ _ _⟩)
    | (go_at_call 24;(with_reducible refine (uw.calls _ _ _ _ H2.out).mono ?_);rintro e w' ⟨rfl,⟨nd,rfl⟩⟩;exact ⟨rfl,_,World.drewN_drewN _ _ _⟩))
   go_wp2_with (first
    | (go_at_call 43;(with_reducible refine (u1p.calls_no w0 _ g (s.drop 7) (by omega) HN.out (by exact ((HS.out.one_more _).drew nq).set _)).mono ?_);rintro e W2 ⟨rfl,hb2⟩))
   exact ⟨rfl,ui.out_none HE.out hb2⟩
 | some p =>
   obtain ⟨n,r⟩:=p
   have hr:=us.name_rest hn
   have HN:=Aside0.mk hn
   cases he:Tx.expectP [32] r with
   | none =>
     have HE2:Aside0 (o = none):=⟨by rw [HO.out,hn];simp only [Option.bind_some];rw [he];rfl⟩
     have HE:=Aside0.mk ((us.expect_is 32 r).2 he)
     clear hn he HO
     go_enter Tryd.func32,Tryd.ntmps32
     go_wp2_with fail
     go_quiet (first
      | (go_at_call 24;(with_reducible refine (uw.calls _ _ _ _ H1.out).mono ?_);rintro e w' ⟨rfl,⟨nd,rfl⟩⟩;exact ⟨rfl,_,World.drewN_drewN _ _ _⟩)
      | (go_at_call 24;(with_reducible refine (uw.calls _ _ _ _ H2.out).mono ?_);rintro e w' ⟨rfl,⟨nd,rfl⟩⟩;exact ⟨rfl,_,World.drewN_drewN _ _ _⟩))
     go_wp2_with (first
      | (go_at_call 43;(with_reducible refine (u1p.calls_ok w0 _ g (s.drop 7) (by omega) n r HN.out (by exact ((HS.out.one_more _).drew nq).set _)).mono ?_);rintro e W2 ⟨rfl,hs2,hk2⟩;have HS2:=Aside0.mk hs2;have HL2:Aside0 (W.heap.size < W2.heap.size):=⟨by have:=hk2.1;simp at this;omega⟩;have B2:=Aside0.mk (ua.kept_at hk2 (by have:=HG.out;omega) (ui.res0 W 51 nq g (Base.ofL (s.drop 7)) HG.out));have HK2:=Aside0.mk (ua.keep_then ((keep_drewN (keep_alloc (uz.refl W g none) (.cells #[.string ⟨#[]⟩,.string ⟨#[]⟩,.string ⟨#[]⟩] 51)) nq).set_ 0 (.string (Base.ofL (s.drop 7)))) hk2);clear hs2 hk2)
      | (go_at_call 44;(with_reducible refine (ux.calls_no w0 _ g 32 r HE.out (by exact HS2.out.one_more _)).mono ?_);rintro e W3 ⟨rfl,hb3⟩))
     exact ⟨rfl,ui.out_none HE2.out hb3⟩
   | some t =>
     have hrt:=(us.expect_is 32 r).1 t he
     have HV:Aside0 (o = if Tx.knownL t = true then some (n,Base.ofL t,Base.ofL []) else none):=⟨by rw [HO.out,hn];simp only [Option.bind_some];rw [he];rfl⟩
     subst hrt
     rw [List.length_cons] at hr
     clear hn he HO
     cases htt:Tx.knownL t with
     | false =>
       have HE:Aside0 (o = none):=⟨by rw [HV.out,htt];rfl⟩
       have HT:Aside0 (text_known.f (Base.ofL t) = some false):=⟨(ui.known_is t).trans (by rw [htt])⟩
       clear htt HV
       go_enter Tryd.func32,Tryd.ntmps32
       go_wp2_with fail
       go_quiet (first
        | (go_at_call 24;(with_reducible refine (uw.calls _ _ _ _ H1.out).mono ?_);rintro e w' ⟨rfl,⟨nd,rfl⟩⟩;exact ⟨rfl,_,World.drewN_drewN _ _ _⟩)
        | (go_at_call 24;(with_reducible refine (uw.calls _ _ _ _ H2.out).mono ?_);rintro e w' ⟨rfl,⟨nd,rfl⟩⟩;exact ⟨rfl,_,World.drewN_drewN _ _ _⟩))
       go_wp2_with (first
        | (go_at_call 43;(with_reducible refine (u1p.calls_ok w0 _ g (s.drop 7) (by omega) n (32 :: t) HN.out (by exact ((HS.out.one_more _).drew nq).set _)).mono ?_);rintro e W2 ⟨rfl,hs2,hk2⟩;have HS2:=Aside0.mk hs2;have HL2:Aside0 (W.heap.size < W2.heap.size):=⟨by have:=hk2.1;simp at this;omega⟩;have B2:=Aside0.mk (ua.kept_at hk2 (by have:=HG.out;omega) (ui.res0 W 51 nq g (Base.ofL (s.drop 7)) HG.out));have HK2:=Aside0.mk (ua.keep_then ((keep_drewN (keep_alloc (uz.refl W g none) (.cells #[.string ⟨#[]⟩,.string ⟨#[]⟩,.string ⟨#[]⟩] 51)) nq).set_ 0 (.string (Base.ofL (s.drop 7)))) hk2);clear hs2 hk2)
        | (go_at_call 44;(with_reducible refine (ux.calls_ok w0 _ g 32 t (by exact HS2.out.one_more _)).mono ?_);rintro e W3 ⟨rfl,hs3,hk3⟩;have HS3:=Aside0.mk hs3;have B3:=Aside0.mk (ua.kept_at (b:=W.heap.size) hk3 (by have:=HG.out;omega) (ua.new_old B2.out _));have C3:=Aside0.mk (ua.kept_at hk3 (by have:=HG.out;have:=HL2.out;omega) (ua.new_at W2 _));have HK3:=Aside0.mk (ua.keep_then HK2.out (ua.keep_from hk3));clear h0 f0;obtain ⟨h0,f0⟩:=hs3.look;clear hs3 hk3)
        | (go_at_call 46;(with_reducible refine (text_known.calls _ _ _ HT.out).mono ?_);rintro e W4 ⟨rfl,⟨kd,rfl⟩⟩;have HS4:=Aside0.mk (HS3.out.drew kd);have B4:=Aside0.mk (ua.below_at (ud (Below.refl _ _) kd) B3.out);have C4:=Aside0.mk (ua.below_at (ud (Below.refl _ _) kd) C3.out);have HK4:=Aside0.mk (keep_drewN HK3.out kd);obtain ⟨⟨a0,a1,a2⟩,a3,a4,a5⟩:=uc.look3 B3.out;obtain ⟨⟨c0,c1,c2⟩,c3,c4,c5⟩:=uc.look3 C3.out)
        | (go_at_call 45;(with_reducible refine (u1l.calls_no _).mono ?_);rintro e W5 ⟨rfl,rfl⟩))
       exact ⟨rfl,ui.out_none HE.out HS4.out.below⟩
     | true =>
       have HE:Aside0 (o = some (n,Base.ofL t,Base.ofL [])):=⟨by rw [HV.out,htt];rfl⟩
       have HT:Aside0 (text_known.f (Base.ofL t) = some true):=⟨(ui.known_is t).trans (by rw [htt])⟩
       have N1:Aside0 (g < W.heap.size):=⟨HG.out⟩
       clear htt HV
       go_enter Tryd.func32,Tryd.ntmps32
       go_wp2_with fail
       go_quiet (first
        | (go_at_call 24;(with_reducible refine (uw.calls _ _ _ _ H1.out).mono ?_);rintro e w' ⟨rfl,⟨nd,rfl⟩⟩;exact ⟨rfl,_,World.drewN_drewN _ _ _⟩)
        | (go_at_call 24;(with_reducible refine (uw.calls _ _ _ _ H2.out).mono ?_);rintro e w' ⟨rfl,⟨nd,rfl⟩⟩;exact ⟨rfl,_,World.drewN_drewN _ _ _⟩))
       go_wp2_with (first
        | (go_at_call 43;(with_reducible refine (u1p.calls_ok w0 _ g (s.drop 7) (by omega) n (32 :: t) HN.out (by exact ((HS.out.one_more _).drew nq).set _)).mono ?_);rintro e W2 ⟨rfl,hs2,hk2⟩;have HS2:=Aside0.mk hs2;have HL2:Aside0 (W.heap.size < W2.heap.size):=⟨by have:=hk2.1;simp at this;omega⟩;have B2:=Aside0.mk (ua.kept_at hk2 (by have:=HG.out;omega) (ui.res0 W 51 nq g (Base.ofL (s.drop 7)) HG.out));have HK2:=Aside0.mk (ua.keep_then ((keep_drewN (keep_alloc (uz.refl W g none) (.cells #[.string ⟨#[]⟩,.string ⟨#[]⟩,.string ⟨#[]⟩] 51)) nq).set_ 0 (.string (Base.ofL (s.drop 7)))) hk2);clear hs2 hk2)
        | (go_at_call 44;(with_reducible refine (ux.calls_ok w0 _ g 32 t (by exact HS2.out.one_more _)).mono ?_);rintro e W3 ⟨rfl,hs3,hk3⟩;have HS3:=Aside0.mk hs3;have B3:=Aside0.mk (ua.kept_at (b:=W.heap.size) hk3 (by have:=HG.out;omega) (ua.new_old B2.out _));have C3:=Aside0.mk (ua.kept_at hk3 (by have:=HG.out;have:=HL2.out;omega) (ua.new_at W2 _));have HK3:=Aside0.mk (ua.keep_then HK2.out (ua.keep_from hk3));clear h0 f0;obtain ⟨h0,f0⟩:=hs3.look;clear hs3 hk3)
        | (go_at_call 46;(with_reducible refine (text_known.calls _ _ _ HT.out).mono ?_);rintro e W4 ⟨rfl,⟨kd,rfl⟩⟩;have HS4:=Aside0.mk (HS3.out.drew kd);have B4:=Aside0.mk (ua.below_at (ud (Below.refl _ _) kd) B3.out);have C4:=Aside0.mk (ua.below_at (ud (Below.refl _ _) kd) C3.out);have HK4:=Aside0.mk (keep_drewN HK3.out kd);obtain ⟨⟨a0,a1,a2⟩,a3,a4,a5⟩:=uc.look3 B3.out;obtain ⟨⟨c0,c1,c2⟩,c3,c4,c5⟩:=uc.look3 C3.out;have n1:¬ W2.heap.size = g:=(by have:=HG.out;have:=HL2.out;omega);have n2:¬ W.heap.size = g:=(by have:=HG.out;omega);have n3:¬ W.heap.size = W2.heap.size:=(by have:=HL2.out;omega);have n4:¬ g = W2.heap.size:=fun e => n1 e.symm;have n5:¬ g = W.heap.size:=fun e => n2 e.symm;have n6:¬ W2.heap.size = W.heap.size:=fun e => n3 e.symm)
        | (go_at_call 45;(with_reducible refine (u1l.calls_ok _).mono ?_);rintro e W5 ⟨rfl,rfl⟩))
       refine bodyPost_ret (v:=.agg #[.string n,.string (Base.ofL t),.string ⟨#[]⟩]) (by simp [results,Tryd.results32,go_sem,a0,a1,a2,n1,n2,n3,n4,n5,n6]) rfl ?_
       have hw:w0.heap.size ≤ W.heap.size:=HS.out.below.size
       have hw2:w0.heap.size ≤ W2.heap.size:=HS2.out.below.size
       have h3:=ui.three (u:=.string n) (v:=.string (Base.ofL t)) (x:=.string ⟨#[]⟩) (HS4.out.below.setCell (p:=⟨W2.heap.size,1,none⟩) hw2 (.string (Base.ofL t))) hw (ua.keep_new (p:=⟨W2.heap.size,1,none⟩) HK4.out (by have:=HL2.out;show W.heap.size ≤ W2.heap.size;omega) (.string (Base.ofL t)))
       exact ui.out_some HE.out h3.1 h3.2
theorem ui.calls (w0 W:World) (g:Nat) (s:List UInt8) (hl:s.length ≤ 1000) (h:ua.St w0 W g s) :
 Calls Tryd.prog 32 #[.pointer (some ⟨g,0,none⟩)] W fun e W' => ui.Out w0 W g (Tx.remarkP s) e W':=by
 cases ht:Tx.typeW.isPrefixOf s with
 | true => exact ui.type w0 W g s hl (ui.both ht) ht h
 | false =>
   cases hh:Tx.helpW.isPrefixOf s with
   | true => exact ui.help w0 W g s hl hh ht h
   | false => exact ui.other w0 W g s hl hh ht h
def ue.f:Option Int:=none
theorem ue.ta_nil (w:World):(Instr.typeAssert Value.nilIface 20 71 true).run Tryd.prog w = .ok (.tuple #[.agg #[.int .i64 0],.bool false]) w:=by kernel_rfl
theorem ue.ta_hit (c:Int) (w:World):(Instr.typeAssert (Value.iface 71 (.agg #[.int .i64 c])) 20 71 true).run Tryd.prog w = .ok (.tuple #[.agg #[.int .i64 c],.bool true]) w:=by kernel_rfl
set_option maxRecDepth 100000 in
theorem ue.catch_idle (p q:Addr) (w:World) :
 CallsD Tryd.prog 28 #[.pointer (some p),.pointer (some q)] .returning w fun e u' w' => e = .returned (.tuple #[]) ∧ u' = .returning ∧ w' = w.alloc (.cells #[.int .i64 0] 71):=by
 have h1:=ue.ta_nil
 refine callsD_of_wpS Tryd.func28 rfl fun c₀ cs hu => ?_
 apply wpS_seq
 apply wpS_region
 simp [wpOpsS,go_sem,recoverD,hu,Tryd.ntmps28,Exit.thenS,h1,Array.replicate]
 refine wpS_of_wp ?_
 go_wp2
 cases c₀
 simp_all [bodyPostS,results,Tryd.results28]
structure ue.Cleared (w w':World) (b q:Nat) (c:Int):Prop where
 said:w'.heap[b]? = some (.cells #[.slice none 0 0,.int .i64 0,.int .u64 0,.bool false,.string ⟨#[]⟩,.string ⟨#[]⟩,.string ⟨#[]⟩] 53 (0,0))
 code:w'.heap[q]? = some (.cells #[.int .i64 c] 26 (0,0))
 rest:∀ B,B ≤ w.heap.size → B ≤ b → B ≤ q → Below B w w'
theorem ue.look7 {W:World} {b t:Nat} {v0 v1 v2 v3 v4 v5 v6:Value} (h:W.heap[b]? = some (.cells #[v0,v1,v2,v3,v4,v5,v6] t (0,0))):(W.cell? ⟨b,0,none⟩ = some v0 ∧ W.cell? ⟨b,1,none⟩ = some v1 ∧ W.cell? ⟨b,2,none⟩ = some v2 ∧ W.cell? ⟨b,3,none⟩ = some v3 ∧ W.cell? ⟨b,4,none⟩ = some v4 ∧ W.cell? ⟨b,5,none⟩ = some v5 ∧ W.cell? ⟨b,6,none⟩ = some v6) ∧ (∀ i,W.frozen? ⟨b,i,none⟩ = false):=by
 have h0:=u1f h 0
 have h1:=u1f h 1
 have h2:=u1f h 2
 have h3:=u1f h 3
 have h4:=u1f h 4
 have h5:=u1f h 5
 have h6:=u1f h 6
 simp only [List.size_toArray,List.length_cons,List.length_nil,List.getElem?_toArray,List.getElem?_cons_zero,List.getElem?_cons_succ] at h0 h1 h2 h3 h4 h5 h6
 exact ⟨⟨h0,h1,h2,h3,h4,h5,h6⟩,fun i => u1a h i⟩
theorem ue.look1 {W:World} {b t:Nat} {v:Value} (h:W.heap[b]? = some (.cells #[v] t (0,0))):W.cell? ⟨b,0,none⟩ = some v ∧ W.frozen? ⟨b,0,none⟩ = false:=by
 have h0:=u1f h 0
 simp only [List.size_toArray,List.length_cons,List.length_nil,List.getElem?_toArray,List.getElem?_cons_zero,List.getElem?_cons_succ] at h0
 exact ⟨h0,u1a h 0⟩
theorem ue.set7 {W:World} {b t:Nat} {v0 v1 v2 v3 v4 v5 v6:Value} (h:W.heap[b]? = some (.cells #[v0,v1,v2,v3,v4,v5,v6] t (0,0))) (u0 u1 u2 u3 u4 u5 u6:Value):(((((((W.setCell ⟨b,0,none⟩ u0).setCell ⟨b,1,none⟩ u1).setCell ⟨b,2,none⟩ u2).setCell ⟨b,3,none⟩ u3).setCell ⟨b,4,none⟩ u4).setCell ⟨b,5,none⟩ u5).setCell ⟨b,6,none⟩ u6).heap[b]? = some (.cells #[u0,u1,u2,u3,u4,u5,u6] t (0,0)):=by
 have h0:=blk_set h 0 u0
 have h1:=blk_set h0 1 u1
 have h2:=blk_set h1 2 u2
 have h3:=blk_set h2 3 u3
 have h4:=blk_set h3 4 u4
 have h5:=blk_set h4 5 u5
 have h6:=blk_set h5 6 u6
 simp only [List.setIfInBounds_toArray,List.set_cons_zero,List.set_cons_succ] at h6
 exact h6
theorem ue.below7 {w W:World} {B b:Nat} (h:Below B w W) (hb:B ≤ b) (u0 u1 u2 u3 u4 u5 u6:Value):Below B w (((((((W.setCell ⟨b,0,none⟩ u0).setCell ⟨b,1,none⟩ u1).setCell ⟨b,2,none⟩ u2).setCell ⟨b,3,none⟩ u3).setCell ⟨b,4,none⟩ u4).setCell ⟨b,5,none⟩ u5).setCell ⟨b,6,none⟩ u6):=by
 have h0:=h.setCell (p:=⟨b,0,none⟩) hb u0
 have h1:=h0.setCell (p:=⟨b,1,none⟩) hb u1
 have h2:=h1.setCell (p:=⟨b,2,none⟩) hb u2
 have h3:=h2.setCell (p:=⟨b,3,none⟩) hb u3
 have h4:=h3.setCell (p:=⟨b,4,none⟩) hb u4
 have h5:=h4.setCell (p:=⟨b,5,none⟩) hb u5
 exact h5.setCell (p:=⟨b,6,none⟩) hb u6
theorem ue.far7 {W:World} {b k:Nat} {o:Obj} (h:W.heap[k]? = some o) (hk:k ≠ b) (u0 u1 u2 u3 u4 u5 u6:Value):(((((((W.setCell ⟨b,0,none⟩ u0).setCell ⟨b,1,none⟩ u1).setCell ⟨b,2,none⟩ u2).setCell ⟨b,3,none⟩ u3).setCell ⟨b,4,none⟩ u4).setCell ⟨b,5,none⟩ u5).setCell ⟨b,6,none⟩ u6).heap[k]? = some o:=by
 rw [Below.heap_setCell _ ⟨b,6,none⟩ _ k hk,Below.heap_setCell _ ⟨b,5,none⟩ _ k hk,Below.heap_setCell _ ⟨b,4,none⟩ _ k hk,Below.heap_setCell _ ⟨b,3,none⟩ _ k hk,Below.heap_setCell _ ⟨b,2,none⟩ _ k hk,Below.heap_setCell _ ⟨b,1,none⟩ _ k hk,Below.heap_setCell _ ⟨b,0,none⟩ _ k hk,h]
theorem ue.same7 (W:World) {b k:Nat} (hk:k ≠ b) (u0 u1 u2 u3 u4 u5 u6:Value):(((((((W.setCell ⟨b,0,none⟩ u0).setCell ⟨b,1,none⟩ u1).setCell ⟨b,2,none⟩ u2).setCell ⟨b,3,none⟩ u3).setCell ⟨b,4,none⟩ u4).setCell ⟨b,5,none⟩ u5).setCell ⟨b,6,none⟩ u6).heap[k]? = W.heap[k]? := by
 rw [Below.heap_setCell _ ⟨b,6,none⟩ _ k hk,Below.heap_setCell _ ⟨b,5,none⟩ _ k hk,Below.heap_setCell _ ⟨b,4,none⟩ _ k hk,Below.heap_setCell _ ⟨b,3,none⟩ _ k hk,Below.heap_setCell _ ⟨b,2,none⟩ _ k hk,Below.heap_setCell _ ⟨b,1,none⟩ _ k hk,Below.heap_setCell _ ⟨b,0,none⟩ _ k hk]
theorem ue.cleared {w Wx:World} {b q:Nat} {v0 v1 v2 v3 v4 v5 v6 v7:Value} (hW:Below w.heap.size w Wx) (hbq:¬ b = q) (hb:Wx.heap[b]? = some (.cells #[v0,v1,v2,v3,v4,v5,v6] 53 (0,0))) (hq:Wx.heap[q]? = some (.cells #[v7] 26 (0,0))) (h1:b < w.heap.size) (h2:q < w.heap.size) (c:Int) :
 ue.Cleared w (((((((((Wx.setCell ⟨b,0,none⟩ (.slice none 0 0)).setCell ⟨b,1,none⟩ (.int .i64 0)).setCell ⟨b,2,none⟩ (.int .u64 0)).setCell ⟨b,3,none⟩ (.bool false)).setCell ⟨b,4,none⟩ (.string ⟨#[]⟩)).setCell ⟨b,5,none⟩ (.string ⟨#[]⟩)).setCell ⟨b,6,none⟩ (.string ⟨#[]⟩)).setCell ⟨q,0,none⟩ (.int .i64 c)).drew) b q c:=by
 have s7:=ue.set7 hb (.slice none 0 0) (.int .i64 0) (.int .u64 0) (.bool false) (.string ⟨#[]⟩) (.string ⟨#[]⟩) (.string ⟨#[]⟩)
 have f7:=ue.far7 hq (fun e => hbq e.symm) (.slice none 0 0) (.int .i64 0) (.int .u64 0) (.bool false) (.string ⟨#[]⟩) (.string ⟨#[]⟩) (.string ⟨#[]⟩)
 have b7:=fun B (hB:B ≤ w.heap.size) (hb2:B ≤ b) => ue.below7 (hW.mono hB) hb2 (.slice none 0 0) (.int .i64 0) (.int .u64 0) (.bool false) (.string ⟨#[]⟩) (.string ⟨#[]⟩) (.string ⟨#[]⟩)
 generalize ((((((Wx.setCell ⟨b,0,none⟩ (.slice none 0 0)).setCell ⟨b,1,none⟩ (.int .i64 0)).setCell ⟨b,2,none⟩ (.int .u64 0)).setCell ⟨b,3,none⟩ (.bool false)).setCell ⟨b,4,none⟩ (.string ⟨#[]⟩)).setCell ⟨b,5,none⟩ (.string ⟨#[]⟩)).setCell ⟨b,6,none⟩ (.string ⟨#[]⟩) = W7 at s7 f7 b7 ⊢
 have q1:=blk_set f7 0 (.int .i64 c)
 simp only [List.setIfInBounds_toArray,List.set_cons_zero] at q1
 exact ⟨(Below.heap_setCell W7 ⟨q,0,none⟩ (.int .i64 c) b hbq).trans s7,q1,fun B hB hb2 hq2 => ul ((b7 B hB hb2).setCell (p:=⟨q,0,none⟩) hq2 _)⟩
set_option maxRecDepth 100000 in
set_option maxHeartbeats 2000000 in
theorem ue.catch_fault (b q:Nat) (hbq:¬ b = q) (v0 v1 v2 v3 v4 v5 v6 v7:Value) (c:Int) (older:List PanicEntry) (w:World) (hb:w.heap[b]? = some (.cells #[v0,v1,v2,v3,v4,v5,v6] 53 (0,0))) (hq:w.heap[q]? = some (.cells #[v7] 26 (0,0))) :
 CallsD Tryd.prog 28 #[.pointer (some ⟨b,0,none⟩),.pointer (some ⟨q,0,none⟩)] (.panicking ({ v:=.iface 71 (.agg #[.int .i64 c]),recovered:=false } :: older)) w fun e u' w' => e = .returned (.tuple #[]) ∧ u' = .panicking ({ v:=.iface 71 (.agg #[.int .i64 c]),recovered:=true } :: older) ∧ ue.Cleared w w' b q c:=by
 have h1:=ue.ta_hit
 have hb2:=ua.new_old hb (.cells #[.int .i64 c] 71)
 have hq2:=ua.new_old hq (.cells #[.int .i64 c] 71)
 have HB:=Aside0.mk hb2
 have HQ:=Aside0.mk hq2
 have L1:=Aside0.mk (blk_lt hb)
 have L2:=Aside0.mk (blk_lt hq)
 obtain ⟨⟨a0,a1,a2,a3,a4,a5,a6⟩,fa⟩:=ue.look7 hb2
 obtain ⟨d0,fd⟩:=ue.look1 hq2
 have n1:¬ q = b:=fun e => hbq e.symm
 clear hb hq hb2 hq2
 refine callsD_of_wpS Tryd.func28 rfl fun c₀ cs hu => ?_
 apply wpS_seq
 apply wpS_region
 simp [wpOpsS,go_sem,recoverD,hu,Tryd.ntmps28,Exit.thenS,h1,Array.replicate]
 refine wpS_of_wp ?_
 go_wp2_with fail
 have x0:=(ue.look1 (ua.new_at w (.cells #[.int .i64 c] 71))).1
 have hW:Aside0 (Below w.heap.size w (w.alloc (.cells #[.int .i64 c] 71))):=⟨uf (Below.refl _ _) _⟩
 have m1:¬ w.heap.size = b:=by have:=L1.out;omega
 have m2:¬ w.heap.size = q:=by have:=L2.out;omega
 have m3:¬ b = w.heap.size:=fun e => m1 e.symm
 have m4:¬ q = w.heap.size:=fun e => m2 e.symm
 generalize w.alloc (.cells #[.int .i64 c] 71) = Wx at *
 generalize w.heap.size = zz at x0 m1 m2 m3 m4 ⊢
 have mixed:Tryd.prog.follows .mixedOrders = true:=by kernel_rfl
 go_big_region_o
 have HC:=Aside0.mk (ue.cleared hW.out hbq HB.out HQ.out L1.out L2.out c)
 clear HB HQ hW fa fd a0 a1 a2 a3 a4 a5 a6 d0 L1 L2
 change bodyPostS _ _ _ _ _ _ _ _ _
 cases c₀
 simp_all [bodyPostS,results,Tryd.results28]
 exact HC.out
def ue.Out (W:World) (o:Option Tx.Rw × Tx.Me × Int) (e:Ending) (W':World):Prop:=∃ v:Value,e = .returned (.tuple #[.agg #[v,.int .i64 (match o.1 with | none => 0 | some r => r.f1),.int .u64 (match o.1 with | none => 0 | some r => r.f2),.bool o.1.isSome,.string o.2.1.1,.string o.2.1.2.1,.string o.2.1.2.2],.int .i64 o.2.2]) ∧ Kd.R k37 37 W' W.heap.size (fun _ => True) v (match o.1 with | none => [] | some r => r.f0) ∧ Below W.heap.size W W'
theorem ue.out_fault {W W':World} {c:Int} {o:Option Tx.Rw × Tx.Me × Int} (ho:o = (none,Tx.me0,c)) (hb:Below W.heap.size W W'):ue.Out W o (.returned (.tuple #[.agg #[.slice none 0 0,.int .i64 0,.int .u64 0,.bool false,.string ⟨#[]⟩,.string ⟨#[]⟩,.string ⟨#[]⟩],.int .i64 c])) W':=by
 subst ho
 exact ⟨_,rfl,Kd.R_nil _ _ _ _ _,hb⟩
structure ue.Pre (W w:World):Prop where
 said:w.heap[W.heap.size]? = some (.cells #[.slice none 0 0,.int .i64 0,.int .u64 0,.bool false,.string ⟨#[]⟩,.string ⟨#[]⟩,.string ⟨#[]⟩] 53 (0,0))
 code:w.heap[W.heap.size + 1]? = some (.cells #[.int .i64 0] 26 (0,0))
 below:Below W.heap.size W w
theorem ue.pre_start (W:World) (o:Obj):ue.Pre W (((W.alloc (.cells #[.slice none 0 0,.int .i64 0,.int .u64 0,.bool false,.string ⟨#[]⟩,.string ⟨#[]⟩,.string ⟨#[]⟩] 53)).alloc (.cells #[.int .i64 0] 26)).alloc o):=by
 have h1:=ua.new_at W (.cells #[.slice none 0 0,.int .i64 0,.int .u64 0,.bool false,.string ⟨#[]⟩,.string ⟨#[]⟩,.string ⟨#[]⟩] 53)
 have h2:=ua.new_at (W.alloc (.cells #[.slice none 0 0,.int .i64 0,.int .u64 0,.bool false,.string ⟨#[]⟩,.string ⟨#[]⟩,.string ⟨#[]⟩] 53)) (.cells #[.int .i64 0] 26)
 rw [World.size_alloc] at h2
 exact ⟨ua.new_old (ua.new_old h1 _) _,ua.new_old h2 _,uf (uf (uf (Below.refl _ _) _) _) _⟩
def ue.mk2 (W:World):World:=(W.alloc (.cells #[.slice none 0 0,.int .i64 0,.int .u64 0,.bool false,.string ⟨#[]⟩,.string ⟨#[]⟩,.string ⟨#[]⟩] 53)).alloc (.cells #[.int .i64 0] 26)
theorem ue.mk2_size (W:World):(ue.mk2 W).heap.size = W.heap.size + 1 + 1:=by
 unfold ue.mk2
 rw [World.size_alloc,World.size_alloc]
theorem ue.st_start (W:World) (s:List UInt8):ua.St (ue.mk2 W) (((W.alloc (.cells #[.slice none 0 0,.int .i64 0,.int .u64 0,.bool false,.string ⟨#[]⟩,.string ⟨#[]⟩,.string ⟨#[]⟩] 53)).alloc (.cells #[.int .i64 0] 26)).alloc (.cells #[.string (Base.ofL s)] 75)) (W.heap.size + 1 + 1) s:=by
 have h2:=ua.new_at (ue.mk2 W) (.cells #[.string (Base.ofL s)] 75)
 rw [ue.mk2_size] at h2
 exact ⟨uf (Below.refl _ _) _,by rw [ue.mk2_size];exact Nat.le_refl _,h2⟩
theorem ue.pre_of {W w:World} (h:Below (ue.mk2 W).heap.size (ue.mk2 W) w):ue.Pre W w:=by
 have h1:=ua.new_at W (.cells #[.slice none 0 0,.int .i64 0,.int .u64 0,.bool false,.string ⟨#[]⟩,.string ⟨#[]⟩,.string ⟨#[]⟩] 53)
 have h2:=ua.new_at (W.alloc (.cells #[.slice none 0 0,.int .i64 0,.int .u64 0,.bool false,.string ⟨#[]⟩,.string ⟨#[]⟩,.string ⟨#[]⟩] 53)) (.cells #[.int .i64 0] 26)
 rw [World.size_alloc] at h2
 exact ⟨ua.below_at h (ua.new_old h1 _),ua.below_at h h2,u1i (uf (uf (Below.refl _ _) _) _) (h.mono (by rw [ue.mk2_size,World.size_alloc,World.size_alloc];exact Nat.le_refl _))⟩
theorem ue.Pre.keep {W w w':World} (h:ue.Pre W w) (hb:Below W.heap.size W w') (hk:uz w w' (W.heap.size + 1 + 1) none):ue.Pre W w' :=
 ⟨ua.kept_at hk (by omega) h.said,ua.kept_at hk (by omega) h.code,hb⟩
theorem ue.Pre.drew {W w:World} (h:ue.Pre W w) (n:Nat):ue.Pre W (w.drewN n):=⟨h.said,h.code,ud h.below n⟩
structure ue.Fin (W V w:World) (u0 u1 u2 u3 u4 u5 u6:Value):Prop where
 said:w.heap[W.heap.size]? = some (.cells #[u0,u1,u2,u3,u4,u5,u6] 53 (0,0))
 code:w.heap[W.heap.size + 1]? = some (.cells #[.int .i64 0] 26 (0,0))
 below:Below W.heap.size W w
 far:∀ k,k ≠ W.heap.size → k ≠ W.heap.size + 1 → w.heap[k]? = V.heap[k]?
theorem ue.fin7 {W V:World} {v0 v1 v2 v3 v4 v5 v6 v7:Value} (hs:V.heap[W.heap.size]? = some (.cells #[v0,v1,v2,v3,v4,v5,v6] 53 (0,0))) (hc:V.heap[W.heap.size + 1]? = some (.cells #[v7] 26 (0,0))) (hb:Below W.heap.size W V) (u0 u1 u2 u3 u4 u5 u6:Value) :
 ue.Fin W V ((((((((V.setCell ⟨W.heap.size,0,none⟩ u0).setCell ⟨W.heap.size,1,none⟩ u1).setCell ⟨W.heap.size,2,none⟩ u2).setCell ⟨W.heap.size,3,none⟩ u3).setCell ⟨W.heap.size,4,none⟩ u4).setCell ⟨W.heap.size,5,none⟩ u5).setCell ⟨W.heap.size,6,none⟩ u6).setCell ⟨W.heap.size + 1,0,none⟩ (.int .i64 0)) u0 u1 u2 u3 u4 u5 u6:=by
 have s7:=ue.set7 hs u0 u1 u2 u3 u4 u5 u6
 have f7:=ue.far7 hc (show W.heap.size + 1 ≠ W.heap.size by omega) u0 u1 u2 u3 u4 u5 u6
 have b7:=ue.below7 hb (Nat.le_refl _) u0 u1 u2 u3 u4 u5 u6
 have k7:=fun k (hk:k ≠ W.heap.size) => ue.same7 V hk u0 u1 u2 u3 u4 u5 u6
 generalize ((((((V.setCell ⟨W.heap.size,0,none⟩ u0).setCell ⟨W.heap.size,1,none⟩ u1).setCell ⟨W.heap.size,2,none⟩ u2).setCell ⟨W.heap.size,3,none⟩ u3).setCell ⟨W.heap.size,4,none⟩ u4).setCell ⟨W.heap.size,5,none⟩ u5).setCell ⟨W.heap.size,6,none⟩ u6 = W7 at s7 f7 b7 k7 ⊢
 have q1:=blk_set f7 0 (.int .i64 0)
 simp only [List.setIfInBounds_toArray,List.set_cons_zero] at q1
 exact ⟨(Below.heap_setCell W7 ⟨W.heap.size + 1,0,none⟩ (.int .i64 0) W.heap.size (by show W.heap.size ≠ W.heap.size + 1;omega)).trans s7,q1,b7.setCell (p:=⟨W.heap.size + 1,0,none⟩) (by show W.heap.size ≤ W.heap.size + 1;omega) _,fun k h1 h2 => (Below.heap_setCell W7 ⟨W.heap.size + 1,0,none⟩ (.int .i64 0) k h2).trans (k7 k h1)⟩
theorem ue.out_meta {W W':World} {m:Tx.Me} {o:Option Tx.Rw × Tx.Me × Int} (ho:o = (none,m,0)) (hb:Below W.heap.size W W'):ue.Out W o (.returned (.tuple #[.agg #[.slice none 0 0,.int .i64 0,.int .u64 0,.bool false,.string m.1,.string m.2.1,.string m.2.2],.int .i64 0])) W':=by
 subst ho
 exact ⟨_,rfl,Kd.R_nil _ _ _ _ _,hb⟩
theorem ue.out_row {W W':World} {r:Tx.Rw} {o:Option Tx.Rw × Tx.Me × Int} (ho:o = (some r,Tx.me0,0)) {v:Value} (hr:Kd.R k37 37 W' W.heap.size (fun _ => True) v r.f0) (hb:Below W.heap.size W W'):ue.Out W o (.returned (.tuple #[.agg #[v,.int .i64 r.f1,.int .u64 r.f2,.bool true,.string ⟨#[]⟩,.string ⟨#[]⟩,.string ⟨#[]⟩],.int .i64 0])) W':=by
 subst ho
 exact ⟨v,rfl,hr,hb⟩
theorem ue.rm_no (w0 W:World) (g:Nat) (s:List UInt8) (hl:s.length ≤ 1000) (hr:Tx.remarkP s = none) (h:ua.St w0 W g s):Calls Tryd.prog 32 #[.pointer (some ⟨g,0,none⟩)] W fun e W' => e = .panicked (u1r.chain 280) ∧ Below w0.heap.size w0 W' :=
 (ui.calls w0 W g s hl h).mono fun e W' ho => by rw [hr] at ho;exact ho
theorem ue.rm_ok (w0 W:World) (g:Nat) (s:List UInt8) (hl:s.length ≤ 1000) (m:Tx.Me) (hr:Tx.remarkP s = some m) (h:ua.St w0 W g s):Calls Tryd.prog 32 #[.pointer (some ⟨g,0,none⟩)] W fun e W' => e = .returned (.agg #[.string m.1,.string m.2.1,.string m.2.2]) ∧ Below w0.heap.size w0 W' :=
 (ui.calls w0 W g s hl h).mono fun e W' ho => by rw [hr] at ho;exact ⟨ho.1,ho.2.1⟩
theorem ue.ib_at (s:List UInt8):∃ z:Int,decide (0 ≤ z) = s.contains 10 ∧ ∀ w:World,Calls Tryd.prog 30 #[.string (Base.ofL s),.int .u8 10] w fun e w' => e = .returned (.int .i64 z) ∧ w' = w:=by
 refine ⟨Lib.indexByte s 10,(Lib.contains_iff_indexByte s 10).symm,fun w => ?_⟩
 have h:=strings_IndexByte.calls (Base.ofL s) 10 w
 rw [Base.ofL_data] at h
 exact h
theorem ue.dw_nil (p:UInt8 → Bool):∀ l:List UInt8,l.dropWhile p = [] ↔ ∀ x ∈ l,p x = true
 | [] => by simp
 | c :: l => by
   rw [List.dropWhile_cons]
   by_cases h:p c = true
   · rw [if_pos h,ue.dw_nil p l]
     simp [h]
   · rw [if_neg h]
     simp [h]
theorem ue.dw_head (p:UInt8 → Bool):∀ (l:List UInt8) (y:UInt8) (r:List UInt8),l.dropWhile p = y :: r → p y = false
 | [],y,r,h => by cases h
 | c :: l,y,r,h => by
   rw [List.dropWhile_cons] at h
   by_cases hc:p c = true
   · rw [if_pos hc] at h
     exact ue.dw_head p l y r h
   · rw [if_neg hc] at h
     obtain ⟨rfl,_⟩:=List.cons.inj h
     simpa using hc
theorem ue.trim_nil (s:List UInt8):(Lib.trimS s [32,9] = []) = (s.all Tx.blankC = true):=by
 have hp:∀ c:UInt8,([32,9]:List UInt8).contains c = Tx.blankC c:=fun c => by
  unfold Tx.blankC
  rw [Bool.eq_iff_iff]
  simp
 have hf:(fun c => ([32,9]:List UInt8).contains c) = Tx.blankC:=funext hp
 unfold Lib.trimS Lib.trimLeftS Lib.trimRightS
 rw [hf]
 apply propext
 rw [ue.dw_nil,List.all_eq_true]
 constructor
 · intro h x hx
   cases he:s.reverse.dropWhile Tx.blankC with
   | nil => exact (ue.dw_nil _ _).1 he x (List.mem_reverse.2 hx)
   | cons y r =>
     have h1:Tx.blankC y = true:=h y (by rw [he];simp)
     have h2:=ue.dw_head Tx.blankC s.reverse y r he
     rw [h1] at h2
     cases h2
 · intro h x hx
   have h1:x ∈ s.reverse:=(List.dropWhile_sublist _).subset (List.mem_reverse.1 hx)
   exact h x (List.mem_reverse.1 h1)
theorem ue.after_fault {W w w':World} {c:Int} (h:ue.Pre W w) (hC:ue.Cleared w w' W.heap.size (W.heap.size + 1) c):Below W.heap.size W w' :=
 below_weaken h.below (Nat.le_refl _) (hC.rest W.heap.size h.below.size (Nat.le_refl _) (by omega))
set_option maxRecDepth 100000 in
set_option maxHeartbeats 2000000 in
theorem ue.too_long (can:List Tx.Lb → Bool) (W:World) (s:List UInt8) (now:Int) (hm:s.length ≤ 4611686018427387904) (hl:s.length > 1000) :
 Calls Tryd.prog 16 #[.string (Base.ofL s),.int .i64 now] W fun e W' => ue.Out W (Tx.readP can s now) e W':=by
 have hmf:∀ (fn:Fn) (first cap:Array Value) (w:World),(Instr.makeFunc fn first cap).run Tryd.prog w = .ok (.func fn first cap) w:=fun _ _ _ _ => rfl
 have hsz:(Base.ofL s).size = s.length:=(Tx.cut_ofL s 0 (by omega)).2.2
 have HE:Aside0 (Tx.readP can s now = (none,Tx.me0,4)):=⟨by unfold Tx.readP;rw [if_pos hl]⟩
 have hd2:(1000:Int) < (s.length:Int):=by omega
 go_enter_defers Tryd.func16,Tryd.ntmps16
 go_wp2_with (go_at_call 29;(with_reducible refine (u1r.calls 4 _).mono ?_);rintro e W1 ⟨rfl,rfl⟩)
 refine leaves_cons (f:=28) (args:=#[.pointer (some ⟨W.heap.size,0,none⟩),.pointer (some ⟨W.heap.size + 1,0,none⟩)]) (by simp) (by simp [go_sem]) ?_
 refine (ue.catch_fault W.heap.size (W.heap.size + 1) (by omega) _ _ _ _ _ _ _ _ 4 [] _ (ue.pre_start W _).said (ue.pre_start W _).code).mono ?_
 rintro e u' w'' ⟨rfl,rfl,hC⟩
 have HBF:=Aside0.mk (ue.after_fault (ue.pre_start W _) hC)
 obtain ⟨⟨a0,a1,a2,a3,a4,a5,a6⟩,fa⟩:=ue.look7 hC.said
 obtain ⟨d0,fd⟩:=ue.look1 hC.code
 clear hC
 simp [Leaves,settle,results,Tryd.results16,go_sem,a0,a1,a2,a3,a4,a5,a6,d0]
 exact ue.out_fault HE.out HBF.out
set_option maxRecDepth 100000 in
set_option maxHeartbeats 2000000 in
theorem ue.lines (can:List Tx.Lb → Bool) (W:World) (s:List UInt8) (now:Int) (hl:s.length ≤ 1000) (hn:s.contains 10 = true) :
 Calls Tryd.prog 16 #[.string (Base.ofL s),.int .i64 now] W fun e W' => ue.Out W (Tx.readP can s now) e W':=by
 have hmf:∀ (fn:Fn) (first cap:Array Value) (w:World),(Instr.makeFunc fn first cap).run Tryd.prog w = .ok (.func fn first cap) w:=fun _ _ _ _ => rfl
 have hsz:(Base.ofL s).size = s.length:=(Tx.cut_ofL s 0 (by omega)).2.2
 have HE:Aside0 (Tx.readP can s now = (none,Tx.me0,280)):=⟨by unfold Tx.readP;rw [if_neg (by omega),if_pos hn]⟩
 obtain ⟨z,hz,hzc⟩:=ue.ib_at s
 have HZ:=Aside0.mk hzc
 rw [hn] at hz
 have hd2:¬ (1000:Int) < (s.length:Int):=by omega
 have hz0:0 ≤ z:=of_decide_eq_true hz
 clear hn hzc
 go_enter_defers Tryd.func16,Tryd.ntmps16
 go_wp2_with (first
  | (go_at_call 30;(with_reducible refine (HZ.out _).mono ?_);rintro e W1 ⟨rfl,rfl⟩)
  | (go_at_call 29;(with_reducible refine (u1r.calls 280 _).mono ?_);rintro e W1 ⟨rfl,rfl⟩))
 refine leaves_cons (f:=28) (args:=#[.pointer (some ⟨W.heap.size,0,none⟩),.pointer (some ⟨W.heap.size + 1,0,none⟩)]) (by simp) (by simp [go_sem]) ?_
 refine (ue.catch_fault W.heap.size (W.heap.size + 1) (by omega) _ _ _ _ _ _ _ _ 280 [] _ (ue.pre_start W _).said (ue.pre_start W _).code).mono ?_
 rintro e u' w'' ⟨rfl,rfl,hC⟩
 have HBF:=Aside0.mk (ue.after_fault (ue.pre_start W _) hC)
 obtain ⟨⟨a0,a1,a2,a3,a4,a5,a6⟩,fa⟩:=ue.look7 hC.said
 obtain ⟨d0,fd⟩:=ue.look1 hC.code
 clear hC
 simp [Leaves,settle,results,Tryd.results16,go_sem,a0,a1,a2,a3,a4,a5,a6,d0]
 exact ue.out_fault HE.out HBF.out
set_option maxRecDepth 100000 in
set_option maxHeartbeats 4000000 in
theorem ue.remark (can:List Tx.Lb → Bool) (W:World) (s:List UInt8) (now:Int) (hl:s.length ≤ 1000) (hn:s.contains 10 = false) (r:List UInt8) (hs:s = 35 :: r) :
 Calls Tryd.prog 16 #[.string (Base.ofL s),.int .i64 now] W fun e W' => ue.Out W (Tx.readP can s now) e W':=by
 have hmf:∀ (fn:Fn) (first cap:Array Value) (w:World),(Instr.makeFunc fn first cap).run Tryd.prog w = .ok (.func fn first cap) w:=fun _ _ _ _ => rfl
 have hsz:(Base.ofL s).size = s.length:=(Tx.cut_ofL s 0 (by omega)).2.2
 have HV:Aside0 (Tx.readP can s now = match Tx.remarkP s with | none => (none,Tx.me0,280) | some m => (none,m,0)):=⟨by unfold Tx.readP;rw [if_neg (by omega),hn,if_neg (by decide)];subst hs;rfl⟩
 obtain ⟨z,hz,hzc⟩:=ue.ib_at s
 have HZ:=Aside0.mk hzc
 rw [hn] at hz
 have hd2:¬ (1000:Int) < (s.length:Int):=by omega
 have hz0:¬ 0 ≤ z:=of_decide_eq_false hz
 have HPK:Aside0 (ua.pk s = 35):=⟨by rw [hs];rfl⟩
 generalize hoo:Tx.readP can s now = o at HV ⊢
 clear hn hzc hoo hs
 cases hr:Tx.remarkP s with
 | none =>
   have HR:=Aside0.mk hr
   have HE:Aside0 (o = (none,Tx.me0,280)):=⟨by rw [HV.out,hr]⟩
   clear hr HV
   go_enter_defers Tryd.func16,Tryd.ntmps16
   go_wp2_with (first
    | (go_at_call 30;(with_reducible refine (HZ.out _).mono ?_);rintro e W1 ⟨rfl,rfl⟩)
    | (go_at_call 31;(with_reducible refine (uk.peek_at (ue.mk2 W) _ (W.heap.size + 1 + 1) s 35 HPK.out (by exact ue.st_start W s)).mono ?_);rintro e W2 ⟨rfl,⟨nd,rfl⟩⟩)
    | (go_at_call 32;(with_reducible refine (ue.rm_no (ue.mk2 W) _ (W.heap.size + 1 + 1) s hl HR.out (by exact (ue.st_start W s).drew nd)).mono ?_);rintro e W3 ⟨rfl,hb3⟩;have HPF:=Aside0.mk (ue.pre_of hb3);clear hb3))
   refine leaves_cons (f:=28) (args:=#[.pointer (some ⟨W.heap.size,0,none⟩),.pointer (some ⟨W.heap.size + 1,0,none⟩)]) (by simp) (by simp [go_sem]) ?_
   refine (ue.catch_fault W.heap.size (W.heap.size + 1) (by omega) _ _ _ _ _ _ _ _ 280 [] _ HPF.out.said HPF.out.code).mono ?_
   rintro e u' w'' ⟨rfl,rfl,hC⟩
   have HBF:=Aside0.mk (ue.after_fault HPF.out hC)
   obtain ⟨⟨a0,a1,a2,a3,a4,a5,a6⟩,fa⟩:=ue.look7 hC.said
   obtain ⟨d0,fd⟩:=ue.look1 hC.code
   clear hC
   simp [Leaves,settle,results,Tryd.results16,go_sem,a0,a1,a2,a3,a4,a5,a6,d0]
   exact ue.out_fault HE.out HBF.out
 | some m =>
   have HR:=Aside0.mk hr
   have HE:Aside0 (o = (none,m,0)):=⟨by rw [HV.out,hr]⟩
   clear hr HV
   go_enter_defers Tryd.func16,Tryd.ntmps16
   go_wp2_with (first
    | (go_at_call 30;(with_reducible refine (HZ.out _).mono ?_);rintro e W1 ⟨rfl,rfl⟩)
    | (go_at_call 31;(with_reducible refine (uk.peek_at (ue.mk2 W) _ (W.heap.size + 1 + 1) s 35 HPK.out (by exact ue.st_start W s)).mono ?_);rintro e W2 ⟨rfl,⟨nd,rfl⟩⟩)
    | (go_at_call 32;(with_reducible refine (ue.rm_ok (ue.mk2 W) _ (W.heap.size + 1 + 1) s hl m HR.out (by exact (ue.st_start W s).drew nd)).mono ?_);rintro e W3 ⟨rfl,hb3⟩;have HPF:=Aside0.mk (ue.pre_of hb3);obtain ⟨⟨a0,a1,a2,a3,a4,a5,a6⟩,fa⟩:=ue.look7 HPF.out.said;obtain ⟨d0,fd⟩:=ue.look1 HPF.out.code;clear hb3))
   have hV1:=blk_set (blk_set (blk_set HPF.out.said 4 (.string m.1)) 5 (.string m.2.1)) 6 (.string m.2.2)
   simp only [List.setIfInBounds_toArray,List.set_cons_zero,List.set_cons_succ] at hV1
   have hV2:(((W3.setCell ⟨W.heap.size,4,none⟩ (.string m.1)).setCell ⟨W.heap.size,5,none⟩ (.string m.2.1)).setCell ⟨W.heap.size,6,none⟩ (.string m.2.2)).heap[W.heap.size + 1]? = some (.cells #[.int .i64 0] 26 (0,0)):=by
    rw [Below.heap_setCell _ ⟨W.heap.size,6,none⟩ _ _ (show W.heap.size + 1 ≠ W.heap.size by omega),Below.heap_setCell _ ⟨W.heap.size,5,none⟩ _ _ (show W.heap.size + 1 ≠ W.heap.size by omega),Below.heap_setCell _ ⟨W.heap.size,4,none⟩ _ _ (show W.heap.size + 1 ≠ W.heap.size by omega),HPF.out.code]
   have hV3:=((HPF.out.below.setCell (p:=⟨W.heap.size,4,none⟩) (Nat.le_refl _) (.string m.1)).setCell (p:=⟨W.heap.size,5,none⟩) (Nat.le_refl _) (.string m.2.1)).setCell (p:=⟨W.heap.size,6,none⟩) (Nat.le_refl _) (.string m.2.2)
   clear a0 a1 a2 a3 a4 a5 a6 fa d0 fd
   have HF:=ue.fin7 (V:=(((W3.setCell ⟨W.heap.size,4,none⟩ (.string m.1)).setCell ⟨W.heap.size,5,none⟩ (.string m.2.1)).setCell ⟨W.heap.size,6,none⟩ (.string m.2.2))) hV1 hV2 hV3 (.slice none 0 0) (.int .i64 0) (.int .u64 0) (.bool false) (.string m.1) (.string m.2.1) (.string m.2.2)
   generalize (((((((((((W3.setCell ⟨W.heap.size,4,none⟩ (.string m.1)).setCell ⟨W.heap.size,5,none⟩ (.string m.2.1)).setCell ⟨W.heap.size,6,none⟩ (.string m.2.2)).setCell ⟨W.heap.size,0,none⟩ (.slice none 0 0)).setCell ⟨W.heap.size,1,none⟩ (.int .i64 0)).setCell ⟨W.heap.size,2,none⟩ (.int .u64 0)).setCell ⟨W.heap.size,3,none⟩ (.bool false)).setCell ⟨W.heap.size,4,none⟩ (.string m.1)).setCell ⟨W.heap.size,5,none⟩ (.string m.2.1)).setCell ⟨W.heap.size,6,none⟩ (.string m.2.2)).setCell ⟨W.heap.size + 1,0,none⟩ (.int .i64 0)) = Wz at HF ⊢
   have hs9:=ua.new_old HF.said (.cells #[.int .i64 0] 71)
   have hc9:=ua.new_old HF.code (.cells #[.int .i64 0] 71)
   have HBF:=Aside0.mk (u1i HF.below (uf (Below.refl Wz.heap.size Wz) (.cells #[.int .i64 0] 71)))
   clear HF
   obtain ⟨⟨p0,p1,p2,p3,p4,p5,p6⟩,fp⟩:=ue.look7 hs9
   obtain ⟨q0,fq⟩:=ue.look1 hc9
   clear hs9 hc9
   refine leaves_cons (f:=28) (args:=#[.pointer (some ⟨W.heap.size,0,none⟩),.pointer (some ⟨W.heap.size + 1,0,none⟩)]) (by simp) (by simp [go_sem]) ?_
   refine (ue.catch_idle _ _ _).mono ?_
   rintro e u' w'' ⟨rfl,rfl,rfl⟩
   simp [Leaves,settle,results,Tryd.results16,go_sem,p0,p1,p2,p3,p4,p5,p6,q0]
   exact ue.out_meta HE.out HBF.out
theorem ue.trim_at (s:List UInt8) (hl:s.length ≤ 1000) (W:World):Calls Tryd.prog 33 #[.string (Base.ofL s),.string (⟨#[32,9]⟩:ByteArray)] W fun e W' => e = .returned (.string (Base.ofL (Lib.trimS s [32,9]))) ∧ Below W.heap.size W W':=by
 have h:=Go.Proofs.Tryd.strings_Trim (Base.ofL s) ⟨#[32,9]⟩ W (by rw [(Tx.cut_ofL s 0 (by omega)).2.2];omega) (by decide) (Go.Proofs.ascii_of_all (by decide))
 rw [Base.ofL_data] at h
 exact h
theorem ue.read_blank (can:List Tx.Lb → Bool) (s:List UInt8) (now:Int) (hl:s.length ≤ 1000) (hn:s.contains 10 = false) (hs:∀ r,s ≠ 35 :: r):Tx.readP can s now = if s.all Tx.blankC = true then ((none,Tx.me0,0):Option Tx.Rw × Tx.Me × Int) else match Tx.sampleP can s now with | none => (none,Tx.me0,280) | some r => (some r,Tx.me0,0):=by
 unfold Tx.readP
 rw [if_neg (by omega),hn,if_neg (by decide)]
 split
 · exact absurd rfl (hs _)
 · rfl
set_option maxRecDepth 100000 in
set_option maxHeartbeats 4000000 in
theorem ue.blank (can:List Tx.Lb → Bool) (W:World) (s:List UInt8) (now:Int) (hl:s.length ≤ 1000) (hn:s.contains 10 = false) (hs:∀ r,s ≠ 35 :: r) (ha:s.all Tx.blankC = true) :
 Calls Tryd.prog 16 #[.string (Base.ofL s),.int .i64 now] W fun e W' => ue.Out W (Tx.readP can s now) e W':=by
 have HE:Aside0 (Tx.readP can s now = (none,Tx.me0,0)):=⟨by rw [ue.read_blank can s now hl hn hs,if_pos ha]⟩
 generalize hoo:Tx.readP can s now = o at HE ⊢
 have hmf:∀ (fn:Fn) (first cap:Array Value) (w:World),(Instr.makeFunc fn first cap).run Tryd.prog w = .ok (.func fn first cap) w:=fun _ _ _ _ => rfl
 have hsz:(Base.ofL s).size = s.length:=(Tx.cut_ofL s 0 (by omega)).2.2
 obtain ⟨z,hz,hzc⟩:=ue.ib_at s
 have HZ:=Aside0.mk hzc
 rw [hn] at hz
 have hd2:¬ (1000:Int) < (s.length:Int):=by omega
 have hz0:¬ 0 ≤ z:=of_decide_eq_false hz
 obtain ⟨y,hy⟩:∃ y,ua.pk s = y:=⟨_,rfl⟩
 have HPK:=Aside0.mk hy
 have hyb:(y == 35) = false:=beq_eq_false_iff_ne.2 (by rw [← hy];exact ug.pk_ne s 35 (by decide) hs)
 obtain ⟨_,tw,twn⟩:=ut.txt (Lib.trimS s [32,9])
 obtain ⟨e1,e2⟩:=twn ((ue.trim_nil s).mpr ha)
 clear hn hzc hoo hs ha tw twn hy
 go_enter_defers Tryd.func16,Tryd.ntmps16
 go_wp2_with (first
  | (go_at_call 30;(with_reducible refine (HZ.out _).mono ?_);rintro e W1 ⟨rfl,rfl⟩)
  | (go_at_call 31;(with_reducible refine (uk.peek_at (ue.mk2 W) _ (W.heap.size + 1 + 1) s y HPK.out (by exact ue.st_start W s)).mono ?_);rintro e W2 ⟨rfl,⟨nd,rfl⟩⟩)
  | (go_at_call 33;(with_reducible refine (ue.trim_at s (by omega) _).mono ?_);rintro e W3 ⟨rfl,hb3⟩;have HS3:=Aside0.mk (((ue.st_start W s).drew nd).more hb3);clear hb3;have HPF:=Aside0.mk (ue.pre_of HS3.out.below);obtain ⟨⟨a0,a1,a2,a3,a4,a5,a6⟩,fa⟩:=ue.look7 HPF.out.said;obtain ⟨d0,fd⟩:=ue.look1 HPF.out.code))
 clear a0 a1 a2 a3 a4 a5 a6 fa d0 fd
 have hV1:=HPF.out.said
 have hV2:=HPF.out.code
 have hV3:=HPF.out.below
 have HF:=ue.fin7 (V:=W3) hV1 hV2 hV3 (.slice none 0 0) (.int .i64 0) (.int .u64 0) (.bool false) (.string ⟨#[]⟩) (.string ⟨#[]⟩) (.string ⟨#[]⟩)
 generalize ((((((((W3.setCell ⟨W.heap.size,0,none⟩ (.slice none 0 0)).setCell ⟨W.heap.size,1,none⟩ (.int .i64 0)).setCell ⟨W.heap.size,2,none⟩ (.int .u64 0)).setCell ⟨W.heap.size,3,none⟩ (.bool false)).setCell ⟨W.heap.size,4,none⟩ (.string ⟨#[]⟩)).setCell ⟨W.heap.size,5,none⟩ (.string ⟨#[]⟩)).setCell ⟨W.heap.size,6,none⟩ (.string ⟨#[]⟩)).setCell ⟨W.heap.size + 1,0,none⟩ (.int .i64 0)) = Wz at HF ⊢
 have hs9:=ua.new_old HF.said (.cells #[.int .i64 0] 71)
 have hc9:=ua.new_old HF.code (.cells #[.int .i64 0] 71)
 have HBF:=Aside0.mk (u1i HF.below (uf (Below.refl Wz.heap.size Wz) (.cells #[.int .i64 0] 71)))
 clear HF
 obtain ⟨⟨p0,p1,p2,p3,p4,p5,p6⟩,fp⟩:=ue.look7 hs9
 obtain ⟨q0,fq⟩:=ue.look1 hc9
 clear hs9 hc9
 refine leaves_cons (f:=28) (args:=#[.pointer (some ⟨W.heap.size,0,none⟩),.pointer (some ⟨W.heap.size + 1,0,none⟩)]) (by simp) (by simp [go_sem]) ?_
 refine (ue.catch_idle _ _ _).mono ?_
 rintro e u' w'' ⟨rfl,rfl,rfl⟩
 simp [Leaves,settle,results,Tryd.results16,go_sem,p0,p1,p2,p3,p4,p5,p6,q0]
 exact ue.out_fault HE.out HBF.out
theorem ue.sa_no (can:List Tx.Lb → Bool) (hcan:∀ l:List Tx.Lb,l.length ≤ 10 → ∃ k,u1g.f k l = some (can l)) (w0 W:World) (g:Nat) (s:List UInt8) (now:Int) (hl:s.length ≤ 1000) (hr:Tx.sampleP can s now = none) (h:ua.St w0 W g s):Calls Tryd.prog 34 #[.pointer (some ⟨g,0,none⟩),.int .i64 now] W fun e W' => e = .panicked (u1r.chain 280) ∧ Below w0.heap.size w0 W' :=
 (uc.calls can hcan w0 W g s now hl h).mono fun e W' ho => by rw [hr] at ho;exact ho
theorem ue.sa_ok (can:List Tx.Lb → Bool) (hcan:∀ l:List Tx.Lb,l.length ≤ 10 → ∃ k,u1g.f k l = some (can l)) (w0 W:World) (g:Nat) (s:List UInt8) (now:Int) (hl:s.length ≤ 1000) (r:Tx.Rw) (hr:Tx.sampleP can s now = some r) (h:ua.St w0 W g s):Calls Tryd.prog 34 #[.pointer (some ⟨g,0,none⟩),.int .i64 now] W fun e W' => ∃ v:Value,e = .returned (.agg #[v,.int .i64 r.f1,.int .u64 r.f2]) ∧ Kd.R k37 37 W' w0.heap.size (fun _ => True) v r.f0 ∧ Below w0.heap.size w0 W' :=
 (uc.calls can hcan w0 W g s now hl h).mono fun e W' ho => by
   rw [hr] at ho
   obtain ⟨v,he,h1,h2,_⟩:=ho
   exact ⟨v,he,Kd.R_lower (Kd.R_mono h1 (fun _ _ => trivial)) h.below.size,h2⟩
set_option maxRecDepth 100000 in
set_option maxHeartbeats 4000000 in
theorem ue.row (can:List Tx.Lb → Bool) (hcan:∀ l:List Tx.Lb,l.length ≤ 10 → ∃ k,u1g.f k l = some (can l)) (W:World) (s:List UInt8) (now:Int) (hl:s.length ≤ 1000) (hn:s.contains 10 = false) (hs:∀ r,s ≠ 35 :: r) (ha:¬ s.all Tx.blankC = true) :
 Calls Tryd.prog 16 #[.string (Base.ofL s),.int .i64 now] W fun e W' => ue.Out W (Tx.readP can s now) e W':=by
 have HV:Aside0 (Tx.readP can s now = match Tx.sampleP can s now with | none => (none,Tx.me0,280) | some r => (some r,Tx.me0,0)):=⟨by rw [ue.read_blank can s now hl hn hs,if_neg ha]⟩
 generalize hoo:Tx.readP can s now = o at HV ⊢
 have HCN:=Aside0.mk hcan
 have hmf:∀ (fn:Fn) (first cap:Array Value) (w:World),(Instr.makeFunc fn first cap).run Tryd.prog w = .ok (.func fn first cap) w:=fun _ _ _ _ => rfl
 have hsz:(Base.ofL s).size = s.length:=(Tx.cut_ofL s 0 (by omega)).2.2
 obtain ⟨z,hz,hzc⟩:=ue.ib_at s
 have HZ:=Aside0.mk hzc
 rw [hn] at hz
 have hd2:¬ (1000:Int) < (s.length:Int):=by omega
 have hz0:¬ 0 ≤ z:=of_decide_eq_false hz
 obtain ⟨y,hy⟩:∃ y,ua.pk s = y:=⟨_,rfl⟩
 have HPK:=Aside0.mk hy
 have hyb:(y == 35) = false:=beq_eq_false_iff_ne.2 (by rw [← hy];exact ug.pk_ne s 35 (by decide) hs)
 obtain ⟨_,tw,twn⟩:=ut.txt (Lib.trimS s [32,9])
 obtain ⟨e1,e2⟩:=tw (fun e => ha ((ue.trim_nil s).mp e))
 clear hn hzc hoo hs ha tw twn hy hcan
 cases hr:Tx.sampleP can s now with
 | none =>
   have HR:=Aside0.mk hr
   have HE:Aside0 (o = (none,Tx.me0,280)):=⟨by rw [HV.out,hr]⟩
   clear hr HV
   go_enter_defers Tryd.func16,Tryd.ntmps16
   go_wp2_with (first
    | (go_at_call 30;(with_reducible refine (HZ.out _).mono ?_);rintro e W1 ⟨rfl,rfl⟩)
    | (go_at_call 31;(with_reducible refine (uk.peek_at (ue.mk2 W) _ (W.heap.size + 1 + 1) s y HPK.out (by exact ue.st_start W s)).mono ?_);rintro e W2 ⟨rfl,⟨nd,rfl⟩⟩)
    | (go_at_call 33;(with_reducible refine (ue.trim_at s (by omega) _).mono ?_);rintro e W3 ⟨rfl,hb3⟩;have HS3:=Aside0.mk (((ue.st_start W s).drew nd).more hb3);clear hb3)
    | (go_at_call 34;(with_reducible refine (ue.sa_no can HCN.out (ue.mk2 W) _ (W.heap.size + 1 + 1) s now hl HR.out (by exact HS3.out)).mono ?_);rintro e W4 ⟨rfl,hb4⟩;have HPF:=Aside0.mk (ue.pre_of hb4);clear hb4))
   refine leaves_cons (f:=28) (args:=#[.pointer (some ⟨W.heap.size,0,none⟩),.pointer (some ⟨W.heap.size + 1,0,none⟩)]) (by simp) (by simp [go_sem]) ?_
   refine (ue.catch_fault W.heap.size (W.heap.size + 1) (by omega) _ _ _ _ _ _ _ _ 280 [] _ HPF.out.said HPF.out.code).mono ?_
   rintro e u' w'' ⟨rfl,rfl,hC⟩
   have HBF:=Aside0.mk (ue.after_fault HPF.out hC)
   obtain ⟨⟨a0,a1,a2,a3,a4,a5,a6⟩,fa⟩:=ue.look7 hC.said
   obtain ⟨d0,fd⟩:=ue.look1 hC.code
   clear hC
   simp [Leaves,settle,results,Tryd.results16,go_sem,a0,a1,a2,a3,a4,a5,a6,d0]
   exact ue.out_fault HE.out HBF.out
 | some r =>
   have HR:=Aside0.mk hr
   have HE:Aside0 (o = (some r,Tx.me0,0)):=⟨by rw [HV.out,hr]⟩
   clear hr HV
   go_enter_defers Tryd.func16,Tryd.ntmps16
   go_wp2_with (first
    | (go_at_call 30;(with_reducible refine (HZ.out _).mono ?_);rintro e W1 ⟨rfl,rfl⟩)
    | (go_at_call 31;(with_reducible refine (uk.peek_at (ue.mk2 W) _ (W.heap.size + 1 + 1) s y HPK.out (by exact ue.st_start W s)).mono ?_);rintro e W2 ⟨rfl,⟨nd,rfl⟩⟩)
    | (go_at_call 33;(with_reducible refine (ue.trim_at s (by omega) _).mono ?_);rintro e W3 ⟨rfl,hb3⟩;have HS3:=Aside0.mk (((ue.st_start W s).drew nd).more hb3);clear hb3)
    | (go_at_call 34;(with_reducible refine (ue.sa_ok can HCN.out (ue.mk2 W) _ (W.heap.size + 1 + 1) s now hl r HR.out (by exact HS3.out)).mono ?_);rintro e W4 ⟨v,rfl,hr4,hb4⟩;have HR4:=Aside0.mk hr4;have HPF:=Aside0.mk (ue.pre_of hb4);obtain ⟨A,c,ev⟩:=Kd.R_slice hr4;subst ev;obtain ⟨⟨a0,a1,a2,a3,a4,a5,a6⟩,fa⟩:=ue.look7 HPF.out.said;obtain ⟨d0,fd⟩:=ue.look1 HPF.out.code;clear hb4 hr4))
   have hV1:=blk_set (blk_set (blk_set (blk_set HPF.out.said 0 (.slice A r.f0.length c)) 1 (.int .i64 r.f1)) 2 (.int .u64 r.f2)) 3 (.bool true)
   simp only [List.setIfInBounds_toArray,List.set_cons_zero,List.set_cons_succ] at hV1
   have hVF:∀ k,k ≠ W.heap.size → ((((W4.setCell ⟨W.heap.size,0,none⟩ (.slice A r.f0.length c)).setCell ⟨W.heap.size,1,none⟩ (.int .i64 r.f1)).setCell ⟨W.heap.size,2,none⟩ (.int .u64 r.f2)).setCell ⟨W.heap.size,3,none⟩ (.bool true)).heap[k]? = W4.heap[k]? := fun k hk => by
    rw [Below.heap_setCell _ ⟨W.heap.size,3,none⟩ _ k hk,Below.heap_setCell _ ⟨W.heap.size,2,none⟩ _ k hk,Below.heap_setCell _ ⟨W.heap.size,1,none⟩ _ k hk,Below.heap_setCell _ ⟨W.heap.size,0,none⟩ _ k hk]
   have hV2:=(hVF (W.heap.size + 1) (by omega)).trans HPF.out.code
   have hV3:=(((HPF.out.below.setCell (p:=⟨W.heap.size,0,none⟩) (Nat.le_refl _) (.slice A r.f0.length c)).setCell (p:=⟨W.heap.size,1,none⟩) (Nat.le_refl _) (.int .i64 r.f1)).setCell (p:=⟨W.heap.size,2,none⟩) (Nat.le_refl _) (.int .u64 r.f2)).setCell (p:=⟨W.heap.size,3,none⟩) (Nat.le_refl _) (.bool true)
   clear a0 a1 a2 a3 a4 a5 a6 fa d0 fd
   have HF:=ue.fin7 (V:=((((W4.setCell ⟨W.heap.size,0,none⟩ (.slice A r.f0.length c)).setCell ⟨W.heap.size,1,none⟩ (.int .i64 r.f1)).setCell ⟨W.heap.size,2,none⟩ (.int .u64 r.f2)).setCell ⟨W.heap.size,3,none⟩ (.bool true))) hV1 hV2 hV3 (.slice A r.f0.length c) (.int .i64 r.f1) (.int .u64 r.f2) (.bool true) (.string ⟨#[]⟩) (.string ⟨#[]⟩) (.string ⟨#[]⟩)
   generalize ((((((((((((W4.setCell ⟨W.heap.size,0,none⟩ (.slice A r.f0.length c)).setCell ⟨W.heap.size,1,none⟩ (.int .i64 r.f1)).setCell ⟨W.heap.size,2,none⟩ (.int .u64 r.f2)).setCell ⟨W.heap.size,3,none⟩ (.bool true)).setCell ⟨W.heap.size,0,none⟩ (.slice A r.f0.length c)).setCell ⟨W.heap.size,1,none⟩ (.int .i64 r.f1)).setCell ⟨W.heap.size,2,none⟩ (.int .u64 r.f2)).setCell ⟨W.heap.size,3,none⟩ (.bool true)).setCell ⟨W.heap.size,4,none⟩ (.string ⟨#[]⟩)).setCell ⟨W.heap.size,5,none⟩ (.string ⟨#[]⟩)).setCell ⟨W.heap.size,6,none⟩ (.string ⟨#[]⟩)).setCell ⟨W.heap.size + 1,0,none⟩ (.int .i64 0)) = Wz at HF ⊢
   have hs9:=ua.new_old HF.said (.cells #[.int .i64 0] 71)
   have hc9:=ua.new_old HF.code (.cells #[.int .i64 0] 71)
   have HBF:=Aside0.mk (u1i HF.below (uf (Below.refl Wz.heap.size Wz) (.cells #[.int .i64 0] 71)))
   have HRF:=Aside0.mk (Kd.R_alloc (Kd.R_lower (Kd.R_mono (Kd.R_step (Kd.R_bound HR4.out) (fun k hk _ => (HF.far k (by have h8:=hk.2.1;rw [ue.mk2_size] at h8;omega) (by have h8:=hk.2.1;rw [ue.mk2_size] at h8;omega)).trans (hVF k (by have h8:=hk.2.1;rw [ue.mk2_size] at h8;omega)))) (fun _ _ => trivial)) (show W.heap.size ≤ (ue.mk2 W).heap.size by rw [ue.mk2_size];omega)) (.cells #[.int .i64 0] 71))
   clear HF
   obtain ⟨⟨p0,p1,p2,p3,p4,p5,p6⟩,fp⟩:=ue.look7 hs9
   obtain ⟨q0,fq⟩:=ue.look1 hc9
   clear hs9 hc9
   refine leaves_cons (f:=28) (args:=#[.pointer (some ⟨W.heap.size,0,none⟩),.pointer (some ⟨W.heap.size + 1,0,none⟩)]) (by simp) (by simp [go_sem]) ?_
   refine (ue.catch_idle _ _ _).mono ?_
   rintro e u' w'' ⟨rfl,rfl,rfl⟩
   simp [Leaves,settle,results,Tryd.results16,go_sem,p0,p1,p2,p3,p4,p5,p6,q0]
   exact ue.out_row HE.out HRF.out HBF.out
theorem ue.calls (can:List Tx.Lb → Bool) (hcan:∀ l:List Tx.Lb,l.length ≤ 10 → ∃ k,u1g.f k l = some (can l)) (W:World) (s:List UInt8) (now:Int) (hm:s.length ≤ 4611686018427387904) :
 Calls Tryd.prog 16 #[.string (Base.ofL s),.int .i64 now] W fun e W' => ue.Out W (Tx.readP can s now) e W':=by
 by_cases hl:s.length > 1000
 · exact ue.too_long can W s now hm hl
 · have hl2:s.length ≤ 1000:=by omega
   cases hn:s.contains 10 with
   | true => exact ue.lines can W s now hl2 hn
   | false =>
     by_cases hs:∃ r,s = 35 :: r
     · obtain ⟨r,hr⟩:=hs
       exact ue.remark can W s now hl2 hn r hr
     · have hs2:∀ r,s ≠ 35 :: r:=fun r e => hs ⟨r,e⟩
       by_cases ha:s.all Tx.blankC = true
       · exact ue.blank can W s now hl2 hn hs2 ha
       · exact ue.row can hcan W s now hl2 hn hs2 ha
def u1j.lab (o:Option Tx.Rw × Tx.Me × Int):List Tx.Lb:=match o.1 with | none => [] | some r => r.f0
def u1j.tim (o:Option Tx.Rw × Tx.Me × Int):Int:=match o.1 with | none => 0 | some r => r.f1
def u1j.val (o:Option Tx.Rw × Tx.Me × Int):Int:=match o.1 with | none => 0 | some r => r.f2
def u1j.Out (W:World) (o:Option Tx.Rw × Tx.Me × Int) (e:Ending) (W':World):Prop:=∃ v:Value,e = .returned (.tuple #[.agg #[v,.int .i64 (u1j.tim o),.int .u64 (u1j.val o)],.bool o.1.isSome,.agg #[.int .i64 o.2.2,.int .i64 0]]) ∧ Kd.R k37 37 W' W.heap.size (fun _ => True) v (u1j.lab o) ∧ Below W.heap.size W W'
def u1j.f (a0:ByteArray) (a1:Int):Option (List Tx.Lb × Int × Int × Bool × Int × Int):=if a0.size ≤ 4611686018427387904 then some (u1j.lab (Tx.readP Laws.canB a0.data.toList a1),u1j.tim (Tx.readP Laws.canB a0.data.toList a1),u1j.val (Tx.readP Laws.canB a0.data.toList a1),(Tx.readP Laws.canB a0.data.toList a1).1.isSome,(Tx.readP Laws.canB a0.data.toList a1).2.2,0) else none
theorem u1j.read_at (can:List Tx.Lb → Bool) (hcan:∀ l:List Tx.Lb,l.length ≤ 10 → ∃ k,u1g.f k l = some (can l)) (W:World) (s:List UInt8) (now:Int) (hm:s.length ≤ 4611686018427387904) (L:List Tx.Lb) (T N C:Int) (B:Bool) (a b c:ByteArray) (hL:u1j.lab (Tx.readP can s now) = L) (hT:u1j.tim (Tx.readP can s now) = T) (hN:u1j.val (Tx.readP can s now) = N) (hB:(Tx.readP can s now).1.isSome = B) (hM:(Tx.readP can s now).2.1 = (a,b,c)) (hC:(Tx.readP can s now).2.2 = C) :
 Calls Tryd.prog 16 #[.string (Base.ofL s),.int .i64 now] W fun e W' => ∃ v:Value,e = .returned (.tuple #[.agg #[v,.int .i64 T,.int .u64 N,.bool B,.string a,.string b,.string c],.int .i64 C]) ∧ Kd.R k37 37 W' W.heap.size (fun _ => True) v L ∧ Below W.heap.size W W':=by
 refine (ue.calls can hcan W s now hm).mono fun e W' h => ?_
 obtain ⟨v,he,h1,h2⟩:=h
 subst hL hT hN hB hC
 have ha:(Tx.readP can s now).2.1.1 = a:=by rw [hM]
 have hb:(Tx.readP can s now).2.1.2.1 = b:=by rw [hM]
 have hc:(Tx.readP can s now).2.1.2.2 = c:=by rw [hM]
 rw [ha,hb,hc] at he
 exact ⟨v,he,h1,h2⟩
set_option maxRecDepth 100000 in
set_option maxHeartbeats 4000000 in
theorem u1j.walk (can:List Tx.Lb → Bool) (hcan:∀ l:List Tx.Lb,l.length ≤ 10 → ∃ k,u1g.f k l = some (can l)) (W:World) (s:List UInt8) (now:Int) (hm:s.length ≤ 4611686018427387904) :
 Calls Tryd.prog 6 #[.string (Base.ofL s),.int .i64 now] W fun e W' => u1j.Out W (Tx.readP can s now) e W':=by
 unfold u1j.Out
 obtain ⟨L,hL⟩:∃ L,u1j.lab (Tx.readP can s now) = L:=⟨_,rfl⟩
 obtain ⟨T,hT⟩:∃ T,u1j.tim (Tx.readP can s now) = T:=⟨_,rfl⟩
 obtain ⟨N,hN⟩:∃ N,u1j.val (Tx.readP can s now) = N:=⟨_,rfl⟩
 obtain ⟨B,hB⟩:∃ B,(Tx.readP can s now).1.isSome = B:=⟨_,rfl⟩
 obtain ⟨C,hC⟩:∃ C,(Tx.readP can s now).2.2 = C:=⟨_,rfl⟩
 obtain ⟨a,b,c,hM⟩:∃ a b c,(Tx.readP can s now).2.1 = (a,b,c):=⟨_,_,_,rfl⟩
 rw [hL,hT,hN,hB,hC]
 have HRD:=Aside0.mk (fun W => u1j.read_at can hcan W s now hm L T N C B a b c hL hT hN hB hM hC)
 clear hL hT hN hB hC hM hcan
 have hx1:=ua.new_old (ua.new_at W (.cells #[.slice none 0 0,.int .i64 0,.int .u64 0] 25)) (.cells #[.int .i64 0,.int .i64 0] 28)
 have hx2:=ua.new_at (W.alloc (.cells #[.slice none 0 0,.int .i64 0,.int .u64 0] 25)) (.cells #[.int .i64 0,.int .i64 0] 28)
 rw [World.size_alloc] at hx2
 have HX1:=Aside0.mk hx1
 have HX2:=Aside0.mk hx2
 clear hx1 hx2
 go_enter Tryd.func6,Tryd.ntmps6
 go_wp2_with (go_at_call 16;(with_reducible refine (HRD.out _).mono ?_);rintro e W3 ⟨v,rfl,hr3,hb3⟩;have HR3:=Aside0.mk hr3;have HB3:=Aside0.mk (u1i (uf (uf (Below.refl W.heap.size W) _) _) hb3);have X1:=Aside0.mk (ua.below_at hb3 HX1.out);have X2:=Aside0.mk (ua.below_at hb3 HX2.out);obtain ⟨A,cc,ev⟩:=Kd.R_slice hr3;subst ev;clear hr3 hb3)
 have y7:=ua.new_at W3 (.cells #[.slice A L.length cc,.int .i64 T,.int .u64 N,.bool B,.string a,.string b,.string c] 53)
 have y1:=ua.new_old X1.out (.cells #[.slice A L.length cc,.int .i64 T,.int .u64 N,.bool B,.string a,.string b,.string c] 53)
 have y2:=ua.new_old X2.out (.cells #[.slice A L.length cc,.int .i64 T,.int .u64 N,.bool B,.string a,.string b,.string c] 53)
 have HRA:=Aside0.mk (Kd.R_alloc HR3.out (.cells #[.slice A L.length cc,.int .i64 T,.int .u64 N,.bool B,.string a,.string b,.string c] 53))
 have HBA:=Aside0.mk (uf HB3.out (.cells #[.slice A L.length cc,.int .i64 T,.int .u64 N,.bool B,.string a,.string b,.string c] 53))
 have l1:=blk_lt X1.out
 have l2:=blk_lt X2.out
 have m1:¬ W3.heap.size = W.heap.size:=by omega
 have m2:¬ W3.heap.size = W.heap.size + 1:=by omega
 have m3:¬ W.heap.size = W3.heap.size:=by omega
 have m4:¬ W.heap.size + 1 = W3.heap.size:=by omega
 have m5:¬ W.heap.size + 1 = W.heap.size:=by omega
 have m6:¬ W.heap.size = W.heap.size + 1:=by omega
 have Y1:=Aside0.mk y1
 have Y2:=Aside0.mk y2
 obtain ⟨⟨a0,a1,a2,a3,a4,a5,a6⟩,fa⟩:=ue.look7 y7
 obtain ⟨⟨b0,b1,b2⟩,b3,b4,b5⟩:=uc.look3 y1
 obtain ⟨c0,c1,c2,c3⟩:=ua.look2 y2
 clear y7 y1 y2 l1 l2 HR3 HB3 X1 X2 HX1 HX2
 generalize W3.alloc (.cells #[.slice A L.length cc,.int .i64 T,.int .u64 N,.bool B,.string a,.string b,.string c] 53) = W4 at *
 generalize W3.heap.size = zz at *
 have mixed:Tryd.prog.follows .mixedOrders = true:=by kernel_rfl
 go_big_region_o
 all_goals go_wp2
 refine bodyPost_ret (v:=.tuple #[.agg #[.slice A L.length cc,.int .i64 T,.int .u64 N],.bool B,.agg #[.int .i64 C,.int .i64 0]]) (by simp [results,Tryd.results6,go_sem,b0,b1,b2,c0,c1,m5,m6]) rfl ⟨.slice A L.length cc,rfl,?_,?_⟩
 · refine Kd.R_drew (Kd.R_lower (Kd.R_mono (Kd.R_step (Kd.R_bound HRA.out) (fun k hk _ => ?_)) (fun _ _ => trivial)) (by rw [World.size_alloc,World.size_alloc];omega))
   have h8:=hk.2.1
   rw [World.size_alloc,World.size_alloc] at h8
   rw [Below.heap_setCell _ ⟨W.heap.size + 1,1,none⟩ _ k (show k ≠ W.heap.size + 1 by omega),Below.heap_setCell _ ⟨W.heap.size + 1,0,none⟩ _ k (show k ≠ W.heap.size + 1 by omega),Below.heap_setCell _ ⟨W.heap.size,2,none⟩ _ k (show k ≠ W.heap.size by omega),Below.heap_setCell _ ⟨W.heap.size,1,none⟩ _ k (show k ≠ W.heap.size by omega),Below.heap_setCell _ ⟨W.heap.size,0,none⟩ _ k (show k ≠ W.heap.size by omega)]
 · have h1:=HBA.out.setCell (p:=⟨W.heap.size,0,none⟩) (Nat.le_refl _) (.slice A L.length cc)
   have h2:=h1.setCell (p:=⟨W.heap.size,1,none⟩) (Nat.le_refl _) (.int .i64 T)
   have h3:=h2.setCell (p:=⟨W.heap.size,2,none⟩) (Nat.le_refl _) (.int .u64 N)
   have h4:=h3.setCell (p:=⟨W.heap.size + 1,0,none⟩) (by show W.heap.size ≤ W.heap.size + 1;omega) (.int .i64 C)
   exact ul (h4.setCell (p:=⟨W.heap.size + 1,1,none⟩) (by show W.heap.size ≤ W.heap.size + 1;omega) (.int .i64 0))
theorem u1j.calls (a0:ByteArray) (a1:Int) (r1:List Tx.Lb) (r2 r3:Int) (r4:Bool) (r5 r6:Int) (w:World) (h:u1j.f a0 a1 = some (r1,r2,r3,r4,r5,r6)) :
 Calls Tryd.prog 6 #[.string a0,.int .i64 a1] w fun e w' => ∃ v:Value,e = .returned (.tuple #[.agg #[v,.int .i64 r2,.int .u64 r3],.bool r4,.agg #[.int .i64 r5,.int .i64 r6]]) ∧ Kd.R k37 37 w' w.heap.size (fun _ => True) v r1 ∧ Below w.heap.size w w':=by
 unfold u1j.f at h
 split at h
 · rename_i hm
   cases Option.some.inj h
   have e:a0 = Base.ofL a0.data.toList:=Base.ext_data (Base.ofL_data _).symm
   have hl:a0.data.toList.length ≤ 4611686018427387904:=by rw [← Base.size_list];exact hm
   have h1:=u1j.walk Laws.canB (fun l _ => (Laws.can_ev l).rounds) w a0.data.toList a1 hl
   rw [← e] at h1
   exact h1
 · cases h
def uo.f:Option Int:=none
set_option maxRecDepth 100000 in
set_option maxHeartbeats 2000000 in
theorem uo.lite (a0 a1:ByteArray) (r:Bool) (w:World) (h:u1b.f a0 a1 = some r):Calls Tryd.prog 41 #[.string a0,.string a1] w fun e w' => e = .returned (.bool r) ∧ w' = w:=by
 unfold u1b.f at h
 by_cases c3:(a0.size:Int) ≥ (a1.size:Int)
 · rw [if_pos c3,if_pos (by omega),if_pos (by omega)] at h
   have c3b0:decide ((a1.size:Int) ≤ (a0.size:Int)) = true:=decide_eq_true c3
   have c3b1:decide (a1.size ≤ a0.size) = true:=decide_eq_true (Int.ofNat_le.mp c3)
   have c4b0:(0 ≤ (a1.size:Int)) = True:=eq_true (by omega)
   have c5b0:((a1.size:Int) ≤ (a0.size:Int)) = True:=eq_true c3
   obtain rfl:=Option.some.inj h
   clear c3
   go_enter Tryd.func41,Tryd.ntmps41
   go_wp2
   go_ret
   exact ⟨by first | rfl | (simp;done) | (simp [*];done),rfl⟩
 · rw [if_neg c3] at h
   have c3b0:decide ((a1.size:Int) ≤ (a0.size:Int)) = false:=decide_eq_false c3
   have c3b1:decide (a1.size ≤ a0.size) = false:=decide_eq_false (fun h => c3 (Int.ofNat_le.mpr h))
   clear c3
   obtain rfl:=Option.some.inj h
   go_enter Tryd.func41,Tryd.ntmps41
   go_wp2
   go_ret
   exact ⟨by first | rfl | (simp;done) | (simp [*];done),rfl⟩
theorem uo.help_same (s:List UInt8) (w:World):Calls Tryd.prog 24 #[.string (Base.ofL s),.string ⟨#[35,32,72,69,76,80,32]⟩] w fun e w' => e = .returned (.bool (Tx.helpW.isPrefixOf s)) ∧ w' = w:=by
 have h:uw.f (Base.ofL s) ⟨#[35,32,72,69,76,80,32]⟩ = some (Tx.helpW.isPrefixOf s):=ui.pre_is Tx.helpW s
 unfold uw.f at h
 have h1:u1b.f (Base.ofL s) ⟨#[35,32,72,69,76,80,32]⟩ = some (Tx.helpW.isPrefixOf s):=by
  cases hh:u1b.f (Base.ofL s) ⟨#[35,32,72,69,76,80,32]⟩ with
  | none => rw [hh] at h;cases h
  | some b => rw [hh] at h;exact h
 have HL:=Aside0.mk (uo.lite _ _ _ w h1)
 clear h h1
 generalize Tx.helpW.isPrefixOf s = r at *
 go_enter Tryd.func24,Tryd.ntmps24
 go_wp2_with (go_at_call 41;(with_reducible refine HL.out.mono ?_);rintro e w' ⟨rfl,rfl⟩)
 go_ret
 exact ⟨rfl,rfl⟩
def uo.me (x:S51):Tx.Me:=(x.f0,x.f1,x.f2)
def uo.un (m:Tx.Me):S51:=⟨m.1,m.2.1,m.2.2⟩
theorem uo.un_me (l:List S51):(l.map uo.me).map uo.un = l:=by
 rw [List.map_map]
 exact List.map_id l
theorem uo.note_is (m:S51) (help:Bool):∀ l:List S51,(uh.noteS m help l).map uo.me = Tx.noteP (uo.me m) help (l.map uo.me)
 | [] => rfl
 | x :: l => by
   unfold uh.noteS
   rw [List.map_cons]
   unfold Tx.noteP
   by_cases h:x.f0 = m.f0
   · rw [if_pos h,if_pos (show (uo.me x).1 = (uo.me m).1 from h),List.map_cons]
     unfold uh.set
     cases help <;> rfl
   · rw [if_neg h,if_neg (show ¬ (uo.me x).1 = (uo.me m).1 from h),List.map_cons,uo.note_is m help l]
theorem uo.note_len (m:S51) (help:Bool):∀ l:List S51,(uh.noteS m help l).length ≤ l.length + 1
 | [] => Nat.le_refl _
 | x :: l => by
   unfold uh.noteS
   have:=uo.note_len m help l
   split
   · simp
   · simp only [List.length_cons]
     omega
theorem uo.read_cases (can:List Tx.Lb → Bool) (s:List UInt8) (now:Int):(∃ c,Tx.readP can s now = (none,Tx.me0,c) ∧ c ≠ 0) ∨ (∃ r,Tx.readP can s now = (some r,Tx.me0,0)) ∨ ∃ m:Tx.Me,Tx.readP can s now = (none,m,0) ∧ m.1.size ≤ 1000:=by
 unfold Tx.readP
 by_cases h1:s.length > 1000
 · rw [if_pos h1]
   exact Or.inl ⟨4,rfl,by decide⟩
 · rw [if_neg h1]
   split
   · exact Or.inl ⟨280,rfl,by decide⟩
   · split
     · rename_i t hx
       cases hm:Tx.remarkP (35 :: t) with
       | none => exact Or.inl ⟨280,rfl,by decide⟩
       | some m =>
         refine Or.inr (Or.inr ⟨m,rfl,?_⟩)
         unfold Tx.remarkP at hm
         split at hm
         · unfold Tx.nameP at hm
           split at hm
           · simp only [Option.bind_some] at hm
             have hsz:(Base.ofL (((35 :: t).drop 7).takeWhile Tx.wordC)).size ≤ 1000:=by
              have a1:=(Tx.cut_ofL (((35 :: t).drop 7).takeWhile Tx.wordC) 0 (by omega)).2.2
              have a2:=Tx.tw_le Tx.wordC ((35 :: t).drop 7)
              rw [List.length_drop] at a2
              omega
             cases he:Tx.expectP [32] (((35 :: t).drop 7).dropWhile Tx.wordC) with
             | none => rw [he] at hm;cases hm
             | some r =>
               rw [he] at hm
               simp only [Option.bind_some] at hm
               split at hm
               · split at hm
                 · cases Option.some.inj hm
                   exact hsz
                 · cases hm
               · split at hm
                 · cases Option.some.inj hm
                   exact hsz
                 · cases hm
           · cases hm
         · cases Option.some.inj hm
           decide
     · split
       · exact Or.inr (Or.inr ⟨Tx.me0,rfl,by decide⟩)
       · cases Tx.sampleP can s now with
         | none => exact Or.inl ⟨280,rfl,by decide⟩
         | some r => exact Or.inr (Or.inl ⟨r,rfl⟩)
structure uo.In (w0 W:World) (gf gb:Nat) (vr:Value) (rows:List S25) (L:List S51):Prop where
 below:Below w0.heap.size w0 W
 fb:w0.heap.size ≤ gf
 fault:W.heap[gf]? = some (.cells #[.int .i64 0,.int .i64 0] 28 (0,0))
 rows:Kd.R k25 25 W w0.heap.size (fun _ => True) vr rows
 book:uh.Bk w0 W gb L
theorem uo.own_below {W W':World} {P:Program} {k:TypeId} {R:Value → Option (DataW Unit × List MemPlace)} {b n:Nat} {D:DataW Unit} (h:W.ownsMap P k R b n D) (hb:Below W.heap.size W W'):W'.ownsMap P k R b n D:=by
 have hlt:=h.lt
 obtain ⟨es,clock,h1,F,hs,hD⟩:=h
 exact ⟨es,clock,(hb.block b hlt).trans h1,F,hs,hD⟩
theorem uo.bk_more {w0 W W':World} {gb:Nat} {L:List S51} (h:uh.Bk w0 W gb L) (hb:Below W.heap.size W W'):uh.Bk w0 W' gb L:=by
 obtain ⟨h0,v,bm,D,h1,h2,h3,h4,h5⟩:=h
 exact ⟨h0,v,bm,D,ua.below_at hb h1,uo.own_below h2 hb,h3,Kd.R_below h4 hb,h5⟩
theorem uo.In.more {w0 W W':World} {gf gb:Nat} {vr:Value} {rows:List S25} {L:List S51} (h:uo.In w0 W gf gb vr rows L) (hb:Below W.heap.size W W'):uo.In w0 W' gf gb vr rows L :=
 ⟨u1k h.below h.below.size hb,h.fb,ua.below_at hb h.fault,Kd.R_below h.rows hb,uo.bk_more h.book hb⟩
def uo.Out (w0:World) (X:List Tx.Rw × List Tx.Me × Int × Int) (e:Ending) (W':World):Prop:=∃ v1 v2:Value,e = .returned (.tuple #[v1,v2,.agg #[.int .i64 X.2.2.1,.int .i64 X.2.2.2]]) ∧ Kd.R k25 25 W' w0.heap.size (fun _ => True) v1 X.1 ∧ Kd.R k51 51 W' w0.heap.size (fun _ => True) v2 (X.2.1.map uo.un) ∧ Below w0.heap.size w0 W'
theorem uo.noted {w0 W W':World} {gf gb:Nat} {vr:Value} {rows:List S25} {L L':List S51} (h:uo.In w0 W gf gb vr rows L) (hbk:uh.Bk w0 W' gb L') (hbl:Below w0.heap.size w0 W') (hst:uh.Stay W W'):uo.In w0 W' gf gb vr rows L' :=
 ⟨hbl,h.fb,(hst gf _ _ h.fault (by decide) (by decide)).trans h.fault,Kd.R_mono (Kd.R_step (Kd.R_bound h.rows) (fun k hk _ => by
   obtain ⟨_,_,_,q,hq,cells,hc⟩:=hk
   have hall:∀ q ∈ (25 :: k25.E:List Nat),q ≠ 63 ∧ q ≠ 51:=by decide
   exact hst k q cells hc (hall q hq).1 (hall q hq).2)) (fun _ _ => trivial),hbk⟩
theorem uo.bad (w0 W:World) (gf:Nat) (C line:Int) (X:List Tx.Rw × List Tx.Me × Int × Int) (hX:X = ([],[],C,line)) (hb:Below w0.heap.size w0 W) (hf:w0.heap.size ≤ gf):uo.Out w0 X (.returned (.tuple #[.slice none 0 0,.slice none 0 0,.agg #[.int .i64 C,.int .i64 line]])) ((W.setCell ⟨gf,0,none⟩ (.int .i64 C)).setCell ⟨gf,1,none⟩ (.int .i64 line)):=by
 subst hX
 exact ⟨_,_,rfl,Kd.R_nil _ _ _ _ _,Kd.R_nil _ _ _ _ _,(hb.setCell hf _).setCell hf _⟩
theorem uo.good (w0 W:World) (gf gb:Nat) (rows:List S25) (L:List S51) (X:List Tx.Rw × List Tx.Me × Int × Int) (hX:X = (rows,L.map uo.me,0,0)) (v1 v2:Value) (h:uo.In w0 W gf gb v1 rows L) (h2:Kd.R k51 51 W w0.heap.size (fun _ => True) v2 L):uo.Out w0 X (.returned (.tuple #[v1,v2,.agg #[.int .i64 0,.int .i64 0]])) (((W.setCell ⟨gf,0,none⟩ (.int .i64 0)).setCell ⟨gf,1,none⟩ (.int .i64 0)).drew):=by
 subst hX
 have f1:=blk_set h.fault 0 (.int .i64 0)
 refine ⟨v1,v2,rfl,Kd.R_drew (Kd.R_set (Kd.R_set h.rows h.fault (by decide) 0 _) f1 (by decide) 1 _),?_,below_drew (((h.below.setCell h.fb _).setCell h.fb _))⟩
 show Kd.R k51 51 _ w0.heap.size (fun _ => True) v2 ((L.map uo.me).map uo.un)
 rw [uo.un_me]
 exact Kd.R_drew (Kd.R_set (Kd.R_set h2 h.fault (by decide) 0 _) f1 (by decide) 1 _)
theorem uo.infoR:(Tryd.prog.info? 25).map (fun i => (i.zero,i.size,i.bytes)) = some (some (.agg #[.slice none 0 0,.int .i64 0,.int .u64 0]),3,40):=by kernel_rfl
theorem uo.bk_grown {w0 W W':World} {gb:Nat} {L:List S51} {v:Value} (h:uh.Bk w0 W gb L) (hg:W.grownBy W' v.ownBlock) (hv:∀ k,v.ownBlock = some k → ∃ cells,W.heap[k]? = some (.cells cells 25 (0,0))):uh.Bk w0 W' gb L:=by
 obtain ⟨h0,v2,bm,D,h1,h2,h3,h4,h5⟩:=h
 have far:∀ (k t:Nat) (cells:Array Value),W.heap[k]? = some (.cells cells t (0,0)) → t ≠ 25 → some k ≠ v.ownBlock:=fun k t cells hk ht e => by
  obtain ⟨c,hc⟩:=hv k e.symm
  rw [hk] at hc
  injection hc with hc
  injection hc with _ hc
  exact ht hc
 refine ⟨h0,v2,bm,D,blk_grown h1 hg (far _ _ _ h1 (by decide)),h2.kept hg (fun e => ?_),h3,Kd.R_over' h4 hv (by decide) hg,h5⟩
 obtain ⟨c,hc⟩:=hv bm e.symm
 obtain ⟨es,clock,hb1,_⟩:=h2
 rw [hb1] at hc
 cases hc
theorem uo.made (w0 W:World) (hb:Below w0.heap.size w0 W):uh.Bk w0 ((W.alloc (.map #[] 0)).alloc (.cells #[.slice none 0 0,.map (some W.heap.size)] 63)) (W.heap.size + 1) []:=by
 refine ⟨by have:=hb.size;omega,.slice none 0 0,W.heap.size,.map [],?_,?_,⟨Maps.isMap_empty,fun i h => absurd h (Nat.not_lt_zero _),fun key _ => rfl⟩,Kd.R_nil _ _ _ _ _,hb.size⟩
 · have:=ua.new_at (W.alloc (.map #[] 0)) (.cells #[.slice none 0 0,.map (some W.heap.size)] 63)
   rw [World.size_alloc] at this
   exact this
 · exact (World.ownsMap_made W _ _ _).alloc _
set_option maxRecDepth 100000 in
set_option maxHeartbeats 4000000 in
theorem uo.calls (can:List Tx.Lb → Bool) (hcan:∀ l:List Tx.Lb,l.length ≤ 10 → ∃ k,u1g.f k l = some (can l)) (w0:World) (A0:Option Addr) (c0:Nat) (xs0:List Int) (now:Int) (hx0:(Kd.int .u8).C w0 A0 xs0.length xs0) (hc0:xs0.length ≤ c0) (hn:xs0.length ≤ 1000000000000) :
 Calls Tryd.prog 14 #[.slice A0 xs0.length c0,.int .i64 now] w0 fun e W' => uo.Out w0 (Tx.parseP can now (xs0.length + 1) 1 [] [] (Lib.bytesOf xs0)) e W':=by
 generalize hX:Tx.parseP can now (xs0.length + 1) 1 [] [] (Lib.bytesOf xs0) = X
 have HX:=Aside0.mk hX
 have HC0:=Aside0.mk hx0
 have HI0:Aside0 (uo.In w0 (((w0.alloc (.cells #[.int .i64 0,.int .i64 0] 28)).alloc (.map #[] 0)).alloc (.cells #[.slice none 0 0,.map (some (w0.heap.size + 1))] 63)) w0.heap.size (w0.heap.size + 1 + 1) (.slice none 0 0) [] []):=by
  have hb:=uf (Below.refl w0.heap.size w0) (.cells #[.int .i64 0,.int .i64 0] 28)
  have hm:=uo.made w0 _ hb
  rw [World.size_alloc] at hm
  exact ⟨⟨uf (uf hb _) _,Nat.le_refl _,ua.new_old (ua.new_old (ua.new_at _ _) _) _,Kd.R_nil _ _ _ _ _,hm⟩⟩
 have hmk:=fun w => run_makeMap (P:=Tryd.prog) 61 w
 clear hX hx0
 go_enter Tryd.func14,Tryd.ntmps14
 go_wp2
 go_loopg [0,7,9] (xs0.length + 1) (fun kq v0 v7 v9 wr => ∃ (A:Option Addr) (c:Nat) (xs:List Int) (rows:List S25) (L:List S51) (line:Nat),v0 = .slice A xs.length c ∧ v9 = .int .i64 (line:Int) ∧ xs.length < kq ∧ xs.length ≤ c ∧ line + xs.length ≤ xs0.length + 1 ∧ L.length ≤ line ∧ rows.length ≤ 10000 ∧ Aside0 ((Kd.int .u8).C w0 A xs.length xs) ∧ Aside0 (Tx.parseP can now kq (line:Int) rows (L.map uo.me) (Lib.bytesOf xs) = X) ∧ Aside0 (uo.In w0 wr w0.heap.size (w0.heap.size + 1 + 1) v7 rows L))
 case atStart => exact ⟨A0,c0,xs0,[],[],1,rfl,rfl,by omega,hc0,by omega,by simp,by simp,HC0,HX,HI0⟩
 case round =>
  clear HX HI0 HC0
  obtain ⟨A,c,xs,rows,L,line,rfl,rfl,hlk,hlc,hln,hL1,hrw,HC,HX,HI⟩:=hrel
  obtain ⟨Ar,cr,er⟩:=Kd.R_slice HI.out.rows
  subst er
  obtain ⟨k1,rfl⟩:∃ k1,gk = k1 + 1:=⟨gk - 1,by omega⟩
  by_cases hxs:xs.length = 0
  · obtain rfl:xs = []:=List.eq_nil_of_length_eq_zero hxs
    have hXe:X = (rows,L.map uo.me,0,0):=by
     rw [← HX.out]
     unfold Tx.parseP
     exact if_pos rfl
    obtain ⟨_,vm,bm,D,hg,_,_,hRm,_⟩:=HI.out.book
    obtain ⟨Am,cm,em⟩:=Kd.R_slice hRm
    subst em
    have HRM:=Aside0.mk hRm
    obtain ⟨g0,g1,g2,g3⟩:=ua.look2 hg
    obtain ⟨z0,z1,z2,z3⟩:=ua.look2 HI.out.fault
    have mixed:Tryd.prog.follows .mixedOrders = true:=by kernel_rfl
    clear hRm hg HX hlk hlc
    go_wp2
    go_region_o
    all_goals go_wp2
    refine bodyPost_ret (v:=.tuple #[.slice Ar rows.length cr,.slice Am L.length cm,.agg #[.int .i64 0,.int .i64 0]]) (by simp [results,Tryd.results14,go_sem,z0,z1]) rfl ?_
    exact uo.good w0 wr _ _ rows L X hXe _ _ HI.out HRM.out
  · have hp:0 < xs.length:=by omega
    have hgt:(xs.length:Int) > 0:=by omega
    have HP:=Aside0.mk hp
    have HLC:=Aside0.mk hlc
    have HN:Aside0 (xs.length ≤ 4611686018427387904):=⟨by omega⟩
    obtain ⟨S,hS⟩:∃ S,Tx.partL (Lib.bytesOf xs) = S:=⟨_,rfl⟩
    have hSl:S.length ≤ xs.length:=by
     have h1:=Tx.tw_le (· != 10) (Lib.bytesOf xs)
     rw [Lib.bytesOf_length] at h1
     rw [← hS]
     exact h1
    have HSS:=Aside0.mk hS
    have HX2:Aside0 ((let x:=Tx.readP can S now;let e:=if x.1.isSome = true ∧ rows.length = 10000 then 4 else x.2.2;if e ≠ 0 then ([],[],e,(line:Int)) else Tx.parseP can now k1 ((line:Int) + 1) (rows ++ x.1.toList) (if x.2.1.1 = Base.ofL [] then L.map uo.me else Tx.noteP x.2.1 (Tx.helpW.isPrefixOf S) (L.map uo.me)) (Tx.restL (Lib.bytesOf xs))) = X):=⟨by
     have h1:=HX.out
     unfold Tx.parseP at h1
     rw [if_neg (fun e => by
      have h2:=congrArg List.length e
      rw [Lib.bytesOf_length] at h2
      exact hxs h2),hS] at h1
     exact h1⟩
    clear HX hS
    have hemp:(Base.ofL []).toList.isEmpty = true:=by rw [ByteArray.toList_eq,Base.ofL_data];rfl
    rcases uo.read_cases can S now with ⟨C,hr,hC⟩ | ⟨r,hr⟩ | ⟨m,hr,hm⟩
    · have HRD:Aside0 (∀ W,Calls Tryd.prog 16 #[.string (Base.ofL S),.int .i64 now] W fun e W' => ∃ v:Value,e = .returned (.tuple #[.agg #[v,.int .i64 0,.int .u64 0,.bool false,.string (Base.ofL []),.string (Base.ofL []),.string (Base.ofL [])],.int .i64 C]) ∧ Kd.R k37 37 W' W.heap.size (fun _ => True) v [] ∧ Below W.heap.size W W'):=⟨fun W => u1j.read_at can hcan W S now (by omega) [] 0 0 C false (Base.ofL []) (Base.ofL []) (Base.ofL []) (by rw [hr];rfl) (by rw [hr];rfl) (by rw [hr];rfl) (by rw [hr];rfl) (by rw [hr];rfl) (by rw [hr])⟩
      have hXe:X = ([],[],C,(line:Int)):=by rw [← HX2.out,hr];simp [hC]
      have hCb:(C == 0) = false:=beq_eq_false_iff_ne.2 hC
      have hCn:(C != 0) = true:=bne_iff_ne.2 hC
      clear HX2 hr
      go_wp2_with (first
       | (go_at_call 22;(with_reducible refine (u2j.cut A c 1 xs _ _ (Kd.C_alloc (Kd.C_below HC.out HI.out.below) _) HLC.out HP.out HN.out ?hs).mono ?_);(case hs => exact (u1f (ua.new_at _ _) 0).trans rfl);rintro e W1 ⟨A1,A2,c1,c2,p,q,f,rfl,hpq,hqc,hpl,hql,ep,eq,hb1⟩;have HI1:=Aside0.mk (HI.out.more (u1i (uf (Below.refl _ _) _) hb1));have HQ:=Aside0.mk (hpq _ HC.out).2;have hcv:=Kd.C_string Tryd.underlying42 Tryd.underlying5 Tryd.underlying9 (hpq _ (Kd.C_below HC.out HI1.out.below)).1 (c:=c1);rw [show strOfNums p = Base.ofL S from (by rw [← HSS.out,← ep];rfl)] at hcv;clear hpq hb1 ep)
       | (go_at_call 16;(with_reducible refine (HRD.out _).mono ?_);rintro e W2 ⟨v,rfl,hr2,hb2⟩;have HI2:=Aside0.mk (HI1.out.more hb2);obtain ⟨Al,cl,el⟩:=Kd.R_slice hr2;subst el;have HR2:=Aside0.mk hr2;clear hr2 hb2;obtain ⟨z0,z1,z2,z3⟩:=ua.look2 (ua.new_old HI2.out.fault (.cells #[.slice Al 0 cl,.int .i64 0,.int .u64 0,.bool false,.string (Base.ofL []),.string (Base.ofL []),.string (Base.ofL [])] 53))))
      refine bodyPost_ret (v:=.tuple #[.slice none 0 0,.slice none 0 0,.agg #[.int .i64 C,.int .i64 (line:Int)]]) (by simp [results,Tryd.results14,go_sem,z0,z1]) rfl ?_
      exact uo.bad w0 _ _ C line X hXe (uf HI2.out.below _) (Nat.le_refl _)
    · have HRD:Aside0 (∀ W,Calls Tryd.prog 16 #[.string (Base.ofL S),.int .i64 now] W fun e W' => ∃ v:Value,e = .returned (.tuple #[.agg #[v,.int .i64 r.f1,.int .u64 r.f2,.bool true,.string (Base.ofL []),.string (Base.ofL []),.string (Base.ofL [])],.int .i64 0]) ∧ Kd.R k37 37 W' W.heap.size (fun _ => True) v r.f0 ∧ Below W.heap.size W W'):=⟨fun W => u1j.read_at can hcan W S now (by omega) r.f0 r.f1 r.f2 0 true (Base.ofL []) (Base.ofL []) (Base.ofL []) (by rw [hr];rfl) (by rw [hr];rfl) (by rw [hr];rfl) (by rw [hr];rfl) (by rw [hr];rfl) (by rw [hr])⟩
      by_cases h10:rows.length = 10000
      · have hXe:X = ([],[],4,(line:Int)):=by rw [← HX2.out,hr];simp [h10]
        have hf:((rows.length:Int) == 10000) = true:=beq_iff_eq.2 (by omega)
        clear HX2 hr
        go_wp2_with (first
         | (go_at_call 22;(with_reducible refine (u2j.cut A c 1 xs _ _ (Kd.C_alloc (Kd.C_below HC.out HI.out.below) _) HLC.out HP.out HN.out ?hs).mono ?_);(case hs => exact (u1f (ua.new_at _ _) 0).trans rfl);rintro e W1 ⟨A1,A2,c1,c2,p,q,f,rfl,hpq,hqc,hpl,hql,ep,eq,hb1⟩;have HI1:=Aside0.mk (HI.out.more (u1i (uf (Below.refl _ _) _) hb1));have HQ:=Aside0.mk (hpq _ HC.out).2;have hcv:=Kd.C_string Tryd.underlying42 Tryd.underlying5 Tryd.underlying9 (hpq _ (Kd.C_below HC.out HI1.out.below)).1 (c:=c1);rw [show strOfNums p = Base.ofL S from (by rw [← HSS.out,← ep];rfl)] at hcv;clear hpq hb1 ep)
         | (go_at_call 16;(with_reducible refine (HRD.out _).mono ?_);rintro e W2 ⟨v,rfl,hr2,hb2⟩;have HI2:=Aside0.mk (HI1.out.more hb2);obtain ⟨Al,cl,el⟩:=Kd.R_slice hr2;subst el;have HR2:=Aside0.mk hr2;clear hr2 hb2;obtain ⟨z0,z1,z2,z3⟩:=ua.look2 (ua.new_old HI2.out.fault (.cells #[.slice Al r.f0.length cl,.int .i64 r.f1,.int .u64 r.f2,.bool true,.string (Base.ofL []),.string (Base.ofL []),.string (Base.ofL [])] 53))))
        refine bodyPost_ret (v:=.tuple #[.slice none 0 0,.slice none 0 0,.agg #[.int .i64 4,.int .i64 (line:Int)]]) (by simp [results,Tryd.results14,go_sem,z0,z1]) rfl ?_
        exact uo.bad w0 _ _ 4 line X hXe (uf HI2.out.below _) (Nat.le_refl _)
      · have hXe:Aside0 (Tx.parseP can now k1 ((line:Int) + 1) (rows ++ [r]) (L.map uo.me) (Tx.restL (Lib.bytesOf xs)) = X):=⟨by rw [← HX2.out,hr];simp [h10,Tx.me0]⟩
        have hf:((rows.length:Int) == 10000) = false:=beq_eq_false_iff_ne.2 (by omega)
        clear HX2 hr
        go_wp2_with (first
         | (go_at_call 22;(with_reducible refine (u2j.cut A c 1 xs _ _ (Kd.C_alloc (Kd.C_below HC.out HI.out.below) _) HLC.out HP.out HN.out ?hs).mono ?_);(case hs => exact (u1f (ua.new_at _ _) 0).trans rfl);rintro e W1 ⟨A1,A2,c1,c2,p,q,f,rfl,hpq,hqc,hpl,hql,ep,eq,hb1⟩;have HI1:=Aside0.mk (HI.out.more (u1i (uf (Below.refl _ _) _) hb1));have HQ:=Aside0.mk (hpq _ HC.out).2;have hcv:=Kd.C_string Tryd.underlying42 Tryd.underlying5 Tryd.underlying9 (hpq _ (Kd.C_below HC.out HI1.out.below)).1 (c:=c1);rw [show strOfNums p = Base.ofL S from (by rw [← HSS.out,← ep];rfl)] at hcv;clear hpq hb1 ep)
         | (go_at_call 16;(with_reducible refine (HRD.out _).mono ?_);rintro e W2 ⟨v,rfl,hr2,hb2⟩;have HI2:=Aside0.mk (HI1.out.more hb2);obtain ⟨Al,cl,el⟩:=Kd.R_slice hr2;subst el;have HR2:=Aside0.mk hr2;clear hr2 hb2;obtain ⟨z0,z1,z2,z3⟩:=ua.look2 (ua.new_old HI2.out.fault (.cells #[.slice Al r.f0.length cl,.int .i64 r.f1,.int .u64 r.f2,.bool true,.string (Base.ofL []),.string (Base.ofL []),.string (Base.ofL [])] 53)))
         | ((with_reducible refine u1t (b:=.append) (xs:=#[.tmp 54,.tmp 57]) rfl ?_);at_builtin;go_loud (refine Kd.R_append k25 (w0:=w0) (W:=W2.alloc (.cells #[.slice Al r.f0.length cl,.int .i64 r.f1,.int .u64 r.f2,.bool true,.string (Base.ofL []),.string (Base.ofL []),.string (Base.ofL [])] 53)) w0.heap.size rfl (.tmp 54) (.tmp 57) 43 25 (.agg #[.slice none 0 0,.int .i64 0,.int .u64 0]) 40 rfl Tryd.underlying43 uo.infoR rfl (by decide) (by decide) _ rows r [.slice Al r.f0.length cl,.int .i64 r.f1,.int .u64 r.f2] (fun _ => True) (fun k => W1.heap.size ≤ k) rfl (by rw [World.size_alloc];rfl) ?hM ?hok (fun _ _ => trivial) (Kd.R_alloc HI2.out.rows _) (uf HI2.out.below _) ?hbs ?hbig ?_;(case hM => exact k25_mkM _ _ _ r (Kd.R_lower (Kd.R_mono (Kd.R_bound (Kd.R_alloc HR2.out _)) (fun k hk => hk.2.1)) HI1.out.below.size));(case hok => intro k hk;refine ⟨trivial,fun e => ?_⟩;have h1:=Kd.R_lt HI1.out.rows k e.symm;omega);(case hbs => have h1:=HI2.out.below.size;rw [World.size_alloc];omega);(case hbig => omega);intro v8 w8 ho hb hg8 hat;have HR8:=Aside0.mk ho;have HB8:=Aside0.mk hb;have HG8:=Aside0.mk hg8;obtain ⟨⟨q0,q1,q2,q3,q4,q5,q6⟩,fq⟩:=ue.look7 (blk_grown (ua.new_at W2 (.cells #[.slice Al r.f0.length cl,.int .i64 r.f1,.int .u64 r.f2,.bool true,.string (Base.ofL []),.string (Base.ofL []),.string (Base.ofL [])] 53)) hg8 (Kd.R_ne (Kd.R_alloc HI2.out.rows (.cells #[.slice Al r.f0.length cl,.int .i64 r.f1,.int .u64 r.f2,.bool true,.string (Base.ofL []),.string (Base.ofL []),.string (Base.ofL [])] 53)) (ua.new_at W2 (.cells #[.slice Al r.f0.length cl,.int .i64 r.f1,.int .u64 r.f2,.bool true,.string (Base.ofL []),.string (Base.ofL []),.string (Base.ofL [])] 53)) (show (25:Nat) ≠ 53 by decide)));clear ho hb hg8 hat)))
        have HI8:Aside0 (uo.In w0 w8 w0.heap.size (w0.heap.size + 1 + 1) v8 (rows ++ [r]) L):=⟨by
         have hA:=HI2.out.more (uf (Below.refl W2.heap.size W2) (.cells #[.slice Al r.f0.length cl,.int .i64 r.f1,.int .u64 r.f2,.bool true,.string (Base.ofL []),.string (Base.ofL []),.string (Base.ofL [])] 53))
         exact ⟨HB8.out,Nat.le_refl _,blk_grown hA.fault HG8.out (Kd.R_ne hA.rows hA.fault (by decide)),HR8.out,uo.bk_grown hA.book HG8.out (Kd.R_typed hA.rows)⟩⟩
        have hll:rows.length < 10000:=by omega
        go_roundg k1
        case rel => exact ⟨A2,c2,q,rows ++ [r],L,line + 1,rfl,by go_num,by omega,hqc,by omega,by omega,by simp;omega,HQ,⟨by rw [eq];exact hXe.out⟩,HI8⟩
        case measure => omega
    · have HRD:Aside0 (∀ W,Calls Tryd.prog 16 #[.string (Base.ofL S),.int .i64 now] W fun e W' => ∃ v:Value,e = .returned (.tuple #[.agg #[v,.int .i64 0,.int .u64 0,.bool false,.string m.1,.string m.2.1,.string m.2.2],.int .i64 0]) ∧ Kd.R k37 37 W' W.heap.size (fun _ => True) v [] ∧ Below W.heap.size W W'):=⟨fun W => u1j.read_at can hcan W S now (by omega) [] 0 0 0 false m.1 m.2.1 m.2.2 (by rw [hr];rfl) (by rw [hr];rfl) (by rw [hr];rfl) (by rw [hr];rfl) (by rw [hr]) (by rw [hr])⟩
      by_cases hm1:m.1 = Base.ofL []
      · have hXe:Aside0 (Tx.parseP can now k1 ((line:Int) + 1) rows (L.map uo.me) (Tx.restL (Lib.bytesOf xs)) = X):=⟨by rw [← HX2.out,hr];simp [hm1]⟩
        have hme:m.1.toList.isEmpty = true:=by rw [hm1];exact hemp
        clear HX2 hr
        go_wp2_with (first
         | (go_at_call 22;(with_reducible refine (u2j.cut A c 1 xs _ _ (Kd.C_alloc (Kd.C_below HC.out HI.out.below) _) HLC.out HP.out HN.out ?hs).mono ?_);(case hs => exact (u1f (ua.new_at _ _) 0).trans rfl);rintro e W1 ⟨A1,A2,c1,c2,p,q,f,rfl,hpq,hqc,hpl,hql,ep,eq,hb1⟩;have HI1:=Aside0.mk (HI.out.more (u1i (uf (Below.refl _ _) _) hb1));have HQ:=Aside0.mk (hpq _ HC.out).2;have hcv:=Kd.C_string Tryd.underlying42 Tryd.underlying5 Tryd.underlying9 (hpq _ (Kd.C_below HC.out HI1.out.below)).1 (c:=c1);rw [show strOfNums p = Base.ofL S from (by rw [← HSS.out,← ep];rfl)] at hcv;clear hpq hb1 ep)
         | (go_at_call 16;(with_reducible refine (HRD.out _).mono ?_);rintro e W2 ⟨v,rfl,hr2,hb2⟩;have HI2:=Aside0.mk (HI1.out.more hb2);obtain ⟨Al,cl,el⟩:=Kd.R_slice hr2;subst el;have HR2:=Aside0.mk hr2;clear hr2 hb2;obtain ⟨z0,z1,z2,z3⟩:=ua.look2 (ua.new_old HI2.out.fault (.cells #[.slice Al 0 cl,.int .i64 0,.int .u64 0,.bool false,.string m.1,.string m.2.1,.string m.2.2] 53))))
        go_roundg k1
        case rel => exact ⟨A2,c2,q,rows,L,line + 1,rfl,by go_num,by omega,hqc,by omega,by omega,hrw,HQ,⟨by rw [eq];exact hXe.out⟩,⟨HI2.out.more (uf (Below.refl _ _) _)⟩⟩
        case measure => omega
      · have hXe:Aside0 (Tx.parseP can now k1 ((line:Int) + 1) rows (Tx.noteP m (Tx.helpW.isPrefixOf S) (L.map uo.me)) (Tx.restL (Lib.bytesOf xs)) = X):=⟨by rw [← HX2.out,hr];simp [hm1]⟩
        have hme:m.1.toList.isEmpty = false:=by
         cases h:m.1.toList with
         | nil => exact absurd (Base.ext_data (by rw [Base.ofL_data,← ByteArray.toList_eq];exact h)) hm1
         | cons _ _ => rfl
        clear HX2 hr
        go_wp2_with (first
         | (go_at_call 22;(with_reducible refine (u2j.cut A c 1 xs _ _ (Kd.C_alloc (Kd.C_below HC.out HI.out.below) _) HLC.out HP.out HN.out ?hs).mono ?_);(case hs => exact (u1f (ua.new_at _ _) 0).trans rfl);rintro e W1 ⟨A1,A2,c1,c2,p,q,f,rfl,hpq,hqc,hpl,hql,ep,eq,hb1⟩;have HI1:=Aside0.mk (HI.out.more (u1i (uf (Below.refl _ _) _) hb1));have HQ:=Aside0.mk (hpq _ HC.out).2;have hcv:=Kd.C_string Tryd.underlying42 Tryd.underlying5 Tryd.underlying9 (hpq _ (Kd.C_below HC.out HI1.out.below)).1 (c:=c1);rw [show strOfNums p = Base.ofL S from (by rw [← HSS.out,← ep];rfl)] at hcv;clear hpq hb1 ep)
         | (go_at_call 16;(with_reducible refine (HRD.out _).mono ?_);rintro e W2 ⟨v,rfl,hr2,hb2⟩;have HI2:=Aside0.mk (HI1.out.more hb2);obtain ⟨Al,cl,el⟩:=Kd.R_slice hr2;subst el;have HR2:=Aside0.mk hr2;clear hr2 hb2;obtain ⟨z0,z1,z2,z3⟩:=ua.look2 (ua.new_old HI2.out.fault (.cells #[.slice Al 0 cl,.int .i64 0,.int .u64 0,.bool false,.string m.1,.string m.2.1,.string m.2.2] 53))))
        have HI3:=Aside0.mk (HI2.out.more (uf (Below.refl W2.heap.size W2) (.cells #[.slice Al 0 cl,.int .i64 0,.int .u64 0,.bool false,.string m.1,.string m.2.1,.string m.2.2] 53)))
        have HS3:=Aside0.mk (ua.new_at W2 (.cells #[.slice Al 0 cl,.int .i64 0,.int .u64 0,.bool false,.string m.1,.string m.2.1,.string m.2.2] 53))
        obtain ⟨⟨q0,q1,q2,q3,q4,q5,q6⟩,fq⟩:=ue.look7 HS3.out
        clear z0 z1 z2 z3
        generalize W2.alloc (.cells #[.slice Al 0 cl,.int .i64 0,.int .u64 0,.bool false,.string m.1,.string m.2.1,.string m.2.2] 53) = W3 at *
        generalize W2.heap.size = zz at *
        go_still_tail 5,(by kernel_rfl)
        still_call (uo.help_same S _)
        refine wpStill_nil ?_
        change wpList _ _ _ _ _ W3.drew
        have HI4:=Aside0.mk (HI3.out.more (below_drew (Below.refl W3.heap.size W3)))
        have HM:Aside0 ((uo.un m).f0.size ≤ maxLen ∧ L.length ≤ 1000000000000):=⟨by show m.1.size ≤ _;unfold maxLen;omega,by omega⟩
        clear HI3 HS3 q0 q1 q2 q3 q4 q5 q6 fq
        generalize W3.drew = W4 at *
        have HNT:Aside0 (Calls Tryd.prog 23 #[.pointer (some ⟨w0.heap.size + 1 + 1,0,none⟩),.agg #[.string m.1,.string m.2.1,.string m.2.2],.bool (Tx.helpW.isPrefixOf S)] W4 fun e W' => e = .returned (.tuple #[]) ∧ uh.Bk w0 W' (w0.heap.size + 1 + 1) (uh.noteS (uo.un m) (Tx.helpW.isPrefixOf S) L) ∧ Below w0.heap.size w0 W' ∧ uh.Stay W4 W' ∧ W4.heap.size ≤ W'.heap.size):=⟨uh.calls w0 _ (w0.heap.size + 1 + 1) L (uo.un m) (Tx.helpW.isPrefixOf S) HI4.out.book HI4.out.below HM.out.1 HM.out.2⟩
        go_wp2_with (first
         | (go_at_call 23;(with_reducible refine HNT.out.mono ?_);rintro e W5 ⟨rfl,hbk,hbl,hst,hsz⟩;have HI5:=Aside0.mk (uo.noted HI4.out hbk hbl hst);clear hbk hbl hst hsz))
        go_roundg k1
        case rel => exact ⟨A2,c2,q,rows,uh.noteS (uo.un m) (Tx.helpW.isPrefixOf S) L,line + 1,rfl,by go_num,by omega,hqc,by omega,Nat.le_trans (uo.note_len _ _ _) (by omega),hrw,HQ,⟨by rw [eq,uo.note_is];exact hXe.out⟩,HI5⟩
        case measure => omega
def u2c.f  : Option (Bool):=(u1j.f (⟨#[117,112,123,106,111,98,61,34,120,34,125,32,48,120,49,102,32,55]⟩:ByteArray) 0).bind fun bt261 => (if bt261.2.2.2.1 = true then (if bt261.2.2.2.2.1 = 0 then (if bt261.2.2.1 = 31 then (if bt261.2.1 = 7 then (some ((bt261.1.length:Int) == 2)) else (some false)) else (some false)) else (some false)) else (some false))
set_option maxHeartbeats 8000000 in
set_option maxRecDepth 100000 in
theorem u2c.calls  (r:Bool) (w:World) (h:u2c.f  = some r) :
 Calls Tryd.prog 9 #[] w fun e w' => e = .returned (.bool r) ∧ Below w.heap.size w w':=by
 have hu25:=Tryd.underlying25
 have hu28:=Tryd.underlying28
 have HB:=Aside0.mk (Below.refl w.heap.size w)
 have H:((u1j.f (⟨#[117,112,123,106,111,98,61,34,120,34,125,32,48,120,49,102,32,55]⟩:ByteArray) 0).bind fun bt261 => (if bt261.2.2.2.1 = true then (if bt261.2.2.2.2.1 = 0 then (if bt261.2.2.1 = 31 then (if bt261.2.1 = 7 then (some ((bt261.1.length:Int) == 2)) else (some false)) else (some false)) else (some false)) else (some false))) = some r:=h
 clear h
 replace H:=Option.bind_eq_some_iff.mp H
 obtain ⟨⟨t261,t264,t265,t266,t267,t268⟩,A10,H⟩:=H
 replace H:(if t266 = true then (if t267 = 0 then (if t265 = 31 then (if t264 = 7 then (some ((t261.length:Int) == 2)) else (some false)) else (some false)) else (some false)) else (some false)) = some r:=H
 have A1:=Aside0.mk A10
 clear A10
 by_cases c2:t266 = true
 · subst c2
   have H1:(if t267 = 0 then (if t265 = 31 then (if t264 = 7 then (some ((t261.length:Int) == 2)) else (some false)) else (some false)) else (some false)) = some r:=by rw [if_pos rfl] at H;exact H
   clear H
   have H:=H1
   clear H1
   by_cases c3:t267 = 0
   · rw [if_pos c3] at H
     have c3b0:(t267 == 0) = true:=beq_iff_eq.mpr c3
     have c3b1:(t267 != 0) = false:=bne_eq_false_iff_eq.mpr c3
     clear c3
     by_cases c4:t265 = 31
     · rw [if_pos c4] at H
       have c4b0:(t265 == 31) = true:=beq_iff_eq.mpr c4
       have c4b1:(t265 != 31) = false:=bne_eq_false_iff_eq.mpr c4
       clear c4
       by_cases c5:t264 = 7
       · rw [if_pos c5] at H
         have c5b0:(t264 == 7) = true:=beq_iff_eq.mpr c5
         have c5b1:(t264 != 7) = false:=bne_eq_false_iff_eq.mpr c5
         clear c5
         obtain rfl:=Option.some.inj H
         go_enter Tryd.func9,Tryd.ntmps9
         go_wp2_with (first | ((with_reducible refine u2g (f:=6) rfl ?_);refine goesL_ (some 5) rfl rfl Tryd.func6 (by kernel_rfl) rfl #[.string (⟨#[117,112,123,106,111,98,61,34,120,34,125,32,48,120,49,102,32,55]⟩:ByteArray),.int .i64 0] rfl (by (try simp only [List.map_toArray,List.map_cons,List.map_nil]);first | done | rfl | (simp only [List.length_drop,List.length_take];rfl)) ?_;(with_reducible refine (u1j.calls (⟨#[117,112,123,106,111,98,61,34,120,34,125,32,48,120,49,102,32,55]⟩:ByteArray) 0 t261 t264 t265 true t267 t268 _ A1.out).mono ?_);rintro e w6 ⟨v262,rfl,ho0,hb⟩;refine ⟨_,rfl,?_⟩;have n0_:=Aside0.mk (Kd.R_lower ho0 (u1n (by repeat (first | (with_reducible first | exact HB.out | apply uf | apply ud | apply ul) | exact HB.out))));have n1_:=Aside0.mk (u1i (by repeat (first | (with_reducible first | exact HB.out | apply uf | apply ud | apply ul) | exact HB.out)) hb);clear HB;have HO263:=n0_;have HB:=n1_;clear n0_ n1_;(try clear hb);(try clear hb2);(try clear hk);(try clear hi);(try clear ho0)) | ((with_reducible refine gate_dst (N:=1) rfl ?_);(try (refine u2k (by rfl) ?_;dsimp only));refine box_event ?hg (N:=1) ?hd (cs:=#[.slice none 0 0,.int .i64 0,.int .u64 0]) (t:=25) ?hr ?_;(case hd => rfl);(case hg => rfl);(case hr => first | (go_simp;done) | (go_simp;rfl));intro gb269 hg w7 hbox hb;have n0_:=Aside0.mk (Kd.R_below (by (with_reducible repeat (first | apply Kd.R_alloc | apply Kd.R_drewN | apply Kd.R_drew));exact HO263.out) hb);have n1_:=Aside0.mk (u1i (by repeat (first | (with_reducible first | exact HB.out | apply uf | apply ud | apply ul) | exact HB.out)) hb);have n2_:=Aside0.mk (hbox);have n3_:=Aside0.mk ((by rw [hg];exact (u1n (by repeat (first | (with_reducible first | exact HB.out | apply uf | apply ud | apply ul) | exact HB.out))):w.heap.size ≤ gb269));have n4_:=Aside0.mk ((by rw [hg];exact (u1n (by repeat (first | (with_reducible first | exact HB.out | apply uf | apply ud | apply ul) | exact HB.out))):w.heap.size ≤ gb269));clear HO263;clear HB;have HO263:=n0_;have HB:=n1_;have BK269:=n2_;have GW269:=n3_;have GE269:=n4_;clear n0_ n1_ n2_ n3_ n4_;clear hb hbox hg) | ((with_reducible refine gate_dst (N:=3) rfl ?_);(try (refine u2k (by rfl) ?_;dsimp only));refine box_event ?hg (N:=3) ?hd (cs:=#[.int .i64 0,.int .i64 0]) (t:=28) ?hr ?_;(case hd => rfl);(case hg => rfl);(case hr => first | (go_simp;done) | (go_simp;rfl));intro gb270 hg w8 hbox hb;have n0_:=Aside0.mk (Kd.R_below (by (with_reducible repeat (first | apply Kd.R_alloc | apply Kd.R_drewN | apply Kd.R_drew));exact HO263.out) hb);have n1_:=Aside0.mk (blk_below (g:=gb269) (o:=.cells #[.slice none 0 0,.int .i64 0,.int .u64 0] 25 (0,0)) (by (with_reducible repeat (first | refine u1u ?_ _ | refine u1z ?_ | refine u1v ?_ _));exact BK269.out) hb);have n2_:=Aside0.mk (u1i (by repeat (first | (with_reducible first | exact HB.out | apply uf | apply ud | apply ul | refine u1s ?_ GE269.out) | exact HB.out)) hb);have n3_:=Aside0.mk (hbox);have n4_:=Aside0.mk ((by rw [hg];exact (u1n (by repeat (first | (with_reducible first | exact HB.out | apply uf | apply ud | apply ul | refine u1s ?_ GE269.out) | exact HB.out))):w.heap.size ≤ gb270));have n5_:=Aside0.mk ((by rw [hg];exact (u1n (by repeat (first | (with_reducible first | exact HB.out | apply uf | apply ud | apply ul | refine u1s ?_ GE269.out) | exact HB.out))):w.heap.size ≤ gb270));have n6_:=Aside0.mk ((by rw [hg];exact Nat.ne_of_lt (blk_lt (g:=gb269) (o:=.cells #[.slice none 0 0,.int .i64 0,.int .u64 0] 25 (0,0)) (by (with_reducible repeat (first | refine u1u ?_ _ | refine u1z ?_ | refine u1v ?_ _));exact BK269.out)):gb269 ≠ gb270));have n7_:=Aside0.mk ((by rw [hg];exact Nat.ne_of_gt (blk_lt (g:=gb269) (o:=.cells #[.slice none 0 0,.int .i64 0,.int .u64 0] 25 (0,0)) (by (with_reducible repeat (first | refine u1u ?_ _ | refine u1z ?_ | refine u1v ?_ _));exact BK269.out)):gb270 ≠ gb269));clear HO263;clear BK269;clear HB;have HO263:=n0_;have BK269:=n1_;have HB:=n2_;have BK270:=n3_;have GW270:=n4_;have GE270:=n5_;have NB269_270:=n6_;have NB270_269:=n7_;clear n0_ n1_ n2_ n3_ n4_ n5_ n6_ n7_;clear hb hbox hg;obtain ⟨Ao9,co9,eo9⟩:=Kd.R_slice HO263.out;subst eo9;have hnb10:=NB269_270.out;have hnc10:=NB270_269.out;have hcz11_0:w8.cell? ⟨gb269,0,none⟩ = some (.slice none 0 0):=(u1f BK269.out 0).trans rfl;have hcz11_1:w8.cell? ⟨gb269,1,none⟩ = some (.int .i64 0):=(u1f BK269.out 1).trans rfl;have hcz11_2:w8.cell? ⟨gb269,2,none⟩ = some (.int .u64 0):=(u1f BK269.out 2).trans rfl;have hfz11_0:=u1a BK269.out 0;have hfz11_1:=u1a BK269.out 1;have hfz11_2:=u1a BK269.out 2;have hcz12_0:w8.cell? ⟨gb270,0,none⟩ = some (.int .i64 0):=(u1f BK270.out 0).trans rfl;have hcz12_1:w8.cell? ⟨gb270,1,none⟩ = some (.int .i64 0):=(u1f BK270.out 1).trans rfl;have hfz12_0:=u1a BK270.out 0;have hfz12_1:=u1a BK270.out 1))
         go_ret
         exact ⟨by first | rfl | (simp [u2f,u2e] <;> rfl) | (simp [*,u2f,u2e] <;> rfl),by repeat (first | (with_reducible first | exact HB.out | apply uf | apply ud | apply ul | refine u1s ?_ GE269.out | refine u1s ?_ GE270.out) | exact HB.out)⟩
       · rw [if_neg c5] at H
         have c5b0:(t264 == 7) = false:=beq_eq_false_iff_ne.mpr c5
         have c5b1:(t264 != 7) = true:=bne_iff_ne.mpr c5
         obtain rfl:=Option.some.inj H
         go_enter Tryd.func9,Tryd.ntmps9
         go_wp2_with (first | ((with_reducible refine u2g (f:=6) rfl ?_);refine goesL_ (some 5) rfl rfl Tryd.func6 (by kernel_rfl) rfl #[.string (⟨#[117,112,123,106,111,98,61,34,120,34,125,32,48,120,49,102,32,55]⟩:ByteArray),.int .i64 0] rfl (by (try simp only [List.map_toArray,List.map_cons,List.map_nil]);first | done | rfl | (simp only [List.length_drop,List.length_take];rfl)) ?_;(with_reducible refine (u1j.calls (⟨#[117,112,123,106,111,98,61,34,120,34,125,32,48,120,49,102,32,55]⟩:ByteArray) 0 t261 t264 t265 true t267 t268 _ A1.out).mono ?_);rintro e w13 ⟨v262,rfl,ho0,hb⟩;refine ⟨_,rfl,?_⟩;have n0_:=Aside0.mk (Kd.R_lower ho0 (u1n (by repeat (first | (with_reducible first | exact HB.out | apply uf | apply ud | apply ul) | exact HB.out))));have n1_:=Aside0.mk (u1i (by repeat (first | (with_reducible first | exact HB.out | apply uf | apply ud | apply ul) | exact HB.out)) hb);clear HB;have HO263:=n0_;have HB:=n1_;clear n0_ n1_;(try clear hb);(try clear hb2);(try clear hk);(try clear hi);(try clear ho0)) | ((with_reducible refine gate_dst (N:=1) rfl ?_);(try (refine u2k (by rfl) ?_;dsimp only));refine box_event ?hg (N:=1) ?hd (cs:=#[.slice none 0 0,.int .i64 0,.int .u64 0]) (t:=25) ?hr ?_;(case hd => rfl);(case hg => rfl);(case hr => first | (go_simp;done) | (go_simp;rfl));intro gb269 hg w14 hbox hb;have n0_:=Aside0.mk (Kd.R_below (by (with_reducible repeat (first | apply Kd.R_alloc | apply Kd.R_drewN | apply Kd.R_drew));exact HO263.out) hb);have n1_:=Aside0.mk (u1i (by repeat (first | (with_reducible first | exact HB.out | apply uf | apply ud | apply ul) | exact HB.out)) hb);have n2_:=Aside0.mk (hbox);have n3_:=Aside0.mk ((by rw [hg];exact (u1n (by repeat (first | (with_reducible first | exact HB.out | apply uf | apply ud | apply ul) | exact HB.out))):w.heap.size ≤ gb269));have n4_:=Aside0.mk ((by rw [hg];exact (u1n (by repeat (first | (with_reducible first | exact HB.out | apply uf | apply ud | apply ul) | exact HB.out))):w.heap.size ≤ gb269));clear HO263;clear HB;have HO263:=n0_;have HB:=n1_;have BK269:=n2_;have GW269:=n3_;have GE269:=n4_;clear n0_ n1_ n2_ n3_ n4_;clear hb hbox hg) | ((with_reducible refine gate_dst (N:=3) rfl ?_);(try (refine u2k (by rfl) ?_;dsimp only));refine box_event ?hg (N:=3) ?hd (cs:=#[.int .i64 0,.int .i64 0]) (t:=28) ?hr ?_;(case hd => rfl);(case hg => rfl);(case hr => first | (go_simp;done) | (go_simp;rfl));intro gb270 hg w15 hbox hb;have n0_:=Aside0.mk (Kd.R_below (by (with_reducible repeat (first | apply Kd.R_alloc | apply Kd.R_drewN | apply Kd.R_drew));exact HO263.out) hb);have n1_:=Aside0.mk (blk_below (g:=gb269) (o:=.cells #[.slice none 0 0,.int .i64 0,.int .u64 0] 25 (0,0)) (by (with_reducible repeat (first | refine u1u ?_ _ | refine u1z ?_ | refine u1v ?_ _));exact BK269.out) hb);have n2_:=Aside0.mk (u1i (by repeat (first | (with_reducible first | exact HB.out | apply uf | apply ud | apply ul | refine u1s ?_ GE269.out) | exact HB.out)) hb);have n3_:=Aside0.mk (hbox);have n4_:=Aside0.mk ((by rw [hg];exact (u1n (by repeat (first | (with_reducible first | exact HB.out | apply uf | apply ud | apply ul | refine u1s ?_ GE269.out) | exact HB.out))):w.heap.size ≤ gb270));have n5_:=Aside0.mk ((by rw [hg];exact (u1n (by repeat (first | (with_reducible first | exact HB.out | apply uf | apply ud | apply ul | refine u1s ?_ GE269.out) | exact HB.out))):w.heap.size ≤ gb270));have n6_:=Aside0.mk ((by rw [hg];exact Nat.ne_of_lt (blk_lt (g:=gb269) (o:=.cells #[.slice none 0 0,.int .i64 0,.int .u64 0] 25 (0,0)) (by (with_reducible repeat (first | refine u1u ?_ _ | refine u1z ?_ | refine u1v ?_ _));exact BK269.out)):gb269 ≠ gb270));have n7_:=Aside0.mk ((by rw [hg];exact Nat.ne_of_gt (blk_lt (g:=gb269) (o:=.cells #[.slice none 0 0,.int .i64 0,.int .u64 0] 25 (0,0)) (by (with_reducible repeat (first | refine u1u ?_ _ | refine u1z ?_ | refine u1v ?_ _));exact BK269.out)):gb270 ≠ gb269));clear HO263;clear BK269;clear HB;have HO263:=n0_;have BK269:=n1_;have HB:=n2_;have BK270:=n3_;have GW270:=n4_;have GE270:=n5_;have NB269_270:=n6_;have NB270_269:=n7_;clear n0_ n1_ n2_ n3_ n4_ n5_ n6_ n7_;clear hb hbox hg;obtain ⟨Ao16,co16,eo16⟩:=Kd.R_slice HO263.out;subst eo16;have hnb17:=NB269_270.out;have hnc17:=NB270_269.out;have hcz18_0:w15.cell? ⟨gb269,0,none⟩ = some (.slice none 0 0):=(u1f BK269.out 0).trans rfl;have hcz18_1:w15.cell? ⟨gb269,1,none⟩ = some (.int .i64 0):=(u1f BK269.out 1).trans rfl;have hcz18_2:w15.cell? ⟨gb269,2,none⟩ = some (.int .u64 0):=(u1f BK269.out 2).trans rfl;have hfz18_0:=u1a BK269.out 0;have hfz18_1:=u1a BK269.out 1;have hfz18_2:=u1a BK269.out 2;have hcz19_0:w15.cell? ⟨gb270,0,none⟩ = some (.int .i64 0):=(u1f BK270.out 0).trans rfl;have hcz19_1:w15.cell? ⟨gb270,1,none⟩ = some (.int .i64 0):=(u1f BK270.out 1).trans rfl;have hfz19_0:=u1a BK270.out 0;have hfz19_1:=u1a BK270.out 1))
         go_ret
         exact ⟨by first | rfl | (simp [u2f,u2e] <;> rfl) | (simp [*,u2f,u2e] <;> rfl),by repeat (first | (with_reducible first | exact HB.out | apply uf | apply ud | apply ul | refine u1s ?_ GE269.out | refine u1s ?_ GE270.out) | exact HB.out)⟩
     · rw [if_neg c4] at H
       have c4b0:(t265 == 31) = false:=beq_eq_false_iff_ne.mpr c4
       have c4b1:(t265 != 31) = true:=bne_iff_ne.mpr c4
       obtain rfl:=Option.some.inj H
       go_enter Tryd.func9,Tryd.ntmps9
       go_wp2_with (first | ((with_reducible refine u2g (f:=6) rfl ?_);refine goesL_ (some 5) rfl rfl Tryd.func6 (by kernel_rfl) rfl #[.string (⟨#[117,112,123,106,111,98,61,34,120,34,125,32,48,120,49,102,32,55]⟩:ByteArray),.int .i64 0] rfl (by (try simp only [List.map_toArray,List.map_cons,List.map_nil]);first | done | rfl | (simp only [List.length_drop,List.length_take];rfl)) ?_;(with_reducible refine (u1j.calls (⟨#[117,112,123,106,111,98,61,34,120,34,125,32,48,120,49,102,32,55]⟩:ByteArray) 0 t261 t264 t265 true t267 t268 _ A1.out).mono ?_);rintro e w20 ⟨v262,rfl,ho0,hb⟩;refine ⟨_,rfl,?_⟩;have n0_:=Aside0.mk (Kd.R_lower ho0 (u1n (by repeat (first | (with_reducible first | exact HB.out | apply uf | apply ud | apply ul) | exact HB.out))));have n1_:=Aside0.mk (u1i (by repeat (first | (with_reducible first | exact HB.out | apply uf | apply ud | apply ul) | exact HB.out)) hb);clear HB;have HO263:=n0_;have HB:=n1_;clear n0_ n1_;(try clear hb);(try clear hb2);(try clear hk);(try clear hi);(try clear ho0)) | ((with_reducible refine gate_dst (N:=1) rfl ?_);(try (refine u2k (by rfl) ?_;dsimp only));refine box_event ?hg (N:=1) ?hd (cs:=#[.slice none 0 0,.int .i64 0,.int .u64 0]) (t:=25) ?hr ?_;(case hd => rfl);(case hg => rfl);(case hr => first | (go_simp;done) | (go_simp;rfl));intro gb269 hg w21 hbox hb;have n0_:=Aside0.mk (Kd.R_below (by (with_reducible repeat (first | apply Kd.R_alloc | apply Kd.R_drewN | apply Kd.R_drew));exact HO263.out) hb);have n1_:=Aside0.mk (u1i (by repeat (first | (with_reducible first | exact HB.out | apply uf | apply ud | apply ul) | exact HB.out)) hb);have n2_:=Aside0.mk (hbox);have n3_:=Aside0.mk ((by rw [hg];exact (u1n (by repeat (first | (with_reducible first | exact HB.out | apply uf | apply ud | apply ul) | exact HB.out))):w.heap.size ≤ gb269));have n4_:=Aside0.mk ((by rw [hg];exact (u1n (by repeat (first | (with_reducible first | exact HB.out | apply uf | apply ud | apply ul) | exact HB.out))):w.heap.size ≤ gb269));clear HO263;clear HB;have HO263:=n0_;have HB:=n1_;have BK269:=n2_;have GW269:=n3_;have GE269:=n4_;clear n0_ n1_ n2_ n3_ n4_;clear hb hbox hg) | ((with_reducible refine gate_dst (N:=3) rfl ?_);(try (refine u2k (by rfl) ?_;dsimp only));refine box_event ?hg (N:=3) ?hd (cs:=#[.int .i64 0,.int .i64 0]) (t:=28) ?hr ?_;(case hd => rfl);(case hg => rfl);(case hr => first | (go_simp;done) | (go_simp;rfl));intro gb270 hg w22 hbox hb;have n0_:=Aside0.mk (Kd.R_below (by (with_reducible repeat (first | apply Kd.R_alloc | apply Kd.R_drewN | apply Kd.R_drew));exact HO263.out) hb);have n1_:=Aside0.mk (blk_below (g:=gb269) (o:=.cells #[.slice none 0 0,.int .i64 0,.int .u64 0] 25 (0,0)) (by (with_reducible repeat (first | refine u1u ?_ _ | refine u1z ?_ | refine u1v ?_ _));exact BK269.out) hb);have n2_:=Aside0.mk (u1i (by repeat (first | (with_reducible first | exact HB.out | apply uf | apply ud | apply ul | refine u1s ?_ GE269.out) | exact HB.out)) hb);have n3_:=Aside0.mk (hbox);have n4_:=Aside0.mk ((by rw [hg];exact (u1n (by repeat (first | (with_reducible first | exact HB.out | apply uf | apply ud | apply ul | refine u1s ?_ GE269.out) | exact HB.out))):w.heap.size ≤ gb270));have n5_:=Aside0.mk ((by rw [hg];exact (u1n (by repeat (first | (with_reducible first | exact HB.out | apply uf | apply ud | apply ul | refine u1s ?_ GE269.out) | exact HB.out))):w.heap.size ≤ gb270));have n6_:=Aside0.mk ((by rw [hg];exact Nat.ne_of_lt (blk_lt (g:=gb269) (o:=.cells #[.slice none 0 0,.int .i64 0,.int .u64 0] 25 (0,0)) (by (with_reducible repeat (first | refine u1u ?_ _ | refine u1z ?_ | refine u1v ?_ _));exact BK269.out)):gb269 ≠ gb270));have n7_:=Aside0.mk ((by rw [hg];exact Nat.ne_of_gt (blk_lt (g:=gb269) (o:=.cells #[.slice none 0 0,.int .i64 0,.int .u64 0] 25 (0,0)) (by (with_reducible repeat (first | refine u1u ?_ _ | refine u1z ?_ | refine u1v ?_ _));exact BK269.out)):gb270 ≠ gb269));clear HO263;clear BK269;clear HB;have HO263:=n0_;have BK269:=n1_;have HB:=n2_;have BK270:=n3_;have GW270:=n4_;have GE270:=n5_;have NB269_270:=n6_;have NB270_269:=n7_;clear n0_ n1_ n2_ n3_ n4_ n5_ n6_ n7_;clear hb hbox hg;obtain ⟨Ao23,co23,eo23⟩:=Kd.R_slice HO263.out;subst eo23;have hnb24:=NB269_270.out;have hnc24:=NB270_269.out;have hcz25_0:w22.cell? ⟨gb269,0,none⟩ = some (.slice none 0 0):=(u1f BK269.out 0).trans rfl;have hcz25_1:w22.cell? ⟨gb269,1,none⟩ = some (.int .i64 0):=(u1f BK269.out 1).trans rfl;have hcz25_2:w22.cell? ⟨gb269,2,none⟩ = some (.int .u64 0):=(u1f BK269.out 2).trans rfl;have hfz25_0:=u1a BK269.out 0;have hfz25_1:=u1a BK269.out 1;have hfz25_2:=u1a BK269.out 2;have hcz26_0:w22.cell? ⟨gb270,0,none⟩ = some (.int .i64 0):=(u1f BK270.out 0).trans rfl;have hcz26_1:w22.cell? ⟨gb270,1,none⟩ = some (.int .i64 0):=(u1f BK270.out 1).trans rfl;have hfz26_0:=u1a BK270.out 0;have hfz26_1:=u1a BK270.out 1))
       go_ret
       exact ⟨by first | rfl | (simp [u2f,u2e] <;> rfl) | (simp [*,u2f,u2e] <;> rfl),by repeat (first | (with_reducible first | exact HB.out | apply uf | apply ud | apply ul | refine u1s ?_ GE269.out | refine u1s ?_ GE270.out) | exact HB.out)⟩
   · rw [if_neg c3] at H
     have c3b0:(t267 == 0) = false:=beq_eq_false_iff_ne.mpr c3
     have c3b1:(t267 != 0) = true:=bne_iff_ne.mpr c3
     obtain rfl:=Option.some.inj H
     go_enter Tryd.func9,Tryd.ntmps9
     go_wp2_with (first | ((with_reducible refine u2g (f:=6) rfl ?_);refine goesL_ (some 5) rfl rfl Tryd.func6 (by kernel_rfl) rfl #[.string (⟨#[117,112,123,106,111,98,61,34,120,34,125,32,48,120,49,102,32,55]⟩:ByteArray),.int .i64 0] rfl (by (try simp only [List.map_toArray,List.map_cons,List.map_nil]);first | done | rfl | (simp only [List.length_drop,List.length_take];rfl)) ?_;(with_reducible refine (u1j.calls (⟨#[117,112,123,106,111,98,61,34,120,34,125,32,48,120,49,102,32,55]⟩:ByteArray) 0 t261 t264 t265 true t267 t268 _ A1.out).mono ?_);rintro e w27 ⟨v262,rfl,ho0,hb⟩;refine ⟨_,rfl,?_⟩;have n0_:=Aside0.mk (Kd.R_lower ho0 (u1n (by repeat (first | (with_reducible first | exact HB.out | apply uf | apply ud | apply ul) | exact HB.out))));have n1_:=Aside0.mk (u1i (by repeat (first | (with_reducible first | exact HB.out | apply uf | apply ud | apply ul) | exact HB.out)) hb);clear HB;have HO263:=n0_;have HB:=n1_;clear n0_ n1_;(try clear hb);(try clear hb2);(try clear hk);(try clear hi);(try clear ho0)) | ((with_reducible refine gate_dst (N:=1) rfl ?_);(try (refine u2k (by rfl) ?_;dsimp only));refine box_event ?hg (N:=1) ?hd (cs:=#[.slice none 0 0,.int .i64 0,.int .u64 0]) (t:=25) ?hr ?_;(case hd => rfl);(case hg => rfl);(case hr => first | (go_simp;done) | (go_simp;rfl));intro gb269 hg w28 hbox hb;have n0_:=Aside0.mk (Kd.R_below (by (with_reducible repeat (first | apply Kd.R_alloc | apply Kd.R_drewN | apply Kd.R_drew));exact HO263.out) hb);have n1_:=Aside0.mk (u1i (by repeat (first | (with_reducible first | exact HB.out | apply uf | apply ud | apply ul) | exact HB.out)) hb);have n2_:=Aside0.mk (hbox);have n3_:=Aside0.mk ((by rw [hg];exact (u1n (by repeat (first | (with_reducible first | exact HB.out | apply uf | apply ud | apply ul) | exact HB.out))):w.heap.size ≤ gb269));have n4_:=Aside0.mk ((by rw [hg];exact (u1n (by repeat (first | (with_reducible first | exact HB.out | apply uf | apply ud | apply ul) | exact HB.out))):w.heap.size ≤ gb269));clear HO263;clear HB;have HO263:=n0_;have HB:=n1_;have BK269:=n2_;have GW269:=n3_;have GE269:=n4_;clear n0_ n1_ n2_ n3_ n4_;clear hb hbox hg) | ((with_reducible refine gate_dst (N:=3) rfl ?_);(try (refine u2k (by rfl) ?_;dsimp only));refine box_event ?hg (N:=3) ?hd (cs:=#[.int .i64 0,.int .i64 0]) (t:=28) ?hr ?_;(case hd => rfl);(case hg => rfl);(case hr => first | (go_simp;done) | (go_simp;rfl));intro gb270 hg w29 hbox hb;have n0_:=Aside0.mk (Kd.R_below (by (with_reducible repeat (first | apply Kd.R_alloc | apply Kd.R_drewN | apply Kd.R_drew));exact HO263.out) hb);have n1_:=Aside0.mk (blk_below (g:=gb269) (o:=.cells #[.slice none 0 0,.int .i64 0,.int .u64 0] 25 (0,0)) (by (with_reducible repeat (first | refine u1u ?_ _ | refine u1z ?_ | refine u1v ?_ _));exact BK269.out) hb);have n2_:=Aside0.mk (u1i (by repeat (first | (with_reducible first | exact HB.out | apply uf | apply ud | apply ul | refine u1s ?_ GE269.out) | exact HB.out)) hb);have n3_:=Aside0.mk (hbox);have n4_:=Aside0.mk ((by rw [hg];exact (u1n (by repeat (first | (with_reducible first | exact HB.out | apply uf | apply ud | apply ul | refine u1s ?_ GE269.out) | exact HB.out))):w.heap.size ≤ gb270));have n5_:=Aside0.mk ((by rw [hg];exact (u1n (by repeat (first | (with_reducible first | exact HB.out | apply uf | apply ud | apply ul | refine u1s ?_ GE269.out) | exact HB.out))):w.heap.size ≤ gb270));have n6_:=Aside0.mk ((by rw [hg];exact Nat.ne_of_lt (blk_lt (g:=gb269) (o:=.cells #[.slice none 0 0,.int .i64 0,.int .u64 0] 25 (0,0)) (by (with_reducible repeat (first | refine u1u ?_ _ | refine u1z ?_ | refine u1v ?_ _));exact BK269.out)):gb269 ≠ gb270));have n7_:=Aside0.mk ((by rw [hg];exact Nat.ne_of_gt (blk_lt (g:=gb269) (o:=.cells #[.slice none 0 0,.int .i64 0,.int .u64 0] 25 (0,0)) (by (with_reducible repeat (first | refine u1u ?_ _ | refine u1z ?_ | refine u1v ?_ _));exact BK269.out)):gb270 ≠ gb269));clear HO263;clear BK269;clear HB;have HO263:=n0_;have BK269:=n1_;have HB:=n2_;have BK270:=n3_;have GW270:=n4_;have GE270:=n5_;have NB269_270:=n6_;have NB270_269:=n7_;clear n0_ n1_ n2_ n3_ n4_ n5_ n6_ n7_;clear hb hbox hg;obtain ⟨Ao30,co30,eo30⟩:=Kd.R_slice HO263.out;subst eo30;have hnb31:=NB269_270.out;have hnc31:=NB270_269.out;have hcz32_0:w29.cell? ⟨gb269,0,none⟩ = some (.slice none 0 0):=(u1f BK269.out 0).trans rfl;have hcz32_1:w29.cell? ⟨gb269,1,none⟩ = some (.int .i64 0):=(u1f BK269.out 1).trans rfl;have hcz32_2:w29.cell? ⟨gb269,2,none⟩ = some (.int .u64 0):=(u1f BK269.out 2).trans rfl;have hfz32_0:=u1a BK269.out 0;have hfz32_1:=u1a BK269.out 1;have hfz32_2:=u1a BK269.out 2;have hcz33_0:w29.cell? ⟨gb270,0,none⟩ = some (.int .i64 0):=(u1f BK270.out 0).trans rfl;have hcz33_1:w29.cell? ⟨gb270,1,none⟩ = some (.int .i64 0):=(u1f BK270.out 1).trans rfl;have hfz33_0:=u1a BK270.out 0;have hfz33_1:=u1a BK270.out 1))
     go_ret
     exact ⟨by first | rfl | (simp [u2f,u2e] <;> rfl) | (simp [*,u2f,u2e] <;> rfl),by repeat (first | (with_reducible first | exact HB.out | apply uf | apply ud | apply ul | refine u1s ?_ GE269.out | refine u1s ?_ GE270.out) | exact HB.out)⟩
 · replace c2:=Bool.eq_false_iff.mpr c2
   subst c2
   have H1:(some false) = some r:=by rw [if_neg (show ¬ (false = true) by decide)] at H;exact H
   clear H
   have H:=H1
   clear H1
   obtain rfl:=Option.some.inj H
   go_enter Tryd.func9,Tryd.ntmps9
   go_wp2_with (first | ((with_reducible refine u2g (f:=6) rfl ?_);refine goesL_ (some 5) rfl rfl Tryd.func6 (by kernel_rfl) rfl #[.string (⟨#[117,112,123,106,111,98,61,34,120,34,125,32,48,120,49,102,32,55]⟩:ByteArray),.int .i64 0] rfl (by (try simp only [List.map_toArray,List.map_cons,List.map_nil]);first | done | rfl | (simp only [List.length_drop,List.length_take];rfl)) ?_;(with_reducible refine (u1j.calls (⟨#[117,112,123,106,111,98,61,34,120,34,125,32,48,120,49,102,32,55]⟩:ByteArray) 0 t261 t264 t265 false t267 t268 _ A1.out).mono ?_);rintro e w34 ⟨v262,rfl,ho0,hb⟩;refine ⟨_,rfl,?_⟩;have n0_:=Aside0.mk (Kd.R_lower ho0 (u1n (by repeat (first | (with_reducible first | exact HB.out | apply uf | apply ud | apply ul) | exact HB.out))));have n1_:=Aside0.mk (u1i (by repeat (first | (with_reducible first | exact HB.out | apply uf | apply ud | apply ul) | exact HB.out)) hb);clear HB;have HO263:=n0_;have HB:=n1_;clear n0_ n1_;(try clear hb);(try clear hb2);(try clear hk);(try clear hi);(try clear ho0)) | ((with_reducible refine gate_dst (N:=1) rfl ?_);(try (refine u2k (by rfl) ?_;dsimp only));refine box_event ?hg (N:=1) ?hd (cs:=#[.slice none 0 0,.int .i64 0,.int .u64 0]) (t:=25) ?hr ?_;(case hd => rfl);(case hg => rfl);(case hr => first | (go_simp;done) | (go_simp;rfl));intro gb269 hg w35 hbox hb;have n0_:=Aside0.mk (Kd.R_below (by (with_reducible repeat (first | apply Kd.R_alloc | apply Kd.R_drewN | apply Kd.R_drew));exact HO263.out) hb);have n1_:=Aside0.mk (u1i (by repeat (first | (with_reducible first | exact HB.out | apply uf | apply ud | apply ul) | exact HB.out)) hb);have n2_:=Aside0.mk (hbox);have n3_:=Aside0.mk ((by rw [hg];exact (u1n (by repeat (first | (with_reducible first | exact HB.out | apply uf | apply ud | apply ul) | exact HB.out))):w.heap.size ≤ gb269));have n4_:=Aside0.mk ((by rw [hg];exact (u1n (by repeat (first | (with_reducible first | exact HB.out | apply uf | apply ud | apply ul) | exact HB.out))):w.heap.size ≤ gb269));clear HO263;clear HB;have HO263:=n0_;have HB:=n1_;have BK269:=n2_;have GW269:=n3_;have GE269:=n4_;clear n0_ n1_ n2_ n3_ n4_;clear hb hbox hg) | ((with_reducible refine gate_dst (N:=3) rfl ?_);(try (refine u2k (by rfl) ?_;dsimp only));refine box_event ?hg (N:=3) ?hd (cs:=#[.int .i64 0,.int .i64 0]) (t:=28) ?hr ?_;(case hd => rfl);(case hg => rfl);(case hr => first | (go_simp;done) | (go_simp;rfl));intro gb270 hg w36 hbox hb;have n0_:=Aside0.mk (Kd.R_below (by (with_reducible repeat (first | apply Kd.R_alloc | apply Kd.R_drewN | apply Kd.R_drew));exact HO263.out) hb);have n1_:=Aside0.mk (blk_below (g:=gb269) (o:=.cells #[.slice none 0 0,.int .i64 0,.int .u64 0] 25 (0,0)) (by (with_reducible repeat (first | refine u1u ?_ _ | refine u1z ?_ | refine u1v ?_ _));exact BK269.out) hb);have n2_:=Aside0.mk (u1i (by repeat (first | (with_reducible first | exact HB.out | apply uf | apply ud | apply ul | refine u1s ?_ GE269.out) | exact HB.out)) hb);have n3_:=Aside0.mk (hbox);have n4_:=Aside0.mk ((by rw [hg];exact (u1n (by repeat (first | (with_reducible first | exact HB.out | apply uf | apply ud | apply ul | refine u1s ?_ GE269.out) | exact HB.out))):w.heap.size ≤ gb270));have n5_:=Aside0.mk ((by rw [hg];exact (u1n (by repeat (first | (with_reducible first | exact HB.out | apply uf | apply ud | apply ul | refine u1s ?_ GE269.out) | exact HB.out))):w.heap.size ≤ gb270));have n6_:=Aside0.mk ((by rw [hg];exact Nat.ne_of_lt (blk_lt (g:=gb269) (o:=.cells #[.slice none 0 0,.int .i64 0,.int .u64 0] 25 (0,0)) (by (with_reducible repeat (first | refine u1u ?_ _ | refine u1z ?_ | refine u1v ?_ _));exact BK269.out)):gb269 ≠ gb270));have n7_:=Aside0.mk ((by rw [hg];exact Nat.ne_of_gt (blk_lt (g:=gb269) (o:=.cells #[.slice none 0 0,.int .i64 0,.int .u64 0] 25 (0,0)) (by (with_reducible repeat (first | refine u1u ?_ _ | refine u1z ?_ | refine u1v ?_ _));exact BK269.out)):gb270 ≠ gb269));clear HO263;clear BK269;clear HB;have HO263:=n0_;have BK269:=n1_;have HB:=n2_;have BK270:=n3_;have GW270:=n4_;have GE270:=n5_;have NB269_270:=n6_;have NB270_269:=n7_;clear n0_ n1_ n2_ n3_ n4_ n5_ n6_ n7_;clear hb hbox hg;obtain ⟨Ao37,co37,eo37⟩:=Kd.R_slice HO263.out;subst eo37;have hnb38:=NB269_270.out;have hnc38:=NB270_269.out;have hcz39_0:w36.cell? ⟨gb269,0,none⟩ = some (.slice none 0 0):=(u1f BK269.out 0).trans rfl;have hcz39_1:w36.cell? ⟨gb269,1,none⟩ = some (.int .i64 0):=(u1f BK269.out 1).trans rfl;have hcz39_2:w36.cell? ⟨gb269,2,none⟩ = some (.int .u64 0):=(u1f BK269.out 2).trans rfl;have hfz39_0:=u1a BK269.out 0;have hfz39_1:=u1a BK269.out 1;have hfz39_2:=u1a BK269.out 2;have hcz40_0:w36.cell? ⟨gb270,0,none⟩ = some (.int .i64 0):=(u1f BK270.out 0).trans rfl;have hcz40_1:w36.cell? ⟨gb270,1,none⟩ = some (.int .i64 0):=(u1f BK270.out 1).trans rfl;have hfz40_0:=u1a BK270.out 0;have hfz40_1:=u1a BK270.out 1))
   go_ret
   exact ⟨by first | rfl | (simp [u2f,u2e] <;> rfl) | (simp [*,u2f,u2e] <;> rfl),by repeat (first | (with_reducible first | exact HB.out | apply uf | apply ud | apply ul | refine u1s ?_ GE269.out | refine u1s ?_ GE270.out) | exact HB.out)⟩
end Go.Proofs.YtmcpeifhapekoaaDoor.PAll
namespace Go.Proofs.YtmcpeifhapekoaaDoor.PAll
open Go.RowKit Go.Proofs.YtmcpeifhapekoaaDoorW.PrintWords Go.Proofs.YtmcpeifhapekoaaDoorW.PrintLast Go.Proofs.YtmcpeifhapekoaaDoorW.PrintMore
attribute [local go_sem] max2_int min2_int max_two min_two max_three min_three max_four min_four
set_option linter.unusedVariables false
set_option linter.unusedSimpArgs false
attribute [local go_sem high] eqA28
end Go.Proofs.YtmcpeifhapekoaaDoor.PAll
namespace Go.Proofs.YtmcpeifhapekoaaDoor.Tx
open Go.RowKit Go.Proofs.YtmcpeifhapekoaaDoor.PAll Go.Proofs.YtmcpeifhapekoaaDoorW.PrintWords Go.Proofs.YtmcpeifhapekoaaDoorW.PrintLast
open Go.Proofs.YtmcpeifhapekoaaDoor.Laws (okFrom canB wrap_up at_byte no_byte word_ev)
set_option linter.unusedVariables false
set_option linter.unusedSimpArgs false
theorem same_l0 (m:List Lb) (hm:m.length ≤ 9223372036854775806):∀ (r:List Lb) (i:Nat),m.drop i = r → Ev (fun k => u1w.l0 k m m (m.length:Int) (i:Int)) true:=by
 intro r
 induction r with
 | nil =>
   intro i h
   have hi:m.length ≤ i:=List.drop_eq_nil_iff.1 h
   refine Ev.step (f:=fun _ => some true) (fun k => ?_) (Ev.now true)
   simp only [u1w.l0]
   rw [if_neg (by omega)]
 | cons x r ih =>
   intro i h
   obtain ⟨hx,hi,hr⟩:=Laws.rd_drop m i x r h
   have hw:=wrap_up i (by omega)
   refine Ev.step (fun k => ?_) (ih (i + 1) hr)
   simp only [u1w.l0]
   rw [if_pos (by omega),if_pos (by omega),if_pos (by omega),if_pos (by omega),hx,if_neg (by simp),hw]
theorem same_ls (m:List Lb) (hm:m.length ≤ 9223372036854775806):Ev (fun k => u1w.f k m m) true:=by
 refine Ev.congr (fun k => ?_) (same_l0 m hm m 0 rfl)
 show u1w.f k m m = _
 unfold u1w.f
 rw [if_pos rfl]
 rfl
theorem same_rows:∀ (l:List Rw),(∀ x ∈ l,x.f0.length ≤ 9223372036854775806) → Ev (fun k => uv.all k l l) true
 | [],_ => Ev.now true
 | x :: l,h => by
   refine Ev.bind (a:=true) (g:=fun k => uv.same k x x) ?_ ?_
   · refine Ev.bind (same_ls x.f0 (h x (List.mem_cons_self ..))) ?_
     exact Ev.congr (fun k => by simp) (Ev.now true)
   · exact Ev.congr (fun k => by simp) (same_rows l (fun y hy => h y (List.mem_cons_of_mem _ hy)))
theorem same_rowsf (l:List Rw) (hl:l.length ≤ 4611686018427387904) (h:∀ x ∈ l,x.f0.length ≤ 9223372036854775806):Ev (fun k => uv.f k l l) true:=by
 refine Ev.congr (fun k => ?_) (same_rows l h)
 show uv.f k l l = _
 unfold uv.f
 rw [if_pos rfl,if_pos (by omega)]
theorem line_is (a0:ByteArray) (a1:Int) (h:a0.size ≤ 4611686018427387904):u1j.f a0 a1 = some (labO (readP canB a0.data.toList a1).1,timO (readP canB a0.data.toList a1).1,valO (readP canB a0.data.toList a1).1,(readP canB a0.data.toList a1).1.isSome,(readP canB a0.data.toList a1).2.2,0):=by
 unfold u1j.f
 rw [if_pos h]
 rfl
theorem awake27:u2c.f = some true:=by
 unfold u2c.f
 rw [line_is _ _ (by decide),show (⟨#[117,112,123,106,111,98,61,34,120,34,125,32,48,120,49,102,32,55]⟩:ByteArray).data.toList = [117,112,123,106,111,98,61,34,120,34,125,32,48,120,49,102,32,55] from rfl,awake_read]
 rfl
theorem read_len (s:B8) (now:Int):(labO (readP canB s now).1).length ≤ 8:=by
 unfold readP
 split
 · exact Nat.zero_le _
 · split
   · exact Nat.zero_le _
   · split
     · split <;> exact Nat.zero_le _
     · split
       · exact Nat.zero_le _
       · split
         · exact Nat.zero_le _
         · rename_i r h
           unfold sampleP at h
           cases hl:labsP s with
           | none => rw [hl] at h;cases h
           | some p =>
             rw [hl] at h
             simp only [Option.bind_some] at h
             split at h
             · rename_i hc
               cases he:endP p.2 now with
               | none => rw [he] at h;cases h
               | some q =>
                 rw [he] at h
                 cases Option.some.inj h
                 exact (can_names hc).1
             · cases h
end Go.Proofs.YtmcpeifhapekoaaDoor.Tx
namespace Go.Proofs.YtmcpeifhapekoaaDoor.PAll
open Go.RowKit Go.Proofs.YtmcpeifhapekoaaDoorW.PrintWords Go.Proofs.YtmcpeifhapekoaaDoorW.PrintLast Go.Proofs.YtmcpeifhapekoaaDoorW.PrintMore
attribute [local go_sem] max2_int min2_int max_two min_two max_three min_three max_four min_four
set_option linter.unusedVariables false
set_option linter.unusedSimpArgs false
def ub.f:Option Int:=none
def ub.bad (now:Int):Int → List (List UInt8) → Int
 | _,[] => 0
 | i,s :: ls => if (Tx.readP Laws.canB s now).2.2 ≠ 0 then i else ub.bad now (i + 1) ls
def ub.want (now:Int) (ls:List (List UInt8)):List Tx.Rw:=ls.flatMap fun s => (Tx.readP Laws.canB s now).1.toList
def ub.text (ls:List (List UInt8)):List UInt8:=ls.flatMap fun s => s ++ [10]
theorem ub.bad_snoc (now:Int) (s:List UInt8):∀ (l:List (List UInt8)) (i:Int),1 ≤ i → ub.bad now i (l ++ [s]) = if ub.bad now i l ≠ 0 then ub.bad now i l else if (Tx.readP Laws.canB s now).2.2 ≠ 0 then i + l.length else 0
 | [],i,_ => by simp [ub.bad]
 | x :: l,i,h => by
   rw [List.cons_append]
   unfold ub.bad
   by_cases hx:(Tx.readP Laws.canB x now).2.2 ≠ 0
   · rw [if_pos hx,if_pos hx,if_pos (by omega)]
   · rw [if_neg hx,if_neg hx,ub.bad_snoc now s l (i + 1) (by omega),List.length_cons]
     have e:i + 1 + (l.length:Int) = i + ((l.length + 1:Nat):Int):=by omega
     rw [e]
theorem ub.want_snoc (now:Int) (l:List (List UInt8)) (s:List UInt8):ub.want now (l ++ [s]) = ub.want now l ++ (Tx.readP Laws.canB s now).1.toList:=by simp [ub.want]
theorem ub.text_snoc (l:List (List UInt8)) (s:List UInt8):ub.text (l ++ [s]) = ub.text l ++ (s ++ [10]):=by simp [ub.text]
def ub.fit (s:List UInt8):Prop:=s.length ≤ 1200 ∧ s.contains 10 = false
def ub.bi (s:List UInt8):List Int:=s.map fun c => (c.toNat:Int)
theorem ub.bi_of (s:List UInt8):Lib.bytesOf (ub.bi s) = s:=by
 unfold Lib.bytesOf ub.bi
 rw [List.map_map]
 have e:((fun n:Int => UInt8.ofNat n.toNat) ∘ fun c:UInt8 => (c.toNat:Int)) = id:=by
  funext c
  show UInt8.ofNat ((c.toNat:Int)).toNat = c
  rw [Int.toNat_natCast,UInt8.ofNat_toNat]
 rw [e,List.map_id]
theorem ub.idx (s:List UInt8) (hs:s.length ≤ 2000):∀ (r:List UInt8) (i:Nat),s.drop i = r → ∃ z:Int,Ev (fun k => u1d.l0 k (ub.bi s) 10 ((ub.bi s).length:Int) (i:Int)) z ∧ (0 ≤ z ↔ r.contains 10 = true)
 | [],i,h => by
   have h2:s.length ≤ i:=List.drop_eq_nil_iff.1 h
   refine ⟨-1,Ev.step (f:=fun _ => some (-1)) (fun k => ?_) (Ev.now _),by simp⟩
   simp only [u1d.l0]
   rw [if_neg (by rw [ub.bi,List.length_map];omega)]
 | c :: r,i,h => by
   have hlt:i < s.length:=by
    rcases Nat.lt_or_ge i s.length with h1 | h1
    · exact h1
    · rw [List.drop_eq_nil_of_le h1] at h
      cases h
   have h':=h
   rw [List.drop_eq_getElem_cons hlt] at h'
   obtain ⟨h1,h2⟩:=List.cons.inj h'
   have hrd:rd (ub.bi s) (i:Int) = (c.toNat:Int):=by
    simp [rd,ub.bi,List.getD_eq_getElem?_getD,hlt,h1]
   have hw:wrap64 ((i:Int) + 1) = ((i + 1:Nat):Int):=by
    unfold wrap64
    omega
   have hstep:∀ k,u1d.l0 (k + 1) (ub.bi s) 10 ((ub.bi s).length:Int) (i:Int) = if c = 10 then some (i:Int) else u1d.l0 k (ub.bi s) 10 ((ub.bi s).length:Int) ((i + 1:Nat):Int):=fun k => by
    have hl:(ub.bi s).length = s.length:=by rw [ub.bi,List.length_map]
    simp only [u1d.l0]
    rw [if_pos (by omega),if_pos (by omega),if_pos (by omega),hrd,hw]
    by_cases hc:c = 10
    · rw [if_pos hc,if_pos (by rw [hc];rfl)]
    · rw [if_neg hc,if_neg (fun e => hc (UInt8.toNat_inj.1 (by have:(10:UInt8).toNat = 10:=rfl;omega)))]
   by_cases hc:c = 10
   · exact ⟨i,Ev.step hstep (Ev.congr (fun k => if_pos hc) (Ev.now _)),by rw [hc];simp⟩
   · obtain ⟨z,hz,hiff⟩:=ub.idx s hs r (i + 1) h2
     refine ⟨z,Ev.step hstep (Ev.congr (fun k => if_neg hc) hz),?_⟩
     rw [hiff,List.contains_cons,beq_eq_false_iff_ne.2 (fun e => hc e.symm),Bool.false_or]
theorem ub.has_ten (s:List UInt8) (hs:s.length ≤ 2000):∃ k,u2a.f k (ub.bi s) 10 = some (s.contains 10):=by
 obtain ⟨z,hz,hiff⟩:=ub.idx s hs s 0 rfl
 have h:Ev (fun k => u2a.f k (ub.bi s) 10) (s.contains 10):=by
  refine Ev.bind (g:=fun k => u1d.f k (ub.bi s) 10) hz ?_
  have e:decide (z ≥ 0) = s.contains 10:=by
   rw [Bool.eq_iff_iff,decide_eq_true_eq]
   exact hiff
  rw [e]
  exact Ev.now _
 exact h.rounds
theorem ub.bi_get (l:List UInt8) (j:Nat) (h:j < l.length):(ub.bi l).getD j 0 = ((l.getD j 0).toNat:Int):=by
 simp [ub.bi,List.getD_eq_getElem?_getD,h]
theorem ub.conv_C (W:World) (s:ByteArray) (hs:s.size ≤ 2000):(Kd.int .u8).C (Lib.bytesWorld W 5 s) (some ⟨W.heap.size,0,none⟩) (ub.bi s.data.toList).length (ub.bi s.data.toList):=by
 have hl:(ub.bi s.data.toList).length = s.size:=by rw [ub.bi,List.length_map,u1q]
 refine Kd.C_of_reads (enc:=Value.int .u8) (d:=(0:Int)) (h1:=fun _ => rfl) ⟨rfl,by omega,fun _ => ⟨_,rfl,fun j hj => ?_⟩⟩
 have h1:=Lib.bytesWorld_cell W 5 s j (by omega)
 have h2:(⟨W.heap.size,0,none⟩:Addr).add j = ⟨W.heap.size,j,none⟩:=add_plain _ _
 rw [h2,h1,ub.bi_get _ _ (by rw [u1q];omega)]
theorem ub.line_C {W:World} {A:Option Addr} {l:List ByteArray} (h:Kd.string.C W A l.length l) (i:Nat) (hi:i < l.length):∃ a,A = some a ∧ W.cell? (a.add i) = some (.string l[i]):=by
 obtain ⟨ad,e,hc⟩:=(Kd.reads_of_C (enc:=Value.string) (d:=ByteArray.empty) (h1:=fun _ => rfl) h).2.2 (by omega)
 refine ⟨ad,e,(hc i hi).trans ?_⟩
 rw [List.getD_eq_getElem?_getD,List.getElem?_eq_getElem hi]
 rfl
theorem ub.take_next (l0:List ByteArray) (i:Nat) (h30:i < 30) (hil:i < l0.length):((l0.take 30).map (fun s => s.data.toList)).take (i + 1) = ((l0.take 30).map (fun s => s.data.toList)).take i ++ [(l0[i]).data.toList]:=by
 rw [List.map_take,List.take_take,List.take_take,show min (i + 1) 30 = i + 1 by omega,show min i 30 = i by omega,List.take_succ_eq_append_getElem (by rw [List.length_map];exact hil),List.getElem_map]
theorem ub.conv_below (W:World) (s:ByteArray):Below W.heap.size W (Lib.bytesWorld W 5 s):=⟨rfl,rfl,rfl,by rw [Lib.bytesWorld_size];omega,fun k hk => Lib.bytesWorld_at_old W _ s k hk⟩
theorem ub.info8:(Tryd.prog.info? 5).map (fun i => (i.zero,i.size,i.bytes)) = some (some (.int .u8 0),1,1):=by kernel_rfl
theorem ub.R_of {W:World} {base:Nat} {v:Value} {xs:List Int} (h:W.ownsRow base 5 1 v xs.length (nums .u8 xs)):Kd.R (Kd.int .u8) 5 W base (fun _ => True) v xs:=Kd.R_of_own (enc:=Value.int .u8) (h1:=fun _ => rfl) h (fun _ _ => trivial)
set_option maxRecDepth 100000 in
set_option maxHeartbeats 4000000 in
theorem ub.calls (w0:World) (A0:Option Addr) (c0:Nat) (l0:List ByteArray) (now:Int) (hx0:Kd.string.C w0 A0 l0.length l0) (hc0:l0.length ≤ c0) (haw:u2c.f = some true)
 (hend:∀ (ls:List (List UInt8)),ls.length ≤ 30 → (∀ s ∈ ls,ub.fit s) → ∀ n,(ub.text ls).length < n → (ub.bad now 1 ls = 0 → ∃ book,Tx.parseP Laws.canB now n 1 [] [] (ub.text ls) = (ub.want now ls,book,0,0)) ∧ (ub.bad now 1 ls ≠ 0 → 0 < ub.bad now 1 ls ∧ ∃ e,Tx.parseP Laws.canB now n 1 [] [] (ub.text ls) = ([],[],e,ub.bad now 1 ls)))
 (hsame:∀ ls:List (List UInt8),ls.length ≤ 30 → ∃ k,uv.f k (ub.want now ls) (ub.want now ls) = some true) :
 Calls Tryd.prog 5 #[.slice A0 l0.length c0,.int .i64 now] w0 fun e W' => e = .returned (.bool true) ∧ Below w0.heap.size w0 W':=by
 have HC0:=Aside0.mk hx0
 have HAW:=Aside0.mk haw
 have HEND:=Aside0.mk hend
 have HSAME:=Aside0.mk hsame
 obtain ⟨L,hL⟩:∃ L,(l0.take 30).map (fun s => s.data.toList) = L:=⟨_,rfl⟩
 have HL:=Aside0.mk hL
 clear hx0 haw hL hend hsame
 by_cases h30:(l0.length:Int) ≤ 30
 · have hN:l0.length ≤ 30:=by omega
   have hq:((l0.length:Int) ≤ 30) = True:=eq_true h30
   have hq2:((30:Int) < (l0.length:Int)) = False:=eq_false (by omega)
   go_enter Tryd.func5,Tryd.ntmps5
   go_wp2
   go_loopg [5,6,7,22] l0.length (fun kq v5 v6 v7 v22 wr => ∃ (i:Nat) (bs:List Int) (rows:List S25),v22 = .int .i64 (i:Int) ∧ i ≤ l0.length ∧ l0.length ≤ kq + i ∧ v7 = .int .i64 (ub.bad now 1 (L.take i)) ∧ bs.length ≤ i * 1201 ∧ rows.length ≤ i ∧ Aside0 (Lib.bytesOf bs = ub.text (L.take i) ∧ rows = ub.want now (L.take i) ∧ ∀ s ∈ L.take i,ub.fit s) ∧ Aside0 (Kd.R (Kd.int .u8) 5 wr w0.heap.size (fun _ => True) v5 bs) ∧ Aside0 (Kd.R k25 25 wr w0.heap.size (fun _ => True) v6 rows) ∧ Aside0 (Below w0.heap.size w0 wr))
   case atStart => exact ⟨0,[],[],rfl,by omega,by omega,rfl,by simp,by simp,⟨by simp [ub.text,Lib.bytesOf],by simp [ub.want],by simp⟩,⟨Kd.R_nil _ _ _ _ _⟩,⟨Kd.R_nil _ _ _ _ _⟩,⟨Below.refl _ _⟩⟩
   case round =>
    obtain ⟨i,bs,rows,rfl,hi,hk,rfl,hbl,hrl,HT,HA,HW,HB⟩:=hrel
    by_cases hlt:i < l0.length
    · have hil:i < l0.length:=by omega
      obtain ⟨k1,rfl⟩:∃ k1,gk = k1 + 1:=⟨gk - 1,by omega⟩
      obtain ⟨ad,eA,hcell⟩:=ub.line_C (Kd.C_below HC0.out HB.out) i hil
      subst eA
      have hLi:L.take (i + 1) = L.take i ++ [(l0[i]).data.toList]:=by
       rw [← HL.out]
       exact ub.take_next l0 i (by omega) hil
      obtain ⟨s,hs⟩:∃ s,l0[i] = s:=⟨_,rfl⟩
      rw [hs] at hcell hLi
      have hi2:(i:Int) < ((l0.length:Nat):Int):=by omega
      have HLI:=Aside0.mk hLi
      have HAL:Aside0 (∀ W,Calls Tryd.prog 9 #[] W fun e w' => e = .returned (.bool true) ∧ Below W.heap.size W w'):=⟨fun W => u2c.calls true W HAW.out⟩
      clear hs hLi
      by_cases h12:s.size ≤ 1200
      · have hg1:decide ((1200:Int) < (s.size:Int)) = false:=decide_eq_false (by omega)
        have hg2:decide (1200 < s.size) = false:=decide_eq_false (by omega)
        have hcv:=Lib.run_convert_string_bytes (P:=Tryd.prog) wr 9 42 5 s Tryd.underlying9 Tryd.underlying42 Tryd.underlying5
        obtain ⟨kc,hkc⟩:=ub.has_ten s.data.toList (by rw [u1q];omega)
        have hbl8:(ub.bi s.data.toList).length = s.size:=by rw [ub.bi,List.length_map,u1q]
        have HCT:Aside0 (Calls Tryd.prog 13 #[.slice (some ⟨wr.heap.size,0,none⟩) s.size (grownCap wr s.size 0 5),.int .u8 10] (Lib.bytesWorld wr 5 s) fun e w' => e = .returned (.bool (s.data.toList.contains 10)) ∧ Below wr.heap.size wr w'):=⟨by
         have h1:=u2a.calls kc (some ⟨wr.heap.size,0,none⟩) (grownCap wr s.size 0 5) (ub.bi s.data.toList) 10 _ (Lib.bytesWorld wr 5 s) (ub.conv_C wr s (by omega)) (by rw [hbl8];exact grownCap_ge _ _ _ _) hkc
         rw [hbl8] at h1
         refine h1.mono ?_
         rintro e w' ⟨rfl,hd⟩
         exact ⟨rfl,u1i (ub.conv_below wr s) hd.below⟩⟩
        clear hkc
        by_cases h10:s.data.toList.contains 10 = true
        · rw [h10] at HCT
          go_wp2_with (first
           | (go_at_call 13;(with_reducible refine HCT.out.mono ?_);rintro e W1 ⟨rfl,hb1⟩;have HB1:=Aside0.mk (u1k HB.out HB.out.size hb1))
           | (go_at_call 9;(with_reducible refine (HAL.out _).mono ?_);rintro e W2 ⟨rfl,hb2⟩;have HB2:=Aside0.mk (u1k HB1.out HB1.out.size hb2)))
          go_ret
          exact ⟨rfl,HB2.out⟩
        · have h10':s.data.toList.contains 10 = false:=Bool.eq_false_iff.2 h10
          rw [h10'] at HCT
          have HF:Aside0 (ub.fit s.data.toList):=⟨by rw [u1q];exact h12,h10'⟩
          clear h10 h10'
          have hLl:(L.take i).length = i:=by
           rw [← HL.out,List.length_take,List.length_map,List.length_take]
           omega
          have hbad:=ub.bad_snoc now s.data.toList (L.take i) 1 (by omega)
          rw [← HLI.out,hLl] at hbad
          have hwant:=ub.want_snoc now (L.take i) s.data.toList
          rw [← HLI.out] at hwant
          have htext:=ub.text_snoc (L.take i) s.data.toList
          rw [← HLI.out] at htext
          have hbs:Lib.bytesOf (bs ++ bytesOf s ++ [10]) = ub.text (L.take (i + 1)):=by
           have h9:=ub.bi_of s.data.toList
           have h8:∀ a b:List Int,Lib.bytesOf (a ++ b) = Lib.bytesOf a ++ Lib.bytesOf b:=fun a b => by simp [Lib.bytesOf]
           rw [htext,← HT.out.1,h8,h8,show Lib.bytesOf (bytesOf s) = s.data.toList from h9,List.append_assoc]
           rfl
          have hfit:∀ t ∈ L.take (i + 1),ub.fit t:=fun t ht => by
           rw [HLI.out] at ht
           rcases List.mem_append.1 ht with h1 | h1
           · exact HT.out.2.2 t h1
           · rw [List.mem_singleton.1 h1]
             exact HF.out
          have hbne:∀ z:Int,z ≠ 0 → (z == 0) = false ∧ (z != 0) = true:=fun z h => ⟨beq_eq_false_iff_ne.2 h,bne_iff_ne.2 h⟩
          rcases uo.read_cases Laws.canB s.data.toList now with ⟨C,hr,hC⟩ | ⟨r,hr⟩ | ⟨m,hr,hm⟩
          · have HLN:Aside0 (∀ W,Calls Tryd.prog 6 #[.string s,.int .i64 now] W fun e w' => ∃ v:Value,e = .returned (.tuple #[.agg #[v,.int .i64 0,.int .u64 0],.bool false,.agg #[.int .i64 C,.int .i64 0]]) ∧ Kd.R k37 37 w' W.heap.size (fun _ => True) v [] ∧ Below W.heap.size W w'):=⟨fun W => u1j.calls s now _ _ _ _ _ _ W (by unfold u1j.f;rw [if_pos (by omega),hr];rfl)⟩
            obtain ⟨hC1,hC2⟩:=hbne C hC
            by_cases hb0:ub.bad now 1 (L.take i) = 0
            · have HN:=Aside0.mk (And.intro hbs (And.intro (show rows = ub.want now (L.take (i + 1)) from by rw [hwant,hr,HT.out.2.1];simp) hfit))
              have HBN:Aside0 (ub.bad now 1 (L.take (i + 1)) = ((i + 1:Nat):Int)):=⟨by rw [hbad,hr,if_neg (by simp [hb0]),if_pos hC];omega⟩
              clear hbad hwant htext hbs hfit hr
              rw [hb0]
              go_wp2_with (first
               | (go_at_call 13;(with_reducible refine HCT.out.mono ?_);rintro e W1 ⟨rfl,hb1⟩;have HB1:=Aside0.mk (u1k HB.out HB.out.size hb1);have HA1:=Aside0.mk (Kd.R_below HA.out hb1);have HW1:=Aside0.mk (Kd.R_below HW.out hb1);clear hb1)
               | ((with_reducible refine u1t (b:=.append) (xs:=#[.tmp 36,.tmp 37]) rfl ?_);at_builtin;go_loud (refine u2i (w0:=w0) w0.heap.size rfl (.tmp 36) (.tmp 37) 42 9 5 rfl Tryd.underlying42 Tryd.underlying9 ub.info8 _ bs s rfl rfl (by exact Kd.own_of_R HA1.out) (by exact HB1.out) ?hb ?hl ?_;(case hb => exact HB1.out.size);(case hl => omega);intro v2 W2 hown hb2 hg2;have HA2:=Aside0.mk (ub.R_of hown);have HW2:=Aside0.mk (Kd.R_over HW1.out HA1.out (by decide) hg2);have HB2:=Aside0.mk hb2;clear hown hb2 hg2))
               | ((with_reducible refine u1t (b:=.append) (xs:=#[.tmp 38,.tmp 39]) rfl ?_);at_builtin;go_loud (refine u1y (w0:=w0) w0.heap.size rfl (.tmp 38) (.tmp 39) 42 5 .u8 1 rfl Tryd.underlying42 ub.info8 (by decide) _ (bs ++ bytesOf s) 10 rfl rfl (by exact Kd.own_of_R HA2.out) (by exact HB2.out) ?hb ?hl ?_;(case hb => exact HB2.out.size);(case hl => rw [List.length_append,bytesOf_length];omega);intro v3 W3 hown hb3 hg3 hat3;have HA3:=Aside0.mk (ub.R_of hown);have HW3:=Aside0.mk (Kd.R_over HW2.out HA2.out (by decide) hg3);have HB3:=Aside0.mk hb3;clear hown hb3 hg3 hat3))
               | (go_at_call 6;(with_reducible refine (HLN.out _).mono ?_);rintro e W4 ⟨v4,rfl,hr4,hb4⟩;obtain ⟨Al,cl,el⟩:=Kd.R_slice hr4;subst el;have HR4:=Aside0.mk hr4;have HB4:=Aside0.mk (u1k HB3.out HB3.out.size hb4);have HA4:=Aside0.mk (Kd.R_below HA3.out hb4);have HW4:=Aside0.mk (Kd.R_below HW3.out hb4);clear hr4 hb4))
              go_roundg k1
              case rel => exact ⟨i + 1,bs ++ bytesOf s ++ [10],rows,by go_num,by omega,by omega,by (first | (rw [HBN.out];done) | (rw [HBN.out];congr 1;omega) | (rw [HBN.out];go_num)),by rw [List.length_append,List.length_append,bytesOf_length,List.length_singleton];omega,by omega,HN,⟨Kd.R_alloc (Kd.R_alloc HA4.out _) _⟩,⟨Kd.R_alloc (Kd.R_alloc HW4.out _) _⟩,⟨uf (uf HB4.out _) _⟩⟩
              case measure => omega
            · obtain ⟨hb1,hb2⟩:=hbne _ hb0
              have HN:=Aside0.mk (And.intro hbs (And.intro (show rows = ub.want now (L.take (i + 1)) from by rw [hwant,hr,HT.out.2.1];simp) hfit))
              have HBN:Aside0 (ub.bad now 1 (L.take (i + 1)) = ub.bad now 1 (L.take i)):=⟨by rw [hbad,hr,if_pos hb0]⟩
              clear hbad hwant htext hbs hfit hr
              generalize ub.bad now 1 (L.take i) = zb at *
              go_wp2_with (first
               | (go_at_call 13;(with_reducible refine HCT.out.mono ?_);rintro e W1 ⟨rfl,hb1⟩;have HB1:=Aside0.mk (u1k HB.out HB.out.size hb1);have HA1:=Aside0.mk (Kd.R_below HA.out hb1);have HW1:=Aside0.mk (Kd.R_below HW.out hb1);clear hb1)
               | ((with_reducible refine u1t (b:=.append) (xs:=#[.tmp 36,.tmp 37]) rfl ?_);at_builtin;go_loud (refine u2i (w0:=w0) w0.heap.size rfl (.tmp 36) (.tmp 37) 42 9 5 rfl Tryd.underlying42 Tryd.underlying9 ub.info8 _ bs s rfl rfl (by exact Kd.own_of_R HA1.out) (by exact HB1.out) ?hb ?hl ?_;(case hb => exact HB1.out.size);(case hl => omega);intro v2 W2 hown hb2 hg2;have HA2:=Aside0.mk (ub.R_of hown);have HW2:=Aside0.mk (Kd.R_over HW1.out HA1.out (by decide) hg2);have HB2:=Aside0.mk hb2;clear hown hb2 hg2))
               | ((with_reducible refine u1t (b:=.append) (xs:=#[.tmp 38,.tmp 39]) rfl ?_);at_builtin;go_loud (refine u1y (w0:=w0) w0.heap.size rfl (.tmp 38) (.tmp 39) 42 5 .u8 1 rfl Tryd.underlying42 ub.info8 (by decide) _ (bs ++ bytesOf s) 10 rfl rfl (by exact Kd.own_of_R HA2.out) (by exact HB2.out) ?hb ?hl ?_;(case hb => exact HB2.out.size);(case hl => rw [List.length_append,bytesOf_length];omega);intro v3 W3 hown hb3 hg3 hat3;have HA3:=Aside0.mk (ub.R_of hown);have HW3:=Aside0.mk (Kd.R_over HW2.out HA2.out (by decide) hg3);have HB3:=Aside0.mk hb3;clear hown hb3 hg3 hat3))
               | (go_at_call 6;(with_reducible refine (HLN.out _).mono ?_);rintro e W4 ⟨v4,rfl,hr4,hb4⟩;obtain ⟨Al,cl,el⟩:=Kd.R_slice hr4;subst el;have HR4:=Aside0.mk hr4;have HB4:=Aside0.mk (u1k HB3.out HB3.out.size hb4);have HA4:=Aside0.mk (Kd.R_below HA3.out hb4);have HW4:=Aside0.mk (Kd.R_below HW3.out hb4);clear hr4 hb4))
              go_roundg k1
              case rel => exact ⟨i + 1,bs ++ bytesOf s ++ [10],rows,by go_num,by omega,by omega,by (first | (rw [HBN.out];done) | (rw [HBN.out];congr 1;omega) | (rw [HBN.out];go_num)),by rw [List.length_append,List.length_append,bytesOf_length,List.length_singleton];omega,by omega,HN,⟨Kd.R_alloc (Kd.R_alloc HA4.out _) _⟩,⟨Kd.R_alloc (Kd.R_alloc HW4.out _) _⟩,⟨uf (uf HB4.out _) _⟩⟩
              case measure => omega
          · have HLN:Aside0 (∀ W,Calls Tryd.prog 6 #[.string s,.int .i64 now] W fun e w' => ∃ v:Value,e = .returned (.tuple #[.agg #[v,.int .i64 r.f1,.int .u64 r.f2],.bool true,.agg #[.int .i64 0,.int .i64 0]]) ∧ Kd.R k37 37 w' W.heap.size (fun _ => True) v r.f0 ∧ Below W.heap.size W w'):=⟨fun W => u1j.calls s now _ _ _ _ _ _ W (by unfold u1j.f;rw [if_pos (by omega),hr];rfl)⟩
            have HN:=Aside0.mk (And.intro hbs (And.intro (show rows ++ [r] = ub.want now (L.take (i + 1)) from by rw [hwant,hr,HT.out.2.1];simp) hfit))
            have HBN:Aside0 (ub.bad now 1 (L.take (i + 1)) = ub.bad now 1 (L.take i)):=⟨by rw [hbad,hr];by_cases h0:ub.bad now 1 (L.take i) = 0 <;> simp [h0]⟩
            clear hbad hwant htext hbs hfit hr
            generalize ub.bad now 1 (L.take i) = zb at *
            go_wp2_with (first
             | (go_at_call 13;(with_reducible refine HCT.out.mono ?_);rintro e W1 ⟨rfl,hb1⟩;have HB1:=Aside0.mk (u1k HB.out HB.out.size hb1);have HA1:=Aside0.mk (Kd.R_below HA.out hb1);have HW1:=Aside0.mk (Kd.R_below HW.out hb1);clear hb1)
             | ((with_reducible refine u1t (b:=.append) (xs:=#[.tmp 36,.tmp 37]) rfl ?_);at_builtin;go_loud (refine u2i (w0:=w0) w0.heap.size rfl (.tmp 36) (.tmp 37) 42 9 5 rfl Tryd.underlying42 Tryd.underlying9 ub.info8 _ bs s rfl rfl (by exact Kd.own_of_R HA1.out) (by exact HB1.out) ?hb ?hl ?_;(case hb => exact HB1.out.size);(case hl => omega);intro v2 W2 hown hb2 hg2;have HA2:=Aside0.mk (ub.R_of hown);have HW2:=Aside0.mk (Kd.R_over HW1.out HA1.out (by decide) hg2);have HB2:=Aside0.mk hb2;clear hown hb2 hg2))
             | ((with_reducible refine u1t (b:=.append) (xs:=#[.tmp 38,.tmp 39]) rfl ?_);at_builtin;go_loud (refine u1y (w0:=w0) w0.heap.size rfl (.tmp 38) (.tmp 39) 42 5 .u8 1 rfl Tryd.underlying42 ub.info8 (by decide) _ (bs ++ bytesOf s) 10 rfl rfl (by exact Kd.own_of_R HA2.out) (by exact HB2.out) ?hb ?hl ?_;(case hb => exact HB2.out.size);(case hl => rw [List.length_append,bytesOf_length];omega);intro v3 W3 hown hb3 hg3 hat3;have HA3:=Aside0.mk (ub.R_of hown);have HW3:=Aside0.mk (Kd.R_over HW2.out HA2.out (by decide) hg3);have HB3:=Aside0.mk hb3;clear hown hb3 hg3 hat3))
             | (go_at_call 6;(with_reducible refine (HLN.out _).mono ?_);rintro e W4 ⟨v4,rfl,hr4,hb4⟩;obtain ⟨Al,cl,el⟩:=Kd.R_slice hr4;subst el;have HR4:=Aside0.mk hr4;have HB4:=Aside0.mk (u1k HB3.out HB3.out.size hb4);have HA4:=Aside0.mk (Kd.R_below HA3.out hb4);have HW4:=Aside0.mk (Kd.R_below HW3.out hb4);clear hr4 hb4)
             | ((with_reducible refine u1t (b:=.append) (xs:=#[.tmp 58,.tmp 60]) rfl ?_);at_builtin;go_loud (refine Kd.R_append k25 (w0:=w0) (W:=((W4.alloc (.cells #[.slice Al r.f0.length cl,.int .i64 r.f1,.int .u64 r.f2] 25)).alloc (.cells #[.int .i64 0,.int .i64 0] 28))) w0.heap.size rfl (.tmp 58) (.tmp 60) 43 25 (.agg #[.slice none 0 0,.int .i64 0,.int .u64 0]) 40 rfl Tryd.underlying43 uo.infoR rfl (by decide) (by decide) _ rows r [.slice Al r.f0.length cl,.int .i64 r.f1,.int .u64 r.f2] (fun _ => True) (fun k => W3.heap.size ≤ k) rfl (by rw [World.size_alloc,World.size_alloc];rfl) ?hM ?hok (fun _ _ => trivial) (Kd.R_alloc (Kd.R_alloc HW4.out _) _) (uf (uf HB4.out _) _) ?hbs ?hbig ?_;(case hM => exact k25_mkM _ _ _ r (Kd.R_lower (Kd.R_mono (Kd.R_bound (Kd.R_alloc (Kd.R_alloc HR4.out _) _)) (fun k hk => hk.2.1)) HB3.out.size));(case hok => intro k hk;refine ⟨trivial,fun e => ?_⟩;have h1:=Kd.R_lt HW3.out k e.symm;omega);(case hbs => have h1:=HB4.out.size;rw [World.size_alloc,World.size_alloc];omega);(case hbig => omega);intro v8 w8 ho hb8 hg8 hat;have HW8:=Aside0.mk ho;have HB8:=Aside0.mk hb8;have HA8:=Aside0.mk (Kd.R_over (Kd.R_alloc (Kd.R_alloc HA4.out _) _) (Kd.R_alloc (Kd.R_alloc HW4.out _) _) (by decide) hg8);clear ho hb8 hg8 hat)))
            go_roundg k1
            case rel => exact ⟨i + 1,bs ++ bytesOf s ++ [10],rows ++ [r],by go_num,by omega,by omega,by (first | (rw [HBN.out];done) | (rw [HBN.out];congr 1;omega) | (rw [HBN.out];go_num)),by rw [List.length_append,List.length_append,bytesOf_length,List.length_singleton];omega,by rw [List.length_append,List.length_singleton];omega,HN,⟨HA8.out⟩,⟨HW8.out⟩,⟨HB8.out⟩⟩
            case measure => omega
          · have HLN:Aside0 (∀ W,Calls Tryd.prog 6 #[.string s,.int .i64 now] W fun e w' => ∃ v:Value,e = .returned (.tuple #[.agg #[v,.int .i64 0,.int .u64 0],.bool false,.agg #[.int .i64 0,.int .i64 0]]) ∧ Kd.R k37 37 w' W.heap.size (fun _ => True) v [] ∧ Below W.heap.size W w'):=⟨fun W => u1j.calls s now _ _ _ _ _ _ W (by unfold u1j.f;rw [if_pos (by omega),hr];rfl)⟩
            have HN:=Aside0.mk (And.intro hbs (And.intro (show rows = ub.want now (L.take (i + 1)) from by rw [hwant,hr,HT.out.2.1];simp) hfit))
            have HBN:Aside0 (ub.bad now 1 (L.take (i + 1)) = ub.bad now 1 (L.take i)):=⟨by rw [hbad,hr];by_cases h0:ub.bad now 1 (L.take i) = 0 <;> simp [h0]⟩
            clear hbad hwant htext hbs hfit hr
            generalize ub.bad now 1 (L.take i) = zb at *
            go_wp2_with (first
             | (go_at_call 13;(with_reducible refine HCT.out.mono ?_);rintro e W1 ⟨rfl,hb1⟩;have HB1:=Aside0.mk (u1k HB.out HB.out.size hb1);have HA1:=Aside0.mk (Kd.R_below HA.out hb1);have HW1:=Aside0.mk (Kd.R_below HW.out hb1);clear hb1)
             | ((with_reducible refine u1t (b:=.append) (xs:=#[.tmp 36,.tmp 37]) rfl ?_);at_builtin;go_loud (refine u2i (w0:=w0) w0.heap.size rfl (.tmp 36) (.tmp 37) 42 9 5 rfl Tryd.underlying42 Tryd.underlying9 ub.info8 _ bs s rfl rfl (by exact Kd.own_of_R HA1.out) (by exact HB1.out) ?hb ?hl ?_;(case hb => exact HB1.out.size);(case hl => omega);intro v2 W2 hown hb2 hg2;have HA2:=Aside0.mk (ub.R_of hown);have HW2:=Aside0.mk (Kd.R_over HW1.out HA1.out (by decide) hg2);have HB2:=Aside0.mk hb2;clear hown hb2 hg2))
             | ((with_reducible refine u1t (b:=.append) (xs:=#[.tmp 38,.tmp 39]) rfl ?_);at_builtin;go_loud (refine u1y (w0:=w0) w0.heap.size rfl (.tmp 38) (.tmp 39) 42 5 .u8 1 rfl Tryd.underlying42 ub.info8 (by decide) _ (bs ++ bytesOf s) 10 rfl rfl (by exact Kd.own_of_R HA2.out) (by exact HB2.out) ?hb ?hl ?_;(case hb => exact HB2.out.size);(case hl => rw [List.length_append,bytesOf_length];omega);intro v3 W3 hown hb3 hg3 hat3;have HA3:=Aside0.mk (ub.R_of hown);have HW3:=Aside0.mk (Kd.R_over HW2.out HA2.out (by decide) hg3);have HB3:=Aside0.mk hb3;clear hown hb3 hg3 hat3))
             | (go_at_call 6;(with_reducible refine (HLN.out _).mono ?_);rintro e W4 ⟨v4,rfl,hr4,hb4⟩;obtain ⟨Al,cl,el⟩:=Kd.R_slice hr4;subst el;have HR4:=Aside0.mk hr4;have HB4:=Aside0.mk (u1k HB3.out HB3.out.size hb4);have HA4:=Aside0.mk (Kd.R_below HA3.out hb4);have HW4:=Aside0.mk (Kd.R_below HW3.out hb4);clear hr4 hb4))
            go_roundg k1
            case rel => exact ⟨i + 1,bs ++ bytesOf s ++ [10],rows,by go_num,by omega,by omega,by (first | (rw [HBN.out];done) | (rw [HBN.out];congr 1;omega) | (rw [HBN.out];go_num)),by rw [List.length_append,List.length_append,bytesOf_length,List.length_singleton];omega,by omega,HN,⟨Kd.R_alloc (Kd.R_alloc HA4.out _) _⟩,⟨Kd.R_alloc (Kd.R_alloc HW4.out _) _⟩,⟨uf (uf HB4.out _) _⟩⟩
            case measure => omega
      · have hg1:decide ((1200:Int) < (s.size:Int)) = true:=decide_eq_true (by omega)
        have hg2:decide (1200 < s.size) = true:=decide_eq_true (by omega)
        go_wp2_with (first
         | (go_at_call 9;(with_reducible refine (HAL.out _).mono ?_);rintro e W1 ⟨rfl,hb1⟩;have HB1:=Aside0.mk (u1k HB.out HB.out.size hb1)))
        go_ret
        exact ⟨rfl,HB1.out⟩
    · obtain rfl:i = l0.length:=by omega
      have hLN:L.length = l0.length:=by
       rw [← HL.out,List.length_map,List.length_take]
       omega
      have hLt:L.take l0.length = L:=by rw [← hLN,List.take_length]
      rw [hLt] at HT ⊢
      obtain ⟨hb1,hw1,hf1⟩:=HT.out
      have hge:¬ ((l0.length:Int) < ((l0.length:Nat):Int)):=by omega
      obtain ⟨A5,c5,e5⟩:=Kd.R_slice HA.out
      subst e5
      obtain ⟨A6,c6,e6⟩:=Kd.R_slice HW.out
      subst e6
      have hl8:(ub.text L).length = bs.length:=by rw [← hb1,Lib.bytesOf_length]
      obtain ⟨hok,hbd⟩:=HEND.out L (by omega) hf1 (bs.length + 1) (by omega)
      have HAL:Aside0 (∀ W,Calls Tryd.prog 9 #[] W fun e w' => e = .returned (.bool true) ∧ Below W.heap.size W w'):=⟨fun W => u2c.calls true W HAW.out⟩
      have HPS:Aside0 (Calls Tryd.prog 14 #[.slice A5 bs.length c5,.int .i64 now] wr fun e W' => uo.Out wr (Tx.parseP Laws.canB now (bs.length + 1) 1 [] [] (ub.text L)) e W'):=⟨by
       obtain ⟨_,g2,g3⟩:=Kd.R_reads' HA.out
       have h1:=uo.calls Laws.canB (fun l _ => (Laws.can_ev l).rounds) wr A5 c5 bs now g3 g2 (by omega)
       rw [hb1] at h1
       exact h1⟩
      by_cases hb0:ub.bad now 1 L = 0
      · obtain ⟨book,hX⟩:=hok hb0
        rw [hX] at HPS
        rw [hb0]
        obtain ⟨ks,hks⟩:=HSAME.out L (by omega)
        rw [← hw1] at hks HPS
        have HKS:=Aside0.mk hks
        clear hok hbd hX hks hb1 hw1 hf1 HT
        go_wp2_with (first
         | (go_at_call 14;(with_reducible refine HPS.out.mono ?_);rintro e W1 ⟨v1,v2,rfl,hr1,hr2,hb1⟩;obtain ⟨A7,c7,e7⟩:=Kd.R_slice hr1;subst e7;have HR1:=Aside0.mk hr1;have HW1:=Aside0.mk (Kd.R_below HW.out hb1);have HB1:=Aside0.mk (u1k HB.out HB.out.size hb1);clear hr1 hr2 hb1)
         | (go_at_call 15;(with_reducible refine (uv.calls ks A7 c7 rows A6 c6 rows true _ (Kd.C_alloc (Kd.R_reads' HR1.out).2.2 _) (Kd.R_reads' HR1.out).2.1 (Kd.C_alloc (Kd.R_reads' HW1.out).2.2 _) (Kd.R_reads' HW1.out).2.1 HKS.out).mono ?_);rintro e W2 ⟨rfl,hb2⟩;have HB2:=Aside0.mk (u1k (uf HB1.out _) (by rw [World.size_alloc];have:=HB1.out.size;omega) hb2);clear hb2)
         | (go_at_call 9;(with_reducible refine (HAL.out _).mono ?_);rintro e W3 ⟨rfl,hb3⟩;have HB3:=Aside0.mk (u1k HB2.out HB2.out.size hb3)))
        go_ret
        exact ⟨rfl,HB3.out⟩
      · obtain ⟨hpos,e9,hX⟩:=hbd hb0
        rw [hX] at HPS
        clear hok hbd hX hb1 hw1 hf1 HT
        generalize ub.bad now 1 L = zb at *
        go_wp2_with (first
         | (go_at_call 14;(with_reducible refine HPS.out.mono ?_);rintro e W1 ⟨v1,v2,rfl,hr1,hr2,hb1⟩;obtain ⟨A7,c7,e7⟩:=Kd.R_slice hr1;subst e7;have HB1:=Aside0.mk (u1k HB.out HB.out.size hb1);clear hr1 hr2 hb1)
         | (go_at_call 9;(with_reducible refine (HAL.out _).mono ?_);rintro e W2 ⟨rfl,hb2⟩;have HB2:=Aside0.mk (u1k (uf HB1.out _) (by rw [World.size_alloc];have:=HB1.out.size;omega) hb2)))
        go_ret
        exact ⟨rfl,HB2.out⟩
 · have hN:30 ≤ l0.length:=by omega
   have hq:((l0.length:Int) ≤ 30) = False:=eq_false h30
   have hq2:((30:Int) < (l0.length:Int)) = True:=eq_true (by omega)
   go_enter Tryd.func5,Tryd.ntmps5
   go_wp2
   go_loopg [5,6,7,22] 30 (fun kq v5 v6 v7 v22 wr => ∃ (i:Nat) (bs:List Int) (rows:List S25),v22 = .int .i64 (i:Int) ∧ i ≤ 30 ∧ 30 ≤ kq + i ∧ v7 = .int .i64 (ub.bad now 1 (L.take i)) ∧ bs.length ≤ i * 1201 ∧ rows.length ≤ i ∧ Aside0 (Lib.bytesOf bs = ub.text (L.take i) ∧ rows = ub.want now (L.take i) ∧ ∀ s ∈ L.take i,ub.fit s) ∧ Aside0 (Kd.R (Kd.int .u8) 5 wr w0.heap.size (fun _ => True) v5 bs) ∧ Aside0 (Kd.R k25 25 wr w0.heap.size (fun _ => True) v6 rows) ∧ Aside0 (Below w0.heap.size w0 wr))
   case atStart => exact ⟨0,[],[],rfl,by omega,by omega,rfl,by simp,by simp,⟨by simp [ub.text,Lib.bytesOf],by simp [ub.want],by simp⟩,⟨Kd.R_nil _ _ _ _ _⟩,⟨Kd.R_nil _ _ _ _ _⟩,⟨Below.refl _ _⟩⟩
   case round =>
    obtain ⟨i,bs,rows,rfl,hi,hk,rfl,hbl,hrl,HT,HA,HW,HB⟩:=hrel
    by_cases hlt:i < 30
    · have hil:i < l0.length:=by omega
      obtain ⟨k1,rfl⟩:∃ k1,gk = k1 + 1:=⟨gk - 1,by omega⟩
      obtain ⟨ad,eA,hcell⟩:=ub.line_C (Kd.C_below HC0.out HB.out) i hil
      subst eA
      have hLi:L.take (i + 1) = L.take i ++ [(l0[i]).data.toList]:=by
       rw [← HL.out]
       exact ub.take_next l0 i (by omega) hil
      obtain ⟨s,hs⟩:∃ s,l0[i] = s:=⟨_,rfl⟩
      rw [hs] at hcell hLi
      have hi2:(i:Int) < ((30:Nat):Int):=by omega
      have HLI:=Aside0.mk hLi
      have HAL:Aside0 (∀ W,Calls Tryd.prog 9 #[] W fun e w' => e = .returned (.bool true) ∧ Below W.heap.size W w'):=⟨fun W => u2c.calls true W HAW.out⟩
      clear hs hLi
      by_cases h12:s.size ≤ 1200
      · have hg1:decide ((1200:Int) < (s.size:Int)) = false:=decide_eq_false (by omega)
        have hg2:decide (1200 < s.size) = false:=decide_eq_false (by omega)
        have hcv:=Lib.run_convert_string_bytes (P:=Tryd.prog) wr 9 42 5 s Tryd.underlying9 Tryd.underlying42 Tryd.underlying5
        obtain ⟨kc,hkc⟩:=ub.has_ten s.data.toList (by rw [u1q];omega)
        have hbl8:(ub.bi s.data.toList).length = s.size:=by rw [ub.bi,List.length_map,u1q]
        have HCT:Aside0 (Calls Tryd.prog 13 #[.slice (some ⟨wr.heap.size,0,none⟩) s.size (grownCap wr s.size 0 5),.int .u8 10] (Lib.bytesWorld wr 5 s) fun e w' => e = .returned (.bool (s.data.toList.contains 10)) ∧ Below wr.heap.size wr w'):=⟨by
         have h1:=u2a.calls kc (some ⟨wr.heap.size,0,none⟩) (grownCap wr s.size 0 5) (ub.bi s.data.toList) 10 _ (Lib.bytesWorld wr 5 s) (ub.conv_C wr s (by omega)) (by rw [hbl8];exact grownCap_ge _ _ _ _) hkc
         rw [hbl8] at h1
         refine h1.mono ?_
         rintro e w' ⟨rfl,hd⟩
         exact ⟨rfl,u1i (ub.conv_below wr s) hd.below⟩⟩
        clear hkc
        by_cases h10:s.data.toList.contains 10 = true
        · rw [h10] at HCT
          go_wp2_with (first
           | (go_at_call 13;(with_reducible refine HCT.out.mono ?_);rintro e W1 ⟨rfl,hb1⟩;have HB1:=Aside0.mk (u1k HB.out HB.out.size hb1))
           | (go_at_call 9;(with_reducible refine (HAL.out _).mono ?_);rintro e W2 ⟨rfl,hb2⟩;have HB2:=Aside0.mk (u1k HB1.out HB1.out.size hb2)))
          go_ret
          exact ⟨rfl,HB2.out⟩
        · have h10':s.data.toList.contains 10 = false:=Bool.eq_false_iff.2 h10
          rw [h10'] at HCT
          have HF:Aside0 (ub.fit s.data.toList):=⟨by rw [u1q];exact h12,h10'⟩
          clear h10 h10'
          have hLl:(L.take i).length = i:=by
           rw [← HL.out,List.length_take,List.length_map,List.length_take]
           omega
          have hbad:=ub.bad_snoc now s.data.toList (L.take i) 1 (by omega)
          rw [← HLI.out,hLl] at hbad
          have hwant:=ub.want_snoc now (L.take i) s.data.toList
          rw [← HLI.out] at hwant
          have htext:=ub.text_snoc (L.take i) s.data.toList
          rw [← HLI.out] at htext
          have hbs:Lib.bytesOf (bs ++ bytesOf s ++ [10]) = ub.text (L.take (i + 1)):=by
           have h9:=ub.bi_of s.data.toList
           have h8:∀ a b:List Int,Lib.bytesOf (a ++ b) = Lib.bytesOf a ++ Lib.bytesOf b:=fun a b => by simp [Lib.bytesOf]
           rw [htext,← HT.out.1,h8,h8,show Lib.bytesOf (bytesOf s) = s.data.toList from h9,List.append_assoc]
           rfl
          have hfit:∀ t ∈ L.take (i + 1),ub.fit t:=fun t ht => by
           rw [HLI.out] at ht
           rcases List.mem_append.1 ht with h1 | h1
           · exact HT.out.2.2 t h1
           · rw [List.mem_singleton.1 h1]
             exact HF.out
          have hbne:∀ z:Int,z ≠ 0 → (z == 0) = false ∧ (z != 0) = true:=fun z h => ⟨beq_eq_false_iff_ne.2 h,bne_iff_ne.2 h⟩
          rcases uo.read_cases Laws.canB s.data.toList now with ⟨C,hr,hC⟩ | ⟨r,hr⟩ | ⟨m,hr,hm⟩
          · have HLN:Aside0 (∀ W,Calls Tryd.prog 6 #[.string s,.int .i64 now] W fun e w' => ∃ v:Value,e = .returned (.tuple #[.agg #[v,.int .i64 0,.int .u64 0],.bool false,.agg #[.int .i64 C,.int .i64 0]]) ∧ Kd.R k37 37 w' W.heap.size (fun _ => True) v [] ∧ Below W.heap.size W w'):=⟨fun W => u1j.calls s now _ _ _ _ _ _ W (by unfold u1j.f;rw [if_pos (by omega),hr];rfl)⟩
            obtain ⟨hC1,hC2⟩:=hbne C hC
            by_cases hb0:ub.bad now 1 (L.take i) = 0
            · have HN:=Aside0.mk (And.intro hbs (And.intro (show rows = ub.want now (L.take (i + 1)) from by rw [hwant,hr,HT.out.2.1];simp) hfit))
              have HBN:Aside0 (ub.bad now 1 (L.take (i + 1)) = ((i + 1:Nat):Int)):=⟨by rw [hbad,hr,if_neg (by simp [hb0]),if_pos hC];omega⟩
              clear hbad hwant htext hbs hfit hr
              rw [hb0]
              go_wp2_with (first
               | (go_at_call 13;(with_reducible refine HCT.out.mono ?_);rintro e W1 ⟨rfl,hb1⟩;have HB1:=Aside0.mk (u1k HB.out HB.out.size hb1);have HA1:=Aside0.mk (Kd.R_below HA.out hb1);have HW1:=Aside0.mk (Kd.R_below HW.out hb1);clear hb1)
               | ((with_reducible refine u1t (b:=.append) (xs:=#[.tmp 36,.tmp 37]) rfl ?_);at_builtin;go_loud (refine u2i (w0:=w0) w0.heap.size rfl (.tmp 36) (.tmp 37) 42 9 5 rfl Tryd.underlying42 Tryd.underlying9 ub.info8 _ bs s rfl rfl (by exact Kd.own_of_R HA1.out) (by exact HB1.out) ?hb ?hl ?_;(case hb => exact HB1.out.size);(case hl => omega);intro v2 W2 hown hb2 hg2;have HA2:=Aside0.mk (ub.R_of hown);have HW2:=Aside0.mk (Kd.R_over HW1.out HA1.out (by decide) hg2);have HB2:=Aside0.mk hb2;clear hown hb2 hg2))
               | ((with_reducible refine u1t (b:=.append) (xs:=#[.tmp 38,.tmp 39]) rfl ?_);at_builtin;go_loud (refine u1y (w0:=w0) w0.heap.size rfl (.tmp 38) (.tmp 39) 42 5 .u8 1 rfl Tryd.underlying42 ub.info8 (by decide) _ (bs ++ bytesOf s) 10 rfl rfl (by exact Kd.own_of_R HA2.out) (by exact HB2.out) ?hb ?hl ?_;(case hb => exact HB2.out.size);(case hl => rw [List.length_append,bytesOf_length];omega);intro v3 W3 hown hb3 hg3 hat3;have HA3:=Aside0.mk (ub.R_of hown);have HW3:=Aside0.mk (Kd.R_over HW2.out HA2.out (by decide) hg3);have HB3:=Aside0.mk hb3;clear hown hb3 hg3 hat3))
               | (go_at_call 6;(with_reducible refine (HLN.out _).mono ?_);rintro e W4 ⟨v4,rfl,hr4,hb4⟩;obtain ⟨Al,cl,el⟩:=Kd.R_slice hr4;subst el;have HR4:=Aside0.mk hr4;have HB4:=Aside0.mk (u1k HB3.out HB3.out.size hb4);have HA4:=Aside0.mk (Kd.R_below HA3.out hb4);have HW4:=Aside0.mk (Kd.R_below HW3.out hb4);clear hr4 hb4))
              go_roundg k1
              case rel => exact ⟨i + 1,bs ++ bytesOf s ++ [10],rows,by go_num,by omega,by omega,by (first | (rw [HBN.out];done) | (rw [HBN.out];congr 1;omega) | (rw [HBN.out];go_num)),by rw [List.length_append,List.length_append,bytesOf_length,List.length_singleton];omega,by omega,HN,⟨Kd.R_alloc (Kd.R_alloc HA4.out _) _⟩,⟨Kd.R_alloc (Kd.R_alloc HW4.out _) _⟩,⟨uf (uf HB4.out _) _⟩⟩
              case measure => omega
            · obtain ⟨hb1,hb2⟩:=hbne _ hb0
              have HN:=Aside0.mk (And.intro hbs (And.intro (show rows = ub.want now (L.take (i + 1)) from by rw [hwant,hr,HT.out.2.1];simp) hfit))
              have HBN:Aside0 (ub.bad now 1 (L.take (i + 1)) = ub.bad now 1 (L.take i)):=⟨by rw [hbad,hr,if_pos hb0]⟩
              clear hbad hwant htext hbs hfit hr
              generalize ub.bad now 1 (L.take i) = zb at *
              go_wp2_with (first
               | (go_at_call 13;(with_reducible refine HCT.out.mono ?_);rintro e W1 ⟨rfl,hb1⟩;have HB1:=Aside0.mk (u1k HB.out HB.out.size hb1);have HA1:=Aside0.mk (Kd.R_below HA.out hb1);have HW1:=Aside0.mk (Kd.R_below HW.out hb1);clear hb1)
               | ((with_reducible refine u1t (b:=.append) (xs:=#[.tmp 36,.tmp 37]) rfl ?_);at_builtin;go_loud (refine u2i (w0:=w0) w0.heap.size rfl (.tmp 36) (.tmp 37) 42 9 5 rfl Tryd.underlying42 Tryd.underlying9 ub.info8 _ bs s rfl rfl (by exact Kd.own_of_R HA1.out) (by exact HB1.out) ?hb ?hl ?_;(case hb => exact HB1.out.size);(case hl => omega);intro v2 W2 hown hb2 hg2;have HA2:=Aside0.mk (ub.R_of hown);have HW2:=Aside0.mk (Kd.R_over HW1.out HA1.out (by decide) hg2);have HB2:=Aside0.mk hb2;clear hown hb2 hg2))
               | ((with_reducible refine u1t (b:=.append) (xs:=#[.tmp 38,.tmp 39]) rfl ?_);at_builtin;go_loud (refine u1y (w0:=w0) w0.heap.size rfl (.tmp 38) (.tmp 39) 42 5 .u8 1 rfl Tryd.underlying42 ub.info8 (by decide) _ (bs ++ bytesOf s) 10 rfl rfl (by exact Kd.own_of_R HA2.out) (by exact HB2.out) ?hb ?hl ?_;(case hb => exact HB2.out.size);(case hl => rw [List.length_append,bytesOf_length];omega);intro v3 W3 hown hb3 hg3 hat3;have HA3:=Aside0.mk (ub.R_of hown);have HW3:=Aside0.mk (Kd.R_over HW2.out HA2.out (by decide) hg3);have HB3:=Aside0.mk hb3;clear hown hb3 hg3 hat3))
               | (go_at_call 6;(with_reducible refine (HLN.out _).mono ?_);rintro e W4 ⟨v4,rfl,hr4,hb4⟩;obtain ⟨Al,cl,el⟩:=Kd.R_slice hr4;subst el;have HR4:=Aside0.mk hr4;have HB4:=Aside0.mk (u1k HB3.out HB3.out.size hb4);have HA4:=Aside0.mk (Kd.R_below HA3.out hb4);have HW4:=Aside0.mk (Kd.R_below HW3.out hb4);clear hr4 hb4))
              go_roundg k1
              case rel => exact ⟨i + 1,bs ++ bytesOf s ++ [10],rows,by go_num,by omega,by omega,by (first | (rw [HBN.out];done) | (rw [HBN.out];congr 1;omega) | (rw [HBN.out];go_num)),by rw [List.length_append,List.length_append,bytesOf_length,List.length_singleton];omega,by omega,HN,⟨Kd.R_alloc (Kd.R_alloc HA4.out _) _⟩,⟨Kd.R_alloc (Kd.R_alloc HW4.out _) _⟩,⟨uf (uf HB4.out _) _⟩⟩
              case measure => omega
          · have HLN:Aside0 (∀ W,Calls Tryd.prog 6 #[.string s,.int .i64 now] W fun e w' => ∃ v:Value,e = .returned (.tuple #[.agg #[v,.int .i64 r.f1,.int .u64 r.f2],.bool true,.agg #[.int .i64 0,.int .i64 0]]) ∧ Kd.R k37 37 w' W.heap.size (fun _ => True) v r.f0 ∧ Below W.heap.size W w'):=⟨fun W => u1j.calls s now _ _ _ _ _ _ W (by unfold u1j.f;rw [if_pos (by omega),hr];rfl)⟩
            have HN:=Aside0.mk (And.intro hbs (And.intro (show rows ++ [r] = ub.want now (L.take (i + 1)) from by rw [hwant,hr,HT.out.2.1];simp) hfit))
            have HBN:Aside0 (ub.bad now 1 (L.take (i + 1)) = ub.bad now 1 (L.take i)):=⟨by rw [hbad,hr];by_cases h0:ub.bad now 1 (L.take i) = 0 <;> simp [h0]⟩
            clear hbad hwant htext hbs hfit hr
            generalize ub.bad now 1 (L.take i) = zb at *
            go_wp2_with (first
             | (go_at_call 13;(with_reducible refine HCT.out.mono ?_);rintro e W1 ⟨rfl,hb1⟩;have HB1:=Aside0.mk (u1k HB.out HB.out.size hb1);have HA1:=Aside0.mk (Kd.R_below HA.out hb1);have HW1:=Aside0.mk (Kd.R_below HW.out hb1);clear hb1)
             | ((with_reducible refine u1t (b:=.append) (xs:=#[.tmp 36,.tmp 37]) rfl ?_);at_builtin;go_loud (refine u2i (w0:=w0) w0.heap.size rfl (.tmp 36) (.tmp 37) 42 9 5 rfl Tryd.underlying42 Tryd.underlying9 ub.info8 _ bs s rfl rfl (by exact Kd.own_of_R HA1.out) (by exact HB1.out) ?hb ?hl ?_;(case hb => exact HB1.out.size);(case hl => omega);intro v2 W2 hown hb2 hg2;have HA2:=Aside0.mk (ub.R_of hown);have HW2:=Aside0.mk (Kd.R_over HW1.out HA1.out (by decide) hg2);have HB2:=Aside0.mk hb2;clear hown hb2 hg2))
             | ((with_reducible refine u1t (b:=.append) (xs:=#[.tmp 38,.tmp 39]) rfl ?_);at_builtin;go_loud (refine u1y (w0:=w0) w0.heap.size rfl (.tmp 38) (.tmp 39) 42 5 .u8 1 rfl Tryd.underlying42 ub.info8 (by decide) _ (bs ++ bytesOf s) 10 rfl rfl (by exact Kd.own_of_R HA2.out) (by exact HB2.out) ?hb ?hl ?_;(case hb => exact HB2.out.size);(case hl => rw [List.length_append,bytesOf_length];omega);intro v3 W3 hown hb3 hg3 hat3;have HA3:=Aside0.mk (ub.R_of hown);have HW3:=Aside0.mk (Kd.R_over HW2.out HA2.out (by decide) hg3);have HB3:=Aside0.mk hb3;clear hown hb3 hg3 hat3))
             | (go_at_call 6;(with_reducible refine (HLN.out _).mono ?_);rintro e W4 ⟨v4,rfl,hr4,hb4⟩;obtain ⟨Al,cl,el⟩:=Kd.R_slice hr4;subst el;have HR4:=Aside0.mk hr4;have HB4:=Aside0.mk (u1k HB3.out HB3.out.size hb4);have HA4:=Aside0.mk (Kd.R_below HA3.out hb4);have HW4:=Aside0.mk (Kd.R_below HW3.out hb4);clear hr4 hb4)
             | ((with_reducible refine u1t (b:=.append) (xs:=#[.tmp 58,.tmp 60]) rfl ?_);at_builtin;go_loud (refine Kd.R_append k25 (w0:=w0) (W:=((W4.alloc (.cells #[.slice Al r.f0.length cl,.int .i64 r.f1,.int .u64 r.f2] 25)).alloc (.cells #[.int .i64 0,.int .i64 0] 28))) w0.heap.size rfl (.tmp 58) (.tmp 60) 43 25 (.agg #[.slice none 0 0,.int .i64 0,.int .u64 0]) 40 rfl Tryd.underlying43 uo.infoR rfl (by decide) (by decide) _ rows r [.slice Al r.f0.length cl,.int .i64 r.f1,.int .u64 r.f2] (fun _ => True) (fun k => W3.heap.size ≤ k) rfl (by rw [World.size_alloc,World.size_alloc];rfl) ?hM ?hok (fun _ _ => trivial) (Kd.R_alloc (Kd.R_alloc HW4.out _) _) (uf (uf HB4.out _) _) ?hbs ?hbig ?_;(case hM => exact k25_mkM _ _ _ r (Kd.R_lower (Kd.R_mono (Kd.R_bound (Kd.R_alloc (Kd.R_alloc HR4.out _) _)) (fun k hk => hk.2.1)) HB3.out.size));(case hok => intro k hk;refine ⟨trivial,fun e => ?_⟩;have h1:=Kd.R_lt HW3.out k e.symm;omega);(case hbs => have h1:=HB4.out.size;rw [World.size_alloc,World.size_alloc];omega);(case hbig => omega);intro v8 w8 ho hb8 hg8 hat;have HW8:=Aside0.mk ho;have HB8:=Aside0.mk hb8;have HA8:=Aside0.mk (Kd.R_over (Kd.R_alloc (Kd.R_alloc HA4.out _) _) (Kd.R_alloc (Kd.R_alloc HW4.out _) _) (by decide) hg8);clear ho hb8 hg8 hat)))
            go_roundg k1
            case rel => exact ⟨i + 1,bs ++ bytesOf s ++ [10],rows ++ [r],by go_num,by omega,by omega,by (first | (rw [HBN.out];done) | (rw [HBN.out];congr 1;omega) | (rw [HBN.out];go_num)),by rw [List.length_append,List.length_append,bytesOf_length,List.length_singleton];omega,by rw [List.length_append,List.length_singleton];omega,HN,⟨HA8.out⟩,⟨HW8.out⟩,⟨HB8.out⟩⟩
            case measure => omega
          · have HLN:Aside0 (∀ W,Calls Tryd.prog 6 #[.string s,.int .i64 now] W fun e w' => ∃ v:Value,e = .returned (.tuple #[.agg #[v,.int .i64 0,.int .u64 0],.bool false,.agg #[.int .i64 0,.int .i64 0]]) ∧ Kd.R k37 37 w' W.heap.size (fun _ => True) v [] ∧ Below W.heap.size W w'):=⟨fun W => u1j.calls s now _ _ _ _ _ _ W (by unfold u1j.f;rw [if_pos (by omega),hr];rfl)⟩
            have HN:=Aside0.mk (And.intro hbs (And.intro (show rows = ub.want now (L.take (i + 1)) from by rw [hwant,hr,HT.out.2.1];simp) hfit))
            have HBN:Aside0 (ub.bad now 1 (L.take (i + 1)) = ub.bad now 1 (L.take i)):=⟨by rw [hbad,hr];by_cases h0:ub.bad now 1 (L.take i) = 0 <;> simp [h0]⟩
            clear hbad hwant htext hbs hfit hr
            generalize ub.bad now 1 (L.take i) = zb at *
            go_wp2_with (first
             | (go_at_call 13;(with_reducible refine HCT.out.mono ?_);rintro e W1 ⟨rfl,hb1⟩;have HB1:=Aside0.mk (u1k HB.out HB.out.size hb1);have HA1:=Aside0.mk (Kd.R_below HA.out hb1);have HW1:=Aside0.mk (Kd.R_below HW.out hb1);clear hb1)
             | ((with_reducible refine u1t (b:=.append) (xs:=#[.tmp 36,.tmp 37]) rfl ?_);at_builtin;go_loud (refine u2i (w0:=w0) w0.heap.size rfl (.tmp 36) (.tmp 37) 42 9 5 rfl Tryd.underlying42 Tryd.underlying9 ub.info8 _ bs s rfl rfl (by exact Kd.own_of_R HA1.out) (by exact HB1.out) ?hb ?hl ?_;(case hb => exact HB1.out.size);(case hl => omega);intro v2 W2 hown hb2 hg2;have HA2:=Aside0.mk (ub.R_of hown);have HW2:=Aside0.mk (Kd.R_over HW1.out HA1.out (by decide) hg2);have HB2:=Aside0.mk hb2;clear hown hb2 hg2))
             | ((with_reducible refine u1t (b:=.append) (xs:=#[.tmp 38,.tmp 39]) rfl ?_);at_builtin;go_loud (refine u1y (w0:=w0) w0.heap.size rfl (.tmp 38) (.tmp 39) 42 5 .u8 1 rfl Tryd.underlying42 ub.info8 (by decide) _ (bs ++ bytesOf s) 10 rfl rfl (by exact Kd.own_of_R HA2.out) (by exact HB2.out) ?hb ?hl ?_;(case hb => exact HB2.out.size);(case hl => rw [List.length_append,bytesOf_length];omega);intro v3 W3 hown hb3 hg3 hat3;have HA3:=Aside0.mk (ub.R_of hown);have HW3:=Aside0.mk (Kd.R_over HW2.out HA2.out (by decide) hg3);have HB3:=Aside0.mk hb3;clear hown hb3 hg3 hat3))
             | (go_at_call 6;(with_reducible refine (HLN.out _).mono ?_);rintro e W4 ⟨v4,rfl,hr4,hb4⟩;obtain ⟨Al,cl,el⟩:=Kd.R_slice hr4;subst el;have HR4:=Aside0.mk hr4;have HB4:=Aside0.mk (u1k HB3.out HB3.out.size hb4);have HA4:=Aside0.mk (Kd.R_below HA3.out hb4);have HW4:=Aside0.mk (Kd.R_below HW3.out hb4);clear hr4 hb4))
            go_roundg k1
            case rel => exact ⟨i + 1,bs ++ bytesOf s ++ [10],rows,by go_num,by omega,by omega,by (first | (rw [HBN.out];done) | (rw [HBN.out];congr 1;omega) | (rw [HBN.out];go_num)),by rw [List.length_append,List.length_append,bytesOf_length,List.length_singleton];omega,by omega,HN,⟨Kd.R_alloc (Kd.R_alloc HA4.out _) _⟩,⟨Kd.R_alloc (Kd.R_alloc HW4.out _) _⟩,⟨uf (uf HB4.out _) _⟩⟩
            case measure => omega
      · have hg1:decide ((1200:Int) < (s.size:Int)) = true:=decide_eq_true (by omega)
        have hg2:decide (1200 < s.size) = true:=decide_eq_true (by omega)
        go_wp2_with (first
         | (go_at_call 9;(with_reducible refine (HAL.out _).mono ?_);rintro e W1 ⟨rfl,hb1⟩;have HB1:=Aside0.mk (u1k HB.out HB.out.size hb1)))
        go_ret
        exact ⟨rfl,HB1.out⟩
    · obtain rfl:i = 30:=by omega
      have hLN:L.length = 30:=by
       rw [← HL.out,List.length_map,List.length_take]
       omega
      have hLt:L.take 30 = L:=by rw [← hLN,List.take_length]
      rw [hLt] at HT ⊢
      obtain ⟨hb1,hw1,hf1⟩:=HT.out
      have hge:¬ ((30:Int) < ((30:Nat):Int)):=by omega
      obtain ⟨A5,c5,e5⟩:=Kd.R_slice HA.out
      subst e5
      obtain ⟨A6,c6,e6⟩:=Kd.R_slice HW.out
      subst e6
      have hl8:(ub.text L).length = bs.length:=by rw [← hb1,Lib.bytesOf_length]
      obtain ⟨hok,hbd⟩:=HEND.out L (by omega) hf1 (bs.length + 1) (by omega)
      have HAL:Aside0 (∀ W,Calls Tryd.prog 9 #[] W fun e w' => e = .returned (.bool true) ∧ Below W.heap.size W w'):=⟨fun W => u2c.calls true W HAW.out⟩
      have HPS:Aside0 (Calls Tryd.prog 14 #[.slice A5 bs.length c5,.int .i64 now] wr fun e W' => uo.Out wr (Tx.parseP Laws.canB now (bs.length + 1) 1 [] [] (ub.text L)) e W'):=⟨by
       obtain ⟨_,g2,g3⟩:=Kd.R_reads' HA.out
       have h1:=uo.calls Laws.canB (fun l _ => (Laws.can_ev l).rounds) wr A5 c5 bs now g3 g2 (by omega)
       rw [hb1] at h1
       exact h1⟩
      by_cases hb0:ub.bad now 1 L = 0
      · obtain ⟨book,hX⟩:=hok hb0
        rw [hX] at HPS
        rw [hb0]
        obtain ⟨ks,hks⟩:=HSAME.out L (by omega)
        rw [← hw1] at hks HPS
        have HKS:=Aside0.mk hks
        clear hok hbd hX hks hb1 hw1 hf1 HT
        go_wp2_with (first
         | (go_at_call 14;(with_reducible refine HPS.out.mono ?_);rintro e W1 ⟨v1,v2,rfl,hr1,hr2,hb1⟩;obtain ⟨A7,c7,e7⟩:=Kd.R_slice hr1;subst e7;have HR1:=Aside0.mk hr1;have HW1:=Aside0.mk (Kd.R_below HW.out hb1);have HB1:=Aside0.mk (u1k HB.out HB.out.size hb1);clear hr1 hr2 hb1)
         | (go_at_call 15;(with_reducible refine (uv.calls ks A7 c7 rows A6 c6 rows true _ (Kd.C_alloc (Kd.R_reads' HR1.out).2.2 _) (Kd.R_reads' HR1.out).2.1 (Kd.C_alloc (Kd.R_reads' HW1.out).2.2 _) (Kd.R_reads' HW1.out).2.1 HKS.out).mono ?_);rintro e W2 ⟨rfl,hb2⟩;have HB2:=Aside0.mk (u1k (uf HB1.out _) (by rw [World.size_alloc];have:=HB1.out.size;omega) hb2);clear hb2)
         | (go_at_call 9;(with_reducible refine (HAL.out _).mono ?_);rintro e W3 ⟨rfl,hb3⟩;have HB3:=Aside0.mk (u1k HB2.out HB2.out.size hb3)))
        go_ret
        exact ⟨rfl,HB3.out⟩
      · obtain ⟨hpos,e9,hX⟩:=hbd hb0
        rw [hX] at HPS
        clear hok hbd hX hb1 hw1 hf1 HT
        generalize ub.bad now 1 L = zb at *
        go_wp2_with (first
         | (go_at_call 14;(with_reducible refine HPS.out.mono ?_);rintro e W1 ⟨v1,v2,rfl,hr1,hr2,hb1⟩;obtain ⟨A7,c7,e7⟩:=Kd.R_slice hr1;subst e7;have HB1:=Aside0.mk (u1k HB.out HB.out.size hb1);clear hr1 hr2 hb1)
         | (go_at_call 9;(with_reducible refine (HAL.out _).mono ?_);rintro e W2 ⟨rfl,hb2⟩;have HB2:=Aside0.mk (u1k (uf HB1.out _) (by rw [World.size_alloc];have:=HB1.out.size;omega) hb2)))
        go_ret
        exact ⟨rfl,HB2.out⟩
end Go.Proofs.YtmcpeifhapekoaaDoor.PAll
namespace Go.Proofs.YtmcpeifhapekoaaDoor.Tx
open Go.RowKit Go.Proofs.YtmcpeifhapekoaaDoor.PAll Go.Proofs.YtmcpeifhapekoaaDoorW.PrintWords Go.Proofs.YtmcpeifhapekoaaDoorW.PrintLast
open Go.Proofs.YtmcpeifhapekoaaDoor.Laws (okFrom canB)
set_option linter.unusedVariables false
set_option linter.unusedSimpArgs false
theorem bad_is (now:Int):∀ (ls:List B8) (i:Int),ub.bad now i ls = badP canB now i ls
 | [],i => rfl
 | s :: ls,i => by
   unfold ub.bad badP
   rw [bad_is now ls (i + 1)]
theorem text_len:∀ ls:List B8,ls.length ≤ (ub.text ls).length
 | [] => Nat.le_refl _
 | s :: ls => by
   have:=text_len ls
   unfold ub.text at this ⊢
   rw [List.flatMap_cons,List.length_append,List.length_append,List.length_cons,List.length_singleton]
   omega
theorem parts_end (now:Int) (ls:List B8) (hl:ls.length ≤ 30) (hf:∀ s ∈ ls,ub.fit s) (n:Nat) (hn:(ub.text ls).length < n) :
 (ub.bad now 1 ls = 0 → ∃ book,parseP canB now n 1 [] [] (ub.text ls) = (ub.want now ls,book,0,0)) ∧ (ub.bad now 1 ls ≠ 0 → 0 < ub.bad now 1 ls ∧ ∃ e,parseP canB now n 1 [] [] (ub.text ls) = ([],[],e,ub.bad now 1 ls)):=by
 have h1:parseP canB now n 1 [] [] (ub.text ls) = stepsP canB now 1 [] [] ls:=parse_lines canB now ls n 1 [] [] (fun s hs => (hf s hs).2) (Nat.lt_of_le_of_lt (text_len ls) hn)
 obtain ⟨g1,g2⟩:=steps_parts canB now ls 1 [] [] (Int.le_refl 1) (by simp;omega)
 rw [h1,bad_is]
 refine ⟨fun h => ?_,fun h => ⟨?_,?_⟩⟩
 · obtain ⟨b,e⟩:=g1 h
   exact ⟨b,by rw [e];rfl⟩
 · rcases bad_ge canB now ls 1 (Int.le_refl 1) with h2 | h2
   · exact absurd h2 h
   · omega
 · obtain ⟨e,_,h2⟩:=g2 h
   exact ⟨e,h2⟩
theorem want_len (now:Int):∀ ls:List B8,(ub.want now ls).length ≤ ls.length
 | [] => Nat.le_refl _
 | s :: ls => by
   have:=want_len now ls
   unfold ub.want at this ⊢
   rw [List.flatMap_cons,List.length_append,List.length_cons]
   have h1:((readP canB s now).1.toList).length ≤ 1:=by cases (readP canB s now).1 <;> simp
   omega
theorem want_small (now:Int) (ls:List B8):∀ r ∈ ub.want now ls,r.f0.length ≤ 9223372036854775806:=fun r hr => by
 unfold ub.want at hr
 obtain ⟨s,_,hs⟩:=List.mem_flatMap.1 hr
 have h:=read_len s now
 cases ho:(readP canB s now).1 with
 | none => rw [ho] at hs;cases hs
 | some x =>
   rw [ho] at hs h
   have hx:r = x:=by simpa using hs
   subst hx
   have h2:r.f0.length ≤ 8:=h
   omega
theorem parts_same (now:Int) (ls:List B8) (hl:ls.length ≤ 30):∃ k,uv.f k (ub.want now ls) (ub.want now ls) = some true :=
 (same_rowsf _ (by have:=want_len now ls;omega) (want_small now ls)).rounds
theorem parts_walk (A0:Option Addr) (c0:Nat) (a0:List ByteArray) (a1:Int) (w:World) (hr0:Kd.C Kd.string w A0 a0.length a0) (hc0:a0.length ≤ c0) :
 Calls Tryd.prog 5 #[.slice A0 a0.length c0,.int .i64 a1] w fun e w' => e = .returned (.bool true) ∧ Below w.heap.size w w' :=
 ub.calls w A0 c0 a0 a1 hr0 hc0 awake27 (parts_end a1) (parts_same a1)
end Go.Proofs.YtmcpeifhapekoaaDoor.Tx
