/- Texts of this seat, joined in the order in which they build. -/
import Derived.Test.YtmcpeifhapekoaaGreatDoorBr2
import Derived.Test.YtmcpeifhapekoaaGreatDoorBr1
import Derived.Test.YtmcpeifhapekoaaGreatDoorBr3
import Derived.Test.YtmcpeifhapekoaaGreatDoorGx52Br
namespace Go.Proofs.YtmcpeifhapekoaaGreatDoor.PAll
open Go.RowKit Go.Proofs.YtmcpeifhapekoaaGreatDoorW.PrintWords Go.Proofs.YtmcpeifhapekoaaGreatDoorW.PrintLast Go.Proofs.YtmcpeifhapekoaaGreatDoorW.PrintMore
attribute [local go_sem] u3q u3r max_two min_two u3l u3k u3s u3p
set_option linter.unusedVariables false
set_option linter.unusedSimpArgs false
theorem uw.pre_is (p s:List UInt8):u1x.f (Base.ofL s) (Base.ofL p) = some (p.isPrefixOf s):=by
 have hs:(Base.ofL s).size = s.length:=(Tx.cut_ofL s 0 (by omega)).2.2
 have hp:(Base.ofL p).size = p.length:=(Tx.cut_ofL p 0 (by omega)).2.2
 unfold u1x.f u2b.f
 rw [hs,hp]
 by_cases h:p.length ≤ s.length
 · have e1:((Base.ofL s).extract 0 ((p.length:Int)).toNat).toList = s.take p.length:=by
    rw [ByteArray.toList_eq,Base.extract_list,Base.ofL_data]
    simp
   have e2:(Base.ofL p).toList = p:=by rw [ByteArray.toList_eq,Base.ofL_data]
   have e4:(s.take p.length == p) = p.isPrefixOf s:=by
    rw [Bool.eq_iff_iff,beq_iff_eq,List.isPrefixOf_iff_prefix]
    constructor
    · intro e
      rw [← e]
      exact List.take_prefix _ _
    · intro e
      exact (List.prefix_iff_eq_take.1 e).symm
   rw [if_pos (by omega),if_pos (by omega),if_pos (by omega),e1,e2,e4]
   rfl
 · have e5:p.isPrefixOf s = false:=by
    cases e:p.isPrefixOf s with
    | false => rfl
    | true => exact absurd (List.IsPrefix.length_le (List.isPrefixOf_iff_prefix.1 e)) h
   rw [if_neg (by omega),e5]
   rfl
theorem uw.known_is (s:List UInt8):text_known.f (Base.ofL s) = some (Tx.knownL s):=by
 have e:(Base.ofL s).toList = s:=by rw [ByteArray.toList_eq,Base.ofL_data]
 unfold text_known.f Tx.knownL Tx.kinds
 rw [e]
 simp only [List.contains_cons,List.contains_nil,Bool.or_false]
 repeat' split
 all_goals first
  | (rename_i h;subst h;rfl)
  | (simp_all;done)
  | (simp_all [beq_iff_eq])
theorem uw.both {s:List UInt8} (h:Tx.typeW.isPrefixOf s = true):Tx.helpW.isPrefixOf s = false:=by
 obtain ⟨t,rfl⟩:=List.isPrefixOf_iff_prefix.1 h
 rfl
theorem uw.pre_len {p s:List UInt8} (h:p.isPrefixOf s = true):p.length ≤ s.length:=List.IsPrefix.length_le (List.isPrefixOf_iff_prefix.1 h)
theorem uw.three {w0 W W4:World} {g:Nat} (hB:Below w0.heap.size w0 W4) (hw:w0.heap.size ≤ W.heap.size) (hk:u2a W W4 g none) (u v x:Value):Below w0.heap.size w0 (((W4.setCell ⟨W.heap.size,0,none⟩ u).setCell ⟨W.heap.size,1,none⟩ v).setCell ⟨W.heap.size,2,none⟩ x) ∧ u2a W (((W4.setCell ⟨W.heap.size,0,none⟩ u).setCell ⟨W.heap.size,1,none⟩ v).setCell ⟨W.heap.size,2,none⟩ x) g none :=
 ⟨((hB.setCell (p:=⟨W.heap.size,0,none⟩) hw u).setCell (p:=⟨W.heap.size,1,none⟩) hw v).setCell (p:=⟨W.heap.size,2,none⟩) hw x,ua.keep_new (p:=⟨W.heap.size,2,none⟩) (ua.keep_new (p:=⟨W.heap.size,1,none⟩) (ua.keep_new (p:=⟨W.heap.size,0,none⟩) hk (Nat.le_refl _) u) (Nat.le_refl _) v) (Nat.le_refl _) x⟩
theorem uw.res0 (W:World) (t n g:Nat) (b:ByteArray) (hg:g < W.heap.size):(((W.alloc (.cells #[.string ⟨#[]⟩,.string ⟨#[]⟩,.string ⟨#[]⟩] t)).drewN n).setCell ⟨g,0,none⟩ (.string b)).heap[W.heap.size]? = some (.cells #[.string ⟨#[]⟩,.string ⟨#[]⟩,.string ⟨#[]⟩] t (0,0)) :=
 (Below.heap_setCell _ ⟨g,0,none⟩ _ W.heap.size (by show W.heap.size ≠ g;omega)).trans (ua.new_at W _)
def uw.Out (w0 W:World) (g:Nat) (o:Option Tx.Me) (e:Ending) (W':World):Prop:=match o with
 | some m => e = .returned (.agg #[.string m.1,.string m.2.1,.string m.2.2]) ∧ Below w0.heap.size w0 W' ∧ u2a W W' g none
 | none => e = .panicked (u2u.chain 280) ∧ Below w0.heap.size w0 W'
theorem uw.out_none {w0 W:World} {g:Nat} {o:Option Tx.Me} (ho:o = none) {W':World} (h1:Below w0.heap.size w0 W'):uw.Out w0 W g o (.panicked (u2u.chain 280)) W':=by
 subst ho
 exact ⟨rfl,h1⟩
theorem uw.out_some {w0 W:World} {g:Nat} {o:Option Tx.Me} {a b c:ByteArray} (ho:o = some (a,b,c)) {W':World} (h2:Below w0.heap.size w0 W') (h3:u2a W W' g none):uw.Out w0 W g o (.returned (.agg #[.string a,.string b,.string c])) W':=by
 subst ho
 exact ⟨rfl,h2,h3⟩
set_option maxRecDepth 100000 in
set_option maxHeartbeats 2000000 in
theorem uw.other (w0 W:World) (g:Nat) (s:List UInt8) (hl:s.length ≤ 1000) (hh:Tx.helpW.isPrefixOf s = false) (ht:Tx.typeW.isPrefixOf s = false) (h:ua.St w0 W g s) :
 Calls Tryz.prog 48 #[.pointer (some ⟨g,0,none⟩)] W fun e W' => uw.Out w0 W g (Tx.remarkP s) e W':=by
 have HE:Aside0 (Tx.remarkP s = some (Base.ofL [],Base.ofL [],Base.ofL [])):=⟨by unfold Tx.remarkP;rw [hh,ht];rfl⟩
 have H1:Aside0 (u1x.f (Base.ofL s) (⟨#[35,32,72,69,76,80,32]⟩:ByteArray) = some false):=⟨(uw.pre_is Tx.helpW s).trans (by rw [hh])⟩
 have H2:Aside0 (u1x.f (Base.ofL s) (⟨#[35,32,84,89,80,69,32]⟩:ByteArray) = some false):=⟨(uw.pre_is Tx.typeW s).trans (by rw [ht])⟩
 have HS:=Aside0.mk h
 have hS1:=h.one_more (.cells #[.string ⟨#[]⟩,.string ⟨#[]⟩,.string ⟨#[]⟩] 34)
 obtain ⟨h0,f0⟩:=hS1.look
 clear h hh ht hS1
 go_enter Tryz.func48,Tryz.ntmps48
 go_wp2_with fail
 go_quiet (first
  | (go_at_call 20;(with_reducible refine (u1x.calls _ _ _ _ H1.out).mono ?_);rintro e w' ⟨rfl,⟨nd,rfl⟩⟩;exact ⟨rfl,_,World.drewN_drewN _ _ _⟩)
  | (go_at_call 20;(with_reducible refine (u1x.calls _ _ _ _ H2.out).mono ?_);rintro e w' ⟨rfl,⟨nd,rfl⟩⟩;exact ⟨rfl,_,World.drewN_drewN _ _ _⟩))
 go_wp2
 refine bodyPost_ret (v:=.agg #[.string ⟨#[]⟩,.string ⟨#[]⟩,.string ⟨#[]⟩]) (by simp [results,Tryz.results48,go_sem]) rfl (uw.out_some HE.out ?_ ?_)
 · exact (uw.three (g:=g) (u3n HS.out.below HS.out.below.size (ub (uc (Below.refl _ _) _) nq)) HS.out.below.size (keep_drewN (keep_alloc (u2a.refl _ _ _) _) nq) _ _ _).1
 · exact (uw.three (g:=g) (u3n HS.out.below HS.out.below.size (ub (uc (Below.refl _ _) _) nq)) HS.out.below.size (keep_drewN (keep_alloc (u2a.refl _ _ _) _) nq) _ _ _).2
set_option maxRecDepth 100000 in
set_option maxHeartbeats 4000000 in
theorem uw.help (w0 W:World) (g:Nat) (s:List UInt8) (hl:s.length ≤ 1000) (hh:Tx.helpW.isPrefixOf s = true) (ht:Tx.typeW.isPrefixOf s = false) (h:ua.St w0 W g s) :
 Calls Tryz.prog 48 #[.pointer (some ⟨g,0,none⟩)] W fun e W' => uw.Out w0 W g (Tx.remarkP s) e W':=by
 have H1:Aside0 (u1x.f (Base.ofL s) (⟨#[35,32,72,69,76,80,32]⟩:ByteArray) = some true):=⟨(uw.pre_is Tx.helpW s).trans (by rw [hh])⟩
 have H2:Aside0 (u1x.f (Base.ofL s) (⟨#[35,32,84,89,80,69,32]⟩:ByteArray) = some false):=⟨(uw.pre_is Tx.typeW s).trans (by rw [ht])⟩
 have HS:=Aside0.mk h
 have HG:=Aside0.mk h.lt
 have hS1:=h.one_more (.cells #[.string ⟨#[]⟩,.string ⟨#[]⟩,.string ⟨#[]⟩] 34)
 obtain ⟨h0,f0⟩:=hS1.look
 have h7:7 ≤ s.length:=uw.pre_len hh
 have hdl:(s.drop 7).length ≤ 1000:=by rw [List.length_drop];omega
 have hsz:(Base.ofL s).size = s.length:=(Tx.cut_ofL s 0 (by omega)).2.2
 have hcut:(Base.ofL s).extract 7 s.length = Base.ofL (s.drop 7):=by
  have:=(Tx.cut_ofL s 7 h7).2.1
  rwa [hsz] at this
 have HO:Aside0 (Tx.remarkP s = (Tx.nameP (s.drop 7)).bind fun p => (Tx.expectP [32] p.2).bind fun r => if Tx.plainL r = true then some (p.1,Base.ofL [],Base.ofL r) else none):=⟨by unfold Tx.remarkP;rw [hh,ht];rfl⟩
 generalize hoo:Tx.remarkP s = o at HO ⊢
 clear hoo h hh ht hS1
 cases hn:Tx.nameP (s.drop 7) with
 | none =>
   have HE:Aside0 (o = none):=⟨by rw [HO.out,hn];rfl⟩
   have HN:=Aside0.mk hn
   clear hn HO
   go_enter Tryz.func48,Tryz.ntmps48
   go_wp2_with fail
   go_quiet (first
    | (go_at_call 20;(with_reducible refine (u1x.calls _ _ _ _ H1.out).mono ?_);rintro e w' ⟨rfl,⟨nd,rfl⟩⟩;exact ⟨rfl,_,World.drewN_drewN _ _ _⟩)
    | (go_at_call 20;(with_reducible refine (u1x.calls _ _ _ _ H2.out).mono ?_);rintro e w' ⟨rfl,⟨nd,rfl⟩⟩;exact ⟨rfl,_,World.drewN_drewN _ _ _⟩))
   go_wp2_with (first
    | (go_at_call 81;(with_reducible refine (u2v.calls_no w0 _ g (s.drop 7) (by omega) HN.out (by exact ((HS.out.one_more _).drew nq).set _)).mono ?_);rintro e W2 ⟨rfl,hb2⟩))
   exact ⟨rfl,uw.out_none HE.out hb2⟩
 | some p =>
   obtain ⟨n,r⟩:=p
   have hr:=u1p.name_rest hn
   have HN:=Aside0.mk hn
   cases he:Tx.expectP [32] r with
   | none =>
     have HE2:Aside0 (o = none):=⟨by rw [HO.out,hn];simp only [Option.bind_some];rw [he];rfl⟩
     have HE:=Aside0.mk ((u1p.expect_is 32 r).2 he)
     clear hn he HO
     go_enter Tryz.func48,Tryz.ntmps48
     go_wp2_with fail
     go_quiet (first
      | (go_at_call 20;(with_reducible refine (u1x.calls _ _ _ _ H1.out).mono ?_);rintro e w' ⟨rfl,⟨nd,rfl⟩⟩;exact ⟨rfl,_,World.drewN_drewN _ _ _⟩)
      | (go_at_call 20;(with_reducible refine (u1x.calls _ _ _ _ H2.out).mono ?_);rintro e w' ⟨rfl,⟨nd,rfl⟩⟩;exact ⟨rfl,_,World.drewN_drewN _ _ _⟩))
     go_wp2_with (first
      | (go_at_call 81;(with_reducible refine (u2v.calls_ok w0 _ g (s.drop 7) (by omega) n r HN.out (by exact ((HS.out.one_more _).drew nq).set _)).mono ?_);rintro e W2 ⟨rfl,hs2,hk2⟩;have HS2:=Aside0.mk hs2;have HL2:Aside0 (W.heap.size < W2.heap.size):=⟨by have:=hk2.1;simp at this;omega⟩;have B2:=Aside0.mk (ua.kept_at hk2 (by have:=HG.out;omega) (uw.res0 W 34 nq g (Base.ofL (s.drop 7)) HG.out));have HK2:=Aside0.mk (ua.keep_then ((keep_drewN (keep_alloc (u2a.refl W g none) (.cells #[.string ⟨#[]⟩,.string ⟨#[]⟩,.string ⟨#[]⟩] 34)) nq).set_ 0 (.string (Base.ofL (s.drop 7)))) hk2);clear hs2 hk2)
      | (go_at_call 82;(with_reducible refine (u1y.calls_no w0 _ g 32 r HE.out (by exact HS2.out.one_more _)).mono ?_);rintro e W3 ⟨rfl,hb3⟩))
     exact ⟨rfl,uw.out_none HE2.out hb3⟩
   | some t =>
     have hrt:=(u1p.expect_is 32 r).1 t he
     have HV:Aside0 (o = if Tx.plainL t = true then some (n,Base.ofL [],Base.ofL t) else none):=⟨by rw [HO.out,hn];simp only [Option.bind_some];rw [he];rfl⟩
     subst hrt
     rw [List.length_cons] at hr
     clear hn he HO
     cases htt:Tx.plainL t with
     | false =>
       have HE:Aside0 (o = none):=⟨by rw [HV.out,htt];rfl⟩
       have HT:Aside0 (Tx.plainL t = false):=⟨htt⟩
       clear htt HV
       go_enter Tryz.func48,Tryz.ntmps48
       go_wp2_with fail
       go_quiet (first
        | (go_at_call 20;(with_reducible refine (u1x.calls _ _ _ _ H1.out).mono ?_);rintro e w' ⟨rfl,⟨nd,rfl⟩⟩;exact ⟨rfl,_,World.drewN_drewN _ _ _⟩)
        | (go_at_call 20;(with_reducible refine (u1x.calls _ _ _ _ H2.out).mono ?_);rintro e w' ⟨rfl,⟨nd,rfl⟩⟩;exact ⟨rfl,_,World.drewN_drewN _ _ _⟩))
       go_wp2_with (first
        | (go_at_call 81;(with_reducible refine (u2v.calls_ok w0 _ g (s.drop 7) (by omega) n (32 :: t) HN.out (by exact ((HS.out.one_more _).drew nq).set _)).mono ?_);rintro e W2 ⟨rfl,hs2,hk2⟩;have HS2:=Aside0.mk hs2;have HL2:Aside0 (W.heap.size < W2.heap.size):=⟨by have:=hk2.1;simp at this;omega⟩;have B2:=Aside0.mk (ua.kept_at hk2 (by have:=HG.out;omega) (uw.res0 W 34 nq g (Base.ofL (s.drop 7)) HG.out));have HK2:=Aside0.mk (ua.keep_then ((keep_drewN (keep_alloc (u2a.refl W g none) (.cells #[.string ⟨#[]⟩,.string ⟨#[]⟩,.string ⟨#[]⟩] 34)) nq).set_ 0 (.string (Base.ofL (s.drop 7)))) hk2);clear hs2 hk2)
        | (go_at_call 82;(with_reducible refine (u1y.calls_ok w0 _ g 32 t (by exact HS2.out.one_more _)).mono ?_);rintro e W3 ⟨rfl,hs3,hk3⟩;have HS3:=Aside0.mk hs3;have B3:=Aside0.mk (ua.kept_at (b:=W.heap.size) hk3 (by have:=HG.out;omega) (ua.new_old B2.out _));have C3:=Aside0.mk (ua.kept_at hk3 (by have:=HG.out;have:=HL2.out;omega) (ua.new_at W2 _));have HK3:=Aside0.mk (ua.keep_then HK2.out (ua.keep_from hk3));clear h0 f0;obtain ⟨h0,f0⟩:=hs3.look;clear hs3 hk3)
        | (go_at_call 31;(with_reducible refine (u3h.calls t (by omega) _).mono ?_);rw [HT.out];rintro e W4 ⟨rfl,hb4⟩;have HS4:=Aside0.mk (HS3.out.more hb4);have B4:=Aside0.mk (ua.below_at hb4 B3.out);have C4:=Aside0.mk (ua.below_at hb4 C3.out);have HK4:=Aside0.mk (ua.keep_then HK3.out (u2a.of_below hb4 g none));clear h0 f0;obtain ⟨h0,f0⟩:=HS4.out.look;obtain ⟨⟨a0,a1,a2⟩,a3,a4,a5⟩:=uh.look3 B4.out;obtain ⟨⟨c0,c1,c2⟩,c3,c4,c5⟩:=uh.look3 C4.out;clear hb4)
        | (go_at_call 83;(with_reducible refine (u2p.calls_no _).mono ?_);rintro e W5 ⟨rfl,rfl⟩))
       exact ⟨rfl,uw.out_none HE.out HS4.out.below⟩
     | true =>
       have HE:Aside0 (o = some (n,Base.ofL [],Base.ofL t)):=⟨by rw [HV.out,htt];rfl⟩
       have HT:Aside0 (Tx.plainL t = true):=⟨htt⟩
       have N1:Aside0 (g < W.heap.size):=⟨HG.out⟩
       clear htt HV
       go_enter Tryz.func48,Tryz.ntmps48
       go_wp2_with fail
       go_quiet (first
        | (go_at_call 20;(with_reducible refine (u1x.calls _ _ _ _ H1.out).mono ?_);rintro e w' ⟨rfl,⟨nd,rfl⟩⟩;exact ⟨rfl,_,World.drewN_drewN _ _ _⟩)
        | (go_at_call 20;(with_reducible refine (u1x.calls _ _ _ _ H2.out).mono ?_);rintro e w' ⟨rfl,⟨nd,rfl⟩⟩;exact ⟨rfl,_,World.drewN_drewN _ _ _⟩))
       go_wp2_with (first
        | (go_at_call 81;(with_reducible refine (u2v.calls_ok w0 _ g (s.drop 7) (by omega) n (32 :: t) HN.out (by exact ((HS.out.one_more _).drew nq).set _)).mono ?_);rintro e W2 ⟨rfl,hs2,hk2⟩;have HS2:=Aside0.mk hs2;have HL2:Aside0 (W.heap.size < W2.heap.size):=⟨by have:=hk2.1;simp at this;omega⟩;have B2:=Aside0.mk (ua.kept_at hk2 (by have:=HG.out;omega) (uw.res0 W 34 nq g (Base.ofL (s.drop 7)) HG.out));have HK2:=Aside0.mk (ua.keep_then ((keep_drewN (keep_alloc (u2a.refl W g none) (.cells #[.string ⟨#[]⟩,.string ⟨#[]⟩,.string ⟨#[]⟩] 34)) nq).set_ 0 (.string (Base.ofL (s.drop 7)))) hk2);clear hs2 hk2)
        | (go_at_call 82;(with_reducible refine (u1y.calls_ok w0 _ g 32 t (by exact HS2.out.one_more _)).mono ?_);rintro e W3 ⟨rfl,hs3,hk3⟩;have HS3:=Aside0.mk hs3;have B3:=Aside0.mk (ua.kept_at (b:=W.heap.size) hk3 (by have:=HG.out;omega) (ua.new_old B2.out _));have C3:=Aside0.mk (ua.kept_at hk3 (by have:=HG.out;have:=HL2.out;omega) (ua.new_at W2 _));have HK3:=Aside0.mk (ua.keep_then HK2.out (ua.keep_from hk3));clear h0 f0;obtain ⟨h0,f0⟩:=hs3.look;clear hs3 hk3)
        | (go_at_call 31;(with_reducible refine (u3h.calls t (by omega) _).mono ?_);rw [HT.out];rintro e W4 ⟨rfl,hb4⟩;have HS4:=Aside0.mk (HS3.out.more hb4);have B4:=Aside0.mk (ua.below_at hb4 B3.out);have C4:=Aside0.mk (ua.below_at hb4 C3.out);have HK4:=Aside0.mk (ua.keep_then HK3.out (u2a.of_below hb4 g none));clear h0 f0;obtain ⟨h0,f0⟩:=HS4.out.look;obtain ⟨⟨a0,a1,a2⟩,a3,a4,a5⟩:=uh.look3 B4.out;obtain ⟨⟨c0,c1,c2⟩,c3,c4,c5⟩:=uh.look3 C4.out;clear hb4;have n1:¬ W2.heap.size = g:=(by have:=HG.out;have:=HL2.out;omega);have n2:¬ W.heap.size = g:=(by have:=HG.out;omega);have n3:¬ W.heap.size = W2.heap.size:=(by have:=HL2.out;omega);have n4:¬ g = W2.heap.size:=fun e => n1 e.symm;have n5:¬ g = W.heap.size:=fun e => n2 e.symm;have n6:¬ W2.heap.size = W.heap.size:=fun e => n3 e.symm)
        | (go_at_call 83;(with_reducible refine (u2p.calls_ok _).mono ?_);rintro e W5 ⟨rfl,rfl⟩))
       refine bodyPost_ret (v:=.agg #[.string n,.string ⟨#[]⟩,.string (Base.ofL t)]) (by simp [results,Tryz.results48,go_sem,a0,a1,a2,n1,n2,n3,n4,n5,n6]) rfl ?_
       have hw:w0.heap.size ≤ W.heap.size:=HS.out.below.size
       have hw2:w0.heap.size ≤ W2.heap.size:=HS2.out.below.size
       have h3:=uw.three (u:=.string n) (v:=.string ⟨#[]⟩) (x:=.string (Base.ofL t)) (HS4.out.below.setCell (p:=⟨W2.heap.size,2,none⟩) hw2 (.string (Base.ofL t))) hw (ua.keep_new (p:=⟨W2.heap.size,2,none⟩) HK4.out (by have:=HL2.out;show W.heap.size ≤ W2.heap.size;omega) (.string (Base.ofL t)))
       exact uw.out_some HE.out h3.1 h3.2
set_option maxRecDepth 100000 in
set_option maxHeartbeats 4000000 in
theorem uw.type (w0 W:World) (g:Nat) (s:List UInt8) (hl:s.length ≤ 1000) (hh:Tx.helpW.isPrefixOf s = false) (ht:Tx.typeW.isPrefixOf s = true) (h:ua.St w0 W g s) :
 Calls Tryz.prog 48 #[.pointer (some ⟨g,0,none⟩)] W fun e W' => uw.Out w0 W g (Tx.remarkP s) e W':=by
 have H1:Aside0 (u1x.f (Base.ofL s) (⟨#[35,32,72,69,76,80,32]⟩:ByteArray) = some false):=⟨(uw.pre_is Tx.helpW s).trans (by rw [hh])⟩
 have H2:Aside0 (u1x.f (Base.ofL s) (⟨#[35,32,84,89,80,69,32]⟩:ByteArray) = some true):=⟨(uw.pre_is Tx.typeW s).trans (by rw [ht])⟩
 have HS:=Aside0.mk h
 have HG:=Aside0.mk h.lt
 have hS1:=h.one_more (.cells #[.string ⟨#[]⟩,.string ⟨#[]⟩,.string ⟨#[]⟩] 34)
 obtain ⟨h0,f0⟩:=hS1.look
 have h7:7 ≤ s.length:=uw.pre_len ht
 have hdl:(s.drop 7).length ≤ 1000:=by rw [List.length_drop];omega
 have hsz:(Base.ofL s).size = s.length:=(Tx.cut_ofL s 0 (by omega)).2.2
 have hcut:(Base.ofL s).extract 7 s.length = Base.ofL (s.drop 7):=by
  have:=(Tx.cut_ofL s 7 h7).2.1
  rwa [hsz] at this
 have HO:Aside0 (Tx.remarkP s = (Tx.nameP (s.drop 7)).bind fun p => (Tx.expectP [32] p.2).bind fun r => if Tx.knownL r = true then some (p.1,Base.ofL r,Base.ofL []) else none):=⟨by unfold Tx.remarkP;rw [hh,ht];rfl⟩
 generalize hoo:Tx.remarkP s = o at HO ⊢
 clear hoo h hh ht hS1
 cases hn:Tx.nameP (s.drop 7) with
 | none =>
   have HE:Aside0 (o = none):=⟨by rw [HO.out,hn];rfl⟩
   have HN:=Aside0.mk hn
   clear hn HO
   go_enter Tryz.func48,Tryz.ntmps48
   go_wp2_with fail
   go_quiet (first
    | (go_at_call 20;(with_reducible refine (u1x.calls _ _ _ _ H1.out).mono ?_);rintro e w' ⟨rfl,⟨nd,rfl⟩⟩;exact ⟨rfl,_,World.drewN_drewN _ _ _⟩)
    | (go_at_call 20;(with_reducible refine (u1x.calls _ _ _ _ H2.out).mono ?_);rintro e w' ⟨rfl,⟨nd,rfl⟩⟩;exact ⟨rfl,_,World.drewN_drewN _ _ _⟩))
   go_wp2_with (first
    | (go_at_call 81;(with_reducible refine (u2v.calls_no w0 _ g (s.drop 7) (by omega) HN.out (by exact ((HS.out.one_more _).drew nq).set _)).mono ?_);rintro e W2 ⟨rfl,hb2⟩))
   exact ⟨rfl,uw.out_none HE.out hb2⟩
 | some p =>
   obtain ⟨n,r⟩:=p
   have hr:=u1p.name_rest hn
   have HN:=Aside0.mk hn
   cases he:Tx.expectP [32] r with
   | none =>
     have HE2:Aside0 (o = none):=⟨by rw [HO.out,hn];simp only [Option.bind_some];rw [he];rfl⟩
     have HE:=Aside0.mk ((u1p.expect_is 32 r).2 he)
     clear hn he HO
     go_enter Tryz.func48,Tryz.ntmps48
     go_wp2_with fail
     go_quiet (first
      | (go_at_call 20;(with_reducible refine (u1x.calls _ _ _ _ H1.out).mono ?_);rintro e w' ⟨rfl,⟨nd,rfl⟩⟩;exact ⟨rfl,_,World.drewN_drewN _ _ _⟩)
      | (go_at_call 20;(with_reducible refine (u1x.calls _ _ _ _ H2.out).mono ?_);rintro e w' ⟨rfl,⟨nd,rfl⟩⟩;exact ⟨rfl,_,World.drewN_drewN _ _ _⟩))
     go_wp2_with (first
      | (go_at_call 81;(with_reducible refine (u2v.calls_ok w0 _ g (s.drop 7) (by omega) n r HN.out (by exact ((HS.out.one_more _).drew nq).set _)).mono ?_);rintro e W2 ⟨rfl,hs2,hk2⟩;have HS2:=Aside0.mk hs2;have HL2:Aside0 (W.heap.size < W2.heap.size):=⟨by have:=hk2.1;simp at this;omega⟩;have B2:=Aside0.mk (ua.kept_at hk2 (by have:=HG.out;omega) (uw.res0 W 34 nq g (Base.ofL (s.drop 7)) HG.out));have HK2:=Aside0.mk (ua.keep_then ((keep_drewN (keep_alloc (u2a.refl W g none) (.cells #[.string ⟨#[]⟩,.string ⟨#[]⟩,.string ⟨#[]⟩] 34)) nq).set_ 0 (.string (Base.ofL (s.drop 7)))) hk2);clear hs2 hk2)
      | (go_at_call 82;(with_reducible refine (u1y.calls_no w0 _ g 32 r HE.out (by exact HS2.out.one_more _)).mono ?_);rintro e W3 ⟨rfl,hb3⟩))
     exact ⟨rfl,uw.out_none HE2.out hb3⟩
   | some t =>
     have hrt:=(u1p.expect_is 32 r).1 t he
     have HV:Aside0 (o = if Tx.knownL t = true then some (n,Base.ofL t,Base.ofL []) else none):=⟨by rw [HO.out,hn];simp only [Option.bind_some];rw [he];rfl⟩
     subst hrt
     rw [List.length_cons] at hr
     clear hn he HO
     cases htt:Tx.knownL t with
     | false =>
       have HE:Aside0 (o = none):=⟨by rw [HV.out,htt];rfl⟩
       have HT:Aside0 (text_known.f (Base.ofL t) = some false):=⟨(uw.known_is t).trans (by rw [htt])⟩
       clear htt HV
       go_enter Tryz.func48,Tryz.ntmps48
       go_wp2_with fail
       go_quiet (first
        | (go_at_call 20;(with_reducible refine (u1x.calls _ _ _ _ H1.out).mono ?_);rintro e w' ⟨rfl,⟨nd,rfl⟩⟩;exact ⟨rfl,_,World.drewN_drewN _ _ _⟩)
        | (go_at_call 20;(with_reducible refine (u1x.calls _ _ _ _ H2.out).mono ?_);rintro e w' ⟨rfl,⟨nd,rfl⟩⟩;exact ⟨rfl,_,World.drewN_drewN _ _ _⟩))
       go_wp2_with (first
        | (go_at_call 81;(with_reducible refine (u2v.calls_ok w0 _ g (s.drop 7) (by omega) n (32 :: t) HN.out (by exact ((HS.out.one_more _).drew nq).set _)).mono ?_);rintro e W2 ⟨rfl,hs2,hk2⟩;have HS2:=Aside0.mk hs2;have HL2:Aside0 (W.heap.size < W2.heap.size):=⟨by have:=hk2.1;simp at this;omega⟩;have B2:=Aside0.mk (ua.kept_at hk2 (by have:=HG.out;omega) (uw.res0 W 34 nq g (Base.ofL (s.drop 7)) HG.out));have HK2:=Aside0.mk (ua.keep_then ((keep_drewN (keep_alloc (u2a.refl W g none) (.cells #[.string ⟨#[]⟩,.string ⟨#[]⟩,.string ⟨#[]⟩] 34)) nq).set_ 0 (.string (Base.ofL (s.drop 7)))) hk2);clear hs2 hk2)
        | (go_at_call 82;(with_reducible refine (u1y.calls_ok w0 _ g 32 t (by exact HS2.out.one_more _)).mono ?_);rintro e W3 ⟨rfl,hs3,hk3⟩;have HS3:=Aside0.mk hs3;have B3:=Aside0.mk (ua.kept_at (b:=W.heap.size) hk3 (by have:=HG.out;omega) (ua.new_old B2.out _));have C3:=Aside0.mk (ua.kept_at hk3 (by have:=HG.out;have:=HL2.out;omega) (ua.new_at W2 _));have HK3:=Aside0.mk (ua.keep_then HK2.out (ua.keep_from hk3));clear h0 f0;obtain ⟨h0,f0⟩:=hs3.look;clear hs3 hk3)
        | (go_at_call 30;(with_reducible refine (text_known.calls _ _ _ HT.out).mono ?_);rintro e W4 ⟨rfl,⟨kd,rfl⟩⟩;have HS4:=Aside0.mk (HS3.out.drew kd);have B4:=Aside0.mk (ua.below_at (ub (Below.refl _ _) kd) B3.out);have C4:=Aside0.mk (ua.below_at (ub (Below.refl _ _) kd) C3.out);have HK4:=Aside0.mk (keep_drewN HK3.out kd);obtain ⟨⟨a0,a1,a2⟩,a3,a4,a5⟩:=uh.look3 B3.out;obtain ⟨⟨c0,c1,c2⟩,c3,c4,c5⟩:=uh.look3 C3.out)
        | (go_at_call 83;(with_reducible refine (u2p.calls_no _).mono ?_);rintro e W5 ⟨rfl,rfl⟩))
       exact ⟨rfl,uw.out_none HE.out HS4.out.below⟩
     | true =>
       have HE:Aside0 (o = some (n,Base.ofL t,Base.ofL [])):=⟨by rw [HV.out,htt];rfl⟩
       have HT:Aside0 (text_known.f (Base.ofL t) = some true):=⟨(uw.known_is t).trans (by rw [htt])⟩
       have N1:Aside0 (g < W.heap.size):=⟨HG.out⟩
       clear htt HV
       go_enter Tryz.func48,Tryz.ntmps48
       go_wp2_with fail
       go_quiet (first
        | (go_at_call 20;(with_reducible refine (u1x.calls _ _ _ _ H1.out).mono ?_);rintro e w' ⟨rfl,⟨nd,rfl⟩⟩;exact ⟨rfl,_,World.drewN_drewN _ _ _⟩)
        | (go_at_call 20;(with_reducible refine (u1x.calls _ _ _ _ H2.out).mono ?_);rintro e w' ⟨rfl,⟨nd,rfl⟩⟩;exact ⟨rfl,_,World.drewN_drewN _ _ _⟩))
       go_wp2_with (first
        | (go_at_call 81;(with_reducible refine (u2v.calls_ok w0 _ g (s.drop 7) (by omega) n (32 :: t) HN.out (by exact ((HS.out.one_more _).drew nq).set _)).mono ?_);rintro e W2 ⟨rfl,hs2,hk2⟩;have HS2:=Aside0.mk hs2;have HL2:Aside0 (W.heap.size < W2.heap.size):=⟨by have:=hk2.1;simp at this;omega⟩;have B2:=Aside0.mk (ua.kept_at hk2 (by have:=HG.out;omega) (uw.res0 W 34 nq g (Base.ofL (s.drop 7)) HG.out));have HK2:=Aside0.mk (ua.keep_then ((keep_drewN (keep_alloc (u2a.refl W g none) (.cells #[.string ⟨#[]⟩,.string ⟨#[]⟩,.string ⟨#[]⟩] 34)) nq).set_ 0 (.string (Base.ofL (s.drop 7)))) hk2);clear hs2 hk2)
        | (go_at_call 82;(with_reducible refine (u1y.calls_ok w0 _ g 32 t (by exact HS2.out.one_more _)).mono ?_);rintro e W3 ⟨rfl,hs3,hk3⟩;have HS3:=Aside0.mk hs3;have B3:=Aside0.mk (ua.kept_at (b:=W.heap.size) hk3 (by have:=HG.out;omega) (ua.new_old B2.out _));have C3:=Aside0.mk (ua.kept_at hk3 (by have:=HG.out;have:=HL2.out;omega) (ua.new_at W2 _));have HK3:=Aside0.mk (ua.keep_then HK2.out (ua.keep_from hk3));clear h0 f0;obtain ⟨h0,f0⟩:=hs3.look;clear hs3 hk3)
        | (go_at_call 30;(with_reducible refine (text_known.calls _ _ _ HT.out).mono ?_);rintro e W4 ⟨rfl,⟨kd,rfl⟩⟩;have HS4:=Aside0.mk (HS3.out.drew kd);have B4:=Aside0.mk (ua.below_at (ub (Below.refl _ _) kd) B3.out);have C4:=Aside0.mk (ua.below_at (ub (Below.refl _ _) kd) C3.out);have HK4:=Aside0.mk (keep_drewN HK3.out kd);obtain ⟨⟨a0,a1,a2⟩,a3,a4,a5⟩:=uh.look3 B3.out;obtain ⟨⟨c0,c1,c2⟩,c3,c4,c5⟩:=uh.look3 C3.out;have n1:¬ W2.heap.size = g:=(by have:=HG.out;have:=HL2.out;omega);have n2:¬ W.heap.size = g:=(by have:=HG.out;omega);have n3:¬ W.heap.size = W2.heap.size:=(by have:=HL2.out;omega);have n4:¬ g = W2.heap.size:=fun e => n1 e.symm;have n5:¬ g = W.heap.size:=fun e => n2 e.symm;have n6:¬ W2.heap.size = W.heap.size:=fun e => n3 e.symm)
        | (go_at_call 83;(with_reducible refine (u2p.calls_ok _).mono ?_);rintro e W5 ⟨rfl,rfl⟩))
       refine bodyPost_ret (v:=.agg #[.string n,.string (Base.ofL t),.string ⟨#[]⟩]) (by simp [results,Tryz.results48,go_sem,a0,a1,a2,n1,n2,n3,n4,n5,n6]) rfl ?_
       have hw:w0.heap.size ≤ W.heap.size:=HS.out.below.size
       have hw2:w0.heap.size ≤ W2.heap.size:=HS2.out.below.size
       have h3:=uw.three (u:=.string n) (v:=.string (Base.ofL t)) (x:=.string ⟨#[]⟩) (HS4.out.below.setCell (p:=⟨W2.heap.size,1,none⟩) hw2 (.string (Base.ofL t))) hw (ua.keep_new (p:=⟨W2.heap.size,1,none⟩) HK4.out (by have:=HL2.out;show W.heap.size ≤ W2.heap.size;omega) (.string (Base.ofL t)))
       exact uw.out_some HE.out h3.1 h3.2
theorem uw.calls (w0 W:World) (g:Nat) (s:List UInt8) (hl:s.length ≤ 1000) (h:ua.St w0 W g s) :
 Calls Tryz.prog 48 #[.pointer (some ⟨g,0,none⟩)] W fun e W' => uw.Out w0 W g (Tx.remarkP s) e W':=by
 cases ht:Tx.typeW.isPrefixOf s with
 | true => exact uw.type w0 W g s hl (uw.both ht) ht h
 | false =>
   cases hh:Tx.helpW.isPrefixOf s with
   | true => exact uw.help w0 W g s hl hh ht h
   | false => exact uw.other w0 W g s hl hh ht h
abbrev uy.Lb:=S66
def uy.nm (k:Nat) (x:uy.Lb):Bool:=(u1a.f k x.f0).getD false
def uy.vl (x:uy.Lb):Bool:=(u3a.f x.f1).getD false
def uy.stepB (k:Nat) (l:List uy.Lb) (i:Nat):Bool:=uy.nm k (u2g l (i:Int)) && uy.vl (u2g l (i:Int)) && (decide (i = 0) || Op.bytesLess (u2g l ((i:Int) - 1)).f0.toList (u2g l (i:Int)).f0.toList)
def uy.canB (k:Nat) (l:List uy.Lb):Bool:=decide (1 ≤ l.length) && decide (l.length ≤ 8) && (List.range l.length).all (uy.stepB k l)
def uy.okB (k:Nat) (l:List uy.Lb):Bool:=l.all fun x => (u1a.f k x.f0).isSome && (u3a.f x.f1).isSome
def uy.f (k:Nat) (l0:List uy.Lb):Option Bool:=if uy.okB k l0 = true then some (uy.canB k l0) else none
theorem uy.is_some {a:Option Bool} (h:a.isSome = true):a = some (a.getD false):=by
 cases a with
 | none => cases h
 | some b => rfl
theorem uy.rd_mem (l:List uy.Lb) (i:Int) (h0:0 ≤ i) (h1:i < l.length):u2g l i ∈ l:=by
 unfold u2g
 rw [List.getD_eq_getElem?_getD,List.getElem?_eq_getElem (by omega)]
 exact List.getElem_mem _
theorem uy.ok_at {k:Nat} {l:List uy.Lb} (h:uy.okB k l = true) (x:uy.Lb) (hx:x ∈ l):u1a.f k x.f0 = some (uy.nm k x) ∧ u3a.f x.f1 = some (uy.vl x):=by
 have h1:=List.all_eq_true.1 h x hx
 rw [Bool.and_eq_true] at h1
 exact ⟨uy.is_some h1.1,uy.is_some h1.2⟩
set_option maxHeartbeats 4000000 in
set_option maxRecDepth 10000 in
theorem uy.calls (k:Nat) (A0:Option Addr) (c0:Nat) (l0:List uy.Lb) (r:Bool) (w:World) (hr0:Kd.C k66 w A0 l0.length l0) (hc0:l0.length ≤ c0) (h:uy.f k l0 = some r) :
 Calls Tryz.prog 40 #[.slice A0 l0.length c0] w fun e w' => e = .returned (.bool r) ∧ Below w.heap.size w w':=by
 have hok:uy.okB k l0 = true:=by
  unfold uy.f at h
  split at h
  · assumption
  · cases h
 unfold uy.f at h
 rw [if_pos hok] at h
 obtain rfl:=Option.some.inj h
 have HO:=Aside0.mk hok
 have HR:=Aside0.mk hr0
 have HC:=Aside0.mk hc0
 clear hr0 h hok hc0
 by_cases h1:l0.length < 1
 · have d1:decide ((l0.length:Int) < 1) = true:=decide_eq_true (by omega)
   have d2:decide (l0.length < 1) = true:=decide_eq_true h1
   have HE:Aside0 (uy.canB k l0 = false):=⟨by unfold uy.canB;rw [decide_eq_false (by omega),Bool.false_and,Bool.false_and]⟩
   rw [HE.out]
   go_enter Tryz.func40,Tryz.ntmps40
   go_wp2
   go_ret
   exact ⟨rfl,Below.refl _ _⟩
 · have d1:decide ((l0.length:Int) < 1) = false:=decide_eq_false (by omega)
   have d2:decide (l0.length < 1) = false:=decide_eq_false h1
   by_cases h8:8 < l0.length
   · have d3:decide ((l0.length:Int) > 8) = true:=decide_eq_true (by omega)
     have d4:decide (8 < l0.length) = true:=decide_eq_true h8
     have HE:Aside0 (uy.canB k l0 = false):=⟨by unfold uy.canB;rw [decide_eq_false (show ¬ l0.length ≤ 8 by omega),Bool.and_false,Bool.false_and]⟩
     rw [HE.out]
     go_enter Tryz.func40,Tryz.ntmps40
     go_wp2
     go_ret
     exact ⟨rfl,Below.refl _ _⟩
   · have d3:decide ((l0.length:Int) > 8) = false:=decide_eq_false (by omega)
     have d4:decide (8 < l0.length) = false:=decide_eq_false h8
     have HE:Aside0 (uy.canB k l0 = (List.range l0.length).all (uy.stepB k l0)):=⟨by unfold uy.canB;rw [decide_eq_true (show 1 ≤ l0.length by omega),decide_eq_true (show l0.length ≤ 8 by omega),Bool.true_and,Bool.true_and]⟩
     rw [HE.out]
     have HB0:=Aside0.mk (Below.refl w.heap.size w)
     go_enter Tryz.func40,Tryz.ntmps40
     go_wp2
     clear d1 d2 d3 d4
     go_loopg [15] (l0.length) (fun kq v15 wr => ∃ (i:Nat),i ≤ l0.length ∧ v15 = .int .i64 i ∧ Aside0 (∀ j,j < i → uy.stepB k l0 j = true) ∧ l0.length ≤ kq + i ∧ Aside0 (Below w.heap.size w wr))
     case atStart => exact ⟨0,Nat.zero_le _,rfl,⟨fun j hj => absurd hj (Nat.not_lt_zero j)⟩,by omega,HB0⟩
     case round =>
      obtain ⟨i,hi,rfl,HJ,hk,HB⟩:=hrel
      by_cases hlt:i < l0.length
      · obtain ⟨ad,e,hc0,hc1⟩:=at_T66 HR.out (i:Int) (by omega) (by omega)
        subst e
        have HX:=uy.ok_at HO.out _ (uy.rd_mem l0 (i:Int) (by omega) (by omega))
        obtain ⟨x,hx⟩:∃ x,Aside0 (u2g l0 (i:Int) = x):=⟨_,⟨rfl⟩⟩
        rw [hx.out] at hc0 hc1 HX
        have q0:wr.cell? (ad.add (i * 2)) = some (.string x.f0):=(HB.out.cell (World.block_lt_of_cell? w _ (by simpa using hc0))).trans (by simpa using hc0)
        have q1:wr.cell? ⟨(ad.add (i * 2)).block,(ad.add (i * 2)).off + 1,none⟩ = some (.string x.f1):=(HB.out.cell (World.block_lt_of_cell? w _ (by simpa using hc1))).trans (by simpa using hc1)
        clear hc0 hc1
        obtain ⟨bn,hbn⟩:∃ b,Aside0 (uy.nm k x = b):=⟨_,⟨rfl⟩⟩
        obtain ⟨bv,hbv⟩:∃ b,Aside0 (uy.vl x = b):=⟨_,⟨rfl⟩⟩
        have HN:Aside0 (u1a.f k x.f0 = some bn):=⟨by rw [← hbn.out];exact HX.1⟩
        have HV:Aside0 (u3a.f x.f1 = some bv):=⟨by rw [← hbv.out];exact HX.2⟩
        have hs:uy.stepB k l0 i = (bn && bv && (decide (i = 0) || Op.bytesLess (u2g l0 ((i:Int) - 1)).f0.toList x.f0.toList)):=by
         unfold uy.stepB
         rw [hx.out,hbn.out,hbv.out]
        have HS:=Aside0.mk hs
        clear hs HX
        obtain ⟨W1,hW1⟩:∃ W1,Aside0 (wr.alloc (.cells #[.string x.f0,.string x.f1] 66) = W1):=⟨_,⟨rfl⟩⟩
        have HG:Aside0 (W1.heap[wr.heap.size]? = some (.cells #[.string x.f0,.string x.f1] 66 (0,0))):=⟨by rw [← hW1.out];exact blk_new _ _⟩
        have HB1:Aside0 (Below w.heap.size w W1):=⟨by rw [← hW1.out];exact uc HB.out _⟩
        have HG1:=Aside0.mk (ug HG.out)
        have HB2:=Aside0.mk (ud HB1.out)
        have hfail:uy.stepB k l0 i = false → (List.range l0.length).all (uy.stepB k l0) = false:=fun h9 => List.all_eq_false.2 ⟨i,List.mem_range.2 hlt,by rw [h9];decide⟩
        have HFL:=Aside0.mk hfail
        clear hfail
        obtain ⟨g1,rfl⟩:∃ g1,gk = g1 + 1:=⟨gk - 1,by omega⟩
        cases bn with
        | false =>
          go_wp2
          rw [hW1.out]
          clear q0 q1
          refine startO_ (n:=25) (S:=fun w' => w'.cell? ⟨wr.heap.size,0,none⟩ = some (.string x.f0) ∧ w'.cell? ⟨wr.heap.size,1,none⟩ = some (.string x.f1)) (ds:=[]) [(0,20),(1,21),(2,0),(3,23),(4,24),(5,25),(6,26),(7,27),(8,28),(9,29),(10,30),(11,31),(12,32),(13,33),(14,34),(15,35),(16,36),(17,37),(18,38),(19,39),(20,40),(21,41),(22,42),(23,43),(24,44)] (by kernel_rfl) rfl ⟨(uj HG1.out 0).trans rfl,(uj HG1.out 1).trans rfl⟩ (fun hHeld => ?_)
          (refine hd_ (v:=?_) (a':=?_) rfl rfl (by kernel_rfl) (Or.inl ⟨by kernel_rfl,?_⟩) ?_ ?_;rotate_left;(intro w';go_simp;with_reducible rfl);rotate_left;(simp only [Act.put,List.setIfInBounds_toArray,List.set_cons_zero,List.set_cons_succ,i64_w,i32_w];rfl))
          refine hdS_ (v:=?_) (a':=?_) rfl rfl (by kernel_rfl) (Or.inl ⟨by kernel_rfl,?_⟩) hHeld ?_ ?_
          rotate_left
          · rintro w' hS'
            obtain ⟨s0,s1⟩:=hS'
            go_simp
            (try with_reducible rfl)
          rotate_left
          · simp only [Act.put,List.setIfInBounds_toArray,List.set_cons_zero,List.set_cons_succ,i64_w,i32_w]
            rfl
          refine oneO_ (N:=some 22) rfl rfl (by kernel_rfl) (by decide) (fun K hK => ?_)
          refine goes_ Tryz.func37 (by kernel_rfl) rfl #[.string x.f0] (by rfl) rfl rfl (by (try simp only [List.map_toArray,List.map_cons,List.map_nil]);first | done | rfl) ?_
          refine (u1a.calls k x.f0 false _ HN.out).mono ?_
          rintro e W2 ⟨rfl,hb2⟩
          refine ⟨_,rfl,?_⟩
          have hB2:=hb2.below
          have HG2:=Aside0.mk (u2c HG1.out hB2)
          have HB3:=Aside0.mk (u3n HB2.out HB2.out.size hB2)
          clear hb2 hB2
          refine hK.out (Act.put _ (some 22) (.bool false)) _ ⟨(uj HG2.out 0).trans rfl,(uj HG2.out 1).trans rfl⟩ (fun hNext => ?_)
          simp only [Act.put,List.setIfInBounds_toArray,List.set_cons_zero,List.set_cons_succ,i64_w,i32_w]
          clear hK hHeld K
          have hHeld:=hNext
          clear hNext
          iterate 2 (refine hd_ (v:=?_) (a':=?_) rfl rfl (by kernel_rfl) (Or.inl ⟨by kernel_rfl,?_⟩) ?_ ?_;rotate_left;(intro w';go_simp;with_reducible rfl);rotate_left;(simp only [Act.put,List.setIfInBounds_toArray,List.set_cons_zero,List.set_cons_succ,i64_w,i32_w];rfl))
          iterate 4 (refine hd_ (v:=undef) (a':=?_) rfl rfl (by kernel_rfl) (Or.inr ⟨by kernel_rfl,rfl⟩) ?_ ?_;rotate_left;(simp only [Act.put,List.setIfInBounds_toArray,List.set_cons_zero,List.set_cons_succ,i64_w,i32_w];rfl))
          iterate 2 (refine hd_ (v:=?_) (a':=?_) rfl rfl (by kernel_rfl) (Or.inl ⟨by kernel_rfl,?_⟩) ?_ ?_;rotate_left;(intro w';go_simp;with_reducible rfl);rotate_left;(simp only [Act.put,List.setIfInBounds_toArray,List.set_cons_zero,List.set_cons_succ,i64_w,i32_w];rfl))
          iterate 13 (refine hd_ (v:=undef) (a':=?_) rfl rfl (by kernel_rfl) (Or.inr ⟨by kernel_rfl,rfl⟩) ?_ ?_;rotate_left;(simp only [Act.put,List.setIfInBounds_toArray,List.set_cons_zero,List.set_cons_succ,i64_w,i32_w];rfl))
          (refine hd_ (v:=?_) (a':=?_) rfl rfl (by kernel_rfl) (Or.inl ⟨by kernel_rfl,?_⟩) ?_ ?_;rotate_left;(intro w';go_simp;with_reducible rfl);rotate_left;(simp only [Act.put,List.setIfInBounds_toArray,List.set_cons_zero,List.set_cons_succ,i64_w,i32_w];rfl))
          refine doneO_ (by kernel_rfl) ?_
          try go_wp2
          go_ret
          exact ⟨by rw [HFL.out (by rw [HS.out];simp)];rfl,HB3.out⟩
        | true =>
          cases bv with
          | false =>
            go_wp2
            rw [hW1.out]
            clear q0 q1
            refine startO_ (n:=25) (S:=fun w' => w'.cell? ⟨wr.heap.size,0,none⟩ = some (.string x.f0) ∧ w'.cell? ⟨wr.heap.size,1,none⟩ = some (.string x.f1)) (ds:=[]) [(0,20),(1,21),(2,0),(3,23),(4,24),(5,25),(6,26),(7,0),(8,28),(9,29),(10,30),(11,31),(12,32),(13,33),(14,34),(15,35),(16,36),(17,37),(18,38),(19,39),(20,40),(21,41),(22,42),(23,43),(24,44)] (by kernel_rfl) rfl ⟨(uj HG1.out 0).trans rfl,(uj HG1.out 1).trans rfl⟩ (fun hHeld => ?_)
            (refine hd_ (v:=?_) (a':=?_) rfl rfl (by kernel_rfl) (Or.inl ⟨by kernel_rfl,?_⟩) ?_ ?_;rotate_left;(intro w';go_simp;with_reducible rfl);rotate_left;(simp only [Act.put,List.setIfInBounds_toArray,List.set_cons_zero,List.set_cons_succ,i64_w,i32_w];rfl))
            refine hdS_ (v:=?_) (a':=?_) rfl rfl (by kernel_rfl) (Or.inl ⟨by kernel_rfl,?_⟩) hHeld ?_ ?_
            rotate_left
            · rintro w' hS'
              obtain ⟨s0,s1⟩:=hS'
              go_simp
              (try with_reducible rfl)
            rotate_left
            · simp only [Act.put,List.setIfInBounds_toArray,List.set_cons_zero,List.set_cons_succ,i64_w,i32_w]
              rfl
            refine oneO_ (N:=some 22) rfl rfl (by kernel_rfl) (by decide) (fun K hK => ?_)
            refine goes_ Tryz.func37 (by kernel_rfl) rfl #[.string x.f0] (by rfl) rfl rfl (by (try simp only [List.map_toArray,List.map_cons,List.map_nil]);first | done | rfl) ?_
            refine (u1a.calls k x.f0 true _ HN.out).mono ?_
            rintro e W2 ⟨rfl,hb2⟩
            refine ⟨_,rfl,?_⟩
            have hB2:=hb2.below
            have HG2:=Aside0.mk (u2c HG1.out hB2)
            have HB3:=Aside0.mk (u3n HB2.out HB2.out.size hB2)
            clear hb2 hB2
            refine hK.out (Act.put _ (some 22) (.bool true)) _ ⟨(uj HG2.out 0).trans rfl,(uj HG2.out 1).trans rfl⟩ (fun hNext => ?_)
            simp only [Act.put,List.setIfInBounds_toArray,List.set_cons_zero,List.set_cons_succ,i64_w,i32_w]
            clear hK hHeld K
            have hHeld:=hNext
            clear hNext
            iterate 3 (refine hd_ (v:=?_) (a':=?_) rfl rfl (by kernel_rfl) (Or.inl ⟨by kernel_rfl,?_⟩) ?_ ?_;rotate_left;(intro w';go_simp;with_reducible rfl);rotate_left;(simp only [Act.put,List.setIfInBounds_toArray,List.set_cons_zero,List.set_cons_succ,i64_w,i32_w];rfl))
            refine hdS_ (v:=?_) (a':=?_) rfl rfl (by kernel_rfl) (Or.inl ⟨by kernel_rfl,?_⟩) hHeld ?_ ?_
            rotate_left
            · rintro w' hS'
              obtain ⟨s0,s1⟩:=hS'
              go_simp
              (try with_reducible rfl)
            rotate_left
            · simp only [Act.put,List.setIfInBounds_toArray,List.set_cons_zero,List.set_cons_succ,i64_w,i32_w]
              rfl
            refine oneO_ (N:=some 27) rfl rfl (by kernel_rfl) (by decide) (fun K hK => ?_)
            refine goes_ Tryz.func70 (by kernel_rfl) rfl #[.string x.f1] (by rfl) rfl rfl (by (try simp only [List.map_toArray,List.map_cons,List.map_nil]);first | done | rfl) ?_
            refine (u3a.calls x.f1 false _ HV.out).mono ?_
            rintro e W3 ⟨rfl,hb3⟩
            refine ⟨_,rfl,?_⟩
            have HG3:=Aside0.mk (u2c HG2.out hb3)
            have HB4:=Aside0.mk (u3n HB3.out HB3.out.size hb3)
            clear hb3
            refine hK.out (Act.put _ (some 27) (.bool false)) _ ⟨(uj HG3.out 0).trans rfl,(uj HG3.out 1).trans rfl⟩ (fun hNext => ?_)
            simp only [Act.put,List.setIfInBounds_toArray,List.set_cons_zero,List.set_cons_succ,i64_w,i32_w]
            clear hK hHeld K
            have hHeld:=hNext
            clear hNext
            iterate 3 (refine hd_ (v:=?_) (a':=?_) rfl rfl (by kernel_rfl) (Or.inl ⟨by kernel_rfl,?_⟩) ?_ ?_;rotate_left;(intro w';go_simp;with_reducible rfl);rotate_left;(simp only [Act.put,List.setIfInBounds_toArray,List.set_cons_zero,List.set_cons_succ,i64_w,i32_w];rfl))
            iterate 13 (refine hd_ (v:=undef) (a':=?_) rfl rfl (by kernel_rfl) (Or.inr ⟨by kernel_rfl,rfl⟩) ?_ ?_;rotate_left;(simp only [Act.put,List.setIfInBounds_toArray,List.set_cons_zero,List.set_cons_succ,i64_w,i32_w];rfl))
            (refine hd_ (v:=?_) (a':=?_) rfl rfl (by kernel_rfl) (Or.inl ⟨by kernel_rfl,?_⟩) ?_ ?_;rotate_left;(intro w';go_simp;with_reducible rfl);rotate_left;(simp only [Act.put,List.setIfInBounds_toArray,List.set_cons_zero,List.set_cons_succ,i64_w,i32_w];rfl))
            refine doneO_ (by kernel_rfl) ?_
            try go_wp2
            go_ret
            exact ⟨by rw [HFL.out (by rw [HS.out];simp)];rfl,HB4.out⟩
          | true =>
            by_cases hz9:i = 0
            · have z1:decide ((i:Int) > 0) = false:=decide_eq_false (by omega)
              have z2:decide (0 < i) = false:=decide_eq_false (by omega)
              have HZ9:=Aside0.mk hz9
              clear hz9
              go_wp2
              rw [hW1.out]
              clear q0 q1
              refine startO_ (n:=25) (S:=fun w' => w'.cell? ⟨wr.heap.size,0,none⟩ = some (.string x.f0) ∧ w'.cell? ⟨wr.heap.size,1,none⟩ = some (.string x.f1)) (ds:=[]) [(0,20),(1,21),(2,0),(3,23),(4,24),(5,25),(6,26),(7,0),(8,28),(9,29),(10,30),(11,31),(12,32),(13,33),(14,34),(15,35),(16,36),(17,37),(18,38),(19,39),(20,40),(21,41),(22,42),(23,43),(24,44)] (by kernel_rfl) rfl ⟨(uj HG1.out 0).trans rfl,(uj HG1.out 1).trans rfl⟩ (fun hHeld => ?_)
              (refine hd_ (v:=?_) (a':=?_) rfl rfl (by kernel_rfl) (Or.inl ⟨by kernel_rfl,?_⟩) ?_ ?_;rotate_left;(intro w';go_simp;with_reducible rfl);rotate_left;(simp only [Act.put,List.setIfInBounds_toArray,List.set_cons_zero,List.set_cons_succ,i64_w,i32_w];rfl))
              refine hdS_ (v:=?_) (a':=?_) rfl rfl (by kernel_rfl) (Or.inl ⟨by kernel_rfl,?_⟩) hHeld ?_ ?_
              rotate_left
              · rintro w' hS'
                obtain ⟨s0,s1⟩:=hS'
                go_simp
                (try with_reducible rfl)
              rotate_left
              · simp only [Act.put,List.setIfInBounds_toArray,List.set_cons_zero,List.set_cons_succ,i64_w,i32_w]
                rfl
              refine oneO_ (N:=some 22) rfl rfl (by kernel_rfl) (by decide) (fun K hK => ?_)
              refine goes_ Tryz.func37 (by kernel_rfl) rfl #[.string x.f0] (by rfl) rfl rfl (by (try simp only [List.map_toArray,List.map_cons,List.map_nil]);first | done | rfl) ?_
              refine (u1a.calls k x.f0 true _ HN.out).mono ?_
              rintro e W2 ⟨rfl,hb2⟩
              refine ⟨_,rfl,?_⟩
              have hB2:=hb2.below
              have HG2:=Aside0.mk (u2c HG1.out hB2)
              have HB3:=Aside0.mk (u3n HB2.out HB2.out.size hB2)
              clear hb2 hB2
              refine hK.out (Act.put _ (some 22) (.bool true)) _ ⟨(uj HG2.out 0).trans rfl,(uj HG2.out 1).trans rfl⟩ (fun hNext => ?_)
              simp only [Act.put,List.setIfInBounds_toArray,List.set_cons_zero,List.set_cons_succ,i64_w,i32_w]
              clear hK hHeld K
              have hHeld:=hNext
              clear hNext
              iterate 3 (refine hd_ (v:=?_) (a':=?_) rfl rfl (by kernel_rfl) (Or.inl ⟨by kernel_rfl,?_⟩) ?_ ?_;rotate_left;(intro w';go_simp;with_reducible rfl);rotate_left;(simp only [Act.put,List.setIfInBounds_toArray,List.set_cons_zero,List.set_cons_succ,i64_w,i32_w];rfl))
              refine hdS_ (v:=?_) (a':=?_) rfl rfl (by kernel_rfl) (Or.inl ⟨by kernel_rfl,?_⟩) hHeld ?_ ?_
              rotate_left
              · rintro w' hS'
                obtain ⟨s0,s1⟩:=hS'
                go_simp
                (try with_reducible rfl)
              rotate_left
              · simp only [Act.put,List.setIfInBounds_toArray,List.set_cons_zero,List.set_cons_succ,i64_w,i32_w]
                rfl
              refine oneO_ (N:=some 27) rfl rfl (by kernel_rfl) (by decide) (fun K hK => ?_)
              refine goes_ Tryz.func70 (by kernel_rfl) rfl #[.string x.f1] (by rfl) rfl rfl (by (try simp only [List.map_toArray,List.map_cons,List.map_nil]);first | done | rfl) ?_
              refine (u3a.calls x.f1 true _ HV.out).mono ?_
              rintro e W3 ⟨rfl,hb3⟩
              refine ⟨_,rfl,?_⟩
              have HG3:=Aside0.mk (u2c HG2.out hb3)
              have HB4:=Aside0.mk (u3n HB3.out HB3.out.size hb3)
              clear hb3
              refine hK.out (Act.put _ (some 27) (.bool true)) _ ⟨(uj HG3.out 0).trans rfl,(uj HG3.out 1).trans rfl⟩ (fun hNext => ?_)
              simp only [Act.put,List.setIfInBounds_toArray,List.set_cons_zero,List.set_cons_succ,i64_w,i32_w]
              clear hK hHeld K
              have hHeld:=hNext
              clear hNext
              iterate 6 (refine hd_ (v:=?_) (a':=?_) rfl rfl (by kernel_rfl) (Or.inl ⟨by kernel_rfl,?_⟩) ?_ ?_;rotate_left;(intro w';go_simp;with_reducible rfl);rotate_left;(simp only [Act.put,List.setIfInBounds_toArray,List.set_cons_zero,List.set_cons_succ,i64_w,i32_w];rfl))
              iterate 9 (refine hd_ (v:=undef) (a':=?_) rfl rfl (by kernel_rfl) (Or.inr ⟨by kernel_rfl,rfl⟩) ?_ ?_;rotate_left;(simp only [Act.put,List.setIfInBounds_toArray,List.set_cons_zero,List.set_cons_succ,i64_w,i32_w];rfl))
              iterate 2 (refine hd_ (v:=?_) (a':=?_) rfl rfl (by kernel_rfl) (Or.inl ⟨by kernel_rfl,?_⟩) ?_ ?_;rotate_left;(intro w';go_simp;with_reducible rfl);rotate_left;(simp only [Act.put,List.setIfInBounds_toArray,List.set_cons_zero,List.set_cons_succ,i64_w,i32_w];rfl))
              refine doneO_ (by kernel_rfl) ?_
              try go_wp2
              go_roundg g1
              case rel =>
               refine ⟨i + 1,hlt,by go_num,⟨fun m hm => ?_⟩,by omega,HB4⟩
               rcases Nat.lt_or_ge m i with h9 | h9
               · exact HJ.out m h9
               · have h8:m = i:=by omega
                 rw [h8,HS.out]
                 simp [HZ9.out]
              case measure => omega
            · obtain ⟨j,rfl⟩:∃ j,i = j + 1:=⟨i - 1,by omega⟩
              obtain ⟨ad2,e2,hp0,_⟩:=at_T66 HR.out (j:Int) (by omega) (by omega)
              obtain rfl:ad = ad2:=Option.some.inj e2
              obtain ⟨p,hp⟩:∃ p,Aside0 (u2g l0 (j:Int) = p):=⟨_,⟨rfl⟩⟩
              rw [hp.out] at hp0
              simp only [Int.toNat_natCast] at hp0
              have HP:Aside0 (∀ W',Below w.heap.size w W' → W'.cell? (ad.add (j * 2)) = some (.string p.f0)):=⟨fun W' hW' => (hW'.cell (World.block_lt_of_cell? w _ hp0)).trans hp0⟩
              have hj1:(((j + 1:Nat):Int) - 1) = (j:Int):=by omega
              rw [hj1,hp.out] at HS
              clear hp0 hj1
              have z1:decide (((j + 1:Nat):Int) > 0) = true:=decide_eq_true (by omega)
              have z2:decide (0 < j + 1) = true:=decide_eq_true (by omega)
              have z3:decide ((0:Int) < (j:Int) + 1) = true:=decide_eq_true (by omega)
              have z4:(0:Int) ≤ (j:Int):=by omega
              have z6:wrap64 (j:Int) = (j:Int):=by unfold wrap64;omega
              have z5:(j:Int) < (l0.length:Int):=by omega
              cases hls:Op.bytesLess p.f0.toList x.f0.toList with
              | false =>
                go_wp2
                rw [hW1.out]
                clear q0 q1
                refine startO_ (n:=25) (S:=fun w' => w'.cell? ⟨wr.heap.size,0,none⟩ = some (.string x.f0) ∧ w'.cell? ⟨wr.heap.size,1,none⟩ = some (.string x.f1) ∧ w'.cell? (ad.add (j * 2)) = some (.string p.f0)) (ds:=[]) [(0,20),(1,21),(2,0),(3,23),(4,24),(5,25),(6,26),(7,0),(8,28),(9,29),(10,30),(11,31),(12,32),(13,33),(14,34),(15,35),(16,36),(17,37),(18,38),(19,39),(20,40),(21,41),(22,42),(23,43),(24,44)] (by kernel_rfl) rfl ⟨(uj HG1.out 0).trans rfl,(uj HG1.out 1).trans rfl,HP.out _ (HB2.out)⟩ (fun hHeld => ?_)
                (refine hd_ (v:=?_) (a':=?_) rfl rfl (by kernel_rfl) (Or.inl ⟨by kernel_rfl,?_⟩) ?_ ?_;rotate_left;(intro w';go_simp;with_reducible rfl);rotate_left;(simp only [Act.put,List.setIfInBounds_toArray,List.set_cons_zero,List.set_cons_succ,i64_w,i32_w];rfl))
                refine hdS_ (v:=?_) (a':=?_) rfl rfl (by kernel_rfl) (Or.inl ⟨by kernel_rfl,?_⟩) hHeld ?_ ?_
                rotate_left
                · rintro w' hS'
                  obtain ⟨s0,s1,s2⟩:=hS'
                  go_simp
                  (try with_reducible rfl)
                rotate_left
                · simp only [Act.put,List.setIfInBounds_toArray,List.set_cons_zero,List.set_cons_succ,i64_w,i32_w]
                  rfl
                refine oneO_ (N:=some 22) rfl rfl (by kernel_rfl) (by decide) (fun K hK => ?_)
                refine goes_ Tryz.func37 (by kernel_rfl) rfl #[.string x.f0] (by rfl) rfl rfl (by (try simp only [List.map_toArray,List.map_cons,List.map_nil]);first | done | rfl) ?_
                refine (u1a.calls k x.f0 true _ HN.out).mono ?_
                rintro e W2 ⟨rfl,hb2⟩
                refine ⟨_,rfl,?_⟩
                have hB2:=hb2.below
                have HG2:=Aside0.mk (u2c HG1.out hB2)
                have HB3:=Aside0.mk (u3n HB2.out HB2.out.size hB2)
                clear hb2 hB2
                refine hK.out (Act.put _ (some 22) (.bool true)) _ ⟨(uj HG2.out 0).trans rfl,(uj HG2.out 1).trans rfl,HP.out _ (HB3.out)⟩ (fun hNext => ?_)
                simp only [Act.put,List.setIfInBounds_toArray,List.set_cons_zero,List.set_cons_succ,i64_w,i32_w]
                clear hK hHeld K
                have hHeld:=hNext
                clear hNext
                iterate 3 (refine hd_ (v:=?_) (a':=?_) rfl rfl (by kernel_rfl) (Or.inl ⟨by kernel_rfl,?_⟩) ?_ ?_;rotate_left;(intro w';go_simp;with_reducible rfl);rotate_left;(simp only [Act.put,List.setIfInBounds_toArray,List.set_cons_zero,List.set_cons_succ,i64_w,i32_w];rfl))
                refine hdS_ (v:=?_) (a':=?_) rfl rfl (by kernel_rfl) (Or.inl ⟨by kernel_rfl,?_⟩) hHeld ?_ ?_
                rotate_left
                · rintro w' hS'
                  obtain ⟨s0,s1,s2⟩:=hS'
                  go_simp
                  (try with_reducible rfl)
                rotate_left
                · simp only [Act.put,List.setIfInBounds_toArray,List.set_cons_zero,List.set_cons_succ,i64_w,i32_w]
                  rfl
                refine oneO_ (N:=some 27) rfl rfl (by kernel_rfl) (by decide) (fun K hK => ?_)
                refine goes_ Tryz.func70 (by kernel_rfl) rfl #[.string x.f1] (by rfl) rfl rfl (by (try simp only [List.map_toArray,List.map_cons,List.map_nil]);first | done | rfl) ?_
                refine (u3a.calls x.f1 true _ HV.out).mono ?_
                rintro e W3 ⟨rfl,hb3⟩
                refine ⟨_,rfl,?_⟩
                have HG3:=Aside0.mk (u2c HG2.out hb3)
                have HB4:=Aside0.mk (u3n HB3.out HB3.out.size hb3)
                clear hb3
                refine hK.out (Act.put _ (some 27) (.bool true)) _ ⟨(uj HG3.out 0).trans rfl,(uj HG3.out 1).trans rfl,HP.out _ (HB4.out)⟩ (fun hNext => ?_)
                simp only [Act.put,List.setIfInBounds_toArray,List.set_cons_zero,List.set_cons_succ,i64_w,i32_w]
                clear hK hHeld K
                have hHeld:=hNext
                clear hNext
                iterate 11 (refine hd_ (v:=?_) (a':=?_) rfl rfl (by kernel_rfl) (Or.inl ⟨by kernel_rfl,?_⟩) ?_ ?_;rotate_left;(intro w';go_simp;with_reducible rfl);rotate_left;(simp only [Act.put,List.setIfInBounds_toArray,List.set_cons_zero,List.set_cons_succ,i64_w,i32_w];rfl))
                refine hdS_ (v:=?_) (a':=?_) rfl rfl (by kernel_rfl) (Or.inl ⟨by kernel_rfl,?_⟩) hHeld ?_ ?_
                rotate_left
                · rintro w' hS'
                  obtain ⟨s0,s1,s2⟩:=hS'
                  go_simp
                  (try with_reducible rfl)
                rotate_left
                · simp only [Act.put,List.setIfInBounds_toArray,List.set_cons_zero,List.set_cons_succ,i64_w,i32_w]
                  rfl
                (refine hd_ (v:=?_) (a':=?_) rfl rfl (by kernel_rfl) (Or.inl ⟨by kernel_rfl,?_⟩) ?_ ?_;rotate_left;(intro w';go_simp;with_reducible rfl);rotate_left;(simp only [Act.put,List.setIfInBounds_toArray,List.set_cons_zero,List.set_cons_succ,i64_w,i32_w];rfl))
                refine hdS_ (v:=?_) (a':=?_) rfl rfl (by kernel_rfl) (Or.inl ⟨by kernel_rfl,?_⟩) hHeld ?_ ?_
                rotate_left
                · rintro w' hS'
                  obtain ⟨s0,s1,s2⟩:=hS'
                  go_simp
                  (try with_reducible rfl)
                rotate_left
                · simp only [Act.put,List.setIfInBounds_toArray,List.set_cons_zero,List.set_cons_succ,i64_w,i32_w]
                  rfl
                iterate 3 (refine hd_ (v:=?_) (a':=?_) rfl rfl (by kernel_rfl) (Or.inl ⟨by kernel_rfl,?_⟩) ?_ ?_;rotate_left;(intro w';go_simp;with_reducible rfl);rotate_left;(simp only [Act.put,List.setIfInBounds_toArray,List.set_cons_zero,List.set_cons_succ,i64_w,i32_w];rfl))
                refine doneO_ (by kernel_rfl) ?_
                try go_wp2
                go_ret
                exact ⟨by rw [HFL.out (by rw [HS.out,hls];simp)];rfl,HB4.out⟩
              | true =>
                go_wp2
                rw [hW1.out]
                clear q0 q1
                refine startO_ (n:=25) (S:=fun w' => w'.cell? ⟨wr.heap.size,0,none⟩ = some (.string x.f0) ∧ w'.cell? ⟨wr.heap.size,1,none⟩ = some (.string x.f1) ∧ w'.cell? (ad.add (j * 2)) = some (.string p.f0)) (ds:=[]) [(0,20),(1,21),(2,0),(3,23),(4,24),(5,25),(6,26),(7,0),(8,28),(9,29),(10,30),(11,31),(12,32),(13,33),(14,34),(15,35),(16,36),(17,37),(18,38),(19,39),(20,40),(21,41),(22,42),(23,43),(24,44)] (by kernel_rfl) rfl ⟨(uj HG1.out 0).trans rfl,(uj HG1.out 1).trans rfl,HP.out _ (HB2.out)⟩ (fun hHeld => ?_)
                (refine hd_ (v:=?_) (a':=?_) rfl rfl (by kernel_rfl) (Or.inl ⟨by kernel_rfl,?_⟩) ?_ ?_;rotate_left;(intro w';go_simp;with_reducible rfl);rotate_left;(simp only [Act.put,List.setIfInBounds_toArray,List.set_cons_zero,List.set_cons_succ,i64_w,i32_w];rfl))
                refine hdS_ (v:=?_) (a':=?_) rfl rfl (by kernel_rfl) (Or.inl ⟨by kernel_rfl,?_⟩) hHeld ?_ ?_
                rotate_left
                · rintro w' hS'
                  obtain ⟨s0,s1,s2⟩:=hS'
                  go_simp
                  (try with_reducible rfl)
                rotate_left
                · simp only [Act.put,List.setIfInBounds_toArray,List.set_cons_zero,List.set_cons_succ,i64_w,i32_w]
                  rfl
                refine oneO_ (N:=some 22) rfl rfl (by kernel_rfl) (by decide) (fun K hK => ?_)
                refine goes_ Tryz.func37 (by kernel_rfl) rfl #[.string x.f0] (by rfl) rfl rfl (by (try simp only [List.map_toArray,List.map_cons,List.map_nil]);first | done | rfl) ?_
                refine (u1a.calls k x.f0 true _ HN.out).mono ?_
                rintro e W2 ⟨rfl,hb2⟩
                refine ⟨_,rfl,?_⟩
                have hB2:=hb2.below
                have HG2:=Aside0.mk (u2c HG1.out hB2)
                have HB3:=Aside0.mk (u3n HB2.out HB2.out.size hB2)
                clear hb2 hB2
                refine hK.out (Act.put _ (some 22) (.bool true)) _ ⟨(uj HG2.out 0).trans rfl,(uj HG2.out 1).trans rfl,HP.out _ (HB3.out)⟩ (fun hNext => ?_)
                simp only [Act.put,List.setIfInBounds_toArray,List.set_cons_zero,List.set_cons_succ,i64_w,i32_w]
                clear hK hHeld K
                have hHeld:=hNext
                clear hNext
                iterate 3 (refine hd_ (v:=?_) (a':=?_) rfl rfl (by kernel_rfl) (Or.inl ⟨by kernel_rfl,?_⟩) ?_ ?_;rotate_left;(intro w';go_simp;with_reducible rfl);rotate_left;(simp only [Act.put,List.setIfInBounds_toArray,List.set_cons_zero,List.set_cons_succ,i64_w,i32_w];rfl))
                refine hdS_ (v:=?_) (a':=?_) rfl rfl (by kernel_rfl) (Or.inl ⟨by kernel_rfl,?_⟩) hHeld ?_ ?_
                rotate_left
                · rintro w' hS'
                  obtain ⟨s0,s1,s2⟩:=hS'
                  go_simp
                  (try with_reducible rfl)
                rotate_left
                · simp only [Act.put,List.setIfInBounds_toArray,List.set_cons_zero,List.set_cons_succ,i64_w,i32_w]
                  rfl
                refine oneO_ (N:=some 27) rfl rfl (by kernel_rfl) (by decide) (fun K hK => ?_)
                refine goes_ Tryz.func70 (by kernel_rfl) rfl #[.string x.f1] (by rfl) rfl rfl (by (try simp only [List.map_toArray,List.map_cons,List.map_nil]);first | done | rfl) ?_
                refine (u3a.calls x.f1 true _ HV.out).mono ?_
                rintro e W3 ⟨rfl,hb3⟩
                refine ⟨_,rfl,?_⟩
                have HG3:=Aside0.mk (u2c HG2.out hb3)
                have HB4:=Aside0.mk (u3n HB3.out HB3.out.size hb3)
                clear hb3
                refine hK.out (Act.put _ (some 27) (.bool true)) _ ⟨(uj HG3.out 0).trans rfl,(uj HG3.out 1).trans rfl,HP.out _ (HB4.out)⟩ (fun hNext => ?_)
                simp only [Act.put,List.setIfInBounds_toArray,List.set_cons_zero,List.set_cons_succ,i64_w,i32_w]
                clear hK hHeld K
                have hHeld:=hNext
                clear hNext
                iterate 11 (refine hd_ (v:=?_) (a':=?_) rfl rfl (by kernel_rfl) (Or.inl ⟨by kernel_rfl,?_⟩) ?_ ?_;rotate_left;(intro w';go_simp;with_reducible rfl);rotate_left;(simp only [Act.put,List.setIfInBounds_toArray,List.set_cons_zero,List.set_cons_succ,i64_w,i32_w];rfl))
                refine hdS_ (v:=?_) (a':=?_) rfl rfl (by kernel_rfl) (Or.inl ⟨by kernel_rfl,?_⟩) hHeld ?_ ?_
                rotate_left
                · rintro w' hS'
                  obtain ⟨s0,s1,s2⟩:=hS'
                  go_simp
                  (try with_reducible rfl)
                rotate_left
                · simp only [Act.put,List.setIfInBounds_toArray,List.set_cons_zero,List.set_cons_succ,i64_w,i32_w]
                  rfl
                (refine hd_ (v:=?_) (a':=?_) rfl rfl (by kernel_rfl) (Or.inl ⟨by kernel_rfl,?_⟩) ?_ ?_;rotate_left;(intro w';go_simp;with_reducible rfl);rotate_left;(simp only [Act.put,List.setIfInBounds_toArray,List.set_cons_zero,List.set_cons_succ,i64_w,i32_w];rfl))
                refine hdS_ (v:=?_) (a':=?_) rfl rfl (by kernel_rfl) (Or.inl ⟨by kernel_rfl,?_⟩) hHeld ?_ ?_
                rotate_left
                · rintro w' hS'
                  obtain ⟨s0,s1,s2⟩:=hS'
                  go_simp
                  (try with_reducible rfl)
                rotate_left
                · simp only [Act.put,List.setIfInBounds_toArray,List.set_cons_zero,List.set_cons_succ,i64_w,i32_w]
                  rfl
                iterate 3 (refine hd_ (v:=?_) (a':=?_) rfl rfl (by kernel_rfl) (Or.inl ⟨by kernel_rfl,?_⟩) ?_ ?_;rotate_left;(intro w';go_simp;with_reducible rfl);rotate_left;(simp only [Act.put,List.setIfInBounds_toArray,List.set_cons_zero,List.set_cons_succ,i64_w,i32_w];rfl))
                refine doneO_ (by kernel_rfl) ?_
                try go_wp2
                go_roundg g1
                case rel =>
                 refine ⟨j + 1 + 1,hlt,by go_num,⟨fun m hm => ?_⟩,by omega,HB4⟩
                 rcases Nat.lt_or_ge m (j + 1) with h9 | h9
                 · exact HJ.out m h9
                 · have h8:m = j + 1:=by omega
                   rw [h8,HS.out,hls]
                   simp
                case measure => omega
      · have hie:i = l0.length:=by omega
        have HT:Aside0 ((List.range l0.length).all (uy.stepB k l0) = true):=⟨List.all_eq_true.2 (fun m hm => HJ.out m (by rw [hie];exact List.mem_range.1 hm))⟩
        go_wp2
        go_ret
        exact ⟨by rw [HT.out];rfl,HB.out⟩
end Go.Proofs.YtmcpeifhapekoaaGreatDoor.PAll
namespace Go.Proofs.YtmcpeifhapekoaaGreatDoor.Laws
open Go.RowKit Go.Proofs.YtmcpeifhapekoaaGreatDoor.PAll Go.Proofs.YtmcpeifhapekoaaGreatDoorW.PrintWords Go.Proofs.YtmcpeifhapekoaaGreatDoorW.PrintLast
set_option linter.unusedVariables false
set_option linter.unusedSimpArgs false
theorem wrap_up (i:Nat) (h:i < 9223372036854775807):wrap64 ((i:Int) + 1) = ((i + 1:Nat):Int):=by
 unfold wrap64
 omega
theorem at_byte (s:ByteArray) (i:Nat) (c:UInt8) (r:List UInt8) (h:s.data.toList.drop i = c :: r):i < s.size ∧ bt s (i:Int) = (c.toNat:Int) ∧ s.data.toList.drop (i + 1) = r:=by
 have hlt:i < s.data.toList.length:=by
  rcases Nat.lt_or_ge i s.data.toList.length with h1 | h1
  · exact h1
  · rw [List.drop_eq_nil_of_le h1] at h
    cases h
 have hs:s.size = s.data.toList.length:=Base.size_list s
 rw [List.drop_eq_getElem_cons hlt] at h
 obtain ⟨h1,h2⟩:=List.cons.inj h
 refine ⟨by omega,?_,h2⟩
 rw [Base.bt_list s i (by omega),List.getD_eq_getElem?_getD,List.getElem?_eq_getElem hlt,h1]
 rfl
theorem no_byte (s:ByteArray) (i:Nat) (h:s.data.toList.drop i = []):s.size ≤ i:=by
 have hs:s.size = s.data.toList.length:=Base.size_list s
 have:=List.drop_eq_nil_iff.1 h
 omega
def letterI (c:Int):Bool:=(decide (97 ≤ c) && decide (c ≤ 122)) || (decide (65 ≤ c) && decide (c ≤ 90)) || decide (c = 95)
theorem letter_fin:∀ n:Fin 256,Base.letterB (n.val:Int) = letterI (n.val:Int):=by decide +kernel
theorem letter_is (c:UInt8):Base.letterB (c.toNat:Int) = letterI (c.toNat:Int):=letter_fin ⟨c.toNat,c.toNat_lt⟩
theorem name_step (k:Nat) (s:ByteArray) (i:Nat) (hi:i < s.size) (hs:s.size ≤ 9223372036854775807) :
 u1a.l0 (k + 1) s (i:Int) = if letterI (bt s i) = true then u1a.l0 k s ((i + 1:Nat):Int) else if i = 0 then some false else
  if Base.digitB (bt s i) = true then u1a.l0 k s ((i + 1:Nat):Int) else some false:=by
 have hw:=wrap_up i (by omega)
 simp only [u1a.l0]
 rw [if_pos (by omega),if_pos (by omega),hw]
 generalize bt s (i:Int) = c
 have e0:((i:Int) = 0) = (i = 0):=by simp
 simp only [e0]
 unfold letterI Base.digitB
 by_cases h1:97 ≤ c <;> by_cases h2:c ≤ 122 <;> by_cases h3:65 ≤ c <;> by_cases h4:c ≤ 90 <;> by_cases h5:c = 95 <;> first | (exfalso;omega) | skip
 all_goals by_cases h6:48 ≤ c <;> by_cases h7:c ≤ 57 <;> first | (exfalso;omega) | skip
 all_goals simp [h1,h2,h3,h4,h5,h6,h7]
 all_goals rw [if_neg (show ¬ c < 48 by omega),if_neg (show ¬ 57 < c by omega)]
theorem name_l0 (s:ByteArray) (hs:s.size ≤ 9223372036854775807):∀ (r:List UInt8) (i:Nat),1 ≤ i → s.data.toList.drop i = r →
 Ev (fun k => u1a.l0 k s (i:Int)) (r.all (fun c => Base.letterB (c.toNat:Int) || Base.digitB (c.toNat:Int)) && (decide (1 ≤ s.size) && decide (s.size ≤ 24))):=by
 intro r
 induction r with
 | nil =>
   intro i hi h
   have h1:=no_byte s i h
   refine Ev.step (f:=fun _ => some (decide (1 ≤ s.size) && decide (s.size ≤ 24))) (fun k => ?_) (by simpa using Ev.now _)
   simp only [u1a.l0]
   rw [if_neg (by omega)]
   by_cases h2:1 ≤ s.size
   · rw [if_pos (by omega)]
     simp [h2]
     omega
   · rw [if_neg (by omega)]
     simp [h2]
 | cons c r ih =>
   intro i hi h
   obtain ⟨hlt,hbt,hr⟩:=at_byte s i c r h
   have ih2:=ih (i + 1) (by omega) hr
   cases hl:Base.letterB (c.toNat:Int) with
   | true =>
     have e:(c :: r).all (fun c => Base.letterB (c.toNat:Int) || Base.digitB (c.toNat:Int)) = r.all (fun c => Base.letterB (c.toNat:Int) || Base.digitB (c.toNat:Int)):=by rw [List.all_cons,hl];rfl
     rw [e]
     refine Ev.step (fun k => ?_) ih2
     rw [name_step k s i hlt hs,hbt,← letter_is,if_pos hl]
   | false =>
     cases hd:Base.digitB (c.toNat:Int) with
     | true =>
       have e:(c :: r).all (fun c => Base.letterB (c.toNat:Int) || Base.digitB (c.toNat:Int)) = r.all (fun c => Base.letterB (c.toNat:Int) || Base.digitB (c.toNat:Int)):=by rw [List.all_cons,hl,hd];rfl
       rw [e]
       refine Ev.step (fun k => ?_) ih2
       rw [name_step k s i hlt hs,hbt,← letter_is,if_neg (by rw [hl];simp),if_neg (by omega),if_pos hd]
     | false =>
       have e:(c :: r).all (fun c => Base.letterB (c.toNat:Int) || Base.digitB (c.toNat:Int)) = false:=by rw [List.all_cons,hl,hd];rfl
       rw [e]
       refine Ev.step (f:=fun _ => some false) (fun k => ?_) (Ev.now _)
       rw [name_step k s i hlt hs,hbt,← letter_is,if_neg (by rw [hl];simp),if_neg (by omega),if_neg (by rw [hd];simp)]
theorem all_bytes (s:ByteArray) (p:Int → Bool):(bytesOf s).all p = s.data.toList.all (fun c => p (c.toNat:Int)):=by
 rw [bytesOf,List.all_map]
 rfl
theorem rname_ev (s:ByteArray) (hs:s.size ≤ 9223372036854775807):Ev (fun k => u1a.f k s) (Base.nameB s):=by
 refine Ev.congr (f:=fun k => u1a.l0 k s ((0:Nat):Int)) (fun k => rfl) ?_
 have hz:=Base.size_list s
 cases hd:s.data.toList with
 | nil =>
   have h0:s.size = 0:=by rw [hz,hd];rfl
   have e:Base.nameB s = false:=by simp [Base.nameB,h0]
   rw [e]
   refine Ev.step (f:=fun _ => some false) (fun k => ?_) (Ev.now _)
   simp only [u1a.l0]
   rw [if_neg (by omega),if_neg (by omega)]
 | cons c r =>
   obtain ⟨hlt,hbt,hr⟩:=at_byte s 0 c r (by rw [hd];rfl)
   have ih:=name_l0 s hs r 1 (Nat.le_refl _) (by rw [hd];rfl)
   have hb:(bytesOf s).headD 0 = (c.toNat:Int):=by rw [bytesOf,hd];rfl
   have e:Base.nameB s = (Base.letterB (c.toNat:Int) && (r.all (fun c => Base.letterB (c.toNat:Int) || Base.digitB (c.toNat:Int)) && (decide (1 ≤ s.size) && decide (s.size ≤ 24)))):=by
    rw [Base.nameB,all_bytes,hb,hd,List.all_cons]
    have h1:decide (0 < s.size) = decide (1 ≤ s.size):=rfl
    rw [h1]
    cases Base.letterB (c.toNat:Int) <;> cases decide (1 ≤ s.size) <;> cases decide (s.size ≤ 24) <;> simp
   rw [e]
   cases hl:Base.letterB (c.toNat:Int) with
   | true =>
     rw [Bool.true_and]
     refine Ev.step (fun k => ?_) ih
     rw [name_step k s 0 hlt hs,hbt,← letter_is,if_pos hl]
   | false =>
     rw [Bool.false_and]
     refine Ev.step (f:=fun _ => some false) (fun k => ?_) (Ev.now _)
     rw [name_step k s 0 hlt hs,hbt,← letter_is,if_neg (by rw [hl];simp),if_pos rfl]
theorem plain_is (r:Int):(!(decide (r < 32) || decide (r = 127) || decide (r = 65533))) = Base.plainB r:=by
 unfold Base.plainB
 by_cases h:r < 32
 · have:¬ 32 ≤ r:=by omega
   simp [h,this]
 · have:32 ≤ r:=by omega
   simp [h,this]
theorem rvalue_is (s:ByteArray):u3a.f s = some (Base.valueB s):=by
 have e:Base.plainTextB s = (Base.runesOf s).all Base.plainB:=by
  unfold Base.plainTextB
  congr 1
  funext r
  exact plain_is r
 simp only [u3a.f,u2w.f,Option.bind_some,e,Base.valueB]
 by_cases h1:1 ≤ s.size
 · rw [if_pos (by omega)]
   by_cases h2:s.size ≤ 40
   · rw [if_pos (by omega)]
     have:0 < s.size:=h1
     simp [h2,this]
   · rw [if_neg (by omega)]
     simp [h2]
 · rw [if_neg (by omega)]
   have:¬ 0 < s.size:=h1
   simp [this]
theorem names_ev:∀ (l:List S66),(∀ y ∈ l,y.f0.size ≤ maxLen ∧ y.f1.size ≤ maxLen) → ∃ K,∀ k,K ≤ k → ∀ x ∈ l,u1a.f k x.f0 = some (Base.nameB x.f0)
 | [],_ => ⟨0,fun _ _ x hx => by cases hx⟩
 | x :: r,hs => by
   obtain ⟨K,hK⟩:=names_ev r (fun y hy => hs y (List.mem_cons_of_mem _ hy))
   obtain ⟨M,hM⟩:=rname_ev x.f0 (Nat.le_trans (hs x (List.mem_cons_self ..)).1 (by decide))
   refine ⟨K + M,fun k hk y hy => ?_⟩
   rcases List.mem_cons.1 hy with rfl | h9
   · exact hM k (by omega)
   · exact hK k (by omega) y h9
theorem less_nil {x:ByteArray} (h:Base.nameB x = true):Op.bytesLess [] x.data.toList = true:=by
 have hz:=nameB_size h
 cases hd:x.data.toList with
 | nil => rw [Base.size_list,hd] at hz;simp at hz
 | cons c q => simp [Op.bytesLess]
theorem steps_ok (k:Nat) (l:List S66) (hn:∀ x ∈ l,u1a.f k x.f0 = some (Base.nameB x.f0)):∀ (r:List S66) (i:Nat) (last:ByteArray),l.drop i = r → (i = 0 → last = ⟨#[]⟩) → (0 < i → (u2g l ((i - 1:Nat):Int)).f0 = last) →
 (List.range' i r.length).all (uy.stepB k l) = okFrom last.data.toList r:=by
 intro r
 induction r with
 | nil => intro i last _ _ _;rfl
 | cons x r ih =>
   intro i last h hfst hlast
   obtain ⟨hx,hi,hr⟩:=rd_drop l i x r h
   have hmem:x ∈ l:=List.mem_of_mem_drop (by rw [h];simp)
   have e2:=ih (i + 1) x.f0 hr (fun h => by omega) (fun _ => by rw [show i + 1 - 1 = i by omega,hx])
   have e3:uy.stepB k l i = (Base.nameB x.f0 && Base.valueB x.f1 && Op.bytesLess last.data.toList x.f0.data.toList):=by
    unfold uy.stepB uy.nm uy.vl
    rw [hx,hn x hmem,rvalue_is]
    simp only [Option.getD_some,ByteArray.toList_eq]
    by_cases h0:i = 0
    · rw [hfst h0,decide_eq_true h0,Bool.true_or]
      cases hm:Base.nameB x.f0 with
      | false => rfl
      | true =>
        have e4:Op.bytesLess (⟨#[]⟩:ByteArray).data.toList x.f0.data.toList = true:=less_nil hm
        rw [e4]
    · rw [decide_eq_false h0,Bool.false_or,show (i:Int) - 1 = ((i - 1:Nat):Int) by omega,hlast (by omega)]
   rw [List.length_cons,List.range'_succ,List.all_cons,e2,e3]
   rfl
theorem rcan_ev (l:List S66) (hs:∀ y ∈ l,y.f0.size ≤ maxLen ∧ y.f1.size ≤ maxLen):Ev (fun k => uy.f k l) (canB l):=by
 obtain ⟨K,hK⟩:=names_ev l hs
 refine ⟨K,fun k hk => ?_⟩
 have h1:uy.okB k l = true:=List.all_eq_true.2 (fun x hx => by rw [hK k hk x hx,rvalue_is];rfl)
 have h2:=steps_ok k l (hK k hk) l 0 ⟨#[]⟩ rfl (fun _ => rfl) (fun h => by omega)
 rw [← List.range_eq_range'] at h2
 show uy.f k l = some (canB l)
 unfold uy.f
 rw [if_pos h1,uy.canB,h2]
 rfl
def nb (c:UInt8):Bool:=Base.letterB (c.toNat:Int) || Base.digitB (c.toNat:Int)
theorem name_of (c:UInt8) (x:ByteArray) (h:x.data.toList = [97,c]):Base.nameB x = nb c:=by
 have hz:=Base.size_list x
 rw [h] at hz
 have h2:x.size = 2:=hz
 have h3:bytesOf x = [97,(c.toNat:Int)]:=by rw [bytesOf,h];rfl
 have h4:Base.letterB 97 = true:=by decide +kernel
 simp [Base.nameB,h2,h3,h4,nb]
theorem take_tw (p:UInt8 → Bool):∀ l:List UInt8,l.take (l.takeWhile p).length = l.takeWhile p:=by
 intro l
 induction l with
 | nil => rfl
 | cons x r ih =>
   rw [List.takeWhile_cons]
   split
   · simp [ih]
   · rfl
theorem word_l0 (s:ByteArray) (hs:s.size ≤ 140737488351232):∀ (r:List UInt8) (i:Nat),s.data.toList.drop i = r → i ≤ s.size →
 Ev (fun k => u1v.l0 k s (i:Int)) (Base.ofL (s.data.toList.take (i + (r.takeWhile nb).length)),Base.ofL (r.dropWhile nb)):=by
 intro r
 induction r with
 | nil =>
   intro i h hi
   have h1:=no_byte s i h
   have h2:i = s.size:=by omega
   have e1:s.extract 0 ((i:Nat):Int).toNat = Base.ofL (s.data.toList.take (i + (([]:List UInt8).takeWhile nb).length)):=Base.ext_data (by rw [Base.extract_list,Base.ofL_data];simp)
   have e2:s.extract ((i:Nat):Int).toNat s.size = Base.ofL (([]:List UInt8).dropWhile nb):=Base.ext_data (by rw [Base.extract_rest,Base.ofL_data];exact h)
   rw [← e1,← e2]
   refine Ev.step (f:=fun _ => some (s.extract 0 ((i:Nat):Int).toNat,s.extract ((i:Nat):Int).toNat s.size)) (fun k => ?_) (Ev.now _)
   simp only [u1v.l0]
   rw [if_neg (by omega),if_pos (by omega),if_pos (by omega)]
 | cons c r ih =>
   intro i h hi
   obtain ⟨hlt,hbt,hr⟩:=at_byte s i c r h
   have hw:=wrap_up i (by omega)
   have hx:(⟨#[97]⟩:ByteArray) ++ s.extract ((i:Nat):Int).toNat ((i + 1:Nat):Int).toNat = Base.ofL [97,c]:=Base.ext_data (by
    rw [Base.append_data,Base.extract_list,Base.ofL_data]
    have:((i + 1:Nat):Int).toNat - ((i:Nat):Int).toNat = 1:=by omega
    rw [this,show ((i:Nat):Int).toNat = i by omega,h]
    rfl)
   have hxs:(s.extract ((i:Nat):Int).toNat ((i + 1:Nat):Int).toNat).size ≤ 1:=by
    rw [ByteArray.size_extract]
    omega
   have hn:=rname_ev (Base.ofL [97,c]) (by rw [Base.size_list,Base.ofL_data];simp)
   rw [name_of c (Base.ofL [97,c]) (Base.ofL_data _)] at hn
   have hstep:∀ k,u1v.l0 (k + 1) s (i:Int) = ((u1a.f k (Base.ofL [97,c])).bind fun t255 => (if t255 = true then (u1v.l0 k s ((i + 1:Nat):Int)) else (some (s.extract 0 (i:Int).toNat,s.extract (i:Int).toNat s.size)))):=by
    intro k
    simp only [u1v.l0]
    rw [hw,if_pos (by omega),if_pos (by omega),if_pos (by omega),if_pos (by omega),if_pos (by omega),hx]
    have:((i:Int) ≤ (s.size:Int)):=by omega
    simp only [this,if_true]
   refine Ev.step hstep (Ev.bind hn ?_)
   cases hb:nb c with
   | true =>
     have ih2:=ih (i + 1) hr (by omega)
     have e1:(c :: r).takeWhile nb = c :: r.takeWhile nb:=by rw [List.takeWhile_cons,if_pos hb]
     have e2:(c :: r).dropWhile nb = r.dropWhile nb:=by rw [List.dropWhile_cons,if_pos hb]
     rw [e1,e2,show i + (c :: r.takeWhile nb).length = i + 1 + (r.takeWhile nb).length by simp;omega]
     exact Ev.congr (fun k => by simp) ih2
   | false =>
     have e1:(c :: r).takeWhile nb = []:=by rw [List.takeWhile_cons,if_neg (by simp [hb])]
     have e2:(c :: r).dropWhile nb = c :: r:=by rw [List.dropWhile_cons,if_neg (by simp [hb])]
     rw [e1,e2]
     have e3:s.extract 0 ((i:Nat):Int).toNat = Base.ofL (s.data.toList.take (i + ([]:List UInt8).length)):=Base.ext_data (by rw [Base.extract_list,Base.ofL_data];simp)
     have e4:s.extract ((i:Nat):Int).toNat s.size = Base.ofL (c :: r):=Base.ext_data (by rw [Base.extract_rest,Base.ofL_data];exact h)
     rw [← e3,← e4]
     exact Ev.congr (fun k => by simp) (Ev.now _)
theorem word_ev (s:ByteArray) (hs:s.size ≤ 140737488351232):Ev (fun k => u1v.f k s) (Base.ofL (s.data.toList.takeWhile nb),Base.ofL (s.data.toList.dropWhile nb)):=by
 have h:=word_l0 s hs s.data.toList 0 rfl (by omega)
 have e:s.data.toList.take (0 + (s.data.toList.takeWhile nb).length) = s.data.toList.takeWhile nb:=by
  rw [Nat.zero_add]
  exact take_tw nb _
 rw [e] at h
 exact h
end Go.Proofs.YtmcpeifhapekoaaGreatDoor.Laws
namespace Go.Proofs.YtmcpeifhapekoaaGreatDoor.Tx
open Go.RowKit Go.Proofs.YtmcpeifhapekoaaGreatDoor.PAll Go.Proofs.YtmcpeifhapekoaaGreatDoorW.PrintWords Go.Proofs.YtmcpeifhapekoaaGreatDoorW.PrintLast
open Go.Proofs.YtmcpeifhapekoaaGreatDoor.Laws (okFrom canB wrap_up at_byte no_byte word_ev)
set_option linter.unusedVariables false
set_option linter.unusedSimpArgs false
theorem sz (s:B8):(Base.ofL s).size = s.length:=(cut_ofL s 0 (by omega)).2.2
theorem exr (s:B8) (n:Nat) (h:n ≤ s.length):(Base.ofL s).extract n (Base.ofL s).size = Base.ofL (s.drop n):=(cut_ofL s n h).2.1
theorem byte_eq (c d:UInt8) (z:Int) (hz:z = (d.toNat:Int)):((c.toNat:Int) = z) ↔ c = d:=by
 subst hz
 exact ⟨fun e => UInt8.toNat_inj.1 (by omega),fun e => by rw [e]⟩
theorem begins_is (p s:B8):uv.f (Base.ofL s) (Base.ofL p) = some (p.isPrefixOf s):=by
 unfold uv.f
 rw [sz,sz]
 by_cases h:p.length ≤ s.length
 · have e1:((Base.ofL s).extract 0 ((p.length:Int)).toNat).toList = s.take p.length:=by
    rw [ByteArray.toList_eq,Base.extract_list,Base.ofL_data]
    simp
   have e2:(Base.ofL p).toList = p:=by rw [ByteArray.toList_eq,Base.ofL_data]
   have e4:(s.take p.length == p) = p.isPrefixOf s:=by
    rw [Bool.eq_iff_iff,beq_iff_eq,List.isPrefixOf_iff_prefix]
    constructor
    · intro e
      rw [← e]
      exact List.take_prefix _ _
    · intro e
      exact (List.prefix_iff_eq_take.1 e).symm
   rw [if_pos (by omega),if_pos (by omega),if_pos (by omega),e1,e2,e4]
 · have e5:p.isPrefixOf s = false:=by
    cases e:p.isPrefixOf s with
    | false => rfl
    | true => exact absurd (List.IsPrefix.length_le (List.isPrefixOf_iff_prefix.1 e)) h
   rw [if_neg (by omega),e5]
theorem nb_word:Laws.nb = wordC:=rfl
theorem rword_ev (s:B8) (hs:s.length ≤ 1000):Ev (fun k => u1v.f k (Base.ofL s)) (Base.ofL (s.takeWhile wordC),Base.ofL (s.dropWhile wordC)):=by
 have h:=word_ev (Base.ofL s) (by rw [sz];omega)
 rw [Base.ofL_data,nb_word] at h
 exact h
theorem tl_ofL (s:B8):(Base.ofL s).toList = s:=by rw [ByteArray.toList_eq,Base.ofL_data]
theorem blanks_l0 (s:B8) (hs:s.length ≤ 1000):∀ (r:B8) (i:Nat),s.drop i = r → i ≤ s.length →
 Ev (fun k => u1f.l0 k (Base.ofL s) (i:Int)) (Base.ofL (r.dropWhile blankC),decide (0 < i + (r.takeWhile blankC).length))
 | [],i,h,hi => by
   have h2:s.length ≤ i:=by
    have:=List.drop_eq_nil_iff.1 h
    omega
   refine Ev.step (f:=fun _ => some (Base.ofL [],decide (0 < i))) (fun k => ?_) ?_
   · simp only [u1f.l0]
     rw [if_neg (by rw [sz];omega),if_pos (by omega),if_pos (by rw [sz];omega),show (i:Int).toNat = i from rfl,exr s i hi,h]
     congr 2
     exact decide_eq_decide.2 (by omega)
   · exact Ev.now _
 | c :: r,i,h,hi => by
   obtain ⟨hlt,hbt,hr⟩:=at_byte (Base.ofL s) i c r (by rw [Base.ofL_data];exact h)
   rw [Base.ofL_data] at hr
   rw [sz] at hlt
   have hw:=wrap_up i (by omega)
   have ih:=blanks_l0 s hs r (i + 1) hr (by omega)
   by_cases hb:blankC c = true
   · rw [List.dropWhile_cons,List.takeWhile_cons,if_pos hb,if_pos hb,List.length_cons,show i + ((r.takeWhile blankC).length + 1) = i + 1 + (r.takeWhile blankC).length by omega]
     refine Ev.step (fun k => ?_) ih
     simp only [u1f.l0]
     rw [if_pos (by rw [sz];omega),if_pos (by omega),hbt,hw]
     unfold blankC at hb
     rw [Bool.or_eq_true,decide_eq_true_eq,decide_eq_true_eq] at hb
     by_cases h32:c = 32
     · rw [if_pos ((byte_eq c 32 32 rfl).2 h32)]
     · rw [if_neg (fun e => h32 ((byte_eq c 32 32 rfl).1 e)),if_pos ((byte_eq c 9 9 rfl).2 (hb.resolve_left h32))]
   · rw [List.dropWhile_cons,List.takeWhile_cons,if_neg hb,if_neg hb,List.length_nil,Nat.add_zero]
     refine Ev.step (f:=fun _ => some (Base.ofL (c :: r),decide (0 < i))) (fun k => ?_) (Ev.now _)
     simp only [u1f.l0]
     unfold blankC at hb
     rw [Bool.or_eq_true,decide_eq_true_eq,decide_eq_true_eq] at hb
     rw [if_pos (by rw [sz];omega),if_pos (by omega),hbt,if_neg (fun e => hb (Or.inl ((byte_eq c 32 32 rfl).1 e))),if_neg (fun e => hb (Or.inr ((byte_eq c 9 9 rfl).1 e))),if_pos (by rw [sz];omega),show (i:Int).toNat = i from rfl,exr s i hi,h]
     congr 2
     exact decide_eq_decide.2 (by omega)
theorem blanks_ev (s:B8) (hs:s.length ≤ 1000):Ev (fun k => u1f.f k (Base.ofL s)) (Base.ofL (s.dropWhile blankC),!(s.takeWhile blankC).isEmpty):=by
 have h:=blanks_l0 s hs s 0 rfl (by omega)
 have e:decide (0 < 0 + (s.takeWhile blankC).length) = !(s.takeWhile blankC).isEmpty:=by cases s.takeWhile blankC <;> simp
 rw [e] at h
 exact h
def dgV (c:UInt8):Int:=if hexC c = true then digV c else 16
theorem digit_fin:∀ n:Fin 256,u1w.l0 17 (n.val:Int) 0 = some (dgV (UInt8.ofNat n.val)):=by decide +kernel
theorem digit_ev (c:UInt8):Ev (fun k => u1w.f k (c.toNat:Int)) (dgV c):=by
 have h:=digit_fin ⟨c.toNat,c.toNat_lt⟩
 rw [UInt8.ofNat_toNat] at h
 exact Ev.of (fun k => u1w.mono _ k) h
theorem dg_fin:∀ n:Fin 256,(decide (dgV (UInt8.ofNat n.val) < 10) = decC (UInt8.ofNat n.val)) ∧ (decide (dgV (UInt8.ofNat n.val) < 16) = hexC (UInt8.ofNat n.val)) ∧ 0 ≤ dgV (UInt8.ofNat n.val) ∧ dgV (UInt8.ofNat n.val) ≤ 16:=by decide +kernel
theorem dg_is (c:UInt8):(dgV c < 10 ↔ decC c = true) ∧ (dgV c < 16 ↔ hexC c = true) ∧ 0 ≤ dgV c ∧ dgV c ≤ 16:=by
 obtain ⟨h1,h2,h3,h4⟩:=dg_fin ⟨c.toNat,c.toNat_lt⟩
 simp only [UInt8.ofNat_toNat] at h1 h2 h3 h4
 exact ⟨by rw [← h1,decide_eq_true_eq],by rw [← h2,decide_eq_true_eq],h3,h4⟩
def bs (h:Bool):Int:=if h = true then 16 else 10
theorem dg_bs (h:Bool) (c:UInt8):dgV c < bs h ↔ digC h c = true:=by
 cases h
 · exact (dg_is c).1
 · exact (dg_is c).2.1
theorem digits_l0 (h:Bool) (s:B8) (hs:s.length ≤ 1000):∀ (r:B8) (i:Nat),s.drop i = r → i ≤ s.length →
 Ev (fun k => u1n.l0 k (Base.ofL s) (bs h) (i:Int)) ((i + (r.takeWhile (digC h)).length:Nat):Int)
 | [],i,hd,hi => by
   have h2:s.length ≤ i:=by
    have:=List.drop_eq_nil_iff.1 hd
    omega
   refine Ev.step (f:=fun _ => some (i:Int)) (fun k => ?_) (Ev.now _)
   simp only [u1n.l0]
   rw [if_neg (by rw [sz];omega)]
 | c :: r,i,hd,hi => by
   obtain ⟨hlt,hbt,hr⟩:=at_byte (Base.ofL s) i c r (by rw [Base.ofL_data];exact hd)
   rw [Base.ofL_data] at hr
   rw [sz] at hlt
   have hw:=wrap_up i (by omega)
   have ih:=digits_l0 h s hs r (i + 1) hr (by omega)
   have hstep:∀ k,u1n.l0 (k + 1) (Base.ofL s) (bs h) (i:Int) = (u1w.f k (c.toNat:Int)).bind fun t => if t < bs h then u1n.l0 k (Base.ofL s) (bs h) ((i + 1:Nat):Int) else some (i:Int):=fun k => by
    simp only [u1n.l0]
    rw [if_pos (by rw [sz];omega),if_pos (by omega),hbt,hw]
   refine Ev.step hstep (Ev.bind (digit_ev c) ?_)
   by_cases hb:digC h c = true
   · rw [List.takeWhile_cons,if_pos hb,List.length_cons,show i + ((r.takeWhile (digC h)).length + 1) = i + 1 + (r.takeWhile (digC h)).length by omega]
     exact Ev.congr (fun k => if_pos ((dg_bs h c).2 hb)) ih
   · rw [List.takeWhile_cons,if_neg hb,List.length_nil,Nat.add_zero]
     exact Ev.congr (fun k => if_neg (fun e => hb ((dg_bs h c).1 e))) (Ev.now _)
theorem digits_ev (h:Bool) (s:B8) (hs:s.length ≤ 1000):Ev (fun k => u1n.f k (Base.ofL s) (bs h)) ((s.takeWhile (digC h)).length:Int):=by
 have:=digits_l0 h s hs s 0 rfl (by omega)
 rw [Nat.zero_add] at this
 exact this
theorem u64_id (x:Int) (h0:0 ≤ x) (h1:x ≤ 18446744073709551615):IntKind.u64.wrap x = x:=by
 unfold IntKind.wrap
 simp only [IntKind.signed,IntKind.bits,Bool.false_and,Bool.false_eq_true,if_false]
 omega
theorem dg_hex {c:UInt8} (h:hexC c = true):dgV c = digV c ∧ 0 ≤ digV c ∧ digV c ≤ 15:=by
 have h1:=(dg_is c).2.1.2 h
 have h2:=(dg_is c).2.2.1
 have e:dgV c = digV c:=if_pos h
 rw [e] at h1 h2
 exact ⟨e,h2,by omega⟩
theorem quo {base d:Int} (hb:base = 10 ∨ base = 16) (h0:0 ≤ d) (h1:d ≤ 15):IntKind.u64.wrap (Int.tdiv (IntKind.u64.wrap (18446744073709551615 - IntKind.u64.wrap d)) base) = (18446744073709551615 - d) / base:=by
 rw [u64_id d h0 (by omega),u64_id (18446744073709551615 - d) (by omega) (by omega),Int.tdiv_eq_ediv_of_nonneg (by omega)]
 rcases hb with rfl | rfl <;> exact u64_id _ (by omega) (by omega)
theorem fits {base d m:Int} (hb:base = 10 ∨ base = 16) (h0:0 ≤ d) (h1:d ≤ 15) (hm:0 ≤ m) (h:m ≤ (18446744073709551615 - d) / base):0 ≤ m * base + d ∧ m * base + d ≤ 18446744073709551615 ∧ IntKind.u64.wrap (IntKind.u64.wrap (m * base) + IntKind.u64.wrap d) = m * base + d:=by
 have e:IntKind.u64.wrap d = d:=u64_id d h0 (by omega)
 rcases hb with rfl | rfl
 · have e2:IntKind.u64.wrap (m * 10) = m * 10:=u64_id _ (by omega) (by omega)
   rw [e,e2]
   exact ⟨by omega,by omega,u64_id _ (by omega) (by omega)⟩
 · have e2:IntKind.u64.wrap (m * 16) = m * 16:=u64_id _ (by omega) (by omega)
   rw [e,e2]
   exact ⟨by omega,by omega,u64_id _ (by omega) (by omega)⟩
def numO (o:Option Int):Int × Bool:=match o with | some n => (n,true) | none => (0,false)
theorem number_l0 (base:Int) (hb:base = 10 ∨ base = 16) (d:B8) (hs:d.length ≤ 1000) (hd:∀ c ∈ d,hexC c = true):∀ (r:B8) (i:Nat) (m:Int),d.drop i = r → i ≤ d.length → 0 ≤ m → m ≤ 18446744073709551615 →
 Ev (fun k => u1g.l0 k (Base.ofL d) base m (i:Int)) (numO (numL base r m))
 | [],i,m,h,hi,_,_ => by
   have h2:d.length ≤ i:=by
    have:=List.drop_eq_nil_iff.1 h
    omega
   refine Ev.step (f:=fun _ => some (m,true)) (fun k => ?_) (Ev.now _)
   simp only [u1g.l0]
   rw [if_neg (by rw [sz];omega)]
 | c :: r,i,m,h,hi,hm0,hm1 => by
   obtain ⟨hlt,hbt,hr⟩:=at_byte (Base.ofL d) i c r (by rw [Base.ofL_data];exact h)
   rw [Base.ofL_data] at hr
   rw [sz] at hlt
   have hw:=wrap_up i (by omega)
   have hc:hexC c = true:=hd c (by
    have:c ∈ d.drop i:=by rw [h];exact List.mem_cons_self ..
    exact List.mem_of_mem_drop this)
   obtain ⟨e1,e2,e3⟩:=dg_hex hc
   have hstep:∀ k,u1g.l0 (k + 1) (Base.ofL d) base m (i:Int) = (u1w.f k (c.toNat:Int)).bind fun t => if m > IntKind.u64.wrap (Int.tdiv (IntKind.u64.wrap (18446744073709551615 - IntKind.u64.wrap t)) base) then some (0,false) else u1g.l0 k (Base.ofL d) base (IntKind.u64.wrap (IntKind.u64.wrap (m * base) + IntKind.u64.wrap t)) ((i + 1:Nat):Int):=fun k => by
    simp only [u1g.l0]
    rw [if_pos (by rw [sz];omega),if_pos (by omega),hbt,hw]
    congr 1
    funext t
    rw [if_neg (by omega)]
   refine Ev.step hstep (Ev.bind (digit_ev c) ?_)
   rw [e1,quo hb e2 e3]
   by_cases hle:m ≤ (18446744073709551615 - digV c) / base
   · obtain ⟨f1,f2,f3⟩:=fits hb e2 e3 hm0 hle
     have ih:=number_l0 base hb d hs hd r (i + 1) (m * base + digV c) hr (by omega) f1 f2
     unfold numL
     rw [if_pos hle,f3]
     exact Ev.congr (fun k => if_neg (by omega)) ih
   · unfold numL
     rw [if_neg hle]
     exact Ev.congr (fun k => if_pos (by omega)) (Ev.now _)
theorem number_ev (base:Int) (hb:base = 10 ∨ base = 16) (d:B8) (hs:d.length ≤ 1000) (hd:∀ c ∈ d,hexC c = true):Ev (fun k => u1g.f k (Base.ofL d) base) (numO (numL base d 0)) :=
 number_l0 base hb d hs hd d 0 0 rfl (by omega) (Int.le_refl 0) (by omega)
theorem tw_all (p:UInt8 → Bool) (s:B8):∀ c ∈ s.takeWhile p,p c = true:=fun c hc => List.all_eq_true.1 (List.all_takeWhile (p:=p) (l:=s)) c hc
theorem dig_hex {h:Bool} {s:B8}:∀ c ∈ s.takeWhile (digC h),hexC c = true:=fun c hc => by
 have h1:=tw_all _ s c hc
 unfold digC at h1
 cases h with
 | true => simpa using h1
 | false =>
   have h2:decC c = true:=by simpa using h1
   unfold hexC
   rw [h2]
   rfl
theorem dw_len (p:UInt8 → Bool) (s:B8):(s.dropWhile p).length ≤ s.length:=by
 have h1:=congrArg List.length (List.takeWhile_append_dropWhile (p:=p) (l:=s))
 rw [List.length_append] at h1
 omega
def Says (g:Nat → Option (Int × ByteArray × Bool)) (o:Option (Int × B8)):Prop:=match o with
 | some (n,r) => Ev g (n,Base.ofL r,true)
 | none => ∃ (x:Int) (y:B8),y.length ≤ 1000 ∧ Ev g (x,Base.ofL y,false)
theorem bs_wrap (h:Bool):IntKind.u64.wrap (bs h) = bs h ∧ (bs h = 10 ∨ bs h = 16):=by
 cases h
 · exact ⟨by decide,Or.inl rfl⟩
 · exact ⟨by decide,Or.inr rfl⟩
theorem value_j0 (h:Bool) (most:Nat) (s:B8) (hs:s.length ≤ 1000):Says (fun k => u2f.j0 k (Base.ofL s) (bs h) (most:Int)) (valueD h most (bs h) s):=by
 have hd:=digits_ev h s hs
 have hle:=tw_le (digC h) s
 obtain ⟨c1,_,_⟩:=cut_ofL s (s.takeWhile (digC h)).length hle
 obtain ⟨t1,t2⟩:=tw_take (digC h) s
 rw [t1] at c1
 have c2:(Base.ofL s).extract (s.takeWhile (digC h)).length (Base.ofL s).size = Base.ofL (s.dropWhile (digC h)):=by rw [exr s _ hle,t2]
 unfold valueD digitsP
 by_cases h1:s.takeWhile (digC h) ≠ []
 · by_cases h2:(s.takeWhile (digC h)).length ≤ most
   · have hn:=number_ev (bs h) (bs_wrap h).2 (s.takeWhile (digC h)) (by omega) dig_hex
     have hp:0 < (s.takeWhile (digC h)).length:=List.length_pos_iff.2 h1
     have hall:Ev (fun k => u2f.j0 k (Base.ofL s) (bs h) (most:Int)) ((numO (numL (bs h) (s.takeWhile (digC h)) 0)).1,Base.ofL (s.dropWhile (digC h)),(numO (numL (bs h) (s.takeWhile (digC h)) 0)).2):=by
      refine Ev.step (f:=fun k => (u1n.f k (Base.ofL s) (bs h)).bind fun t => (if t < 1 then (some (0,(⟨#[]⟩:ByteArray),false)) else (if t > (most:Int) then (some (0,(⟨#[]⟩:ByteArray),false)) else (if 0 ≤ t then (if t ≤ ((Base.ofL s).size:Int) then ((u1g.f k ((Base.ofL s).extract 0 (t:Int).toNat) (IntKind.u64.wrap (bs h))).bind fun bt => (some (bt.1,(Base.ofL s).extract (t:Int).toNat (Base.ofL s).size,bt.2))) else (none)) else (none))))) (fun k => rfl) (Ev.bind hd ?_)
      refine Ev.congr (f:=fun k => (u1g.f k (Base.ofL (s.takeWhile (digC h))) (bs h)).bind fun bt => some (bt.1,Base.ofL (s.dropWhile (digC h)),bt.2)) (fun k => ?_) (Ev.bind hn (Ev.now _))
      rw [if_neg (by omega),if_neg (by omega),if_pos (by omega),if_pos (by rw [sz];omega),Int.toNat_natCast,c1,c2,(bs_wrap h).1]
     rw [if_pos ⟨h1,h2⟩]
     simp only [Option.bind_some]
     cases hnn:numL (bs h) (s.takeWhile (digC h)) 0 with
     | some n =>
       rw [hnn] at hall
       exact hall
     | none =>
       rw [hnn] at hall
       exact ⟨_,s.dropWhile (digC h),Nat.le_trans (dw_len _ s) hs,hall⟩
   · rw [if_neg (fun e => h2 e.2)]
     refine ⟨0,[],by decide,Ev.step (f:=fun k => (u1n.f k (Base.ofL s) (bs h)).bind fun t => (if t < 1 then (some (0,(⟨#[]⟩:ByteArray),false)) else (if t > (most:Int) then (some (0,(⟨#[]⟩:ByteArray),false)) else (if 0 ≤ t then (if t ≤ ((Base.ofL s).size:Int) then ((u1g.f k ((Base.ofL s).extract 0 (t:Int).toNat) (IntKind.u64.wrap (bs h))).bind fun bt => (some (bt.1,(Base.ofL s).extract (t:Int).toNat (Base.ofL s).size,bt.2))) else (none)) else (none))))) (fun k => rfl) (Ev.bind hd ?_)⟩
     refine Ev.congr (f:=fun k => some (0,(⟨#[]⟩:ByteArray),false)) (fun k => ?_) (Ev.now _)
     rw [if_neg (by omega),if_pos (by omega)]
 · rw [if_neg (fun e => h1 e.1)]
   have h0:s.takeWhile (digC h) = []:=by simpa using h1
   refine ⟨0,[],by decide,Ev.step (f:=fun k => (u1n.f k (Base.ofL s) (bs h)).bind fun t => (if t < 1 then (some (0,(⟨#[]⟩:ByteArray),false)) else (if t > (most:Int) then (some (0,(⟨#[]⟩:ByteArray),false)) else (if 0 ≤ t then (if t ≤ ((Base.ofL s).size:Int) then ((u1g.f k ((Base.ofL s).extract 0 (t:Int).toNat) (IntKind.u64.wrap (bs h))).bind fun bt => (some (bt.1,(Base.ofL s).extract (t:Int).toNat (Base.ofL s).size,bt.2))) else (none)) else (none))))) (fun k => rfl) (Ev.bind hd ?_)⟩
   refine Ev.congr (f:=fun k => some (0,(⟨#[]⟩:ByteArray),false)) (fun k => ?_) (Ev.now _)
   rw [h0,if_pos (by decide)]
theorem Says.congr {g f:Nat → Option (Int × ByteArray × Bool)} {o:Option (Int × B8)} (h:∀ k,g k = f k) (hf:Says f o):Says g o:=by
 have e:g = f:=funext h
 rw [e]
 exact hf
theorem pre2 (s:B8):(∃ q,s = 48 :: 120 :: q ∧ valueP s = valueD true 16 16 q ∧ ([48,120]:B8).isPrefixOf s = true) ∨ (([48,120]:B8).isPrefixOf s = false ∧ valueP s = valueD false 20 10 s):=by
 by_cases h:∃ q,s = 48 :: 120 :: q
 · obtain ⟨q,rfl⟩:=h
   exact Or.inl ⟨q,rfl,rfl,rfl⟩
 · refine Or.inr ⟨?_,?_⟩
   · cases e:([48,120]:B8).isPrefixOf s with
     | false => rfl
     | true =>
       obtain ⟨t,ht⟩:=List.isPrefixOf_iff_prefix.1 e
       exact absurd ⟨t,ht.symm⟩ h
   · unfold valueP
     split
     · exact absurd ⟨_,rfl⟩ h
     · rfl
theorem value_says (s:B8) (hs:s.length ≤ 1000):Says (fun k => u2f.f k (Base.ofL s)) (valueP s):=by
 have hbg:uv.f (Base.ofL s) (⟨#[48,120]⟩:ByteArray) = some (([48,120]:B8).isPrefixOf s):=begins_is [48,120] s
 rcases pre2 s with ⟨q,hq,e,hp⟩ | ⟨hp,e⟩
 · rw [e]
   rw [hp] at hbg
   have hl:s.length = q.length + 2:=by rw [hq];rfl
   refine Says.congr (fun k => ?_) (value_j0 true 16 q (by omega))
   unfold u2f.f
   rw [hbg]
   simp only [Option.bind_some,if_true]
   rw [if_pos (by rw [sz];omega),exr s 2 (by omega),hq]
   rfl
 · rw [e]
   rw [hp] at hbg
   refine Says.congr (fun k => ?_) (value_j0 false 20 s hs)
   unfold u2f.f
   rw [hbg]
   simp only [Option.bind_some,Bool.false_eq_true,if_false]
   rfl
def timeO (minus:Bool) (o:Option (Int × B8)):Option (Int × B8):=o.bind fun p => if minus = true then (if p.1 ≤ 9223372036854775808 then some (-p.1,p.2) else none) else (if p.1 < 9223372036854775808 then some p else none)
theorem numL_ge (base:Int) (hb:base = 10 ∨ base = 16):∀ (d:B8) (m n:Int),(∀ c ∈ d,hexC c = true) → 0 ≤ m → numL base d m = some n → 0 ≤ n
 | [],m,n,_,hm,h => by
   cases Option.some.inj h
   exact hm
 | c :: d,m,n,hd,hm,h => by
   unfold numL at h
   split at h
   · refine numL_ge base hb d _ n (fun x hx => hd x (List.mem_cons_of_mem _ hx)) ?_ h
     have h2:=(dg_hex (hd c (List.mem_cons_self ..))).2.1
     rcases hb with rfl | rfl <;> omega
   · cases h
theorem neg_is {n:Int} (h0:0 ≤ n) (h:n ≤ 9223372036854775808):wrap64 (IntKind.u64.wrap (-n)) = -n:=by
 unfold wrap64 IntKind.wrap
 simp only [IntKind.signed,IntKind.bits,Bool.false_and,Bool.false_eq_true,if_false]
 omega
theorem time_j0 (minus:Bool) (s:B8) (hs:s.length ≤ 1000):Says (fun k => u1i.j0 k (Base.ofL s) minus) (timeO minus (valueD false 19 10 s)):=by
 have hd:=digits_ev false s hs
 have hle:=tw_le (digC false) s
 obtain ⟨c1,_,_⟩:=cut_ofL s (s.takeWhile (digC false)).length hle
 obtain ⟨t1,t2⟩:=tw_take (digC false) s
 rw [t1] at c1
 have c2:(Base.ofL s).extract (s.takeWhile (digC false)).length (Base.ofL s).size = Base.ofL (s.dropWhile (digC false)):=by rw [exr s _ hle,t2]
 have hj:∀ (b:Bool),Ev (fun k => u1i.j1 k (Base.ofL s) minus ((s.takeWhile (digC false)).length:Int) b) (if b = true then (0,(⟨#[]⟩:ByteArray),false) else (if minus = true then wrap64 (IntKind.u64.wrap (-(numO (numL 10 (s.takeWhile (digC false)) 0)).1)) else wrap64 (numO (numL 10 (s.takeWhile (digC false)) 0)).1,Base.ofL (s.dropWhile (digC false)),(numO (numL 10 (s.takeWhile (digC false)) 0)).2 && (if minus = true then decide ((numO (numL 10 (s.takeWhile (digC false)) 0)).1 ≤ 9223372036854775808) else decide ((numO (numL 10 (s.takeWhile (digC false)) 0)).1 < 9223372036854775808)))):=by
  intro b
  cases b with
  | true =>
    refine Ev.step (f:=fun _ => some (0,(⟨#[]⟩:ByteArray),false)) (fun k => ?_) (Ev.now _)
    simp only [u1i.j1,if_true]
  | false =>
    have hn:=number_ev 10 (Or.inl rfl) (s.takeWhile (digC false)) (by omega) dig_hex
    refine Ev.step (f:=fun k => (u1g.f k (Base.ofL (s.takeWhile (digC false))) 10).bind fun bt => some (if minus = true then wrap64 (IntKind.u64.wrap (-bt.1)) else wrap64 bt.1,Base.ofL (s.dropWhile (digC false)),bt.2 && (if minus = true then decide (bt.1 ≤ 9223372036854775808) else decide (bt.1 < 9223372036854775808)))) (fun k => ?_) (Ev.bind hn (Ev.now _))
    simp only [u1i.j1,Bool.false_eq_true,if_false]
    rw [if_pos (by omega),if_pos (by rw [sz];omega),Int.toNat_natCast,c1,c2]
    congr 1
    funext bt
    cases minus <;> cases bt.2 <;> simp
 have hstep:∀ k,u1i.j0 (k + 1) (Base.ofL s) minus = (u1n.f k (Base.ofL s) (bs false)).bind fun t => if t < 1 then u1i.j1 k (Base.ofL s) minus t true else u1i.j1 k (Base.ofL s) minus t (decide (t > 19)):=fun k => rfl
 unfold valueD digitsP
 by_cases h1:s.takeWhile (digC false) ≠ []
 · have hp:0 < (s.takeWhile (digC false)).length:=List.length_pos_iff.2 h1
   by_cases h2:(s.takeWhile (digC false)).length ≤ 19
   · have hall:Ev (fun k => u1i.j0 k (Base.ofL s) minus) _:=Ev.step hstep (Ev.bind hd (Ev.congr (f:=fun k => u1i.j1 k (Base.ofL s) minus ((s.takeWhile (digC false)).length:Int) false) (fun k => by rw [if_neg (by omega),decide_eq_false (by omega)]) (hj false)))
     rw [if_neg (by decide)] at hall
     rw [if_pos ⟨h1,h2⟩]
     simp only [Option.bind_some]
     cases hnn:numL 10 (s.takeWhile (digC false)) 0 with
     | none =>
       have e9:numO (numL 10 (s.takeWhile (digC false)) 0) = (0,false):=by rw [hnn];rfl
       rw [e9] at hall
       simp only [Bool.false_and] at hall
       exact ⟨_,s.dropWhile (digC false),Nat.le_trans (dw_len _ s) hs,hall⟩
     | some n =>
       have e9:numO (numL 10 (s.takeWhile (digC false)) 0) = (n,true):=by rw [hnn];rfl
       rw [e9] at hall
       simp only [Bool.true_and] at hall
       have h0:=numL_ge 10 (Or.inl rfl) _ 0 n dig_hex (Int.le_refl 0) hnn
       unfold timeO
       simp only [Option.map_some,Option.bind_some]
       cases minus with
       | true =>
         simp only [if_true] at hall ⊢
         by_cases hb:n ≤ 9223372036854775808
         · rw [if_pos hb]
           rw [neg_is h0 hb,decide_eq_true hb] at hall
           exact hall
         · rw [if_neg hb]
           rw [decide_eq_false hb] at hall
           exact ⟨_,s.dropWhile (digC false),Nat.le_trans (dw_len _ s) hs,hall⟩
       | false =>
         simp only [Bool.false_eq_true,if_false] at hall ⊢
         by_cases hb:n < 9223372036854775808
         · rw [if_pos hb]
           rw [show wrap64 n = n by unfold wrap64;omega,decide_eq_true hb] at hall
           exact hall
         · rw [if_neg hb]
           rw [decide_eq_false hb] at hall
           exact ⟨_,s.dropWhile (digC false),Nat.le_trans (dw_len _ s) hs,hall⟩
   · rw [if_neg (fun e => h2 e.2)]
     exact ⟨0,[],by decide,Ev.step hstep (Ev.bind hd (Ev.congr (f:=fun k => u1i.j1 k (Base.ofL s) minus ((s.takeWhile (digC false)).length:Int) true) (fun k => by rw [if_neg (by omega),decide_eq_true (by omega)]) (hj true)))⟩
 · rw [if_neg (fun e => h1 e.1)]
   have h0:(s.takeWhile (digC false)).length = 0:=by
    have:s.takeWhile (digC false) = []:=by simpa using h1
    rw [this]
    rfl
   exact ⟨0,[],by decide,Ev.step hstep (Ev.bind hd (Ev.congr (f:=fun k => u1i.j1 k (Base.ofL s) minus ((s.takeWhile (digC false)).length:Int) true) (fun k => by rw [if_pos (by omega)]) (hj true)))⟩
theorem pre1 (c:UInt8) (s:B8):(∃ q,s = c :: q ∧ ([c]:B8).isPrefixOf s = true) ∨ (([c]:B8).isPrefixOf s = false ∧ ∀ q,s ≠ c :: q):=by
 cases s with
 | nil => exact Or.inr ⟨rfl,fun q e => by cases e⟩
 | cons d q =>
   by_cases h:c = d
   · subst h
     exact Or.inl ⟨q,rfl,by simp [List.isPrefixOf]⟩
   · exact Or.inr ⟨by simp [List.isPrefixOf,h],fun r e => h (List.cons.inj e).1.symm⟩
theorem time_says (s:B8) (hs:s.length ≤ 1000):Says (fun k => u1i.f k (Base.ofL s)) (timeP s):=by
 have hbg:uv.f (Base.ofL s) (⟨#[45]⟩:ByteArray) = some (([45]:B8).isPrefixOf s):=begins_is [45] s
 rcases pre1 45 s with ⟨q,hq,hp⟩ | ⟨hp,hne⟩
 · have e:timeP s = timeO true (valueD false 19 10 q):=by rw [hq];rfl
   have hl:s.length = q.length + 1:=by rw [hq];rfl
   rw [e]
   rw [hp] at hbg
   refine Says.congr (fun k => ?_) (time_j0 true q (by omega))
   unfold u1i.f
   rw [hbg]
   simp only [Option.bind_some,if_true]
   rw [if_pos (by rw [sz];omega),exr s 1 (by omega),hq]
   rfl
 · have e:timeP s = timeO false (valueD false 19 10 s):=by
    unfold timeP
    split
    · exact absurd rfl (hne _)
    · rfl
   rw [e]
   rw [hp] at hbg
   refine Says.congr (fun k => ?_) (time_j0 false s hs)
   unfold u1i.f
   rw [hbg]
   simp only [Option.bind_some,Bool.false_eq_true,if_false]
end Go.Proofs.YtmcpeifhapekoaaGreatDoor.Tx
namespace Go.Proofs.YtmcpeifhapekoaaGreatDoor.PAll
open Go.RowKit Go.Proofs.YtmcpeifhapekoaaGreatDoorW.PrintWords Go.Proofs.YtmcpeifhapekoaaGreatDoorW.PrintLast Go.Proofs.YtmcpeifhapekoaaGreatDoorW.PrintMore
attribute [local go_sem] u3q u3r max_two min_two u3l u3k u3s u3p
set_option linter.unusedVariables false
set_option linter.unusedSimpArgs false
mutual
def um.l0:Nat → List (S66) → ByteArray → Option ((List (S66)) × ByteArray × Bool)
 | 0,_,_ => none
 | k + 1,x0,x1 => (u1v.f k x1).bind fun bt173 => ((uv.f bt173.2 (⟨#[61]⟩:ByteArray)).bind fun t175 => (if t175 = true then (if 1 ≤ (bt173.2.size:Int) then ((uz.f k (bt173.2.extract 1 bt173.2.size)).bind fun bt176 => (if bt176.2.2 = 0 then (if bt176.2.1.toList = ([]:List UInt8) then (um.j1 k x0 bt173.1 bt176.2.1 bt176.1 true) else (um.j1 k x0 bt173.1 bt176.2.1 bt176.1 (decide ((x0.length:Int) > 8)))) else (um.j1 k x0 bt173.1 bt176.2.1 bt176.1 true))) else (none)) else (some (([]:List (S66)),(⟨#[]⟩:ByteArray),false))))
def um.j1:Nat → List (S66) → ByteArray → ByteArray → ByteArray → Bool → Option ((List (S66)) × ByteArray × Bool)
 | 0,_,_,_,_,_ => none
 | k + 1,x0,x7,x8,x9,x38 => if x38 = true then (some (([]:List (S66)),(⟨#[]⟩:ByteArray),false)) else ((u1b.f k x0 x7 x9).bind fun bt179 => (if bt179.2 = true then (if 0 < (x8.size:Int) then (if (bt x8 0) = 44 then (um.j2 k x8 bt179.1 false) else (um.j2 k x8 bt179.1 ((bt x8 0) != 125))) else (none)) else (um.j2 k x8 bt179.1 true)))
def um.j2:Nat → ByteArray → List (S66) → Bool → Option ((List (S66)) × ByteArray × Bool)
 | 0,_,_,_ => none
 | k + 1,x8,x11,x58 => if x58 = true then (some (([]:List (S66)),(⟨#[]⟩:ByteArray),false)) else (if 1 ≤ (x8.size:Int) then (if 0 < (x8.size:Int) then (if (bt x8 0) = 125 then (some (x11,x8.extract 1 x8.size,true)) else (um.l0 k x11 (x8.extract 1 x8.size))) else (none)) else (none))
end
def um.f (k:Nat) (l0:List (S66)) (a1:ByteArray):Option ((List (S66)) × ByteArray × Bool):=um.l0 k l0 a1
set_option maxHeartbeats 8000000 in
set_option maxRecDepth 100000 in
theorem um.calls (k:Nat) (P0_:Nat → Prop) (A0:Option Addr) (c0:Nat) (l0:List (S66)) (a1:ByteArray) (r1:List (S66)) (r2:ByteArray) (r3:Bool) (w:World) (hs0:Kd.V k66 66 w w.heap.size (fun k_ => P0_ k_) (.slice A0 l0.length c0) l0) (h:um.f k l0 a1 = some (r1,r2,r3)) :
 Calls Tryz.prog 101 #[.slice A0 l0.length c0,.string a1] w fun e w' => ∃ v0_:Value,e = .returned (.tuple #[v0_,.string r2,.bool r3]) ∧ Kd.R k66 66 w' w.heap.size (fun k_ => (w.heap.size ≤ k_)) v0_ r1 ∧ Below w.heap.size w w':=by
 have hu66:=Tryz.underlying66
 have HO0:=Aside0.mk (show Kd.V k66 66 w w.heap.size (fun k_ => (P0_ k_ ∨ w.heap.size ≤ k_)) (.slice A0 l0.length c0) l0 from Kd.V_mono hs0 (fun k_ hk => .inl hk))
 have HB:=Aside0.mk (Below.refl w.heap.size w)
 have H:(um.l0 k l0 a1) = some (r1,r2,r3):=h
 clear h
 have H':=Aside0.mk H
 clear H
 go_enter Tryz.func101,Tryz.ntmps101
 go_wp2
 repeat (go_quiet (fail);try go_wp2)
 go_loopg [0,1] k (fun kq v0 v1 w' => ∃ (x0_1:List (S66)) (x1_1:ByteArray),v1 = .string x1_1 ∧ Aside0 (um.l0 kq x0_1 x1_1 = some (r1,r2,r3)) ∧ Aside0 (kq ≤ k) ∧ Aside0 (Kd.V k66 66 w' w.heap.size (fun k_ => (P0_ k_ ∨ w.heap.size ≤ k_)) v0 x0_1) ∧ Aside0 (Below w.heap.size w w'))
 case atStart => exact ⟨(l0),(a1),(by first | rfl | (simp;done) | (simp [*];done)),H',⟨Nat.le_refl _⟩,⟨by (with_reducible repeat (first | apply Kd.V_alloc | apply Kd.V_drewN | apply Kd.V_drew));exact HO0.out⟩,⟨by repeat (first | (with_reducible first | exact HB.out | apply uc | apply ub | apply ud) | exact HB.out)⟩⟩
 case round =>
  clear H'
  try clear c1
  try clear p2
  obtain ⟨x0_1,x1_1,rfl,HA,HK1,HO_0,HB⟩:=hrel
  cases gk with
  | zero => exact absurd HA.out (by simp [um.l0])
  | succ k1 =>
    have H:=HA.out
    clear HA
    simp only [um.l0] at H
    replace H:=Option.bind_eq_some_iff.mp H
    obtain ⟨⟨t173,t174⟩,A30,H⟩:=H
    replace H:((uv.f t174 (⟨#[61]⟩:ByteArray)).bind fun t175 => (if t175 = true then (if 1 ≤ (t174.size:Int) then ((uz.f k1 (t174.extract 1 t174.size)).bind fun bt176 => (if bt176.2.2 = 0 then (if bt176.2.1.toList = ([]:List UInt8) then (um.j1 k1 x0_1 t173 bt176.2.1 bt176.1 true) else (um.j1 k1 x0_1 t173 bt176.2.1 bt176.1 (decide ((x0_1.length:Int) > 8)))) else (um.j1 k1 x0_1 t173 bt176.2.1 bt176.1 true))) else (none)) else (some (([]:List (S66)),(⟨#[]⟩:ByteArray),false)))) = some (r1,r2,r3):=H
    have A3:=Aside0.mk A30
    clear A30
    replace H:=Option.bind_eq_some_iff.mp H
    obtain ⟨t175,A40,H⟩:=H
    replace H:(if t175 = true then (if 1 ≤ (t174.size:Int) then ((uz.f k1 (t174.extract 1 t174.size)).bind fun bt176 => (if bt176.2.2 = 0 then (if bt176.2.1.toList = ([]:List UInt8) then (um.j1 k1 x0_1 t173 bt176.2.1 bt176.1 true) else (um.j1 k1 x0_1 t173 bt176.2.1 bt176.1 (decide ((x0_1.length:Int) > 8)))) else (um.j1 k1 x0_1 t173 bt176.2.1 bt176.1 true))) else (none)) else (some (([]:List (S66)),(⟨#[]⟩:ByteArray),false))) = some (r1,r2,r3):=H
    have A4:=Aside0.mk A40
    clear A40
    by_cases c5:t175 = true
    · subst c5
      have H1:(if 1 ≤ (t174.size:Int) then ((uz.f k1 (t174.extract 1 t174.size)).bind fun bt176 => (if bt176.2.2 = 0 then (if bt176.2.1.toList = ([]:List UInt8) then (um.j1 k1 x0_1 t173 bt176.2.1 bt176.1 true) else (um.j1 k1 x0_1 t173 bt176.2.1 bt176.1 (decide ((x0_1.length:Int) > 8)))) else (um.j1 k1 x0_1 t173 bt176.2.1 bt176.1 true))) else (none)) = some (r1,r2,r3):=by rw [if_pos rfl] at H;exact H
      clear H
      have H:=H1
      clear H1
      by_cases c6:1 ≤ (t174.size:Int)
      · rw [if_pos c6] at H
        have c6b0:=eq_true c6
        have c6b1:decide (1 ≤ (t174.size:Int)) = true:=decide_eq_true c6
        clear c6
        replace H:=Option.bind_eq_some_iff.mp H
        obtain ⟨⟨t176,t177,t178⟩,A70,H⟩:=H
        replace H:(if t178 = 0 then (if t177.toList = ([]:List UInt8) then (um.j1 k1 x0_1 t173 t177 t176 true) else (um.j1 k1 x0_1 t173 t177 t176 (decide ((x0_1.length:Int) > 8)))) else (um.j1 k1 x0_1 t173 t177 t176 true)) = some (r1,r2,r3):=H
        have A7:=Aside0.mk A70
        clear A70
        have HC8:=Aside0.mk H
        clear H
        go_upto_region 5 with (first | (go_at_call 100;(with_reducible refine (u1v.calls k1 x1_1 t173 t174 _ A3.out).mono ?_);rintro e w' ⟨rfl,⟨nd,rfl⟩⟩;(try first | exact ⟨rfl,_,World.drewN_drewN _ _ _⟩ | exact ⟨rfl,_,Eq.trans (World.drewN_drewN _ _ _) (congrArg (World.drewN _) (Nat.add_assoc _ _ _))⟩)) | (go_at_call 23;(with_reducible refine (uv.calls t174 (⟨#[61]⟩:ByteArray) true _ A4.out).mono ?_);rintro e w' ⟨rfl,⟨nd,rfl⟩⟩;(try first | exact ⟨rfl,_,World.drewN_drewN _ _ _⟩ | exact ⟨rfl,_,Eq.trans (World.drewN_drewN _ _ _) (congrArg (World.drewN _) (Nat.add_assoc _ _ _))⟩)) | (go_at_call 127;(with_reducible refine (uz.calls k1 (t174.extract 1 t174.size) t176 t177 t178 _ A7.out).mono ?_);rintro e w' ⟨rfl,⟨nd,rfl⟩⟩;(try first | exact ⟨rfl,_,World.drewN_drewN _ _ _⟩ | exact ⟨rfl,_,Eq.trans (World.drewN_drewN _ _ _) (congrArg (World.drewN _) (Nat.add_assoc _ _ _))⟩)))
        repeat (go_quiet (first | (go_at_call 100;(with_reducible refine (u1v.calls k1 x1_1 t173 t174 _ A3.out).mono ?_);rintro e w' ⟨rfl,⟨nd,rfl⟩⟩;(try first | exact ⟨rfl,_,World.drewN_drewN _ _ _⟩ | exact ⟨rfl,_,Eq.trans (World.drewN_drewN _ _ _) (congrArg (World.drewN _) (Nat.add_assoc _ _ _))⟩)) | (go_at_call 23;(with_reducible refine (uv.calls t174 (⟨#[61]⟩:ByteArray) true _ A4.out).mono ?_);rintro e w' ⟨rfl,⟨nd,rfl⟩⟩;(try first | exact ⟨rfl,_,World.drewN_drewN _ _ _⟩ | exact ⟨rfl,_,Eq.trans (World.drewN_drewN _ _ _) (congrArg (World.drewN _) (Nat.add_assoc _ _ _))⟩)) | (go_at_call 127;(with_reducible refine (uz.calls k1 (t174.extract 1 t174.size) t176 t177 t178 _ A7.out).mono ?_);rintro e w' ⟨rfl,⟨nd,rfl⟩⟩;(try first | exact ⟨rfl,_,World.drewN_drewN _ _ _⟩ | exact ⟨rfl,_,Eq.trans (World.drewN_drewN _ _ _) (congrArg (World.drewN _) (Nat.add_assoc _ _ _))⟩)));go_upto_region 5 with (first | (go_at_call 100;(with_reducible refine (u1v.calls k1 x1_1 t173 t174 _ A3.out).mono ?_);rintro e w' ⟨rfl,⟨nd,rfl⟩⟩;(try first | exact ⟨rfl,_,World.drewN_drewN _ _ _⟩ | exact ⟨rfl,_,Eq.trans (World.drewN_drewN _ _ _) (congrArg (World.drewN _) (Nat.add_assoc _ _ _))⟩)) | (go_at_call 23;(with_reducible refine (uv.calls t174 (⟨#[61]⟩:ByteArray) true _ A4.out).mono ?_);rintro e w' ⟨rfl,⟨nd,rfl⟩⟩;(try first | exact ⟨rfl,_,World.drewN_drewN _ _ _⟩ | exact ⟨rfl,_,Eq.trans (World.drewN_drewN _ _ _) (congrArg (World.drewN _) (Nat.add_assoc _ _ _))⟩)) | (go_at_call 127;(with_reducible refine (uz.calls k1 (t174.extract 1 t174.size) t176 t177 t178 _ A7.out).mono ?_);rintro e w' ⟨rfl,⟨nd,rfl⟩⟩;(try first | exact ⟨rfl,_,World.drewN_drewN _ _ _⟩ | exact ⟨rfl,_,Eq.trans (World.drewN_drewN _ _ _) (congrArg (World.drewN _) (Nat.add_assoc _ _ _))⟩))))
        (try simp only [Act.put,List.setIfInBounds_toArray,List.set_cons_zero,List.set_cons_succ])
        go_cut [38] (fun v38 wc => ∃ (kq:Nat) (x38_7:Bool),v38 = .bool x38_7 ∧ Aside0 (um.j1 kq x0_1 t173 t177 t176 x38_7 = some (r1,r2,r3)) ∧ Aside0 (kq ≤ k1) ∧ Aside0 (Kd.V k66 66 wc w.heap.size (fun k_ => (P0_ k_ ∨ w.heap.size ≤ k_)) u0 x0_1) ∧ Aside0 (Below w.heap.size w wc))
        case first =>
         have H:=HC8.out
         clear HC8
         by_cases c9:t178 = 0
         · rw [if_pos c9] at H
           have c9b0:(t178 == 0) = true:=beq_iff_eq.mpr c9
           have c9b1:(t178 != 0) = false:=bne_eq_false_iff_eq.mpr c9
           clear c9
           (first | rw [c9b0] | (simp only [i64_w,i32_w];rw [c9b0]) | skip)
           by_cases c10:t177.toList = ([]:List UInt8)
           · rw [if_pos c10] at H
             have c10b0:(t177.toList == ([]:List UInt8)) = true:=beq_iff_eq.mpr c10
             have c10b1:(t177.toList != ([]:List UInt8)) = false:=bne_eq_false_iff_eq.mpr c10
             have c10b2:t177.toList.isEmpty = true:=by rw [c10];rfl
             clear c10
             have H':=Aside0.mk H
             clear H
             go_wp2
             repeat (go_quiet (fail);try go_wp2)
             go_meet
             case rel => exact ⟨_,(true),(by first | rfl | (simp;done) | (simp [*];done)),H',⟨by have:=HK1.out;first | omega | exact Nat.le_refl _⟩,⟨by (with_reducible repeat (first | apply Kd.V_alloc | apply Kd.V_drewN | apply Kd.V_drew));exact HO_0.out⟩,⟨by repeat (first | (with_reducible first | exact HB.out | apply uc | apply ub | apply ud) | exact HB.out)⟩⟩
           · rw [if_neg c10] at H
             have c10b0:(t177.toList == ([]:List UInt8)) = false:=beq_eq_false_iff_ne.mpr c10
             have c10b1:(t177.toList != ([]:List UInt8)) = true:=bne_iff_ne.mpr c10
             have c10b2:t177.toList.isEmpty = false:=by cases e_:t177.toList with | nil => exact absurd e_ c10 | cons _ _ => rfl
             have H':=Aside0.mk H
             clear H
             obtain ⟨Ao11,co11,eo11⟩:=Kd.V_slice HO_0.out
             subst eo11
             go_wp2
             repeat (go_quiet (fail);try go_wp2)
             go_meet
             case rel => exact ⟨_,(decide ((x0_1.length:Int) > 8)),(by first | rfl | (simp;done) | (simp [*];done)),H',⟨by have:=HK1.out;first | omega | exact Nat.le_refl _⟩,⟨by (with_reducible repeat (first | apply Kd.V_alloc | apply Kd.V_drewN | apply Kd.V_drew));exact HO_0.out⟩,⟨by repeat (first | (with_reducible first | exact HB.out | apply uc | apply ub | apply ud) | exact HB.out)⟩⟩
         · rw [if_neg c9] at H
           have c9b0:(t178 == 0) = false:=beq_eq_false_iff_ne.mpr c9
           have c9b1:(t178 != 0) = true:=bne_iff_ne.mpr c9
           (first | rw [c9b0] | (simp only [i64_w,i32_w];rw [c9b0]) | skip)
           have H':=Aside0.mk H
           clear H
           go_wp2
           repeat (go_quiet (fail);try go_wp2)
           go_meet
           case rel => exact ⟨_,(true),(by first | rfl | (simp;done) | (simp [*];done)),H',⟨by have:=HK1.out;first | omega | exact Nat.le_refl _⟩,⟨by (with_reducible repeat (first | apply Kd.V_alloc | apply Kd.V_drewN | apply Kd.V_drew));exact HO_0.out⟩,⟨by repeat (first | (with_reducible first | exact HB.out | apply uc | apply ub | apply ud) | exact HB.out)⟩⟩
        case rest =>
         clear HC8
         try clear c1
         try clear p2
         try clear c5
         try clear c6
         try clear c6b0
         try clear c6b1
         try clear c9
         try clear c9b0
         try clear c9b1
         try clear c10
         try clear c10b0
         try clear c10b1
         try clear p2
         obtain ⟨kq,x38_7,rfl,HA,HJ7,HO_0,HB⟩:=hcut
         cases kq with
         | zero => exact absurd HA.out (by simp [um.j1])
         | succ kj7 =>
           have H:=HA.out
           clear HA
           simp only [um.j1] at H
           by_cases c12:x38_7 = true
           · subst c12
             have H1:(some (([]:List (S66)),(⟨#[]⟩:ByteArray),false)) = some (r1,r2,r3):=by rw [if_pos rfl] at H;exact H
             clear H
             have H:=H1
             clear H1
             simp only [Option.some.injEq,Prod.mk.injEq] at H
             obtain ⟨rfl,rfl,rfl⟩:=H
             go_wp2
             repeat (go_quiet (fail);try go_wp2)
             go_ret3
             exact ⟨_,by first | rfl | (simp [u1k,u1l] <;> rfl) | (simp [*,u1k,u1l] <;> rfl),by first | exact Kd.R_nil _ _ _ _ _ | exact Kd.N_nil _ _ _ _ _ | exact Kd.V_nil _ _ _ _ _ | exact Kd.Q_nil _ _ _ _ _ | exact Kd.S_nil _ _ _ _ _,by repeat (first | (with_reducible first | exact HB.out | apply uc | apply ub | apply ud) | exact HB.out)⟩
           · replace c12:=Bool.eq_false_iff.mpr c12
             subst c12
             have H1:((u1b.f kj7 x0_1 t173 t176).bind fun bt179 => (if bt179.2 = true then (if 0 < (t177.size:Int) then (if (bt t177 0) = 44 then (um.j2 kj7 t177 bt179.1 false) else (um.j2 kj7 t177 bt179.1 ((bt t177 0) != 125))) else (none)) else (um.j2 kj7 t177 bt179.1 true))) = some (r1,r2,r3):=by rw [if_neg (show ¬ (false = true) by decide)] at H;exact H
             clear H
             have H:=H1
             clear H1
             replace H:=Option.bind_eq_some_iff.mp H
             obtain ⟨⟨t179,t182⟩,A130,H⟩:=H
             replace H:(if t182 = true then (if 0 < (t177.size:Int) then (if (bt t177 0) = 44 then (um.j2 kj7 t177 t179 false) else (um.j2 kj7 t177 t179 ((bt t177 0) != 125))) else (none)) else (um.j2 kj7 t177 t179 true)) = some (r1,r2,r3):=H
             have A13:=Aside0.mk A130
             clear A130
             have HC14:=Aside0.mk H
             clear H
             obtain ⟨Ao15,co15,eo15⟩:=Kd.V_slice HO_0.out
             subst eo15
             go_upto_region 8 with (first | (go_at_call 128;(with_reducible refine (u1b.calls kj7 _ _ x0_1 t173 t176 t179 t182 _ ?side1 ?side2 A13.out).mono ?_);(case side1 => repeat (first | exact (Kd.V_reads' HO_0.out).2.2 | (with_reducible refine Kd.C_alloc ?_ _) | (with_reducible refine Kd.C_drewN ?_ _) | (with_reducible refine Kd.C_drew ?_)));(case side2 => exact (Kd.V_reads' HO_0.out).2.1);rintro e w16 ⟨v180,rfl,ho0,hb⟩;have n0_:=Aside0.mk (Kd.V_elder' (by (with_reducible repeat (first | apply Kd.V_alloc | apply Kd.V_drewN | apply Kd.V_drew));exact HO_0.out) (Kd.R_base ho0) hb);have n1_:=Aside0.mk (Kd.R_lower (Kd.R_newM (M:=fun k_ => (w.heap.size ≤ k_)) ho0 (u1c (by repeat (first | (with_reducible first | exact HB.out | apply uc | apply ub | apply ud) | exact HB.out))) (fun k_ h_ => h_)) (u1c (by repeat (first | (with_reducible first | exact HB.out | apply uc | apply ub | apply ud) | exact HB.out))));have n2_:=Aside0.mk (u1h (by repeat (first | (with_reducible first | exact HB.out | apply uc | apply ub | apply ud) | exact HB.out)) hb);clear HO_0;clear HB;have HO_0:=n0_;have HO181:=n1_;have HB:=n2_;clear n0_ n1_ n2_;(try clear hb);(try clear hb2);(try clear hk);(try clear hi);(try clear ho0)))
             repeat (go_quiet (first | (go_at_call 128;(with_reducible refine (u1b.calls kj7 _ _ x0_1 t173 t176 t179 t182 _ ?side1 ?side2 A13.out).mono ?_);(case side1 => repeat (first | exact (Kd.V_reads' HO_0.out).2.2 | (with_reducible refine Kd.C_alloc ?_ _) | (with_reducible refine Kd.C_drewN ?_ _) | (with_reducible refine Kd.C_drew ?_)));(case side2 => exact (Kd.V_reads' HO_0.out).2.1);rintro e w16 ⟨v180,rfl,ho0,hb⟩;have n0_:=Aside0.mk (Kd.V_elder' (by (with_reducible repeat (first | apply Kd.V_alloc | apply Kd.V_drewN | apply Kd.V_drew));exact HO_0.out) (Kd.R_base ho0) hb);have n1_:=Aside0.mk (Kd.R_lower (Kd.R_newM (M:=fun k_ => (w.heap.size ≤ k_)) ho0 (u1c (by repeat (first | (with_reducible first | exact HB.out | apply uc | apply ub | apply ud) | exact HB.out))) (fun k_ h_ => h_)) (u1c (by repeat (first | (with_reducible first | exact HB.out | apply uc | apply ub | apply ud) | exact HB.out))));have n2_:=Aside0.mk (u1h (by repeat (first | (with_reducible first | exact HB.out | apply uc | apply ub | apply ud) | exact HB.out)) hb);clear HO_0;clear HB;have HO_0:=n0_;have HO181:=n1_;have HB:=n2_;clear n0_ n1_ n2_;(try clear hb);(try clear hb2);(try clear hk);(try clear hi);(try clear ho0)));go_upto_region 8 with (first | (go_at_call 128;(with_reducible refine (u1b.calls kj7 _ _ x0_1 t173 t176 t179 t182 _ ?side1 ?side2 A13.out).mono ?_);(case side1 => repeat (first | exact (Kd.V_reads' HO_0.out).2.2 | (with_reducible refine Kd.C_alloc ?_ _) | (with_reducible refine Kd.C_drewN ?_ _) | (with_reducible refine Kd.C_drew ?_)));(case side2 => exact (Kd.V_reads' HO_0.out).2.1);rintro e w16 ⟨v180,rfl,ho0,hb⟩;have n0_:=Aside0.mk (Kd.V_elder' (by (with_reducible repeat (first | apply Kd.V_alloc | apply Kd.V_drewN | apply Kd.V_drew));exact HO_0.out) (Kd.R_base ho0) hb);have n1_:=Aside0.mk (Kd.R_lower (Kd.R_newM (M:=fun k_ => (w.heap.size ≤ k_)) ho0 (u1c (by repeat (first | (with_reducible first | exact HB.out | apply uc | apply ub | apply ud) | exact HB.out))) (fun k_ h_ => h_)) (u1c (by repeat (first | (with_reducible first | exact HB.out | apply uc | apply ub | apply ud) | exact HB.out))));have n2_:=Aside0.mk (u1h (by repeat (first | (with_reducible first | exact HB.out | apply uc | apply ub | apply ud) | exact HB.out)) hb);clear HO_0;clear HB;have HO_0:=n0_;have HO181:=n1_;have HB:=n2_;clear n0_ n1_ n2_;(try clear hb);(try clear hb2);(try clear hk);(try clear hi);(try clear ho0))))
             (try simp only [Act.put,List.setIfInBounds_toArray,List.set_cons_zero,List.set_cons_succ])
             go_cut [58] (fun v58 wc => ∃ (kq:Nat) (x58_13:Bool),v58 = .bool x58_13 ∧ Aside0 (um.j2 kq t177 t179 x58_13 = some (r1,r2,r3)) ∧ Aside0 (kq ≤ kj7) ∧ Aside0 (Kd.R k66 66 wc w.heap.size (fun k_ => (w.heap.size ≤ k_)) v180 t179) ∧ Aside0 (Below w.heap.size w wc))
             case first =>
              have H:=HC14.out
              clear HC14
              by_cases c17:t182 = true
              · subst c17
                have H1:(if 0 < (t177.size:Int) then (if (bt t177 0) = 44 then (um.j2 kj7 t177 t179 false) else (um.j2 kj7 t177 t179 ((bt t177 0) != 125))) else (none)) = some (r1,r2,r3):=by rw [if_pos rfl] at H;exact H
                clear H
                have H:=H1
                clear H1
                by_cases c18:0 < (t177.size:Int)
                · rw [if_pos c18] at H
                  have c18b0:decide (0 < (t177.size:Int)) = true:=decide_eq_true c18
                  have c18b1:decide (0 < t177.size) = true:=decide_eq_true (by omega)
                  clear c18
                  (first | rw [c18b0] | (simp only [i64_w,i32_w];rw [c18b0]) | skip)
                  by_cases c20:(bt t177 0) = 44
                  · rw [if_pos c20] at H
                    have c20b0:((bt t177 0) == 44) = true:=beq_iff_eq.mpr c20
                    have c20b1:((bt t177 0) != 44) = false:=bne_eq_false_iff_eq.mpr c20
                    clear c20
                    have H':=Aside0.mk H
                    clear H
                    have p19:0 ≤ (0:Int):=(by omega)
                    have q19:0 < t177.size:=(by have:(0:Int) < (t177.size:Int):=of_decide_eq_true (by first | (with_reducible assumption) | assumption);omega)
                    have hx19:∀ h:0 < t177.size,((t177[0]'h).toNat:Int) = bt t177 0:=bt_at t177 0
                    clear p19
                    have qi19:(0 < (t177.size:Int)) = True:=eq_true (of_decide_eq_true (by first | (with_reducible assumption) | assumption))
                    replace q19:=eq_true q19
                    go_wp2
                    repeat (go_quiet (fail);try go_wp2)
                    go_meet
                    case rel => exact ⟨_,(false),(by first | rfl | (simp;done) | (simp [*];done)),H',⟨by have:=HK1.out;have:=HJ7.out;first | omega | exact Nat.le_refl _⟩,⟨by (with_reducible repeat (first | apply Kd.R_alloc | apply Kd.R_drewN | apply Kd.R_drew));exact Kd.R_mono HO181.out (fun _ hk => hk.1)⟩,⟨by repeat (first | (with_reducible first | exact HB.out | apply uc | apply ub | apply ud) | exact HB.out)⟩⟩
                  · rw [if_neg c20] at H
                    have c20b0:((bt t177 0) == 44) = false:=beq_eq_false_iff_ne.mpr c20
                    have c20b1:((bt t177 0) != 44) = true:=bne_iff_ne.mpr c20
                    have H':=Aside0.mk H
                    clear H
                    have p19:0 ≤ (0:Int):=(by omega)
                    have q19:0 < t177.size:=(by have:(0:Int) < (t177.size:Int):=of_decide_eq_true (by first | (with_reducible assumption) | assumption);omega)
                    have hx19:∀ h:0 < t177.size,((t177[0]'h).toNat:Int) = bt t177 0:=bt_at t177 0
                    clear p19
                    have qi19:(0 < (t177.size:Int)) = True:=eq_true (of_decide_eq_true (by first | (with_reducible assumption) | assumption))
                    replace q19:=eq_true q19
                    have p21:0 ≤ (0:Int):=(by omega)
                    have q21:0 < t177.size:=(by have:(0:Int) < (t177.size:Int):=of_decide_eq_true (by first | (with_reducible assumption) | assumption);omega)
                    have hx21:∀ h:0 < t177.size,((t177[0]'h).toNat:Int) = bt t177 0:=bt_at t177 0
                    clear p21
                    have qi21:(0 < (t177.size:Int)) = True:=eq_true (of_decide_eq_true (by first | (with_reducible assumption) | assumption))
                    replace q21:=eq_true q21
                    go_wp2
                    repeat (go_quiet (fail);try go_wp2)
                    go_meet
                    case rel => exact ⟨_,(((bt t177 0) != 125)),(by first | rfl | (simp;done) | (simp [*];done)),H',⟨by have:=HK1.out;have:=HJ7.out;first | omega | exact Nat.le_refl _⟩,⟨by (with_reducible repeat (first | apply Kd.R_alloc | apply Kd.R_drewN | apply Kd.R_drew));exact Kd.R_mono HO181.out (fun _ hk => hk.1)⟩,⟨by repeat (first | (with_reducible first | exact HB.out | apply uc | apply ub | apply ud) | exact HB.out)⟩⟩
                · rw [if_neg c18] at H
                  exact absurd H (by simp)
              · replace c17:=Bool.eq_false_iff.mpr c17
                subst c17
                have H1:(um.j2 kj7 t177 t179 true) = some (r1,r2,r3):=by rw [if_neg (show ¬ (false = true) by decide)] at H;exact H
                clear H
                have H:=H1
                clear H1
                have H':=Aside0.mk H
                clear H
                go_wp2
                repeat (go_quiet (fail);try go_wp2)
                go_meet
                case rel => exact ⟨_,(true),(by first | rfl | (simp;done) | (simp [*];done)),H',⟨by have:=HK1.out;have:=HJ7.out;first | omega | exact Nat.le_refl _⟩,⟨by (with_reducible repeat (first | apply Kd.R_alloc | apply Kd.R_drewN | apply Kd.R_drew));exact Kd.R_mono HO181.out (fun _ hk => hk.1)⟩,⟨by repeat (first | (with_reducible first | exact HB.out | apply uc | apply ub | apply ud) | exact HB.out)⟩⟩
             case rest =>
              clear HC14
              try clear c1
              try clear p1
              try clear q1
              try clear hx1
              try clear qi1
              try clear c2
              try clear p2
              try clear q2
              try clear hx2
              try clear qi2
              try clear c5
              try clear c6
              try clear c6b0
              try clear c6b1
              try clear c9
              try clear c9b0
              try clear c9b1
              try clear c10
              try clear c10b0
              try clear c10b1
              try clear c12
              try clear c17
              try clear c18
              try clear c18b0
              try clear c18b1
              try clear p19
              try clear q19
              try clear hx19
              try clear qi19
              try clear c20
              try clear c20b0
              try clear c20b1
              try clear p21
              try clear q21
              try clear hx21
              try clear qi21
              try clear p19
              try clear p2
              try clear p21
              try clear q19
              try clear q21
              obtain ⟨kq,x58_13,rfl,HA,HJ13,HO_11,HB⟩:=hcut
              cases kq with
              | zero => exact absurd HA.out (by simp [um.j2])
              | succ kj13 =>
                have H:=HA.out
                clear HA
                simp only [um.j2] at H
                by_cases c22:x58_13 = true
                · subst c22
                  have H1:(some (([]:List (S66)),(⟨#[]⟩:ByteArray),false)) = some (r1,r2,r3):=by rw [if_pos rfl] at H;exact H
                  clear H
                  have H:=H1
                  clear H1
                  simp only [Option.some.injEq,Prod.mk.injEq] at H
                  obtain ⟨rfl,rfl,rfl⟩:=H
                  go_wp2
                  repeat (go_quiet (fail);try go_wp2)
                  go_ret3
                  exact ⟨_,by first | rfl | (simp [u1k,u1l] <;> rfl) | (simp [*,u1k,u1l] <;> rfl),by first | exact Kd.R_nil _ _ _ _ _ | exact Kd.N_nil _ _ _ _ _ | exact Kd.V_nil _ _ _ _ _ | exact Kd.Q_nil _ _ _ _ _ | exact Kd.S_nil _ _ _ _ _,by repeat (first | (with_reducible first | exact HB.out | apply uc | apply ub | apply ud) | exact HB.out)⟩
                · replace c22:=Bool.eq_false_iff.mpr c22
                  subst c22
                  have H1:(if 1 ≤ (t177.size:Int) then (if 0 < (t177.size:Int) then (if (bt t177 0) = 125 then (some (t179,t177.extract 1 t177.size,true)) else (um.l0 kj13 t179 (t177.extract 1 t177.size))) else (none)) else (none)) = some (r1,r2,r3):=by rw [if_neg (show ¬ (false = true) by decide)] at H;exact H
                  clear H
                  have H:=H1
                  clear H1
                  by_cases c23:1 ≤ (t177.size:Int)
                  · rw [if_pos c23] at H
                    have c23b0:=eq_true c23
                    have c23b1:decide (1 ≤ (t177.size:Int)) = true:=decide_eq_true c23
                    clear c23
                    by_cases c24:0 < (t177.size:Int)
                    · rw [if_pos c24] at H
                      have c24b0:decide (0 < (t177.size:Int)) = true:=decide_eq_true c24
                      have c24b1:decide (0 < t177.size) = true:=decide_eq_true (by omega)
                      clear c24
                      by_cases c26:(bt t177 0) = 125
                      · rw [if_pos c26] at H
                        have c26b0:((bt t177 0) == 125) = true:=beq_iff_eq.mpr c26
                        have c26b1:((bt t177 0) != 125) = false:=bne_eq_false_iff_eq.mpr c26
                        clear c26
                        simp only [Option.some.injEq,Prod.mk.injEq] at H
                        obtain ⟨rfl,rfl,rfl⟩:=H
                        have p25:0 ≤ (0:Int):=(by omega)
                        have q25:0 < t177.size:=(by have:(0:Int) < (t177.size:Int):=of_decide_eq_true (by first | (with_reducible assumption) | assumption);omega)
                        have hx25:∀ h:0 < t177.size,((t177[0]'h).toNat:Int) = bt t177 0:=bt_at t177 0
                        clear p25
                        have qi25:(0 < (t177.size:Int)) = True:=eq_true (of_decide_eq_true (by first | (with_reducible assumption) | assumption))
                        replace q25:=eq_true q25
                        go_wp2
                        repeat (go_quiet (fail);try go_wp2)
                        go_ret3
                        exact ⟨_,by first | rfl | (simp [u1k,u1l] <;> rfl) | (simp [*,u1k,u1l] <;> rfl),by (with_reducible repeat (first | apply Kd.R_alloc | apply Kd.R_drewN | apply Kd.R_drew));exact HO_11.out,by repeat (first | (with_reducible first | exact HB.out | apply uc | apply ub | apply ud) | exact HB.out)⟩
                      · rw [if_neg c26] at H
                        have c26b0:((bt t177 0) == 125) = false:=beq_eq_false_iff_ne.mpr c26
                        have c26b1:((bt t177 0) != 125) = true:=bne_iff_ne.mpr c26
                        have H':=Aside0.mk H
                        clear H
                        have p25:0 ≤ (0:Int):=(by omega)
                        have q25:0 < t177.size:=(by have:(0:Int) < (t177.size:Int):=of_decide_eq_true (by first | (with_reducible assumption) | assumption);omega)
                        have hx25:∀ h:0 < t177.size,((t177[0]'h).toNat:Int) = bt t177 0:=bt_at t177 0
                        clear p25
                        have qi25:(0 < (t177.size:Int)) = True:=eq_true (of_decide_eq_true (by first | (with_reducible assumption) | assumption))
                        replace q25:=eq_true q25
                        go_wp2
                        repeat (go_quiet (fail);try go_wp2)
                        go_roundg kj13
                        case measure => have:=HK1.out;have:=HJ7.out;have:=HJ13.out;omega
                        case rel => exact ⟨(t179),(t177.extract 1 t177.size),(by first | rfl | (simp;done) | (simp [*];done)),H',⟨by have:=HK1.out;have:=HJ7.out;have:=HJ13.out;omega⟩,⟨Kd.V_mono (Kd.R_V (by (with_reducible repeat (first | apply Kd.R_alloc | apply Kd.R_drewN | apply Kd.R_drew));exact HO_11.out)) (fun k_ hk => by first | exact ⟨(.inr (hk.1)),hk.2⟩ | exact (.inr (hk)))⟩,⟨by repeat (first | (with_reducible first | exact HB.out | apply uc | apply ub | apply ud) | exact HB.out)⟩⟩
                    · rw [if_neg c24] at H
                      exact absurd H (by simp)
                  · rw [if_neg c23] at H
                    exact absurd H (by simp)
      · rw [if_neg c6] at H
        exact absurd H (by simp)
    · replace c5:=Bool.eq_false_iff.mpr c5
      subst c5
      have H1:(some (([]:List (S66)),(⟨#[]⟩:ByteArray),false)) = some (r1,r2,r3):=by rw [if_neg (show ¬ (false = true) by decide)] at H;exact H
      clear H
      have H:=H1
      clear H1
      simp only [Option.some.injEq,Prod.mk.injEq] at H
      obtain ⟨rfl,rfl,rfl⟩:=H
      go_wp2_with (first | (go_at_call 100;(with_reducible refine (u1v.calls k1 x1_1 t173 t174 _ A3.out).mono ?_);rintro e w' ⟨rfl,⟨nd,rfl⟩⟩;(try first | exact ⟨rfl,_,World.drewN_drewN _ _ _⟩ | exact ⟨rfl,_,Eq.trans (World.drewN_drewN _ _ _) (congrArg (World.drewN _) (Nat.add_assoc _ _ _))⟩)) | (go_at_call 23;(with_reducible refine (uv.calls t174 (⟨#[61]⟩:ByteArray) false _ A4.out).mono ?_);rintro e w' ⟨rfl,⟨nd,rfl⟩⟩;(try first | exact ⟨rfl,_,World.drewN_drewN _ _ _⟩ | exact ⟨rfl,_,Eq.trans (World.drewN_drewN _ _ _) (congrArg (World.drewN _) (Nat.add_assoc _ _ _))⟩)))
      repeat (go_quiet (first | (go_at_call 100;(with_reducible refine (u1v.calls k1 x1_1 t173 t174 _ A3.out).mono ?_);rintro e w' ⟨rfl,⟨nd,rfl⟩⟩;(try first | exact ⟨rfl,_,World.drewN_drewN _ _ _⟩ | exact ⟨rfl,_,Eq.trans (World.drewN_drewN _ _ _) (congrArg (World.drewN _) (Nat.add_assoc _ _ _))⟩)) | (go_at_call 23;(with_reducible refine (uv.calls t174 (⟨#[61]⟩:ByteArray) false _ A4.out).mono ?_);rintro e w' ⟨rfl,⟨nd,rfl⟩⟩;(try first | exact ⟨rfl,_,World.drewN_drewN _ _ _⟩ | exact ⟨rfl,_,Eq.trans (World.drewN_drewN _ _ _) (congrArg (World.drewN _) (Nat.add_assoc _ _ _))⟩)));try go_wp2_with (first | (go_at_call 100;(with_reducible refine (u1v.calls k1 x1_1 t173 t174 _ A3.out).mono ?_);rintro e w' ⟨rfl,⟨nd,rfl⟩⟩;(try first | exact ⟨rfl,_,World.drewN_drewN _ _ _⟩ | exact ⟨rfl,_,Eq.trans (World.drewN_drewN _ _ _) (congrArg (World.drewN _) (Nat.add_assoc _ _ _))⟩)) | (go_at_call 23;(with_reducible refine (uv.calls t174 (⟨#[61]⟩:ByteArray) false _ A4.out).mono ?_);rintro e w' ⟨rfl,⟨nd,rfl⟩⟩;(try first | exact ⟨rfl,_,World.drewN_drewN _ _ _⟩ | exact ⟨rfl,_,Eq.trans (World.drewN_drewN _ _ _) (congrArg (World.drewN _) (Nat.add_assoc _ _ _))⟩))))
      go_ret3
      exact ⟨_,by first | rfl | (simp [u1k,u1l] <;> rfl) | (simp [*,u1k,u1l] <;> rfl),by first | exact Kd.R_nil _ _ _ _ _ | exact Kd.N_nil _ _ _ _ _ | exact Kd.V_nil _ _ _ _ _ | exact Kd.Q_nil _ _ _ _ _ | exact Kd.S_nil _ _ _ _ _,by repeat (first | (with_reducible first | exact HB.out | apply uc | apply ub | apply ud) | exact HB.out)⟩
end Go.Proofs.YtmcpeifhapekoaaGreatDoor.PAll
namespace Go.Proofs.YtmcpeifhapekoaaGreatDoor.Tx
open Go.RowKit Go.Proofs.YtmcpeifhapekoaaGreatDoor.PAll Go.Proofs.YtmcpeifhapekoaaGreatDoorW.PrintWords Go.Proofs.YtmcpeifhapekoaaGreatDoorW.PrintLast
open Go.Proofs.YtmcpeifhapekoaaGreatDoor.Laws (okFrom canB wrap_up at_byte no_byte word_ev)
set_option linter.unusedVariables false
set_option linter.unusedSimpArgs false
def addO (post:List Lb) (o:Option (List Lb)):List Lb × Bool:=match o with | some l => (l.reverse ++ post,true) | none => ([],false)
theorem wrap_dn (i:Nat) (h:i < 9223372036854775807):wrap64 (((i + 1:Nat):Int) - 1) = (i:Int):=by
 unfold wrap64
 omega
theorem add_app (x:Lb) (l R post:List Lb) (hl:l.length ≤ 1000) (h:l = R.reverse ++ post) :
 ((some (([]:List Lb)):Option (List Lb)).bind fun y127 => (if (0:Int) ≤ ((R.length:Nat):Int) then (if ((R.length:Nat):Int) ≤ (l.length:Int) then ((some (l.take (((R.length:Nat):Int)).toNat):Option (List Lb)).bind fun y130 => (if y127.length + y130.length < 4398046511104 then ((some (y127 ++ y130):Option (List Lb)).bind fun y134 => ((some ([(⟨x.f0,x.f1⟩:Lb)]):Option (List Lb)).bind fun y137 => (if y134.length + y137.length < 4398046511104 then ((some (y134 ++ y137):Option (List Lb)).bind fun y140 => ((some (l.drop (((R.length:Nat):Int)).toNat):Option (List Lb)).bind fun y143 => (if y140.length + y143.length < 4398046511104 then (some ((y140 ++ y143),true)) else (none)))) else (none)))) else (none))) else (none)) else (none))) = some ((x :: R).reverse ++ post,true):=by
 have hn:l.length = R.length + post.length:=by rw [h,List.length_append,List.length_reverse]
 have e1:l.take R.length = R.reverse:=by rw [h,← @List.length_reverse _ R,List.take_left]
 have e2:l.drop R.length = post:=by rw [h,← @List.length_reverse _ R,List.drop_left]
 simp only [Option.bind_some,Int.toNat_natCast,e1,e2,List.nil_append,List.length_nil,List.length_append,List.length_reverse,List.length_singleton]
 rw [if_pos (by omega),if_pos (by omega),if_pos (by omega),if_pos (by omega),if_pos (by omega),List.reverse_cons]
theorem add_l0 (x:Lb) (l:List Lb) (hl:l.length ≤ 1000):∀ (R post:List Lb),l = R.reverse ++ post → Ev (fun k => u1b.l0 k l (R.length:Int) x.f0 x.f1) (addO post (addR x R))
 | [],post,h => by
   refine Ev.step (f:=fun _ => some ([x].reverse ++ post,true)) (fun k => ?_) (Ev.now _)
   simp only [u1b.l0]
   rw [if_neg (by simp)]
   exact add_app x l [] post hl h
 | y :: r,post,h => by
   have hn:l.length = r.length + 1 + post.length:=by rw [h,List.length_append,List.length_reverse,List.length_cons]
   have hy:u2g l (r.length:Int) = y:=by
    unfold u2g
    rw [Int.toNat_natCast,h,List.reverse_cons,List.append_assoc,List.getD_eq_getElem?_getD,← @List.length_reverse _ r,List.getElem?_append_right (by omega)]
    simp
   have h':l = r.reverse ++ (y :: post):=by rw [h,List.reverse_cons,List.append_assoc,List.singleton_append]
   have ih:=add_l0 x l hl r (y :: post) h'
   have hw:=wrap_dn r.length (by omega)
   have hstep:∀ k,u1b.l0 (k + 1) l ((y :: r).length:Int) x.f0 x.f1 = if less x.f0 y.f0 = true then u1b.l0 k l (r.length:Int) x.f0 x.f1 else if y.f0 = x.f0 then some ([],false) else some ((x :: y :: r).reverse ++ post,true):=fun k => by
    have ha:=add_app x l (y :: r) post hl h
    simp only [u1b.l0]
    rw [if_pos (by rw [List.length_cons];omega),List.length_cons,hw,if_pos (by omega),if_pos (by omega),hy]
    rw [List.length_cons] at ha
    unfold less
    rw [ByteArray.toList_eq,ByteArray.toList_eq]
    by_cases h1:Op.bytesLess x.f0.data.toList y.f0.data.toList = true
    · rw [if_pos h1,if_pos h1]
    · rw [if_neg h1,if_neg h1]
      by_cases h2:y.f0 = x.f0
      · rw [if_pos (by rw [h2]),if_pos h2]
      · rw [if_neg (fun e => h2 (Base.ext_data e)),if_neg h2]
        exact ha
   refine Ev.step hstep ?_
   unfold addR
   by_cases h1:less x.f0 y.f0 = true
   · rw [if_pos h1]
     refine Ev.congr (fun k => if_pos h1) ?_
     cases ha:addR x r with
     | none =>
       rw [ha] at ih
       exact ih
     | some o =>
       rw [ha] at ih
       unfold addO at ih ⊢
       simp only [Option.map_some,List.reverse_cons,List.append_assoc,List.singleton_append] at ih ⊢
       exact ih
   · rw [if_neg h1]
     refine Ev.congr (fun k => if_neg h1) ?_
     by_cases h2:y.f0 = x.f0
     · refine Ev.congr (f:=fun _ => some ([],false)) (fun k => if_pos h2) ?_
       rw [if_pos h2]
       exact Ev.now _
     · refine Ev.congr (f:=fun _ => some ((x :: y :: r).reverse ++ post,true)) (fun k => if_neg h2) ?_
       rw [if_neg h2]
       exact Ev.now _
theorem add_ev (x:Lb) (R:List Lb) (hl:R.length ≤ 1000):Ev (fun k => u1b.f k R.reverse x.f0 x.f1) (addO [] (addR x R)):=by
 have h:=add_l0 x R.reverse (by rw [List.length_reverse];exact hl) R [] (by simp)
 refine Ev.congr (fun k => ?_) h
 unfold u1b.f
 rw [List.length_reverse]
theorem quoted_is (q:B8):(∀ v t,quotedP q = some (v,t) → Base.unq (Base.ofL q) = (v,Base.ofL t,0)) ∧ (quotedP q = none → Base.unq (Base.ofL q) = (⟨#[]⟩,⟨#[]⟩,5)):=by
 unfold quotedP Base.unq
 rw [Base.ofL_data]
 cases q with
 | nil => exact ⟨fun v t h => (by cases h),fun _ => rfl⟩
 | cons c r =>
   simp only
   by_cases hc:c = 34
   · rw [if_pos hc,if_pos hc]
     cases Base.unqL r [] with
     | none => exact ⟨fun v t h => (by cases h),fun _ => rfl⟩
     | some p =>
       refine ⟨fun v t h => ?_,fun h => by cases h⟩
       obtain ⟨rfl,rfl⟩:=Prod.mk.inj (Option.some.inj h)
       rfl
   · rw [if_neg hc,if_neg hc]
     exact ⟨fun v t h => (by cases h),fun _ => rfl⟩
theorem unq_rest:∀ (n:Nat) (l acc a q:B8),l.length ≤ n → Base.unqL l acc = some (a,q) → a.length ≤ acc.length + l.length ∧ q.length < l.length:=by
 intro n
 induction n with
 | zero =>
   intro l acc a q hn h
   cases l with
   | nil => simp [Base.unqL] at h
   | cons x r => simp at hn
 | succ n ih =>
   intro l acc a q hn h
   cases l with
   | nil => simp [Base.unqL] at h
   | cons c r =>
     unfold Base.unqL at h
     by_cases h1:c = 34
     · rw [if_pos h1] at h
       obtain ⟨rfl,rfl⟩:=Prod.mk.inj (Option.some.inj h)
       simp
     · rw [if_neg h1] at h
       by_cases h2:c = 92
       · rw [if_pos h2] at h
         cases r with
         | nil => simp at h
         | cons d q2 =>
           simp only at h
           by_cases h3:d = 34 ∨ d = 92
           · rw [if_pos h3] at h
             have:=ih q2 _ _ _ (by simp at hn;omega) h
             simp at this ⊢
             omega
           · rw [if_neg h3] at h
             cases h
       · rw [if_neg h2] at h
         have:=ih r _ _ _ (by simp at hn;omega) h
         simp at this ⊢
         omega
theorem valP_rest {s:B8} {v:ByteArray} {t:B8} (h:valP s = some (v,t)):t.length + 2 ≤ s.length ∧ v.size ≤ s.length:=by
 unfold valP at h
 rcases pre1 61 s with ⟨q,hq,hp⟩ | ⟨hp,hne⟩
 · rw [hq,expect_cons,if_pos rfl] at h
   simp only [Option.bind_some] at h
   cases q with
   | nil => cases h
   | cons c r =>
     unfold quotedP at h
     simp only at h
     split at h
     · cases hu:Base.unqL r [] with
       | none => rw [hu] at h;cases h
       | some p =>
         rw [hu] at h
         obtain ⟨h1,h2⟩:=Prod.mk.inj (Option.some.inj h)
         have h3:=unq_rest r.length r [] p.1 p.2 (Nat.le_refl _) hu
         rw [List.length_nil] at h3
         rw [hq,← h1,← h2,sz,List.length_cons,List.length_cons]
         omega
     · cases h
 · unfold expectP at h
   rw [if_neg (by rw [hp];simp)] at h
   cases h
def brO (o:Option (List Lb × B8)):List Lb × ByteArray × Bool:=match o with | some p => (p.1.reverse,Base.ofL p.2,true) | none => ([],⟨#[]⟩,false)
theorem br_j1 (acc:List Lb) (a b c:ByteArray):Ev (fun k => um.j1 k acc a b c true) (brO none) :=
 Ev.step (f:=fun _ => some (brO none)) (fun k => by simp only [um.j1,if_true];rfl) (Ev.now _)
theorem br_j2 (acc:List Lb) (a:ByteArray):Ev (fun k => um.j2 k a acc true) (brO none) :=
 Ev.step (f:=fun _ => some (brO none)) (fun k => by simp only [um.j2,if_true];rfl) (Ev.now _)
theorem first_of (c:UInt8) (r:B8) (h:r.length ≤ 1000):1 ≤ ((Base.ofL (c :: r)).size:Int) ∧ 0 < ((Base.ofL (c :: r)).size:Int) ∧ bt (Base.ofL (c :: r)) 0 = (c.toNat:Int) ∧ (Base.ofL (c :: r)).extract 1 (Base.ofL (c :: r)).size = Base.ofL r:=by
 refine ⟨by rw [sz,List.length_cons];omega,by rw [sz,List.length_cons];omega,?_,?_⟩
 · exact (at_byte (Base.ofL (c :: r)) 0 c r (by rw [Base.ofL_data];rfl)).2.1
 · rw [exr _ 1 (by rw [List.length_cons];omega)]
   rfl
theorem runq_ev' (q:B8) (h:q.length ≤ 1000):Ev (fun k => uz.f k (Base.ofL q)) (Base.unq (Base.ofL q)):=Laws.runq_ev _ (by rw [sz];omega)
theorem braces_l0:∀ (n:Nat) (acc:List Lb) (s:B8),s.length < n → s.length ≤ 1000 → acc.length ≤ 1000 → Ev (fun k => um.l0 k acc.reverse (Base.ofL s)) (brO (bracesR n acc s))
 | 0,acc,s,h,_,_ => absurd h (Nat.not_lt_zero _)
 | n + 1,acc,s,h,hs,ha => by
   have hw:=rword_ev s hs
   have hdl:=dw_len wordC s
   have hstep:∀ k,um.l0 (k + 1) acc.reverse (Base.ofL s) = (u1v.f k (Base.ofL s)).bind fun bt173 => ((uv.f bt173.2 (⟨#[61]⟩:ByteArray)).bind fun t175 => (if t175 = true then (if 1 ≤ (bt173.2.size:Int) then ((uz.f k (bt173.2.extract 1 bt173.2.size)).bind fun bt176 => (if bt176.2.2 = 0 then (if bt176.2.1.toList = ([]:List UInt8) then (um.j1 k acc.reverse bt173.1 bt176.2.1 bt176.1 true) else (um.j1 k acc.reverse bt173.1 bt176.2.1 bt176.1 (decide ((acc.reverse.length:Int) > 8)))) else (um.j1 k acc.reverse bt173.1 bt176.2.1 bt176.1 true))) else (none)) else (some (([]:List Lb),(⟨#[]⟩:ByteArray),false)))):=fun k => rfl
   refine Ev.step hstep (Ev.bind hw ?_)
   simp only
   have hbg:uv.f (Base.ofL (s.dropWhile wordC)) (⟨#[61]⟩:ByteArray) = some (([61]:B8).isPrefixOf (s.dropWhile wordC)):=begins_is [61] _
   unfold bracesR
   rcases pre1 61 (s.dropWhile wordC) with ⟨q,hq,hp⟩ | ⟨hp,hne⟩
   · rw [hp] at hbg
     have hv:valP (s.dropWhile wordC) = quotedP q:=by
      unfold valP
      rw [hq,expect_cons,if_pos rfl]
      rfl
     have hql:q.length + 1 ≤ s.length:=by
      rw [hq,List.length_cons] at hdl
      exact hdl
     have hu:=runq_ev' q (by omega)
     obtain ⟨g1,g2⟩:=quoted_is q
     have hpre:∀ k,((uv.f (Base.ofL (s.dropWhile wordC)) (⟨#[61]⟩:ByteArray)).bind fun t175 => (if t175 = true then (if 1 ≤ ((Base.ofL (s.dropWhile wordC)).size:Int) then ((uz.f k ((Base.ofL (s.dropWhile wordC)).extract 1 (Base.ofL (s.dropWhile wordC)).size)).bind fun bt176 => (if bt176.2.2 = 0 then (if bt176.2.1.toList = ([]:List UInt8) then (um.j1 k acc.reverse (Base.ofL (s.takeWhile wordC)) bt176.2.1 bt176.1 true) else (um.j1 k acc.reverse (Base.ofL (s.takeWhile wordC)) bt176.2.1 bt176.1 (decide ((acc.reverse.length:Int) > 8)))) else (um.j1 k acc.reverse (Base.ofL (s.takeWhile wordC)) bt176.2.1 bt176.1 true))) else (none)) else (some (([]:List Lb),(⟨#[]⟩:ByteArray),false)))) = ((uz.f k (Base.ofL q)).bind fun bt176 => (if bt176.2.2 = 0 then (if bt176.2.1.toList = ([]:List UInt8) then (um.j1 k acc.reverse (Base.ofL (s.takeWhile wordC)) bt176.2.1 bt176.1 true) else (um.j1 k acc.reverse (Base.ofL (s.takeWhile wordC)) bt176.2.1 bt176.1 (decide ((acc.reverse.length:Int) > 8)))) else (um.j1 k acc.reverse (Base.ofL (s.takeWhile wordC)) bt176.2.1 bt176.1 true))):=fun k => by
      rw [hbg]
      simp only [Option.bind_some,if_true]
      rw [hq,if_pos (first_of 61 q (by omega)).1,(first_of 61 q (by omega)).2.2.2]
     refine Ev.congr hpre (Ev.bind hu ?_)
     rw [hv]
     cases hqq:quotedP q with
     | none =>
       rw [g2 hqq]
       exact Ev.congr (fun k => if_neg (by decide)) (br_j1 _ _ _ _)
     | some p =>
       obtain ⟨v,t0⟩:=p
       rw [g1 v t0 hqq]
       have hvr:=valP_rest (hv.trans hqq)
       refine Ev.congr (fun k => if_pos rfl) ?_
       simp only [Option.bind_some,tl_ofL]
       cases t0 with
       | nil => exact Ev.congr (fun k => if_pos rfl) (br_j1 _ _ _ _)
       | cons c t =>
         refine Ev.congr (fun k => if_neg (by simp)) ?_
         simp only
         rw [List.length_cons] at hvr
         by_cases h8:acc.length > 8
         · rw [if_pos h8]
           refine Ev.congr (fun k => ?_) (br_j1 acc.reverse (Base.ofL (s.takeWhile wordC)) (Base.ofL (c :: t)) v)
           rw [decide_eq_true (by rw [List.length_reverse];omega)]
         · rw [if_neg h8]
           obtain ⟨f1,f2,f3,f4⟩:=first_of c t (by omega)
           have had:=add_ev ⟨Base.ofL (s.takeWhile wordC),v⟩ acc ha
           have hs2:∀ k,um.j1 (k + 1) acc.reverse (Base.ofL (s.takeWhile wordC)) (Base.ofL (c :: t)) v (decide ((acc.reverse.length:Int) > 8)) = (u1b.f k acc.reverse (Base.ofL (s.takeWhile wordC)) v).bind fun bt179 => (if bt179.2 = true then um.j2 k (Base.ofL (c :: t)) bt179.1 (if c = 44 then false else ((c.toNat:Int) != 125)) else um.j2 k (Base.ofL (c :: t)) bt179.1 true):=fun k => by
            rw [decide_eq_false (by rw [List.length_reverse];omega)]
            simp only [um.j1,Bool.false_eq_true,if_false]
            congr 1
            funext bt179
            rw [if_pos f2,f3]
            by_cases h4:c = 44
            · rw [if_pos ((byte_eq c 44 44 rfl).2 h4),if_pos h4]
            · rw [if_neg (fun e => h4 ((byte_eq c 44 44 rfl).1 e)),if_neg h4]
           refine Ev.step hs2 (Ev.bind had ?_)
           cases hax:addR ⟨Base.ofL (s.takeWhile wordC),v⟩ acc with
           | none => exact Ev.congr (fun k => if_neg (by decide)) (br_j2 _ _)
           | some l =>
             refine Ev.congr (fun k => if_pos rfl) ?_
             simp only [Option.bind_some]
             have hll:=addR_len _ _ _ hax
             have hs3:∀ b:Bool,b = false → ∀ k,um.j2 (k + 1) (Base.ofL (c :: t)) l.reverse b = if c = 125 then some (l.reverse,Base.ofL t,true) else um.l0 k l.reverse (Base.ofL t):=fun b hb k => by
              subst hb
              simp only [um.j2,Bool.false_eq_true,if_false]
              rw [if_pos f1,if_pos f2,f3,f4]
              by_cases h4:c = 125
              · rw [if_pos ((byte_eq c 125 125 rfl).2 h4),if_pos h4]
              · rw [if_neg (fun e => h4 ((byte_eq c 125 125 rfl).1 e)),if_neg h4]
             unfold addO
             simp only [List.append_nil]
             by_cases h4:c = 44
             · rw [if_pos h4,if_pos h4]
               refine Ev.step (hs3 false rfl) ?_
               refine Ev.congr (fun k => if_neg (by rw [h4];decide)) ?_
               exact braces_l0 n l t (by omega) (by omega) (by omega)
             · rw [if_neg h4,if_neg h4]
               by_cases h5:c = 125
               · rw [if_pos h5]
                 refine Ev.step (hs3 _ (by rw [h5];decide)) ?_
                 exact Ev.congr (fun k => if_pos h5) (Ev.now _)
               · rw [if_neg h5,show ((c.toNat:Int) != 125) = true by rw [bne_iff_ne];exact fun e => h5 ((byte_eq c 125 125 rfl).1 e)]
                 exact br_j2 _ _
   · rw [hp] at hbg
     have hv:valP (s.dropWhile wordC) = none:=by
      unfold valP expectP
      rw [hp]
      rfl
     rw [hv]
     refine Ev.congr (f:=fun k => some (brO none)) (fun k => ?_) (Ev.now _)
     rw [hbg]
     rfl
theorem braces_ev (acc:List Lb) (s:B8) (hs:s.length ≤ 1000) (ha:acc.length ≤ 1000):Ev (fun k => um.f k acc.reverse (Base.ofL s)) (brO (bracesR (s.length + 1) acc s)):=braces_l0 _ acc s (by omega) hs ha
end Go.Proofs.YtmcpeifhapekoaaGreatDoor.Tx
namespace Go.Proofs.YtmcpeifhapekoaaGreatDoor.PAll
open Go.RowKit Go.Proofs.YtmcpeifhapekoaaGreatDoorW.PrintWords Go.Proofs.YtmcpeifhapekoaaGreatDoorW.PrintLast Go.Proofs.YtmcpeifhapekoaaGreatDoorW.PrintMore
attribute [local go_sem] u3q u3r max_two min_two u3l u3k u3s u3p
set_option linter.unusedVariables false
set_option linter.unusedSimpArgs false
mutual
def ur.j0:Nat → ByteArray → Bool → Bool → Option (ByteArray × ByteArray × ByteArray × Bool)
 | 0,_,_,_ => none
 | k + 1,x0,x4,x15 => if x15 = true then (some ((⟨#[]⟩:ByteArray),(⟨#[]⟩:ByteArray),(⟨#[]⟩:ByteArray),true)) else (if 7 ≤ (x0.size:Int) then ((u1v.f k (x0.extract 7 x0.size)).bind fun bt117 => ((u1a.f k bt117.1).bind fun t119 => (if t119 = true then ((uv.f bt117.2 (⟨#[32]⟩:ByteArray)).bind fun t120 => (ur.j1 k x4 bt117.1 bt117.2 (!t120))) else (ur.j1 k x4 bt117.1 bt117.2 true)))) else (none))
def ur.j1:Nat → Bool → ByteArray → ByteArray → Bool → Option (ByteArray × ByteArray × ByteArray × Bool)
 | 0,_,_,_,_ => none
 | k + 1,x4,x5,x6,x30 => if x30 = true then (some ((⟨#[]⟩:ByteArray),(⟨#[]⟩:ByteArray),(⟨#[]⟩:ByteArray),false)) else (if x4 = true then (if 1 ≤ (x6.size:Int) then ((u2l.f k x6).bind fun t121 => (some (x5,(⟨#[]⟩:ByteArray),x6.extract 1 x6.size,t121))) else (none)) else (if 1 ≤ (x6.size:Int) then ((u2n.f k (x6.extract 1 x6.size)).bind fun t122 => (some (x5,x6.extract 1 x6.size,(⟨#[]⟩:ByteArray),t122))) else (none)))
end
def ur.f (k:Nat) (a0:ByteArray):Option (ByteArray × ByteArray × ByteArray × Bool):=(uv.f a0 (⟨#[35,32,72,69,76,80,32]⟩:ByteArray)).bind fun t115 => (if t115 = true then (ur.j0 k a0 t115 false) else ((uv.f a0 (⟨#[35,32,84,89,80,69,32]⟩:ByteArray)).bind fun t116 => (ur.j0 k a0 t115 (!t116))))
def ur.T8:Bool × List (List Nat × List Nat):=(true,[([],[]),([],[]),([1],[1]),([0,2],[0,2]),([],[]),([4],[4]),([3,5,0,1,2,3],[3]),([5,6,0,1,2,3,4,5,6],[5])])
def ur.B8:List Nat:=[0,0,2,7,0,16,63,127]
theorem ur.tab8:rtab .any (opsOf Tryz.f52 8) = ur.T8:=by kernel_rfl
theorem ur.bits8:waitsOk ur.T8.2 ur.B8 = true:=by kernel_rfl
def ur.T9:Bool × List (List Nat × List Nat):=(true,[([],[]),([],[]),([1],[1]),([0,2],[0,2]),([],[]),([4],[4]),([5],[5]),([3,6,0,1,2,3],[3]),([6,7,0,1,2,3,4,5,6,7],[6])])
def ur.B9:List Nat:=[0,0,2,7,0,16,48,127,255]
theorem ur.tab9:rtab .any (opsOf Tryz.f52 9) = ur.T9:=by kernel_rfl
theorem ur.bits9:waitsOk ur.T9.2 ur.B9 = true:=by kernel_rfl
set_option maxHeartbeats 8000000 in
set_option maxRecDepth 100000 in
theorem ur.calls (k:Nat) (a0:ByteArray) (r1:ByteArray) (r2:ByteArray) (r3:ByteArray) (r4:Bool) (w:World) (h:ur.f k a0 = some (r1,r2,r3,r4)) :
 Calls Tryz.prog 52 #[.string a0] w fun e w' => e = .returned (.tuple #[.agg #[.string r1,.string r2,.string r3],.bool r4]) ∧ Below w.heap.size w w':=by
 have hu34:=Tryz.underlying34
 have HB:=Aside0.mk (Below.refl w.heap.size w)
 have H:((uv.f a0 (⟨#[35,32,72,69,76,80,32]⟩:ByteArray)).bind fun t115 => (if t115 = true then (ur.j0 k a0 t115 false) else ((uv.f a0 (⟨#[35,32,84,89,80,69,32]⟩:ByteArray)).bind fun t116 => (ur.j0 k a0 t115 (!t116))))) = some (r1,r2,r3,r4):=h
 clear h
 replace H:=Option.bind_eq_some_iff.mp H
 obtain ⟨t115,A20,H⟩:=H
 replace H:(if t115 = true then (ur.j0 k a0 t115 false) else ((uv.f a0 (⟨#[35,32,84,89,80,69,32]⟩:ByteArray)).bind fun t116 => (ur.j0 k a0 t115 (!t116)))) = some (r1,r2,r3,r4):=H
 have A2:=Aside0.mk A20
 clear A20
 have HC3:=Aside0.mk H
 clear H
 go_enter Tryz.func52,Tryz.ntmps52
 go_upto_region 2 with (first | ((with_reducible refine u3f (N:=2) rfl ?_);refine u3c ?hg (N:=2) ?hd (cs:=#[.string (⟨#[]⟩:ByteArray),.string (⟨#[]⟩:ByteArray),.string (⟨#[]⟩:ByteArray)]) (t:=34) ?hr ?_;(case hd => rfl);(case hg => rfl);(case hr => first | (go_simp;done) | (go_simp;rfl));intro gb114 hg w4 hbox hb;have n0_:=Aside0.mk (u1h (by repeat (first | (with_reducible first | exact HB.out | apply uc | apply ub | apply ud) | exact HB.out)) hb);have n1_:=Aside0.mk (hbox);have n2_:=Aside0.mk ((by rw [hg];exact (u1c (by repeat (first | (with_reducible first | exact HB.out | apply uc | apply ub | apply ud) | exact HB.out))):w.heap.size ≤ gb114));have n3_:=Aside0.mk ((by rw [hg];exact (u1c (by repeat (first | (with_reducible first | exact HB.out | apply uc | apply ub | apply ud) | exact HB.out))):w.heap.size ≤ gb114));clear HB;have HB:=n0_;have BK114:=n1_;have GW114:=n2_;have GE114:=n3_;clear n0_ n1_ n2_ n3_;clear hb hbox hg) | ((with_reducible refine u1u (f:=23) rfl ?_);refine u3e (some 8) rfl rfl Tryz.func23 (by kernel_rfl) rfl #[.string a0,.string (⟨#[35,32,72,69,76,80,32]⟩:ByteArray)] rfl (by (try simp only [List.map_toArray,List.map_cons,List.map_nil]);first | done | rfl | (simp only [List.length_drop,List.length_take];rfl)) ?_;(with_reducible refine (uv.calls a0 (⟨#[35,32,72,69,76,80,32]⟩:ByteArray) t115 _ A2.out).mono ?_);rintro e w' ⟨rfl,⟨nd,rfl⟩⟩;refine ⟨_,rfl,?_⟩))
 (try simp only [Act.put,List.setIfInBounds_toArray,List.set_cons_zero,List.set_cons_succ])
 go_cut [15] (fun v15 wc => ∃ (kq:Nat) (x15_2:Bool),v15 = .bool x15_2 ∧ Aside0 (ur.j0 kq a0 t115 x15_2 = some (r1,r2,r3,r4)) ∧ Aside0 (kq ≤ k) ∧ Aside0 (wc.heap[gb114]? = some (.cells #[.string (⟨#[]⟩:ByteArray),.string (⟨#[]⟩:ByteArray),.string (⟨#[]⟩:ByteArray)] 34 (0,0))) ∧ Aside0 (Below w.heap.size w wc))
 case first =>
  have H:=HC3.out
  clear HC3
  by_cases c5:t115 = true
  · subst c5
    have H1:(ur.j0 k a0 true false) = some (r1,r2,r3,r4):=by rw [if_pos rfl] at H;exact H
    clear H
    have H:=H1
    clear H1
    have H':=Aside0.mk H
    clear H
    go_wp2
    go_meet
    case rel => exact ⟨_,(false),(by first | rfl | (simp;done) | (simp [*];done)),H',⟨by first | omega | exact Nat.le_refl _⟩,⟨by (with_reducible repeat (first | refine ue ?_ _ | refine ug ?_ | refine uf ?_ _));exact BK114.out⟩,⟨by repeat (first | (with_reducible first | exact HB.out | apply uc | apply ub | apply ud | refine ui ?_ GE114.out) | exact HB.out)⟩⟩
  · replace c5:=Bool.eq_false_iff.mpr c5
    subst c5
    have H1:((uv.f a0 (⟨#[35,32,84,89,80,69,32]⟩:ByteArray)).bind fun t116 => (ur.j0 k a0 false (!t116))) = some (r1,r2,r3,r4):=by rw [if_neg (show ¬ (false = true) by decide)] at H;exact H
    clear H
    have H:=H1
    clear H1
    replace H:=Option.bind_eq_some_iff.mp H
    obtain ⟨t116,A60,H⟩:=H
    replace H:(ur.j0 k a0 false (!t116)) = some (r1,r2,r3,r4):=H
    have A6:=Aside0.mk A60
    clear A60
    have H':=Aside0.mk H
    clear H
    go_wp2_with (first | (go_at_call 23;(with_reducible refine (uv.calls a0 (⟨#[35,32,84,89,80,69,32]⟩:ByteArray) t116 _ A6.out).mono ?_);rintro e w' ⟨rfl,⟨nd,rfl⟩⟩))
    go_meet
    case rel => exact ⟨_,(!t116),(by first | rfl | (simp;done) | (simp [*];done)),H',⟨by first | omega | exact Nat.le_refl _⟩,⟨by (with_reducible repeat (first | refine ue ?_ _ | refine ug ?_ | refine uf ?_ _));exact BK114.out⟩,⟨by repeat (first | (with_reducible first | exact HB.out | apply uc | apply ub | apply ud | refine ui ?_ GE114.out) | exact HB.out)⟩⟩
 case rest =>
  clear HC3
  try clear c2
  try clear p2
  try clear c5
  obtain ⟨kq,x15_2,rfl,HA,HJ2,BK114,HB⟩:=hcut
  cases kq with
  | zero => exact absurd HA.out (by simp [ur.j0])
  | succ kj2 =>
    have H:=HA.out
    clear HA
    simp only [ur.j0] at H
    by_cases c7:x15_2 = true
    · subst c7
      have H1:(some ((⟨#[]⟩:ByteArray),(⟨#[]⟩:ByteArray),(⟨#[]⟩:ByteArray),true)) = some (r1,r2,r3,r4):=by rw [if_pos rfl] at H;exact H
      clear H
      have H:=H1
      clear H1
      simp only [Option.some.injEq,Prod.mk.injEq] at H
      obtain ⟨rfl,rfl,rfl,rfl⟩:=H
      have hcz8_0:wc.cell? ⟨gb114,0,none⟩ = some (.string (⟨#[]⟩:ByteArray)):=(uj BK114.out 0).trans rfl
      have hcz8_1:wc.cell? ⟨gb114,1,none⟩ = some (.string (⟨#[]⟩:ByteArray)):=(uj BK114.out 1).trans rfl
      have hcz8_2:wc.cell? ⟨gb114,2,none⟩ = some (.string (⟨#[]⟩:ByteArray)):=(uj BK114.out 2).trans rfl
      have hfz8_0:=uk BK114.out 0
      have hfz8_1:=uk BK114.out 1
      have hfz8_2:=uk BK114.out 2
      go_wp2
      refine bodyPost_ret (results_ct rfl _ _ gb114 34 #[.string (⟨#[]⟩:ByteArray),.string (⟨#[]⟩:ByteArray),.string (⟨#[]⟩:ByteArray)] (0,0) _ rfl (by (with_reducible repeat (first | refine ue ?_ _ | refine ug ?_ | refine uf ?_ _));refine u2d (cs:=#[.string (⟨#[]⟩:ByteArray),.string (⟨#[]⟩:ByteArray),.string (⟨#[]⟩:ByteArray)]) ?_ 2 _ rfl;(with_reducible repeat (first | refine ue ?_ _ | refine ug ?_ | refine uf ?_ _));refine u2d (cs:=#[.string (⟨#[]⟩:ByteArray),.string (⟨#[]⟩:ByteArray),.string (⟨#[]⟩:ByteArray)]) ?_ 1 _ rfl;(with_reducible repeat (first | refine ue ?_ _ | refine ug ?_ | refine uf ?_ _));refine u2d (cs:=#[.string (⟨#[]⟩:ByteArray),.string (⟨#[]⟩:ByteArray),.string (⟨#[]⟩:ByteArray)]) ?_ 0 _ rfl;(with_reducible repeat (first | refine ue ?_ _ | refine ug ?_ | refine uf ?_ _));exact BK114.out) Tryz.underlying34 rfl (by kernel_rfl)) rfl ?_
      exact ⟨by first | rfl | (simp [u1k,u1l] <;> rfl) | (simp [*,u1k,u1l] <;> rfl),by repeat (first | (with_reducible first | exact HB.out | apply uc | apply ub | apply ud | refine ui ?_ GE114.out) | exact HB.out)⟩
    · replace c7:=Bool.eq_false_iff.mpr c7
      subst c7
      have H1:(if 7 ≤ (a0.size:Int) then ((u1v.f kj2 (a0.extract 7 a0.size)).bind fun bt117 => ((u1a.f kj2 bt117.1).bind fun t119 => (if t119 = true then ((uv.f bt117.2 (⟨#[32]⟩:ByteArray)).bind fun t120 => (ur.j1 kj2 t115 bt117.1 bt117.2 (!t120))) else (ur.j1 kj2 t115 bt117.1 bt117.2 true)))) else (none)) = some (r1,r2,r3,r4):=by rw [if_neg (show ¬ (false = true) by decide)] at H;exact H
      clear H
      have H:=H1
      clear H1
      by_cases c9:7 ≤ (a0.size:Int)
      · rw [if_pos c9] at H
        have c9b0:=eq_true c9
        have c9b1:decide (7 ≤ (a0.size:Int)) = true:=decide_eq_true c9
        clear c9
        replace H:=Option.bind_eq_some_iff.mp H
        obtain ⟨⟨t117,t118⟩,A100,H⟩:=H
        replace H:((u1a.f kj2 t117).bind fun t119 => (if t119 = true then ((uv.f t118 (⟨#[32]⟩:ByteArray)).bind fun t120 => (ur.j1 kj2 t115 t117 t118 (!t120))) else (ur.j1 kj2 t115 t117 t118 true))) = some (r1,r2,r3,r4):=H
        have A10:=Aside0.mk A100
        clear A100
        have HC11:=Aside0.mk H
        clear H
        go_upto_region 5 with (first | ((with_reducible refine u1u (f:=100) rfl ?_);refine u3e (some 20) rfl rfl Tryz.func100 (by kernel_rfl) rfl #[.string (a0.extract 7 a0.size)] rfl (by (try simp only [List.map_toArray,List.map_cons,List.map_nil]);first | done | rfl | (simp only [List.length_drop,List.length_take];rfl)) ?_;(with_reducible refine (u1v.calls kj2 (a0.extract 7 a0.size) t117 t118 _ A10.out).mono ?_);rintro e w' ⟨rfl,⟨nd,rfl⟩⟩;refine ⟨_,rfl,?_⟩))
        (try simp only [Act.put,List.setIfInBounds_toArray,List.set_cons_zero,List.set_cons_succ])
        go_cut [30] (fun v30 wc => ∃ (kq:Nat) (x30_10:Bool),v30 = .bool x30_10 ∧ Aside0 (ur.j1 kq t115 t117 t118 x30_10 = some (r1,r2,r3,r4)) ∧ Aside0 (kq ≤ kj2) ∧ Aside0 (wc.heap[gb114]? = some (.cells #[.string (⟨#[]⟩:ByteArray),.string (⟨#[]⟩:ByteArray),.string (⟨#[]⟩:ByteArray)] 34 (0,0))) ∧ Aside0 (Below w.heap.size w wc))
        case first =>
         have H:=HC11.out
         clear HC11
         replace H:=Option.bind_eq_some_iff.mp H
         obtain ⟨t119,A120,H⟩:=H
         replace H:(if t119 = true then ((uv.f t118 (⟨#[32]⟩:ByteArray)).bind fun t120 => (ur.j1 kj2 t115 t117 t118 (!t120))) else (ur.j1 kj2 t115 t117 t118 true)) = some (r1,r2,r3,r4):=H
         have A12:=Aside0.mk A120
         clear A120
         by_cases c13:t119 = true
         · subst c13
           have H1:((uv.f t118 (⟨#[32]⟩:ByteArray)).bind fun t120 => (ur.j1 kj2 t115 t117 t118 (!t120))) = some (r1,r2,r3,r4):=by rw [if_pos rfl] at H;exact H
           clear H
           have H:=H1
           clear H1
           replace H:=Option.bind_eq_some_iff.mp H
           obtain ⟨t120,A140,H⟩:=H
           replace H:(ur.j1 kj2 t115 t117 t118 (!t120)) = some (r1,r2,r3,r4):=H
           have A14:=Aside0.mk A140
           clear A140
           have H':=Aside0.mk H
           clear H
           go_wp2_with (first | ((with_reducible refine u1u (f:=37) rfl ?_);refine u3e (some 24) rfl rfl Tryz.func37 (by kernel_rfl) rfl #[.string t117] rfl (by (try simp only [List.map_toArray,List.map_cons,List.map_nil]);first | done | rfl | (simp only [List.length_drop,List.length_take];rfl)) ?_;(with_reducible refine (u1a.calls kj2 t117 true _ A12.out).mono ?_);rintro e w' ⟨rfl,⟨nd,rfl⟩⟩;refine ⟨_,rfl,?_⟩) | (go_at_call 23;(with_reducible refine (uv.calls t118 (⟨#[32]⟩:ByteArray) t120 _ A14.out).mono ?_);rintro e w' ⟨rfl,⟨nd,rfl⟩⟩))
           go_meet
           case rel => exact ⟨_,(!t120),(by first | rfl | (simp;done) | (simp [*];done)),H',⟨by have:=HJ2.out;first | omega | exact Nat.le_refl _⟩,⟨by (with_reducible repeat (first | refine ue ?_ _ | refine ug ?_ | refine uf ?_ _));exact BK114.out⟩,⟨by repeat (first | (with_reducible first | exact HB.out | apply uc | apply ub | apply ud | refine ui ?_ GE114.out) | exact HB.out)⟩⟩
         · replace c13:=Bool.eq_false_iff.mpr c13
           subst c13
           have H1:(ur.j1 kj2 t115 t117 t118 true) = some (r1,r2,r3,r4):=by rw [if_neg (show ¬ (false = true) by decide)] at H;exact H
           clear H
           have H:=H1
           clear H1
           have H':=Aside0.mk H
           clear H
           go_wp2_with (first | ((with_reducible refine u1u (f:=37) rfl ?_);refine u3e (some 24) rfl rfl Tryz.func37 (by kernel_rfl) rfl #[.string t117] rfl (by (try simp only [List.map_toArray,List.map_cons,List.map_nil]);first | done | rfl | (simp only [List.length_drop,List.length_take];rfl)) ?_;(with_reducible refine (u1a.calls kj2 t117 false _ A12.out).mono ?_);rintro e w' ⟨rfl,⟨nd,rfl⟩⟩;refine ⟨_,rfl,?_⟩))
           go_meet
           case rel => exact ⟨_,(true),(by first | rfl | (simp;done) | (simp [*];done)),H',⟨by have:=HJ2.out;first | omega | exact Nat.le_refl _⟩,⟨by (with_reducible repeat (first | refine ue ?_ _ | refine ug ?_ | refine uf ?_ _));exact BK114.out⟩,⟨by repeat (first | (with_reducible first | exact HB.out | apply uc | apply ub | apply ud | refine ui ?_ GE114.out) | exact HB.out)⟩⟩
        case rest =>
         clear HC11
         try clear c1
         try clear c2
         try clear p2
         try clear c3
         try clear c5
         try clear c7
         try clear c9
         try clear c9b0
         try clear c9b1
         try clear c10
         try clear c13
         try clear hcz8_0
         try clear hcz8_1
         try clear hcz8_2
         try clear hfz8_0
         try clear hfz8_1
         try clear hfz8_2
         try clear p2
         obtain ⟨kq,x30_10,rfl,HA,HJ10,BK114,HB⟩:=hcut
         cases kq with
         | zero => exact absurd HA.out (by simp [ur.j1])
         | succ kj10 =>
           have H:=HA.out
           clear HA
           simp only [ur.j1] at H
           by_cases c15:x30_10 = true
           · subst c15
             have H1:(some ((⟨#[]⟩:ByteArray),(⟨#[]⟩:ByteArray),(⟨#[]⟩:ByteArray),false)) = some (r1,r2,r3,r4):=by rw [if_pos rfl] at H;exact H
             clear H
             have H:=H1
             clear H1
             simp only [Option.some.injEq,Prod.mk.injEq] at H
             obtain ⟨rfl,rfl,rfl,rfl⟩:=H
             have hcz16_0:wc.cell? ⟨gb114,0,none⟩ = some (.string (⟨#[]⟩:ByteArray)):=(uj BK114.out 0).trans rfl
             have hcz16_1:wc.cell? ⟨gb114,1,none⟩ = some (.string (⟨#[]⟩:ByteArray)):=(uj BK114.out 1).trans rfl
             have hcz16_2:wc.cell? ⟨gb114,2,none⟩ = some (.string (⟨#[]⟩:ByteArray)):=(uj BK114.out 2).trans rfl
             have hfz16_0:=uk BK114.out 0
             have hfz16_1:=uk BK114.out 1
             have hfz16_2:=uk BK114.out 2
             go_wp2
             refine bodyPost_ret (results_ct rfl _ _ gb114 34 #[.string (⟨#[]⟩:ByteArray),.string (⟨#[]⟩:ByteArray),.string (⟨#[]⟩:ByteArray)] (0,0) _ rfl (by (with_reducible repeat (first | refine ue ?_ _ | refine ug ?_ | refine uf ?_ _));refine u2d (cs:=#[.string (⟨#[]⟩:ByteArray),.string (⟨#[]⟩:ByteArray),.string (⟨#[]⟩:ByteArray)]) ?_ 2 _ rfl;(with_reducible repeat (first | refine ue ?_ _ | refine ug ?_ | refine uf ?_ _));refine u2d (cs:=#[.string (⟨#[]⟩:ByteArray),.string (⟨#[]⟩:ByteArray),.string (⟨#[]⟩:ByteArray)]) ?_ 1 _ rfl;(with_reducible repeat (first | refine ue ?_ _ | refine ug ?_ | refine uf ?_ _));refine u2d (cs:=#[.string (⟨#[]⟩:ByteArray),.string (⟨#[]⟩:ByteArray),.string (⟨#[]⟩:ByteArray)]) ?_ 0 _ rfl;(with_reducible repeat (first | refine ue ?_ _ | refine ug ?_ | refine uf ?_ _));exact BK114.out) Tryz.underlying34 rfl (by kernel_rfl)) rfl ?_
             exact ⟨by first | rfl | (simp [u1k,u1l] <;> rfl) | (simp [*,u1k,u1l] <;> rfl),by repeat (first | (with_reducible first | exact HB.out | apply uc | apply ub | apply ud | refine ui ?_ GE114.out) | exact HB.out)⟩
           · replace c15:=Bool.eq_false_iff.mpr c15
             subst c15
             have H1:(if t115 = true then (if 1 ≤ (t118.size:Int) then ((u2l.f kj10 t118).bind fun t121 => (some (t117,(⟨#[]⟩:ByteArray),t118.extract 1 t118.size,t121))) else (none)) else (if 1 ≤ (t118.size:Int) then ((u2n.f kj10 (t118.extract 1 t118.size)).bind fun t122 => (some (t117,t118.extract 1 t118.size,(⟨#[]⟩:ByteArray),t122))) else (none))) = some (r1,r2,r3,r4):=by rw [if_neg (show ¬ (false = true) by decide)] at H;exact H
             clear H
             have H:=H1
             clear H1
             by_cases c17:t115 = true
             · subst c17
               have H1:(if 1 ≤ (t118.size:Int) then ((u2l.f kj10 t118).bind fun t121 => (some (t117,(⟨#[]⟩:ByteArray),t118.extract 1 t118.size,t121))) else (none)) = some (r1,r2,r3,r4):=by rw [if_pos rfl] at H;exact H
               clear H
               have H:=H1
               clear H1
               by_cases c18:1 ≤ (t118.size:Int)
               · rw [if_pos c18] at H
                 have c18b0:=eq_true c18
                 have c18b1:decide (1 ≤ (t118.size:Int)) = true:=decide_eq_true c18
                 clear c18
                 replace H:=Option.bind_eq_some_iff.mp H
                 obtain ⟨t121,A190,H⟩:=H
                 replace H:(some (t117,(⟨#[]⟩:ByteArray),t118.extract 1 t118.size,t121)) = some (r1,r2,r3,r4):=H
                 have A19:=Aside0.mk A190
                 clear A190
                 simp only [Option.some.injEq,Prod.mk.injEq] at H
                 obtain ⟨rfl,rfl,rfl,rfl⟩:=H
                 try go_wp2
                 have n0_:=Aside0.mk (ug BK114.out)
                 have n1_:=Aside0.mk (ud HB.out)
                 clear BK114
                 clear HB
                 have BK114:=n0_
                 have HB:=n1_
                 clear n0_ n1_
                 refine start_ (n:=8) (S:=fun w' => True) (ds:=[]) #[false,false,false,false,false,false,false,false] (by kernel_rfl) rfl rfl trivial (fun hHeld => ?_);refine with_tabW ur.tab8 ur.bits8 (fun HT_ HW_ => ?_)
                 generalize wc.drew = w20 at BK114 HB hHeld ⊢
                 refine pure_ (i:=0) (N:=some 33) (v:=?_) (a':=?_) #[true,false,false,false,false,false,false,false] rfl rfl (u2j HT_.out (by kernel_rfl)) (fun _ _ _ h => h) (Or.inl ⟨by rfl,?_⟩) ?_ ?_
                 rotate_left
                 · intro w'
                   go_simp
                   with_reducible rfl
                 rotate_left
                 · simp only [Act.put,List.setIfInBounds_toArray,List.set_cons_zero,List.set_cons_succ,i64_w,i32_w]
                   rfl
                 refine pure_ (i:=1) (N:=some 34) (v:=?_) (a':=?_) #[true,true,false,false,false,false,false,false] rfl rfl (u2j HT_.out (by kernel_rfl)) (fun _ _ _ h => h) (Or.inl ⟨by rfl,?_⟩) ?_ ?_
                 rotate_left
                 · intro w'
                   go_simp
                   with_reducible rfl
                 rotate_left
                 · simp only [Act.put,List.setIfInBounds_toArray,List.set_cons_zero,List.set_cons_succ,i64_w,i32_w]
                   rfl
                 refine pure_ (i:=2) (N:=some 35) (v:=?_) (a':=?_) #[true,true,true,false,false,false,false,false] rfl rfl (u2j HT_.out (by kernel_rfl)) (fun _ _ _ h => h) (Or.inl ⟨by rfl,?_⟩) ?_ ?_
                 rotate_left
                 · intro w'
                   go_simp
                   with_reducible rfl
                 rotate_left
                 · simp only [Act.put,List.setIfInBounds_toArray,List.set_cons_zero,List.set_cons_succ,i64_w,i32_w]
                   rfl
                 refine pure_ (i:=3) (N:=some 36) (v:=?_) (a':=?_) #[true,true,true,true,false,false,false,false] rfl rfl (u2j HT_.out (by kernel_rfl)) (fun _ _ _ h => h) (Or.inl ⟨by rfl,?_⟩) ?_ ?_
                 rotate_left
                 · intro w'
                   go_simp
                   with_reducible rfl
                 rotate_left
                 · simp only [Act.put,List.setIfInBounds_toArray,List.set_cons_zero,List.set_cons_succ,i64_w,i32_w]
                   rfl
                 refine pure_ (i:=4) (N:=some 37) (v:=?_) (a':=?_) #[true,true,true,true,true,false,false,false] rfl rfl (u2j HT_.out (by kernel_rfl)) (fun _ _ _ h => h) (Or.inl ⟨by rfl,?_⟩) ?_ ?_
                 rotate_left
                 · intro w'
                   go_simp
                   with_reducible rfl
                 rotate_left
                 · simp only [Act.put,List.setIfInBounds_toArray,List.set_cons_zero,List.set_cons_succ,i64_w,i32_w]
                   rfl
                 refine one_ (i:=5) (N:=some 38) #[true,true,true,true,true,true,false,false] rfl rfl (one_of HT_.out (by kernel_rfl)) (by decide) (fun K hK => ?_)
                 refine goes_ Tryz.func39 (by kernel_rfl) rfl #[.string t118] (by rfl) rfl rfl (by (try simp only [List.map_toArray,List.map_cons,List.map_nil]);first | done | rfl | (simp only [List.length_drop,List.length_take];rfl)) ?_
                 with_reducible refine (u2l.calls kj10 t118 t121 _ A19.out).mono ?_
                 rintro e w' ⟨rfl,⟨nd,rfl⟩⟩
                 refine ⟨_,rfl,?_⟩
                 refine hK.out _ _ trivial (fun hHeld => ?_)
                 clear hK K
                 refine norm_ (a':=?_) ?_ ?_
                 rotate_left
                 · show Act.put _ (some 38) _ = _
                   simp only [Act.put,List.setIfInBounds_toArray,List.set_cons_zero,List.set_cons_succ,i64_w,i32_w]
                   rfl
                 refine one_ (i:=6) (N:=none) #[true,true,true,true,true,true,true,false] rfl rfl (one_of HT_.out (by kernel_rfl)) (by decide) (fun K hK => ?_)
                 have hs21:w20.cell? ⟨gb114,0,none⟩ = some (.string (⟨#[]⟩:ByteArray)):=(uj BK114.out 0).trans rfl
                 have hfs21:=uk BK114.out 0
                 have hs22:w20.cell? ⟨gb114,1,none⟩ = some (.string (⟨#[]⟩:ByteArray)):=(uj BK114.out 1).trans rfl
                 have hfs22:=uk BK114.out 1
                 have hs23:w20.cell? ⟨gb114,2,none⟩ = some (.string (⟨#[]⟩:ByteArray)):=(uj BK114.out 2).trans rfl
                 have hfs23:=uk BK114.out 2
                 refine skip_ (w1:=?_) (by rfl) rfl ?_ ?_
                 rotate_left
                 · go_simp
                   rfl
                 refine hK.out _ _ trivial (fun hHeld => ?_)
                 clear hK K
                 refine pure_ (i:=7) (N:=some 3) (v:=?_) (a':=?_) #[true,true,true,true,true,true,true,true] rfl rfl (u2j HT_.out (by kernel_rfl)) (fun _ _ _ h => h) (Or.inl ⟨by rfl,?_⟩) ?_ ?_
                 rotate_left
                 · intro w'
                   go_simp
                   with_reducible rfl
                 rotate_left
                 · simp only [Act.put,List.setIfInBounds_toArray,List.set_cons_zero,List.set_cons_succ,i64_w,i32_w]
                   rfl
                 refine done_ (done_of HT_.out (by kernel_rfl)) ?_
                 try go_wp2
                 refine bodyPost_ret (results_ct rfl _ _ gb114 34 #[.string t117,.string (⟨#[]⟩:ByteArray),.string (t118.extract 1 t118.size)] (0,0) _ rfl (by (with_reducible repeat (first | refine ue ?_ _ | refine ug ?_ | refine uf ?_ _));refine u2d (cs:=#[.string t117,.string (⟨#[]⟩:ByteArray),.string (⟨#[]⟩:ByteArray)]) ?_ 2 _ rfl;(with_reducible repeat (first | refine ue ?_ _ | refine ug ?_ | refine uf ?_ _));refine u2d (cs:=#[.string t117,.string (⟨#[]⟩:ByteArray),.string (⟨#[]⟩:ByteArray)]) ?_ 1 _ rfl;(with_reducible repeat (first | refine ue ?_ _ | refine ug ?_ | refine uf ?_ _));refine u2d (cs:=#[.string (⟨#[]⟩:ByteArray),.string (⟨#[]⟩:ByteArray),.string (⟨#[]⟩:ByteArray)]) ?_ 0 _ rfl;(with_reducible repeat (first | refine ue ?_ _ | refine ug ?_ | refine uf ?_ _));exact BK114.out) Tryz.underlying34 rfl (by kernel_rfl)) rfl ?_
                 exact ⟨by first | rfl | (simp [u1k,u1l] <;> rfl) | (simp [*,u1k,u1l] <;> rfl),by repeat (first | (with_reducible first | exact HB.out | apply uc | apply ub | apply ud | refine ui ?_ GE114.out) | exact HB.out)⟩
               · rw [if_neg c18] at H
                 exact absurd H (by simp)
             · replace c17:=Bool.eq_false_iff.mpr c17
               subst c17
               have H1:(if 1 ≤ (t118.size:Int) then ((u2n.f kj10 (t118.extract 1 t118.size)).bind fun t122 => (some (t117,t118.extract 1 t118.size,(⟨#[]⟩:ByteArray),t122))) else (none)) = some (r1,r2,r3,r4):=by rw [if_neg (show ¬ (false = true) by decide)] at H;exact H
               clear H
               have H:=H1
               clear H1
               by_cases c24:1 ≤ (t118.size:Int)
               · rw [if_pos c24] at H
                 have c24b0:=eq_true c24
                 have c24b1:decide (1 ≤ (t118.size:Int)) = true:=decide_eq_true c24
                 clear c24
                 have c25b0:=eq_true (of_decide_eq_true (by first | (with_reducible assumption) | assumption):1 ≤ (t118.size:Int))
                 replace H:=Option.bind_eq_some_iff.mp H
                 obtain ⟨t122,A260,H⟩:=H
                 replace H:(some (t117,t118.extract 1 t118.size,(⟨#[]⟩:ByteArray),t122)) = some (r1,r2,r3,r4):=H
                 have A26:=Aside0.mk A260
                 clear A260
                 simp only [Option.some.injEq,Prod.mk.injEq] at H
                 obtain ⟨rfl,rfl,rfl,rfl⟩:=H
                 try go_wp2
                 have n0_:=Aside0.mk (ug BK114.out)
                 have n1_:=Aside0.mk (ud HB.out)
                 clear BK114
                 clear HB
                 have BK114:=n0_
                 have HB:=n1_
                 clear n0_ n1_
                 refine start_ (n:=9) (S:=fun w' => True) (ds:=[]) #[false,false,false,false,false,false,false,false,false] (by kernel_rfl) rfl rfl trivial (fun hHeld => ?_);refine with_tabW ur.tab9 ur.bits9 (fun HT_ HW_ => ?_)
                 generalize wc.drew = w27 at BK114 HB hHeld ⊢
                 refine pure_ (i:=0) (N:=some 39) (v:=?_) (a':=?_) #[true,false,false,false,false,false,false,false,false] rfl rfl (u2j HT_.out (by kernel_rfl)) (fun _ _ _ h => h) (Or.inl ⟨by rfl,?_⟩) ?_ ?_
                 rotate_left
                 · intro w'
                   go_simp
                   with_reducible rfl
                 rotate_left
                 · simp only [Act.put,List.setIfInBounds_toArray,List.set_cons_zero,List.set_cons_succ,i64_w,i32_w]
                   rfl
                 refine pure_ (i:=1) (N:=some 40) (v:=?_) (a':=?_) #[true,true,false,false,false,false,false,false,false] rfl rfl (u2j HT_.out (by kernel_rfl)) (fun _ _ _ h => h) (Or.inl ⟨by rfl,?_⟩) ?_ ?_
                 rotate_left
                 · intro w'
                   go_simp
                   with_reducible rfl
                 rotate_left
                 · simp only [Act.put,List.setIfInBounds_toArray,List.set_cons_zero,List.set_cons_succ,i64_w,i32_w]
                   rfl
                 refine pure_ (i:=2) (N:=some 41) (v:=?_) (a':=?_) #[true,true,true,false,false,false,false,false,false] rfl rfl (u2j HT_.out (by kernel_rfl)) (fun _ _ _ h => h) (Or.inl ⟨by rfl,?_⟩) ?_ ?_
                 rotate_left
                 · intro w'
                   go_simp
                   with_reducible rfl
                 rotate_left
                 · simp only [Act.put,List.setIfInBounds_toArray,List.set_cons_zero,List.set_cons_succ,i64_w,i32_w]
                   rfl
                 refine pure_ (i:=3) (N:=some 42) (v:=?_) (a':=?_) #[true,true,true,true,false,false,false,false,false] rfl rfl (u2j HT_.out (by kernel_rfl)) (fun _ _ _ h => h) (Or.inl ⟨by rfl,?_⟩) ?_ ?_
                 rotate_left
                 · intro w'
                   go_simp
                   with_reducible rfl
                 rotate_left
                 · simp only [Act.put,List.setIfInBounds_toArray,List.set_cons_zero,List.set_cons_succ,i64_w,i32_w]
                   rfl
                 refine pure_ (i:=4) (N:=some 43) (v:=?_) (a':=?_) #[true,true,true,true,true,false,false,false,false] rfl rfl (u2j HT_.out (by kernel_rfl)) (fun _ _ _ h => h) (Or.inl ⟨by rfl,?_⟩) ?_ ?_
                 rotate_left
                 · intro w'
                   go_simp
                   with_reducible rfl
                 rotate_left
                 · simp only [Act.put,List.setIfInBounds_toArray,List.set_cons_zero,List.set_cons_succ,i64_w,i32_w]
                   rfl
                 refine pure_ (i:=5) (N:=some 44) (v:=?_) (a':=?_) #[true,true,true,true,true,true,false,false,false] rfl rfl (u2j HT_.out (by kernel_rfl)) (fun _ _ _ h => h) (Or.inl ⟨by rfl,?_⟩) ?_ ?_
                 rotate_left
                 · intro w'
                   go_simp
                   with_reducible rfl
                 rotate_left
                 · simp only [Act.put,List.setIfInBounds_toArray,List.set_cons_zero,List.set_cons_succ,i64_w,i32_w]
                   rfl
                 refine one_ (i:=6) (N:=some 45) #[true,true,true,true,true,true,true,false,false] rfl rfl (one_of HT_.out (by kernel_rfl)) (by decide) (fun K hK => ?_)
                 refine goes_ Tryz.func38 (by kernel_rfl) rfl #[.string (t118.extract 1 t118.size)] (by rfl) rfl rfl (by (try simp only [List.map_toArray,List.map_cons,List.map_nil]);first | done | rfl | (simp only [List.length_drop,List.length_take];rfl)) ?_
                 with_reducible refine (u2n.calls kj10 (t118.extract 1 t118.size) t122 _ A26.out).mono ?_
                 rintro e w28 ⟨rfl,hb⟩
                 refine ⟨_,rfl,?_⟩
                 have n0_:=Aside0.mk (u2c (g:=gb114) (o:=.cells #[.string (⟨#[]⟩:ByteArray),.string (⟨#[]⟩:ByteArray),.string (⟨#[]⟩:ByteArray)] 34 (0,0)) (by (with_reducible repeat (first | refine ue ?_ _ | refine ug ?_ | refine uf ?_ _));exact BK114.out) hb)
                 have n1_:=Aside0.mk (u1h (by repeat (first | (with_reducible first | exact HB.out | apply uc | apply ub | apply ud | refine ui ?_ GE114.out) | exact HB.out)) hb)
                 clear BK114
                 clear HB
                 have BK114:=n0_
                 have HB:=n1_
                 clear n0_ n1_
                 (try clear hb)
                 (try clear hb2)
                 (try clear hk)
                 (try clear hi)
                 refine hK.out _ _ trivial (fun hHeld => ?_)
                 clear hK K
                 refine norm_ (a':=?_) ?_ ?_
                 rotate_left
                 · show Act.put _ (some 45) _ = _
                   simp only [Act.put,List.setIfInBounds_toArray,List.set_cons_zero,List.set_cons_succ,i64_w,i32_w]
                   rfl
                 refine one_ (i:=7) (N:=none) #[true,true,true,true,true,true,true,true,false] rfl rfl (one_of HT_.out (by kernel_rfl)) (by decide) (fun K hK => ?_)
                 have hs29:w28.cell? ⟨gb114,0,none⟩ = some (.string (⟨#[]⟩:ByteArray)):=(uj BK114.out 0).trans rfl
                 have hfs29:=uk BK114.out 0
                 have hs30:w28.cell? ⟨gb114,1,none⟩ = some (.string (⟨#[]⟩:ByteArray)):=(uj BK114.out 1).trans rfl
                 have hfs30:=uk BK114.out 1
                 have hs31:w28.cell? ⟨gb114,2,none⟩ = some (.string (⟨#[]⟩:ByteArray)):=(uj BK114.out 2).trans rfl
                 have hfs31:=uk BK114.out 2
                 refine skip_ (w1:=?_) (by rfl) rfl ?_ ?_
                 rotate_left
                 · go_simp
                   rfl
                 refine hK.out _ _ trivial (fun hHeld => ?_)
                 clear hK K
                 refine pure_ (i:=8) (N:=some 3) (v:=?_) (a':=?_) #[true,true,true,true,true,true,true,true,true] rfl rfl (u2j HT_.out (by kernel_rfl)) (fun _ _ _ h => h) (Or.inl ⟨by rfl,?_⟩) ?_ ?_
                 rotate_left
                 · intro w'
                   go_simp
                   with_reducible rfl
                 rotate_left
                 · simp only [Act.put,List.setIfInBounds_toArray,List.set_cons_zero,List.set_cons_succ,i64_w,i32_w]
                   rfl
                 refine done_ (done_of HT_.out (by kernel_rfl)) ?_
                 try go_wp2
                 refine bodyPost_ret (results_ct rfl _ _ gb114 34 #[.string t117,.string (t118.extract 1 t118.size),.string (⟨#[]⟩:ByteArray)] (0,0) _ rfl (by (with_reducible repeat (first | refine ue ?_ _ | refine ug ?_ | refine uf ?_ _));refine u2d (cs:=#[.string t117,.string (t118.extract 1 t118.size),.string (⟨#[]⟩:ByteArray)]) ?_ 2 _ rfl;(with_reducible repeat (first | refine ue ?_ _ | refine ug ?_ | refine uf ?_ _));refine u2d (cs:=#[.string t117,.string (⟨#[]⟩:ByteArray),.string (⟨#[]⟩:ByteArray)]) ?_ 1 _ rfl;(with_reducible repeat (first | refine ue ?_ _ | refine ug ?_ | refine uf ?_ _));refine u2d (cs:=#[.string (⟨#[]⟩:ByteArray),.string (⟨#[]⟩:ByteArray),.string (⟨#[]⟩:ByteArray)]) ?_ 0 _ rfl;(with_reducible repeat (first | refine ue ?_ _ | refine ug ?_ | refine uf ?_ _));exact BK114.out) Tryz.underlying34 rfl (by kernel_rfl)) rfl ?_
                 exact ⟨by first | rfl | (simp [u1k,u1l] <;> rfl) | (simp [*,u1k,u1l] <;> rfl),by repeat (first | (with_reducible first | exact HB.out | apply uc | apply ub | apply ud | refine ui ?_ GE114.out) | exact HB.out)⟩
               · rw [if_neg c24] at H
                 exact absurd H (by simp)
      · rw [if_neg c9] at H
        exact absurd H (by simp)
def ul.f:Option Int:=none
theorem ul.ta_nil (w:World):(Instr.typeAssert Value.nilIface 20 83 true).run Tryz.prog w = .ok (.tuple #[.agg #[.int .i64 0],.bool false]) w:=by kernel_rfl
theorem ul.ta_hit (c:Int) (w:World):(Instr.typeAssert (Value.iface 83 (.agg #[.int .i64 c])) 20 83 true).run Tryz.prog w = .ok (.tuple #[.agg #[.int .i64 c],.bool true]) w:=by kernel_rfl
set_option maxRecDepth 100000 in
theorem ul.catch_idle (p q:Addr) (w:World) :
 CallsD Tryz.prog 44 #[.pointer (some p),.pointer (some q)] .returning w fun e u' w' => e = .returned (.tuple #[]) ∧ u' = .returning ∧ w' = w.alloc (.cells #[.int .i64 0] 83):=by
 have h1:=ul.ta_nil
 refine callsD_of_wpS Tryz.func44 rfl fun c₀ cs hu => ?_
 apply wpS_seq
 apply wpS_region
 simp [wpOpsS,go_sem,recoverD,hu,Tryz.ntmps44,Exit.thenS,h1,Array.replicate]
 refine wpS_of_wp ?_
 go_wp2
 cases c₀
 simp_all [bodyPostS,results,Tryz.results44]
structure ul.Cleared (w w':World) (b q:Nat) (c:Int):Prop where
 said:w'.heap[b]? = some (.cells #[.slice none 0 0,.int .i64 0,.int .u64 0,.bool false,.string ⟨#[]⟩,.string ⟨#[]⟩,.string ⟨#[]⟩] 55 (0,0))
 code:w'.heap[q]? = some (.cells #[.int .i64 c] 26 (0,0))
 rest:∀ B,B ≤ w.heap.size → B ≤ b → B ≤ q → Below B w w'
theorem ul.look7 {W:World} {b t:Nat} {v0 v1 v2 v3 v4 v5 v6:Value} (h:W.heap[b]? = some (.cells #[v0,v1,v2,v3,v4,v5,v6] t (0,0))):(W.cell? ⟨b,0,none⟩ = some v0 ∧ W.cell? ⟨b,1,none⟩ = some v1 ∧ W.cell? ⟨b,2,none⟩ = some v2 ∧ W.cell? ⟨b,3,none⟩ = some v3 ∧ W.cell? ⟨b,4,none⟩ = some v4 ∧ W.cell? ⟨b,5,none⟩ = some v5 ∧ W.cell? ⟨b,6,none⟩ = some v6) ∧ (∀ i,W.frozen? ⟨b,i,none⟩ = false):=by
 have h0:=uj h 0
 have h1:=uj h 1
 have h2:=uj h 2
 have h3:=uj h 3
 have h4:=uj h 4
 have h5:=uj h 5
 have h6:=uj h 6
 simp only [List.size_toArray,List.length_cons,List.length_nil,List.getElem?_toArray,List.getElem?_cons_zero,List.getElem?_cons_succ] at h0 h1 h2 h3 h4 h5 h6
 exact ⟨⟨h0,h1,h2,h3,h4,h5,h6⟩,fun i => uk h i⟩
theorem ul.look1 {W:World} {b t:Nat} {v:Value} (h:W.heap[b]? = some (.cells #[v] t (0,0))):W.cell? ⟨b,0,none⟩ = some v ∧ W.frozen? ⟨b,0,none⟩ = false:=by
 have h0:=uj h 0
 simp only [List.size_toArray,List.length_cons,List.length_nil,List.getElem?_toArray,List.getElem?_cons_zero,List.getElem?_cons_succ] at h0
 exact ⟨h0,uk h 0⟩
theorem ul.set7 {W:World} {b t:Nat} {v0 v1 v2 v3 v4 v5 v6:Value} (h:W.heap[b]? = some (.cells #[v0,v1,v2,v3,v4,v5,v6] t (0,0))) (u0 u1 u2 u3 u4 u5 u6:Value):(((((((W.setCell ⟨b,0,none⟩ u0).setCell ⟨b,1,none⟩ u1).setCell ⟨b,2,none⟩ u2).setCell ⟨b,3,none⟩ u3).setCell ⟨b,4,none⟩ u4).setCell ⟨b,5,none⟩ u5).setCell ⟨b,6,none⟩ u6).heap[b]? = some (.cells #[u0,u1,u2,u3,u4,u5,u6] t (0,0)):=by
 have h0:=blk_set h 0 u0
 have h1:=blk_set h0 1 u1
 have h2:=blk_set h1 2 u2
 have h3:=blk_set h2 3 u3
 have h4:=blk_set h3 4 u4
 have h5:=blk_set h4 5 u5
 have h6:=blk_set h5 6 u6
 simp only [List.setIfInBounds_toArray,List.set_cons_zero,List.set_cons_succ] at h6
 exact h6
theorem ul.below7 {w W:World} {B b:Nat} (h:Below B w W) (hb:B ≤ b) (u0 u1 u2 u3 u4 u5 u6:Value):Below B w (((((((W.setCell ⟨b,0,none⟩ u0).setCell ⟨b,1,none⟩ u1).setCell ⟨b,2,none⟩ u2).setCell ⟨b,3,none⟩ u3).setCell ⟨b,4,none⟩ u4).setCell ⟨b,5,none⟩ u5).setCell ⟨b,6,none⟩ u6):=by
 have h0:=h.setCell (p:=⟨b,0,none⟩) hb u0
 have h1:=h0.setCell (p:=⟨b,1,none⟩) hb u1
 have h2:=h1.setCell (p:=⟨b,2,none⟩) hb u2
 have h3:=h2.setCell (p:=⟨b,3,none⟩) hb u3
 have h4:=h3.setCell (p:=⟨b,4,none⟩) hb u4
 have h5:=h4.setCell (p:=⟨b,5,none⟩) hb u5
 exact h5.setCell (p:=⟨b,6,none⟩) hb u6
theorem ul.far7 {W:World} {b k:Nat} {o:Obj} (h:W.heap[k]? = some o) (hk:k ≠ b) (u0 u1 u2 u3 u4 u5 u6:Value):(((((((W.setCell ⟨b,0,none⟩ u0).setCell ⟨b,1,none⟩ u1).setCell ⟨b,2,none⟩ u2).setCell ⟨b,3,none⟩ u3).setCell ⟨b,4,none⟩ u4).setCell ⟨b,5,none⟩ u5).setCell ⟨b,6,none⟩ u6).heap[k]? = some o:=by
 rw [Below.heap_setCell _ ⟨b,6,none⟩ _ k hk,Below.heap_setCell _ ⟨b,5,none⟩ _ k hk,Below.heap_setCell _ ⟨b,4,none⟩ _ k hk,Below.heap_setCell _ ⟨b,3,none⟩ _ k hk,Below.heap_setCell _ ⟨b,2,none⟩ _ k hk,Below.heap_setCell _ ⟨b,1,none⟩ _ k hk,Below.heap_setCell _ ⟨b,0,none⟩ _ k hk,h]
theorem ul.same7 (W:World) {b k:Nat} (hk:k ≠ b) (u0 u1 u2 u3 u4 u5 u6:Value):(((((((W.setCell ⟨b,0,none⟩ u0).setCell ⟨b,1,none⟩ u1).setCell ⟨b,2,none⟩ u2).setCell ⟨b,3,none⟩ u3).setCell ⟨b,4,none⟩ u4).setCell ⟨b,5,none⟩ u5).setCell ⟨b,6,none⟩ u6).heap[k]? = W.heap[k]? := by
 rw [Below.heap_setCell _ ⟨b,6,none⟩ _ k hk,Below.heap_setCell _ ⟨b,5,none⟩ _ k hk,Below.heap_setCell _ ⟨b,4,none⟩ _ k hk,Below.heap_setCell _ ⟨b,3,none⟩ _ k hk,Below.heap_setCell _ ⟨b,2,none⟩ _ k hk,Below.heap_setCell _ ⟨b,1,none⟩ _ k hk,Below.heap_setCell _ ⟨b,0,none⟩ _ k hk]
theorem ul.cleared {w Wx:World} {b q:Nat} {v0 v1 v2 v3 v4 v5 v6 v7:Value} (hW:Below w.heap.size w Wx) (hbq:¬ b = q) (hb:Wx.heap[b]? = some (.cells #[v0,v1,v2,v3,v4,v5,v6] 55 (0,0))) (hq:Wx.heap[q]? = some (.cells #[v7] 26 (0,0))) (h1:b < w.heap.size) (h2:q < w.heap.size) (c:Int) :
 ul.Cleared w (((((((((Wx.setCell ⟨b,0,none⟩ (.slice none 0 0)).setCell ⟨b,1,none⟩ (.int .i64 0)).setCell ⟨b,2,none⟩ (.int .u64 0)).setCell ⟨b,3,none⟩ (.bool false)).setCell ⟨b,4,none⟩ (.string ⟨#[]⟩)).setCell ⟨b,5,none⟩ (.string ⟨#[]⟩)).setCell ⟨b,6,none⟩ (.string ⟨#[]⟩)).setCell ⟨q,0,none⟩ (.int .i64 c)).drew) b q c:=by
 have s7:=ul.set7 hb (.slice none 0 0) (.int .i64 0) (.int .u64 0) (.bool false) (.string ⟨#[]⟩) (.string ⟨#[]⟩) (.string ⟨#[]⟩)
 have f7:=ul.far7 hq (fun e => hbq e.symm) (.slice none 0 0) (.int .i64 0) (.int .u64 0) (.bool false) (.string ⟨#[]⟩) (.string ⟨#[]⟩) (.string ⟨#[]⟩)
 have b7:=fun B (hB:B ≤ w.heap.size) (hb2:B ≤ b) => ul.below7 (hW.mono hB) hb2 (.slice none 0 0) (.int .i64 0) (.int .u64 0) (.bool false) (.string ⟨#[]⟩) (.string ⟨#[]⟩) (.string ⟨#[]⟩)
 generalize ((((((Wx.setCell ⟨b,0,none⟩ (.slice none 0 0)).setCell ⟨b,1,none⟩ (.int .i64 0)).setCell ⟨b,2,none⟩ (.int .u64 0)).setCell ⟨b,3,none⟩ (.bool false)).setCell ⟨b,4,none⟩ (.string ⟨#[]⟩)).setCell ⟨b,5,none⟩ (.string ⟨#[]⟩)).setCell ⟨b,6,none⟩ (.string ⟨#[]⟩) = W7 at s7 f7 b7 ⊢
 have q1:=blk_set f7 0 (.int .i64 c)
 simp only [List.setIfInBounds_toArray,List.set_cons_zero] at q1
 exact ⟨(Below.heap_setCell W7 ⟨q,0,none⟩ (.int .i64 c) b hbq).trans s7,q1,fun B hB hb2 hq2 => ud ((b7 B hB hb2).setCell (p:=⟨q,0,none⟩) hq2 _)⟩
set_option maxRecDepth 100000 in
set_option maxHeartbeats 2000000 in
theorem ul.catch_fault (b q:Nat) (hbq:¬ b = q) (v0 v1 v2 v3 v4 v5 v6 v7:Value) (c:Int) (older:List PanicEntry) (w:World) (hb:w.heap[b]? = some (.cells #[v0,v1,v2,v3,v4,v5,v6] 55 (0,0))) (hq:w.heap[q]? = some (.cells #[v7] 26 (0,0))) :
 CallsD Tryz.prog 44 #[.pointer (some ⟨b,0,none⟩),.pointer (some ⟨q,0,none⟩)] (.panicking ({ v:=.iface 83 (.agg #[.int .i64 c]),recovered:=false } :: older)) w fun e u' w' => e = .returned (.tuple #[]) ∧ u' = .panicking ({ v:=.iface 83 (.agg #[.int .i64 c]),recovered:=true } :: older) ∧ ul.Cleared w w' b q c:=by
 have h1:=ul.ta_hit
 have hb2:=ua.new_old hb (.cells #[.int .i64 c] 83)
 have hq2:=ua.new_old hq (.cells #[.int .i64 c] 83)
 have HB:=Aside0.mk hb2
 have HQ:=Aside0.mk hq2
 have L1:=Aside0.mk (u3g hb)
 have L2:=Aside0.mk (u3g hq)
 obtain ⟨⟨a0,a1,a2,a3,a4,a5,a6⟩,fa⟩:=ul.look7 hb2
 obtain ⟨d0,fd⟩:=ul.look1 hq2
 have n1:¬ q = b:=fun e => hbq e.symm
 clear hb hq hb2 hq2
 refine callsD_of_wpS Tryz.func44 rfl fun c₀ cs hu => ?_
 apply wpS_seq
 apply wpS_region
 simp [wpOpsS,go_sem,recoverD,hu,Tryz.ntmps44,Exit.thenS,h1,Array.replicate]
 refine wpS_of_wp ?_
 go_wp2_with fail
 have x0:=(ul.look1 (ua.new_at w (.cells #[.int .i64 c] 83))).1
 have hW:Aside0 (Below w.heap.size w (w.alloc (.cells #[.int .i64 c] 83))):=⟨uc (Below.refl _ _) _⟩
 have m1:¬ w.heap.size = b:=by have:=L1.out;omega
 have m2:¬ w.heap.size = q:=by have:=L2.out;omega
 have m3:¬ b = w.heap.size:=fun e => m1 e.symm
 have m4:¬ q = w.heap.size:=fun e => m2 e.symm
 generalize w.alloc (.cells #[.int .i64 c] 83) = Wx at *
 generalize w.heap.size = zz at x0 m1 m2 m3 m4 ⊢
 have mixed:Tryz.prog.follows .mixedOrders = true:=by kernel_rfl
 go_big_region_o
 have HC:=Aside0.mk (ul.cleared hW.out hbq HB.out HQ.out L1.out L2.out c)
 clear HB HQ hW fa fd a0 a1 a2 a3 a4 a5 a6 d0 L1 L2
 change bodyPostS _ _ _ _ _ _ _ _ _
 cases c₀
 simp_all [bodyPostS,results,Tryz.results44]
 exact HC.out
def ul.Out (W:World) (o:Option Tx.Rw × Tx.Me × Int) (e:Ending) (W':World):Prop:=∃ v:Value,e = .returned (.tuple #[.agg #[v,.int .i64 (match o.1 with | none => 0 | some r => r.f1),.int .u64 (match o.1 with | none => 0 | some r => r.f2),.bool o.1.isSome,.string o.2.1.1,.string o.2.1.2.1,.string o.2.1.2.2],.int .i64 o.2.2]) ∧ Kd.R k66 66 W' W.heap.size (fun _ => True) v (match o.1 with | none => [] | some r => r.f0) ∧ Below W.heap.size W W'
theorem ul.out_fault {W W':World} {c:Int} {o:Option Tx.Rw × Tx.Me × Int} (ho:o = (none,Tx.me0,c)) (hb:Below W.heap.size W W'):ul.Out W o (.returned (.tuple #[.agg #[.slice none 0 0,.int .i64 0,.int .u64 0,.bool false,.string ⟨#[]⟩,.string ⟨#[]⟩,.string ⟨#[]⟩],.int .i64 c])) W':=by
 subst ho
 exact ⟨_,rfl,Kd.R_nil _ _ _ _ _,hb⟩
structure ul.Pre (W w:World):Prop where
 said:w.heap[W.heap.size]? = some (.cells #[.slice none 0 0,.int .i64 0,.int .u64 0,.bool false,.string ⟨#[]⟩,.string ⟨#[]⟩,.string ⟨#[]⟩] 55 (0,0))
 code:w.heap[W.heap.size + 1]? = some (.cells #[.int .i64 0] 26 (0,0))
 below:Below W.heap.size W w
theorem ul.pre_start (W:World) (o:Obj):ul.Pre W (((W.alloc (.cells #[.slice none 0 0,.int .i64 0,.int .u64 0,.bool false,.string ⟨#[]⟩,.string ⟨#[]⟩,.string ⟨#[]⟩] 55)).alloc (.cells #[.int .i64 0] 26)).alloc o):=by
 have h1:=ua.new_at W (.cells #[.slice none 0 0,.int .i64 0,.int .u64 0,.bool false,.string ⟨#[]⟩,.string ⟨#[]⟩,.string ⟨#[]⟩] 55)
 have h2:=ua.new_at (W.alloc (.cells #[.slice none 0 0,.int .i64 0,.int .u64 0,.bool false,.string ⟨#[]⟩,.string ⟨#[]⟩,.string ⟨#[]⟩] 55)) (.cells #[.int .i64 0] 26)
 rw [World.size_alloc] at h2
 exact ⟨ua.new_old (ua.new_old h1 _) _,ua.new_old h2 _,uc (uc (uc (Below.refl _ _) _) _) _⟩
def ul.mk2 (W:World):World:=(W.alloc (.cells #[.slice none 0 0,.int .i64 0,.int .u64 0,.bool false,.string ⟨#[]⟩,.string ⟨#[]⟩,.string ⟨#[]⟩] 55)).alloc (.cells #[.int .i64 0] 26)
theorem ul.mk2_size (W:World):(ul.mk2 W).heap.size = W.heap.size + 1 + 1:=by
 unfold ul.mk2
 rw [World.size_alloc,World.size_alloc]
theorem ul.st_start (W:World) (s:List UInt8):ua.St (ul.mk2 W) (((W.alloc (.cells #[.slice none 0 0,.int .i64 0,.int .u64 0,.bool false,.string ⟨#[]⟩,.string ⟨#[]⟩,.string ⟨#[]⟩] 55)).alloc (.cells #[.int .i64 0] 26)).alloc (.cells #[.string (Base.ofL s)] 87)) (W.heap.size + 1 + 1) s:=by
 have h2:=ua.new_at (ul.mk2 W) (.cells #[.string (Base.ofL s)] 87)
 rw [ul.mk2_size] at h2
 exact ⟨uc (Below.refl _ _) _,by rw [ul.mk2_size];exact Nat.le_refl _,h2⟩
theorem ul.pre_of {W w:World} (h:Below (ul.mk2 W).heap.size (ul.mk2 W) w):ul.Pre W w:=by
 have h1:=ua.new_at W (.cells #[.slice none 0 0,.int .i64 0,.int .u64 0,.bool false,.string ⟨#[]⟩,.string ⟨#[]⟩,.string ⟨#[]⟩] 55)
 have h2:=ua.new_at (W.alloc (.cells #[.slice none 0 0,.int .i64 0,.int .u64 0,.bool false,.string ⟨#[]⟩,.string ⟨#[]⟩,.string ⟨#[]⟩] 55)) (.cells #[.int .i64 0] 26)
 rw [World.size_alloc] at h2
 exact ⟨ua.below_at h (ua.new_old h1 _),ua.below_at h h2,u1h (uc (uc (Below.refl _ _) _) _) (h.mono (by rw [ul.mk2_size,World.size_alloc,World.size_alloc];exact Nat.le_refl _))⟩
theorem ul.Pre.keep {W w w':World} (h:ul.Pre W w) (hb:Below W.heap.size W w') (hk:u2a w w' (W.heap.size + 1 + 1) none):ul.Pre W w' :=
 ⟨ua.kept_at hk (by omega) h.said,ua.kept_at hk (by omega) h.code,hb⟩
theorem ul.Pre.drew {W w:World} (h:ul.Pre W w) (n:Nat):ul.Pre W (w.drewN n):=⟨h.said,h.code,ub h.below n⟩
structure ul.Fin (W V w:World) (u0 u1 u2 u3 u4 u5 u6:Value):Prop where
 said:w.heap[W.heap.size]? = some (.cells #[u0,u1,u2,u3,u4,u5,u6] 55 (0,0))
 code:w.heap[W.heap.size + 1]? = some (.cells #[.int .i64 0] 26 (0,0))
 below:Below W.heap.size W w
 far:∀ k,k ≠ W.heap.size → k ≠ W.heap.size + 1 → w.heap[k]? = V.heap[k]?
theorem ul.fin7 {W V:World} {v0 v1 v2 v3 v4 v5 v6 v7:Value} (hs:V.heap[W.heap.size]? = some (.cells #[v0,v1,v2,v3,v4,v5,v6] 55 (0,0))) (hc:V.heap[W.heap.size + 1]? = some (.cells #[v7] 26 (0,0))) (hb:Below W.heap.size W V) (u0 u1 u2 u3 u4 u5 u6:Value) :
 ul.Fin W V ((((((((V.setCell ⟨W.heap.size,0,none⟩ u0).setCell ⟨W.heap.size,1,none⟩ u1).setCell ⟨W.heap.size,2,none⟩ u2).setCell ⟨W.heap.size,3,none⟩ u3).setCell ⟨W.heap.size,4,none⟩ u4).setCell ⟨W.heap.size,5,none⟩ u5).setCell ⟨W.heap.size,6,none⟩ u6).setCell ⟨W.heap.size + 1,0,none⟩ (.int .i64 0)) u0 u1 u2 u3 u4 u5 u6:=by
 have s7:=ul.set7 hs u0 u1 u2 u3 u4 u5 u6
 have f7:=ul.far7 hc (show W.heap.size + 1 ≠ W.heap.size by omega) u0 u1 u2 u3 u4 u5 u6
 have b7:=ul.below7 hb (Nat.le_refl _) u0 u1 u2 u3 u4 u5 u6
 have k7:=fun k (hk:k ≠ W.heap.size) => ul.same7 V hk u0 u1 u2 u3 u4 u5 u6
 generalize ((((((V.setCell ⟨W.heap.size,0,none⟩ u0).setCell ⟨W.heap.size,1,none⟩ u1).setCell ⟨W.heap.size,2,none⟩ u2).setCell ⟨W.heap.size,3,none⟩ u3).setCell ⟨W.heap.size,4,none⟩ u4).setCell ⟨W.heap.size,5,none⟩ u5).setCell ⟨W.heap.size,6,none⟩ u6 = W7 at s7 f7 b7 k7 ⊢
 have q1:=blk_set f7 0 (.int .i64 0)
 simp only [List.setIfInBounds_toArray,List.set_cons_zero] at q1
 exact ⟨(Below.heap_setCell W7 ⟨W.heap.size + 1,0,none⟩ (.int .i64 0) W.heap.size (by show W.heap.size ≠ W.heap.size + 1;omega)).trans s7,q1,b7.setCell (p:=⟨W.heap.size + 1,0,none⟩) (by show W.heap.size ≤ W.heap.size + 1;omega) _,fun k h1 h2 => (Below.heap_setCell W7 ⟨W.heap.size + 1,0,none⟩ (.int .i64 0) k h2).trans (k7 k h1)⟩
theorem ul.out_meta {W W':World} {m:Tx.Me} {o:Option Tx.Rw × Tx.Me × Int} (ho:o = (none,m,0)) (hb:Below W.heap.size W W'):ul.Out W o (.returned (.tuple #[.agg #[.slice none 0 0,.int .i64 0,.int .u64 0,.bool false,.string m.1,.string m.2.1,.string m.2.2],.int .i64 0])) W':=by
 subst ho
 exact ⟨_,rfl,Kd.R_nil _ _ _ _ _,hb⟩
theorem ul.out_row {W W':World} {r:Tx.Rw} {o:Option Tx.Rw × Tx.Me × Int} (ho:o = (some r,Tx.me0,0)) {v:Value} (hr:Kd.R k66 66 W' W.heap.size (fun _ => True) v r.f0) (hb:Below W.heap.size W W'):ul.Out W o (.returned (.tuple #[.agg #[v,.int .i64 r.f1,.int .u64 r.f2,.bool true,.string ⟨#[]⟩,.string ⟨#[]⟩,.string ⟨#[]⟩],.int .i64 0])) W':=by
 subst ho
 exact ⟨v,rfl,hr,hb⟩
theorem ul.rm_no (w0 W:World) (g:Nat) (s:List UInt8) (hl:s.length ≤ 1000) (hr:Tx.remarkP s = none) (h:ua.St w0 W g s):Calls Tryz.prog 48 #[.pointer (some ⟨g,0,none⟩)] W fun e W' => e = .panicked (u2u.chain 280) ∧ Below w0.heap.size w0 W' :=
 (uw.calls w0 W g s hl h).mono fun e W' ho => by rw [hr] at ho;exact ho
theorem ul.rm_ok (w0 W:World) (g:Nat) (s:List UInt8) (hl:s.length ≤ 1000) (m:Tx.Me) (hr:Tx.remarkP s = some m) (h:ua.St w0 W g s):Calls Tryz.prog 48 #[.pointer (some ⟨g,0,none⟩)] W fun e W' => e = .returned (.agg #[.string m.1,.string m.2.1,.string m.2.2]) ∧ Below w0.heap.size w0 W' :=
 (uw.calls w0 W g s hl h).mono fun e W' ho => by rw [hr] at ho;exact ⟨ho.1,ho.2.1⟩
theorem ul.ib_at (s:List UInt8):∃ z:Int,decide (0 ≤ z) = s.contains 10 ∧ ∀ w:World,Calls Tryz.prog 46 #[.string (Base.ofL s),.int .u8 10] w fun e w' => e = .returned (.int .i64 z) ∧ w' = w:=by
 refine ⟨Lib.indexByte s 10,(Lib.contains_iff_indexByte s 10).symm,fun w => ?_⟩
 have h:=strings_IndexByte.calls (Base.ofL s) 10 w
 rw [Base.ofL_data] at h
 exact h
theorem ul.dw_nil (p:UInt8 → Bool):∀ l:List UInt8,l.dropWhile p = [] ↔ ∀ x ∈ l,p x = true
 | [] => by simp
 | c :: l => by
   rw [List.dropWhile_cons]
   by_cases h:p c = true
   · rw [if_pos h,ul.dw_nil p l]
     simp [h]
   · rw [if_neg h]
     simp [h]
theorem ul.dw_head (p:UInt8 → Bool):∀ (l:List UInt8) (y:UInt8) (r:List UInt8),l.dropWhile p = y :: r → p y = false
 | [],y,r,h => by cases h
 | c :: l,y,r,h => by
   rw [List.dropWhile_cons] at h
   by_cases hc:p c = true
   · rw [if_pos hc] at h
     exact ul.dw_head p l y r h
   · rw [if_neg hc] at h
     obtain ⟨rfl,_⟩:=List.cons.inj h
     simpa using hc
theorem ul.trim_nil (s:List UInt8):(Lib.trimS s [32,9] = []) = (s.all Tx.blankC = true):=by
 have hp:∀ c:UInt8,([32,9]:List UInt8).contains c = Tx.blankC c:=fun c => by
  unfold Tx.blankC
  rw [Bool.eq_iff_iff]
  simp
 have hf:(fun c => ([32,9]:List UInt8).contains c) = Tx.blankC:=funext hp
 unfold Lib.trimS Lib.trimLeftS Lib.trimRightS
 rw [hf]
 apply propext
 rw [ul.dw_nil,List.all_eq_true]
 constructor
 · intro h x hx
   cases he:s.reverse.dropWhile Tx.blankC with
   | nil => exact (ul.dw_nil _ _).1 he x (List.mem_reverse.2 hx)
   | cons y r =>
     have h1:Tx.blankC y = true:=h y (by rw [he];simp)
     have h2:=ul.dw_head Tx.blankC s.reverse y r he
     rw [h1] at h2
     cases h2
 · intro h x hx
   have h1:x ∈ s.reverse:=(List.dropWhile_sublist _).subset (List.mem_reverse.1 hx)
   exact h x (List.mem_reverse.1 h1)
theorem ul.after_fault {W w w':World} {c:Int} (h:ul.Pre W w) (hC:ul.Cleared w w' W.heap.size (W.heap.size + 1) c):Below W.heap.size W w' :=
 below_weaken h.below (Nat.le_refl _) (hC.rest W.heap.size h.below.size (Nat.le_refl _) (by omega))
set_option maxRecDepth 100000 in
set_option maxHeartbeats 2000000 in
theorem ul.too_long (can:List Tx.Lb → Bool) (W:World) (s:List UInt8) (now:Int) (hm:s.length ≤ 4611686018427387904) (hl:s.length > 1000) :
 Calls Tryz.prog 18 #[.string (Base.ofL s),.int .i64 now] W fun e W' => ul.Out W (Tx.readP can s now) e W':=by
 have hmf:∀ (fn:Fn) (first cap:Array Value) (w:World),(Instr.makeFunc fn first cap).run Tryz.prog w = .ok (.func fn first cap) w:=fun _ _ _ _ => rfl
 have hsz:(Base.ofL s).size = s.length:=(Tx.cut_ofL s 0 (by omega)).2.2
 have HE:Aside0 (Tx.readP can s now = (none,Tx.me0,4)):=⟨by unfold Tx.readP;rw [if_pos hl]⟩
 have hd2:(1000:Int) < (s.length:Int):=by omega
 go_enter_defers Tryz.func18,Tryz.ntmps18
 go_wp2_with (go_at_call 45;(with_reducible refine (u2u.calls 4 _).mono ?_);rintro e W1 ⟨rfl,rfl⟩)
 refine leaves_cons (f:=44) (args:=#[.pointer (some ⟨W.heap.size,0,none⟩),.pointer (some ⟨W.heap.size + 1,0,none⟩)]) (by simp) (by simp [go_sem]) ?_
 refine (ul.catch_fault W.heap.size (W.heap.size + 1) (by omega) _ _ _ _ _ _ _ _ 4 [] _ (ul.pre_start W _).said (ul.pre_start W _).code).mono ?_
 rintro e u' w'' ⟨rfl,rfl,hC⟩
 have HBF:=Aside0.mk (ul.after_fault (ul.pre_start W _) hC)
 obtain ⟨⟨a0,a1,a2,a3,a4,a5,a6⟩,fa⟩:=ul.look7 hC.said
 obtain ⟨d0,fd⟩:=ul.look1 hC.code
 clear hC
 simp [Leaves,settle,results,Tryz.results18,go_sem,a0,a1,a2,a3,a4,a5,a6,d0]
 exact ul.out_fault HE.out HBF.out
set_option maxRecDepth 100000 in
set_option maxHeartbeats 2000000 in
theorem ul.lines (can:List Tx.Lb → Bool) (W:World) (s:List UInt8) (now:Int) (hl:s.length ≤ 1000) (hn:s.contains 10 = true) :
 Calls Tryz.prog 18 #[.string (Base.ofL s),.int .i64 now] W fun e W' => ul.Out W (Tx.readP can s now) e W':=by
 have hmf:∀ (fn:Fn) (first cap:Array Value) (w:World),(Instr.makeFunc fn first cap).run Tryz.prog w = .ok (.func fn first cap) w:=fun _ _ _ _ => rfl
 have hsz:(Base.ofL s).size = s.length:=(Tx.cut_ofL s 0 (by omega)).2.2
 have HE:Aside0 (Tx.readP can s now = (none,Tx.me0,280)):=⟨by unfold Tx.readP;rw [if_neg (by omega),if_pos hn]⟩
 obtain ⟨z,hz,hzc⟩:=ul.ib_at s
 have HZ:=Aside0.mk hzc
 rw [hn] at hz
 have hd2:¬ (1000:Int) < (s.length:Int):=by omega
 have hz0:0 ≤ z:=of_decide_eq_true hz
 clear hn hzc
 go_enter_defers Tryz.func18,Tryz.ntmps18
 go_wp2_with (first
  | (go_at_call 46;(with_reducible refine (HZ.out _).mono ?_);rintro e W1 ⟨rfl,rfl⟩)
  | (go_at_call 45;(with_reducible refine (u2u.calls 280 _).mono ?_);rintro e W1 ⟨rfl,rfl⟩))
 refine leaves_cons (f:=44) (args:=#[.pointer (some ⟨W.heap.size,0,none⟩),.pointer (some ⟨W.heap.size + 1,0,none⟩)]) (by simp) (by simp [go_sem]) ?_
 refine (ul.catch_fault W.heap.size (W.heap.size + 1) (by omega) _ _ _ _ _ _ _ _ 280 [] _ (ul.pre_start W _).said (ul.pre_start W _).code).mono ?_
 rintro e u' w'' ⟨rfl,rfl,hC⟩
 have HBF:=Aside0.mk (ul.after_fault (ul.pre_start W _) hC)
 obtain ⟨⟨a0,a1,a2,a3,a4,a5,a6⟩,fa⟩:=ul.look7 hC.said
 obtain ⟨d0,fd⟩:=ul.look1 hC.code
 clear hC
 simp [Leaves,settle,results,Tryz.results18,go_sem,a0,a1,a2,a3,a4,a5,a6,d0]
 exact ul.out_fault HE.out HBF.out
set_option maxRecDepth 100000 in
set_option maxHeartbeats 4000000 in
theorem ul.remark (can:List Tx.Lb → Bool) (W:World) (s:List UInt8) (now:Int) (hl:s.length ≤ 1000) (hn:s.contains 10 = false) (r:List UInt8) (hs:s = 35 :: r) :
 Calls Tryz.prog 18 #[.string (Base.ofL s),.int .i64 now] W fun e W' => ul.Out W (Tx.readP can s now) e W':=by
 have hmf:∀ (fn:Fn) (first cap:Array Value) (w:World),(Instr.makeFunc fn first cap).run Tryz.prog w = .ok (.func fn first cap) w:=fun _ _ _ _ => rfl
 have hsz:(Base.ofL s).size = s.length:=(Tx.cut_ofL s 0 (by omega)).2.2
 have HV:Aside0 (Tx.readP can s now = match Tx.remarkP s with | none => (none,Tx.me0,280) | some m => (none,m,0)):=⟨by unfold Tx.readP;rw [if_neg (by omega),hn,if_neg (by decide)];subst hs;rfl⟩
 obtain ⟨z,hz,hzc⟩:=ul.ib_at s
 have HZ:=Aside0.mk hzc
 rw [hn] at hz
 have hd2:¬ (1000:Int) < (s.length:Int):=by omega
 have hz0:¬ 0 ≤ z:=of_decide_eq_false hz
 have HPK:Aside0 (ua.pk s = 35):=⟨by rw [hs];rfl⟩
 generalize hoo:Tx.readP can s now = o at HV ⊢
 clear hn hzc hoo hs
 cases hr:Tx.remarkP s with
 | none =>
   have HR:=Aside0.mk hr
   have HE:Aside0 (o = (none,Tx.me0,280)):=⟨by rw [HV.out,hr]⟩
   clear hr HV
   go_enter_defers Tryz.func18,Tryz.ntmps18
   go_wp2_with (first
    | (go_at_call 46;(with_reducible refine (HZ.out _).mono ?_);rintro e W1 ⟨rfl,rfl⟩)
    | (go_at_call 47;(with_reducible refine (u1e.peek_at (ul.mk2 W) _ (W.heap.size + 1 + 1) s 35 HPK.out (by exact ul.st_start W s)).mono ?_);rintro e W2 ⟨rfl,⟨nd,rfl⟩⟩)
    | (go_at_call 48;(with_reducible refine (ul.rm_no (ul.mk2 W) _ (W.heap.size + 1 + 1) s hl HR.out (by exact (ul.st_start W s).drew nd)).mono ?_);rintro e W3 ⟨rfl,hb3⟩;have HPF:=Aside0.mk (ul.pre_of hb3);clear hb3))
   refine leaves_cons (f:=44) (args:=#[.pointer (some ⟨W.heap.size,0,none⟩),.pointer (some ⟨W.heap.size + 1,0,none⟩)]) (by simp) (by simp [go_sem]) ?_
   refine (ul.catch_fault W.heap.size (W.heap.size + 1) (by omega) _ _ _ _ _ _ _ _ 280 [] _ HPF.out.said HPF.out.code).mono ?_
   rintro e u' w'' ⟨rfl,rfl,hC⟩
   have HBF:=Aside0.mk (ul.after_fault HPF.out hC)
   obtain ⟨⟨a0,a1,a2,a3,a4,a5,a6⟩,fa⟩:=ul.look7 hC.said
   obtain ⟨d0,fd⟩:=ul.look1 hC.code
   clear hC
   simp [Leaves,settle,results,Tryz.results18,go_sem,a0,a1,a2,a3,a4,a5,a6,d0]
   exact ul.out_fault HE.out HBF.out
 | some m =>
   have HR:=Aside0.mk hr
   have HE:Aside0 (o = (none,m,0)):=⟨by rw [HV.out,hr]⟩
   clear hr HV
   go_enter_defers Tryz.func18,Tryz.ntmps18
   go_wp2_with (first
    | (go_at_call 46;(with_reducible refine (HZ.out _).mono ?_);rintro e W1 ⟨rfl,rfl⟩)
    | (go_at_call 47;(with_reducible refine (u1e.peek_at (ul.mk2 W) _ (W.heap.size + 1 + 1) s 35 HPK.out (by exact ul.st_start W s)).mono ?_);rintro e W2 ⟨rfl,⟨nd,rfl⟩⟩)
    | (go_at_call 48;(with_reducible refine (ul.rm_ok (ul.mk2 W) _ (W.heap.size + 1 + 1) s hl m HR.out (by exact (ul.st_start W s).drew nd)).mono ?_);rintro e W3 ⟨rfl,hb3⟩;have HPF:=Aside0.mk (ul.pre_of hb3);obtain ⟨⟨a0,a1,a2,a3,a4,a5,a6⟩,fa⟩:=ul.look7 HPF.out.said;obtain ⟨d0,fd⟩:=ul.look1 HPF.out.code;clear hb3))
   have hV1:=blk_set (blk_set (blk_set HPF.out.said 4 (.string m.1)) 5 (.string m.2.1)) 6 (.string m.2.2)
   simp only [List.setIfInBounds_toArray,List.set_cons_zero,List.set_cons_succ] at hV1
   have hV2:(((W3.setCell ⟨W.heap.size,4,none⟩ (.string m.1)).setCell ⟨W.heap.size,5,none⟩ (.string m.2.1)).setCell ⟨W.heap.size,6,none⟩ (.string m.2.2)).heap[W.heap.size + 1]? = some (.cells #[.int .i64 0] 26 (0,0)):=by
    rw [Below.heap_setCell _ ⟨W.heap.size,6,none⟩ _ _ (show W.heap.size + 1 ≠ W.heap.size by omega),Below.heap_setCell _ ⟨W.heap.size,5,none⟩ _ _ (show W.heap.size + 1 ≠ W.heap.size by omega),Below.heap_setCell _ ⟨W.heap.size,4,none⟩ _ _ (show W.heap.size + 1 ≠ W.heap.size by omega),HPF.out.code]
   have hV3:=((HPF.out.below.setCell (p:=⟨W.heap.size,4,none⟩) (Nat.le_refl _) (.string m.1)).setCell (p:=⟨W.heap.size,5,none⟩) (Nat.le_refl _) (.string m.2.1)).setCell (p:=⟨W.heap.size,6,none⟩) (Nat.le_refl _) (.string m.2.2)
   clear a0 a1 a2 a3 a4 a5 a6 fa d0 fd
   have HF:=ul.fin7 (V:=(((W3.setCell ⟨W.heap.size,4,none⟩ (.string m.1)).setCell ⟨W.heap.size,5,none⟩ (.string m.2.1)).setCell ⟨W.heap.size,6,none⟩ (.string m.2.2))) hV1 hV2 hV3 (.slice none 0 0) (.int .i64 0) (.int .u64 0) (.bool false) (.string m.1) (.string m.2.1) (.string m.2.2)
   generalize (((((((((((W3.setCell ⟨W.heap.size,4,none⟩ (.string m.1)).setCell ⟨W.heap.size,5,none⟩ (.string m.2.1)).setCell ⟨W.heap.size,6,none⟩ (.string m.2.2)).setCell ⟨W.heap.size,0,none⟩ (.slice none 0 0)).setCell ⟨W.heap.size,1,none⟩ (.int .i64 0)).setCell ⟨W.heap.size,2,none⟩ (.int .u64 0)).setCell ⟨W.heap.size,3,none⟩ (.bool false)).setCell ⟨W.heap.size,4,none⟩ (.string m.1)).setCell ⟨W.heap.size,5,none⟩ (.string m.2.1)).setCell ⟨W.heap.size,6,none⟩ (.string m.2.2)).setCell ⟨W.heap.size + 1,0,none⟩ (.int .i64 0)) = Wz at HF ⊢
   have hs9:=ua.new_old HF.said (.cells #[.int .i64 0] 83)
   have hc9:=ua.new_old HF.code (.cells #[.int .i64 0] 83)
   have HBF:=Aside0.mk (u1h HF.below (uc (Below.refl Wz.heap.size Wz) (.cells #[.int .i64 0] 83)))
   clear HF
   obtain ⟨⟨p0,p1,p2,p3,p4,p5,p6⟩,fp⟩:=ul.look7 hs9
   obtain ⟨q0,fq⟩:=ul.look1 hc9
   clear hs9 hc9
   refine leaves_cons (f:=44) (args:=#[.pointer (some ⟨W.heap.size,0,none⟩),.pointer (some ⟨W.heap.size + 1,0,none⟩)]) (by simp) (by simp [go_sem]) ?_
   refine (ul.catch_idle _ _ _).mono ?_
   rintro e u' w'' ⟨rfl,rfl,rfl⟩
   simp [Leaves,settle,results,Tryz.results18,go_sem,p0,p1,p2,p3,p4,p5,p6,q0]
   exact ul.out_meta HE.out HBF.out
theorem ul.trim_at (s:List UInt8) (hl:s.length ≤ 1000) (W:World):Calls Tryz.prog 49 #[.string (Base.ofL s),.string (⟨#[32,9]⟩:ByteArray)] W fun e W' => e = .returned (.string (Base.ofL (Lib.trimS s [32,9]))) ∧ Below W.heap.size W W':=by
 have h:=Go.Proofs.Tryz.strings_Trim (Base.ofL s) ⟨#[32,9]⟩ W (by rw [(Tx.cut_ofL s 0 (by omega)).2.2];omega) (by decide) (Go.Proofs.ascii_of_all (by decide))
 rw [Base.ofL_data] at h
 exact h
theorem ul.read_blank (can:List Tx.Lb → Bool) (s:List UInt8) (now:Int) (hl:s.length ≤ 1000) (hn:s.contains 10 = false) (hs:∀ r,s ≠ 35 :: r):Tx.readP can s now = if s.all Tx.blankC = true then ((none,Tx.me0,0):Option Tx.Rw × Tx.Me × Int) else match Tx.sampleP can s now with | none => (none,Tx.me0,280) | some r => (some r,Tx.me0,0):=by
 unfold Tx.readP
 rw [if_neg (by omega),hn,if_neg (by decide)]
 split
 · exact absurd rfl (hs _)
 · rfl
set_option maxRecDepth 100000 in
set_option maxHeartbeats 4000000 in
theorem ul.blank (can:List Tx.Lb → Bool) (W:World) (s:List UInt8) (now:Int) (hl:s.length ≤ 1000) (hn:s.contains 10 = false) (hs:∀ r,s ≠ 35 :: r) (ha:s.all Tx.blankC = true) :
 Calls Tryz.prog 18 #[.string (Base.ofL s),.int .i64 now] W fun e W' => ul.Out W (Tx.readP can s now) e W':=by
 have HE:Aside0 (Tx.readP can s now = (none,Tx.me0,0)):=⟨by rw [ul.read_blank can s now hl hn hs,if_pos ha]⟩
 generalize hoo:Tx.readP can s now = o at HE ⊢
 have hmf:∀ (fn:Fn) (first cap:Array Value) (w:World),(Instr.makeFunc fn first cap).run Tryz.prog w = .ok (.func fn first cap) w:=fun _ _ _ _ => rfl
 have hsz:(Base.ofL s).size = s.length:=(Tx.cut_ofL s 0 (by omega)).2.2
 obtain ⟨z,hz,hzc⟩:=ul.ib_at s
 have HZ:=Aside0.mk hzc
 rw [hn] at hz
 have hd2:¬ (1000:Int) < (s.length:Int):=by omega
 have hz0:¬ 0 ≤ z:=of_decide_eq_false hz
 obtain ⟨y,hy⟩:∃ y,ua.pk s = y:=⟨_,rfl⟩
 have HPK:=Aside0.mk hy
 have hyb:(y == 35) = false:=beq_eq_false_iff_ne.2 (by rw [← hy];exact uu.pk_ne s 35 (by decide) hs)
 obtain ⟨_,tw,twn⟩:=u1s.txt (Lib.trimS s [32,9])
 obtain ⟨e1,e2⟩:=twn ((ul.trim_nil s).mpr ha)
 clear hn hzc hoo hs ha tw twn hy
 go_enter_defers Tryz.func18,Tryz.ntmps18
 go_wp2_with (first
  | (go_at_call 46;(with_reducible refine (HZ.out _).mono ?_);rintro e W1 ⟨rfl,rfl⟩)
  | (go_at_call 47;(with_reducible refine (u1e.peek_at (ul.mk2 W) _ (W.heap.size + 1 + 1) s y HPK.out (by exact ul.st_start W s)).mono ?_);rintro e W2 ⟨rfl,⟨nd,rfl⟩⟩)
  | (go_at_call 49;(with_reducible refine (ul.trim_at s (by omega) _).mono ?_);rintro e W3 ⟨rfl,hb3⟩;have HS3:=Aside0.mk (((ul.st_start W s).drew nd).more hb3);clear hb3;have HPF:=Aside0.mk (ul.pre_of HS3.out.below);obtain ⟨⟨a0,a1,a2,a3,a4,a5,a6⟩,fa⟩:=ul.look7 HPF.out.said;obtain ⟨d0,fd⟩:=ul.look1 HPF.out.code))
 clear a0 a1 a2 a3 a4 a5 a6 fa d0 fd
 have hV1:=HPF.out.said
 have hV2:=HPF.out.code
 have hV3:=HPF.out.below
 have HF:=ul.fin7 (V:=W3) hV1 hV2 hV3 (.slice none 0 0) (.int .i64 0) (.int .u64 0) (.bool false) (.string ⟨#[]⟩) (.string ⟨#[]⟩) (.string ⟨#[]⟩)
 generalize ((((((((W3.setCell ⟨W.heap.size,0,none⟩ (.slice none 0 0)).setCell ⟨W.heap.size,1,none⟩ (.int .i64 0)).setCell ⟨W.heap.size,2,none⟩ (.int .u64 0)).setCell ⟨W.heap.size,3,none⟩ (.bool false)).setCell ⟨W.heap.size,4,none⟩ (.string ⟨#[]⟩)).setCell ⟨W.heap.size,5,none⟩ (.string ⟨#[]⟩)).setCell ⟨W.heap.size,6,none⟩ (.string ⟨#[]⟩)).setCell ⟨W.heap.size + 1,0,none⟩ (.int .i64 0)) = Wz at HF ⊢
 have hs9:=ua.new_old HF.said (.cells #[.int .i64 0] 83)
 have hc9:=ua.new_old HF.code (.cells #[.int .i64 0] 83)
 have HBF:=Aside0.mk (u1h HF.below (uc (Below.refl Wz.heap.size Wz) (.cells #[.int .i64 0] 83)))
 clear HF
 obtain ⟨⟨p0,p1,p2,p3,p4,p5,p6⟩,fp⟩:=ul.look7 hs9
 obtain ⟨q0,fq⟩:=ul.look1 hc9
 clear hs9 hc9
 refine leaves_cons (f:=44) (args:=#[.pointer (some ⟨W.heap.size,0,none⟩),.pointer (some ⟨W.heap.size + 1,0,none⟩)]) (by simp) (by simp [go_sem]) ?_
 refine (ul.catch_idle _ _ _).mono ?_
 rintro e u' w'' ⟨rfl,rfl,rfl⟩
 simp [Leaves,settle,results,Tryz.results18,go_sem,p0,p1,p2,p3,p4,p5,p6,q0]
 exact ul.out_fault HE.out HBF.out
theorem ul.sa_no (can:List Tx.Lb → Bool) (hcan:∀ l:List Tx.Lb,l.length ≤ 10 → ∃ k,u2i.f k l = some (can l)) (w0 W:World) (g:Nat) (s:List UInt8) (now:Int) (hl:s.length ≤ 1000) (hr:Tx.sampleP can s now = none) (h:ua.St w0 W g s):Calls Tryz.prog 50 #[.pointer (some ⟨g,0,none⟩),.int .i64 now] W fun e W' => e = .panicked (u2u.chain 280) ∧ Below w0.heap.size w0 W' :=
 (uh.calls can hcan w0 W g s now hl h).mono fun e W' ho => by rw [hr] at ho;exact ho
theorem ul.sa_ok (can:List Tx.Lb → Bool) (hcan:∀ l:List Tx.Lb,l.length ≤ 10 → ∃ k,u2i.f k l = some (can l)) (w0 W:World) (g:Nat) (s:List UInt8) (now:Int) (hl:s.length ≤ 1000) (r:Tx.Rw) (hr:Tx.sampleP can s now = some r) (h:ua.St w0 W g s):Calls Tryz.prog 50 #[.pointer (some ⟨g,0,none⟩),.int .i64 now] W fun e W' => ∃ v:Value,e = .returned (.agg #[v,.int .i64 r.f1,.int .u64 r.f2]) ∧ Kd.R k66 66 W' w0.heap.size (fun _ => True) v r.f0 ∧ Below w0.heap.size w0 W' :=
 (uh.calls can hcan w0 W g s now hl h).mono fun e W' ho => by
   rw [hr] at ho
   obtain ⟨v,he,h1,h2,_⟩:=ho
   exact ⟨v,he,Kd.R_lower (Kd.R_mono h1 (fun _ _ => trivial)) h.below.size,h2⟩
set_option maxRecDepth 100000 in
set_option maxHeartbeats 4000000 in
theorem ul.row (can:List Tx.Lb → Bool) (hcan:∀ l:List Tx.Lb,l.length ≤ 10 → ∃ k,u2i.f k l = some (can l)) (W:World) (s:List UInt8) (now:Int) (hl:s.length ≤ 1000) (hn:s.contains 10 = false) (hs:∀ r,s ≠ 35 :: r) (ha:¬ s.all Tx.blankC = true) :
 Calls Tryz.prog 18 #[.string (Base.ofL s),.int .i64 now] W fun e W' => ul.Out W (Tx.readP can s now) e W':=by
 have HV:Aside0 (Tx.readP can s now = match Tx.sampleP can s now with | none => (none,Tx.me0,280) | some r => (some r,Tx.me0,0)):=⟨by rw [ul.read_blank can s now hl hn hs,if_neg ha]⟩
 generalize hoo:Tx.readP can s now = o at HV ⊢
 have HCN:=Aside0.mk hcan
 have hmf:∀ (fn:Fn) (first cap:Array Value) (w:World),(Instr.makeFunc fn first cap).run Tryz.prog w = .ok (.func fn first cap) w:=fun _ _ _ _ => rfl
 have hsz:(Base.ofL s).size = s.length:=(Tx.cut_ofL s 0 (by omega)).2.2
 obtain ⟨z,hz,hzc⟩:=ul.ib_at s
 have HZ:=Aside0.mk hzc
 rw [hn] at hz
 have hd2:¬ (1000:Int) < (s.length:Int):=by omega
 have hz0:¬ 0 ≤ z:=of_decide_eq_false hz
 obtain ⟨y,hy⟩:∃ y,ua.pk s = y:=⟨_,rfl⟩
 have HPK:=Aside0.mk hy
 have hyb:(y == 35) = false:=beq_eq_false_iff_ne.2 (by rw [← hy];exact uu.pk_ne s 35 (by decide) hs)
 obtain ⟨_,tw,twn⟩:=u1s.txt (Lib.trimS s [32,9])
 obtain ⟨e1,e2⟩:=tw (fun e => ha ((ul.trim_nil s).mp e))
 clear hn hzc hoo hs ha tw twn hy hcan
 cases hr:Tx.sampleP can s now with
 | none =>
   have HR:=Aside0.mk hr
   have HE:Aside0 (o = (none,Tx.me0,280)):=⟨by rw [HV.out,hr]⟩
   clear hr HV
   go_enter_defers Tryz.func18,Tryz.ntmps18
   go_wp2_with (first
    | (go_at_call 46;(with_reducible refine (HZ.out _).mono ?_);rintro e W1 ⟨rfl,rfl⟩)
    | (go_at_call 47;(with_reducible refine (u1e.peek_at (ul.mk2 W) _ (W.heap.size + 1 + 1) s y HPK.out (by exact ul.st_start W s)).mono ?_);rintro e W2 ⟨rfl,⟨nd,rfl⟩⟩)
    | (go_at_call 49;(with_reducible refine (ul.trim_at s (by omega) _).mono ?_);rintro e W3 ⟨rfl,hb3⟩;have HS3:=Aside0.mk (((ul.st_start W s).drew nd).more hb3);clear hb3)
    | (go_at_call 50;(with_reducible refine (ul.sa_no can HCN.out (ul.mk2 W) _ (W.heap.size + 1 + 1) s now hl HR.out (by exact HS3.out)).mono ?_);rintro e W4 ⟨rfl,hb4⟩;have HPF:=Aside0.mk (ul.pre_of hb4);clear hb4))
   refine leaves_cons (f:=44) (args:=#[.pointer (some ⟨W.heap.size,0,none⟩),.pointer (some ⟨W.heap.size + 1,0,none⟩)]) (by simp) (by simp [go_sem]) ?_
   refine (ul.catch_fault W.heap.size (W.heap.size + 1) (by omega) _ _ _ _ _ _ _ _ 280 [] _ HPF.out.said HPF.out.code).mono ?_
   rintro e u' w'' ⟨rfl,rfl,hC⟩
   have HBF:=Aside0.mk (ul.after_fault HPF.out hC)
   obtain ⟨⟨a0,a1,a2,a3,a4,a5,a6⟩,fa⟩:=ul.look7 hC.said
   obtain ⟨d0,fd⟩:=ul.look1 hC.code
   clear hC
   simp [Leaves,settle,results,Tryz.results18,go_sem,a0,a1,a2,a3,a4,a5,a6,d0]
   exact ul.out_fault HE.out HBF.out
 | some r =>
   have HR:=Aside0.mk hr
   have HE:Aside0 (o = (some r,Tx.me0,0)):=⟨by rw [HV.out,hr]⟩
   clear hr HV
   go_enter_defers Tryz.func18,Tryz.ntmps18
   go_wp2_with (first
    | (go_at_call 46;(with_reducible refine (HZ.out _).mono ?_);rintro e W1 ⟨rfl,rfl⟩)
    | (go_at_call 47;(with_reducible refine (u1e.peek_at (ul.mk2 W) _ (W.heap.size + 1 + 1) s y HPK.out (by exact ul.st_start W s)).mono ?_);rintro e W2 ⟨rfl,⟨nd,rfl⟩⟩)
    | (go_at_call 49;(with_reducible refine (ul.trim_at s (by omega) _).mono ?_);rintro e W3 ⟨rfl,hb3⟩;have HS3:=Aside0.mk (((ul.st_start W s).drew nd).more hb3);clear hb3)
    | (go_at_call 50;(with_reducible refine (ul.sa_ok can HCN.out (ul.mk2 W) _ (W.heap.size + 1 + 1) s now hl r HR.out (by exact HS3.out)).mono ?_);rintro e W4 ⟨v,rfl,hr4,hb4⟩;have HR4:=Aside0.mk hr4;have HPF:=Aside0.mk (ul.pre_of hb4);obtain ⟨A,c,ev⟩:=Kd.R_slice hr4;subst ev;obtain ⟨⟨a0,a1,a2,a3,a4,a5,a6⟩,fa⟩:=ul.look7 HPF.out.said;obtain ⟨d0,fd⟩:=ul.look1 HPF.out.code;clear hb4 hr4))
   have hV1:=blk_set (blk_set (blk_set (blk_set HPF.out.said 0 (.slice A r.f0.length c)) 1 (.int .i64 r.f1)) 2 (.int .u64 r.f2)) 3 (.bool true)
   simp only [List.setIfInBounds_toArray,List.set_cons_zero,List.set_cons_succ] at hV1
   have hVF:∀ k,k ≠ W.heap.size → ((((W4.setCell ⟨W.heap.size,0,none⟩ (.slice A r.f0.length c)).setCell ⟨W.heap.size,1,none⟩ (.int .i64 r.f1)).setCell ⟨W.heap.size,2,none⟩ (.int .u64 r.f2)).setCell ⟨W.heap.size,3,none⟩ (.bool true)).heap[k]? = W4.heap[k]? := fun k hk => by
    rw [Below.heap_setCell _ ⟨W.heap.size,3,none⟩ _ k hk,Below.heap_setCell _ ⟨W.heap.size,2,none⟩ _ k hk,Below.heap_setCell _ ⟨W.heap.size,1,none⟩ _ k hk,Below.heap_setCell _ ⟨W.heap.size,0,none⟩ _ k hk]
   have hV2:=(hVF (W.heap.size + 1) (by omega)).trans HPF.out.code
   have hV3:=(((HPF.out.below.setCell (p:=⟨W.heap.size,0,none⟩) (Nat.le_refl _) (.slice A r.f0.length c)).setCell (p:=⟨W.heap.size,1,none⟩) (Nat.le_refl _) (.int .i64 r.f1)).setCell (p:=⟨W.heap.size,2,none⟩) (Nat.le_refl _) (.int .u64 r.f2)).setCell (p:=⟨W.heap.size,3,none⟩) (Nat.le_refl _) (.bool true)
   clear a0 a1 a2 a3 a4 a5 a6 fa d0 fd
   have HF:=ul.fin7 (V:=((((W4.setCell ⟨W.heap.size,0,none⟩ (.slice A r.f0.length c)).setCell ⟨W.heap.size,1,none⟩ (.int .i64 r.f1)).setCell ⟨W.heap.size,2,none⟩ (.int .u64 r.f2)).setCell ⟨W.heap.size,3,none⟩ (.bool true))) hV1 hV2 hV3 (.slice A r.f0.length c) (.int .i64 r.f1) (.int .u64 r.f2) (.bool true) (.string ⟨#[]⟩) (.string ⟨#[]⟩) (.string ⟨#[]⟩)
   generalize ((((((((((((W4.setCell ⟨W.heap.size,0,none⟩ (.slice A r.f0.length c)).setCell ⟨W.heap.size,1,none⟩ (.int .i64 r.f1)).setCell ⟨W.heap.size,2,none⟩ (.int .u64 r.f2)).setCell ⟨W.heap.size,3,none⟩ (.bool true)).setCell ⟨W.heap.size,0,none⟩ (.slice A r.f0.length c)).setCell ⟨W.heap.size,1,none⟩ (.int .i64 r.f1)).setCell ⟨W.heap.size,2,none⟩ (.int .u64 r.f2)).setCell ⟨W.heap.size,3,none⟩ (.bool true)).setCell ⟨W.heap.size,4,none⟩ (.string ⟨#[]⟩)).setCell ⟨W.heap.size,5,none⟩ (.string ⟨#[]⟩)).setCell ⟨W.heap.size,6,none⟩ (.string ⟨#[]⟩)).setCell ⟨W.heap.size + 1,0,none⟩ (.int .i64 0)) = Wz at HF ⊢
   have hs9:=ua.new_old HF.said (.cells #[.int .i64 0] 83)
   have hc9:=ua.new_old HF.code (.cells #[.int .i64 0] 83)
   have HBF:=Aside0.mk (u1h HF.below (uc (Below.refl Wz.heap.size Wz) (.cells #[.int .i64 0] 83)))
   have HRF:=Aside0.mk (Kd.R_alloc (Kd.R_lower (Kd.R_mono (Kd.R_step (Kd.R_bound HR4.out) (fun k hk _ => (HF.far k (by have h8:=hk.2.1;rw [ul.mk2_size] at h8;omega) (by have h8:=hk.2.1;rw [ul.mk2_size] at h8;omega)).trans (hVF k (by have h8:=hk.2.1;rw [ul.mk2_size] at h8;omega)))) (fun _ _ => trivial)) (show W.heap.size ≤ (ul.mk2 W).heap.size by rw [ul.mk2_size];omega)) (.cells #[.int .i64 0] 83))
   clear HF
   obtain ⟨⟨p0,p1,p2,p3,p4,p5,p6⟩,fp⟩:=ul.look7 hs9
   obtain ⟨q0,fq⟩:=ul.look1 hc9
   clear hs9 hc9
   refine leaves_cons (f:=44) (args:=#[.pointer (some ⟨W.heap.size,0,none⟩),.pointer (some ⟨W.heap.size + 1,0,none⟩)]) (by simp) (by simp [go_sem]) ?_
   refine (ul.catch_idle _ _ _).mono ?_
   rintro e u' w'' ⟨rfl,rfl,rfl⟩
   simp [Leaves,settle,results,Tryz.results18,go_sem,p0,p1,p2,p3,p4,p5,p6,q0]
   exact ul.out_row HE.out HRF.out HBF.out
theorem ul.calls (can:List Tx.Lb → Bool) (hcan:∀ l:List Tx.Lb,l.length ≤ 10 → ∃ k,u2i.f k l = some (can l)) (W:World) (s:List UInt8) (now:Int) (hm:s.length ≤ 4611686018427387904) :
 Calls Tryz.prog 18 #[.string (Base.ofL s),.int .i64 now] W fun e W' => ul.Out W (Tx.readP can s now) e W':=by
 by_cases hl:s.length > 1000
 · exact ul.too_long can W s now hm hl
 · have hl2:s.length ≤ 1000:=by omega
   cases hn:s.contains 10 with
   | true => exact ul.lines can W s now hl2 hn
   | false =>
     by_cases hs:∃ r,s = 35 :: r
     · obtain ⟨r,hr⟩:=hs
       exact ul.remark can W s now hl2 hn r hr
     · have hs2:∀ r,s ≠ 35 :: r:=fun r e => hs ⟨r,e⟩
       by_cases ha:s.all Tx.blankC = true
       · exact ul.blank can W s now hl2 hn hs2 ha
       · exact ul.row can hcan W s now hl2 hn hs2 ha
def u2t.lab (o:Option Tx.Rw × Tx.Me × Int):List Tx.Lb:=match o.1 with | none => [] | some r => r.f0
def u2t.tim (o:Option Tx.Rw × Tx.Me × Int):Int:=match o.1 with | none => 0 | some r => r.f1
def u2t.val (o:Option Tx.Rw × Tx.Me × Int):Int:=match o.1 with | none => 0 | some r => r.f2
def u2t.Out (W:World) (o:Option Tx.Rw × Tx.Me × Int) (e:Ending) (W':World):Prop:=∃ v:Value,e = .returned (.tuple #[.agg #[v,.int .i64 (u2t.tim o),.int .u64 (u2t.val o)],.bool o.1.isSome,.agg #[.int .i64 o.2.2,.int .i64 0]]) ∧ Kd.R k66 66 W' W.heap.size (fun _ => True) v (u2t.lab o) ∧ Below W.heap.size W W'
def u2t.f (a0:ByteArray) (a1:Int):Option (List Tx.Lb × Int × Int × Bool × Int × Int):=if a0.size ≤ 4611686018427387904 then some (u2t.lab (Tx.readP Laws.canB a0.data.toList a1),u2t.tim (Tx.readP Laws.canB a0.data.toList a1),u2t.val (Tx.readP Laws.canB a0.data.toList a1),(Tx.readP Laws.canB a0.data.toList a1).1.isSome,(Tx.readP Laws.canB a0.data.toList a1).2.2,0) else none
theorem u2t.read_at (can:List Tx.Lb → Bool) (hcan:∀ l:List Tx.Lb,l.length ≤ 10 → ∃ k,u2i.f k l = some (can l)) (W:World) (s:List UInt8) (now:Int) (hm:s.length ≤ 4611686018427387904) (L:List Tx.Lb) (T N C:Int) (B:Bool) (a b c:ByteArray) (hL:u2t.lab (Tx.readP can s now) = L) (hT:u2t.tim (Tx.readP can s now) = T) (hN:u2t.val (Tx.readP can s now) = N) (hB:(Tx.readP can s now).1.isSome = B) (hM:(Tx.readP can s now).2.1 = (a,b,c)) (hC:(Tx.readP can s now).2.2 = C) :
 Calls Tryz.prog 18 #[.string (Base.ofL s),.int .i64 now] W fun e W' => ∃ v:Value,e = .returned (.tuple #[.agg #[v,.int .i64 T,.int .u64 N,.bool B,.string a,.string b,.string c],.int .i64 C]) ∧ Kd.R k66 66 W' W.heap.size (fun _ => True) v L ∧ Below W.heap.size W W':=by
 refine (ul.calls can hcan W s now hm).mono fun e W' h => ?_
 obtain ⟨v,he,h1,h2⟩:=h
 subst hL hT hN hB hC
 have ha:(Tx.readP can s now).2.1.1 = a:=by rw [hM]
 have hb:(Tx.readP can s now).2.1.2.1 = b:=by rw [hM]
 have hc:(Tx.readP can s now).2.1.2.2 = c:=by rw [hM]
 rw [ha,hb,hc] at he
 exact ⟨v,he,h1,h2⟩
set_option maxRecDepth 100000 in
set_option maxHeartbeats 4000000 in
theorem u2t.walk (can:List Tx.Lb → Bool) (hcan:∀ l:List Tx.Lb,l.length ≤ 10 → ∃ k,u2i.f k l = some (can l)) (W:World) (s:List UInt8) (now:Int) (hm:s.length ≤ 4611686018427387904) :
 Calls Tryz.prog 27 #[.string (Base.ofL s),.int .i64 now] W fun e W' => u2t.Out W (Tx.readP can s now) e W':=by
 unfold u2t.Out
 obtain ⟨L,hL⟩:∃ L,u2t.lab (Tx.readP can s now) = L:=⟨_,rfl⟩
 obtain ⟨T,hT⟩:∃ T,u2t.tim (Tx.readP can s now) = T:=⟨_,rfl⟩
 obtain ⟨N,hN⟩:∃ N,u2t.val (Tx.readP can s now) = N:=⟨_,rfl⟩
 obtain ⟨B,hB⟩:∃ B,(Tx.readP can s now).1.isSome = B:=⟨_,rfl⟩
 obtain ⟨C,hC⟩:∃ C,(Tx.readP can s now).2.2 = C:=⟨_,rfl⟩
 obtain ⟨a,b,c,hM⟩:∃ a b c,(Tx.readP can s now).2.1 = (a,b,c):=⟨_,_,_,rfl⟩
 rw [hL,hT,hN,hB,hC]
 have HRD:=Aside0.mk (fun W => u2t.read_at can hcan W s now hm L T N C B a b c hL hT hN hB hM hC)
 clear hL hT hN hB hC hM hcan
 have hx1:=ua.new_old (ua.new_at W (.cells #[.slice none 0 0,.int .i64 0,.int .u64 0] 53)) (.cells #[.int .i64 0,.int .i64 0] 28)
 have hx2:=ua.new_at (W.alloc (.cells #[.slice none 0 0,.int .i64 0,.int .u64 0] 53)) (.cells #[.int .i64 0,.int .i64 0] 28)
 rw [World.size_alloc] at hx2
 have HX1:=Aside0.mk hx1
 have HX2:=Aside0.mk hx2
 clear hx1 hx2
 go_enter Tryz.func27,Tryz.ntmps27
 go_wp2_with (go_at_call 18;(with_reducible refine (HRD.out _).mono ?_);rintro e W3 ⟨v,rfl,hr3,hb3⟩;have HR3:=Aside0.mk hr3;have HB3:=Aside0.mk (u1h (uc (uc (Below.refl W.heap.size W) _) _) hb3);have X1:=Aside0.mk (ua.below_at hb3 HX1.out);have X2:=Aside0.mk (ua.below_at hb3 HX2.out);obtain ⟨A,cc,ev⟩:=Kd.R_slice hr3;subst ev;clear hr3 hb3)
 have y7:=ua.new_at W3 (.cells #[.slice A L.length cc,.int .i64 T,.int .u64 N,.bool B,.string a,.string b,.string c] 55)
 have y1:=ua.new_old X1.out (.cells #[.slice A L.length cc,.int .i64 T,.int .u64 N,.bool B,.string a,.string b,.string c] 55)
 have y2:=ua.new_old X2.out (.cells #[.slice A L.length cc,.int .i64 T,.int .u64 N,.bool B,.string a,.string b,.string c] 55)
 have HRA:=Aside0.mk (Kd.R_alloc HR3.out (.cells #[.slice A L.length cc,.int .i64 T,.int .u64 N,.bool B,.string a,.string b,.string c] 55))
 have HBA:=Aside0.mk (uc HB3.out (.cells #[.slice A L.length cc,.int .i64 T,.int .u64 N,.bool B,.string a,.string b,.string c] 55))
 have l1:=u3g X1.out
 have l2:=u3g X2.out
 have m1:¬ W3.heap.size = W.heap.size:=by omega
 have m2:¬ W3.heap.size = W.heap.size + 1:=by omega
 have m3:¬ W.heap.size = W3.heap.size:=by omega
 have m4:¬ W.heap.size + 1 = W3.heap.size:=by omega
 have m5:¬ W.heap.size + 1 = W.heap.size:=by omega
 have m6:¬ W.heap.size = W.heap.size + 1:=by omega
 have Y1:=Aside0.mk y1
 have Y2:=Aside0.mk y2
 obtain ⟨⟨a0,a1,a2,a3,a4,a5,a6⟩,fa⟩:=ul.look7 y7
 obtain ⟨⟨b0,b1,b2⟩,b3,b4,b5⟩:=uh.look3 y1
 obtain ⟨c0,c1,c2,c3⟩:=ua.look2 y2
 clear y7 y1 y2 l1 l2 HR3 HB3 X1 X2 HX1 HX2
 generalize W3.alloc (.cells #[.slice A L.length cc,.int .i64 T,.int .u64 N,.bool B,.string a,.string b,.string c] 55) = W4 at *
 generalize W3.heap.size = zz at *
 have mixed:Tryz.prog.follows .mixedOrders = true:=by kernel_rfl
 go_big_region_o
 all_goals go_wp2
 refine bodyPost_ret (v:=.tuple #[.agg #[.slice A L.length cc,.int .i64 T,.int .u64 N],.bool B,.agg #[.int .i64 C,.int .i64 0]]) (by simp [results,Tryz.results27,go_sem,b0,b1,b2,c0,c1,m5,m6]) rfl ⟨.slice A L.length cc,rfl,?_,?_⟩
 · refine Kd.R_drew (Kd.R_lower (Kd.R_mono (Kd.R_step (Kd.R_bound HRA.out) (fun k hk _ => ?_)) (fun _ _ => trivial)) (by rw [World.size_alloc,World.size_alloc];omega))
   have h8:=hk.2.1
   rw [World.size_alloc,World.size_alloc] at h8
   rw [Below.heap_setCell _ ⟨W.heap.size + 1,1,none⟩ _ k (show k ≠ W.heap.size + 1 by omega),Below.heap_setCell _ ⟨W.heap.size + 1,0,none⟩ _ k (show k ≠ W.heap.size + 1 by omega),Below.heap_setCell _ ⟨W.heap.size,2,none⟩ _ k (show k ≠ W.heap.size by omega),Below.heap_setCell _ ⟨W.heap.size,1,none⟩ _ k (show k ≠ W.heap.size by omega),Below.heap_setCell _ ⟨W.heap.size,0,none⟩ _ k (show k ≠ W.heap.size by omega)]
 · have h1:=HBA.out.setCell (p:=⟨W.heap.size,0,none⟩) (Nat.le_refl _) (.slice A L.length cc)
   have h2:=h1.setCell (p:=⟨W.heap.size,1,none⟩) (Nat.le_refl _) (.int .i64 T)
   have h3:=h2.setCell (p:=⟨W.heap.size,2,none⟩) (Nat.le_refl _) (.int .u64 N)
   have h4:=h3.setCell (p:=⟨W.heap.size + 1,0,none⟩) (by show W.heap.size ≤ W.heap.size + 1;omega) (.int .i64 C)
   exact ud (h4.setCell (p:=⟨W.heap.size + 1,1,none⟩) (by show W.heap.size ≤ W.heap.size + 1;omega) (.int .i64 0))
theorem u2t.calls (a0:ByteArray) (a1:Int) (r1:List Tx.Lb) (r2 r3:Int) (r4:Bool) (r5 r6:Int) (w:World) (h:u2t.f a0 a1 = some (r1,r2,r3,r4,r5,r6)) :
 Calls Tryz.prog 27 #[.string a0,.int .i64 a1] w fun e w' => ∃ v:Value,e = .returned (.tuple #[.agg #[v,.int .i64 r2,.int .u64 r3],.bool r4,.agg #[.int .i64 r5,.int .i64 r6]]) ∧ Kd.R k66 66 w' w.heap.size (fun _ => True) v r1 ∧ Below w.heap.size w w':=by
 unfold u2t.f at h
 split at h
 · rename_i hm
   cases Option.some.inj h
   have e:a0 = Base.ofL a0.data.toList:=Base.ext_data (Base.ofL_data _).symm
   have hl:a0.data.toList.length ≤ 4611686018427387904:=by rw [← Base.size_list];exact hm
   have h1:=u2t.walk Laws.canB (fun l _ => (Laws.can_ev l).rounds) w a0.data.toList a1 hl
   rw [← e] at h1
   exact h1
 · cases h
end Go.Proofs.YtmcpeifhapekoaaGreatDoor.PAll
