/- Texts of this seat, joined in the order in which they build. -/
import Derived.Test.YtmcpeifhapekoaaGreatDoorBw2
import Derived.Test.YtmcpeifhapekoaaGreatDoorBw1
import Derived.Test.YtmcpeifhapekoaaGreatDoorBw3
namespace Go.Proofs.YtmcpeifhapekoaaGreatDoor.PAll
open Go.RowKit Go.Proofs.YtmcpeifhapekoaaGreatDoorW.PrintWords Go.Proofs.YtmcpeifhapekoaaGreatDoorW.PrintLast Go.Proofs.YtmcpeifhapekoaaGreatDoorW.PrintMore
attribute [local go_sem] max2_int min2_int max_two min_two max_three min_three max_four min_four
set_option linter.unusedVariables false
set_option linter.unusedSimpArgs false
theorem uj.pre_is (p s:List UInt8):u1p.f (Base.ofL s) (Base.ofL p) = some (p.isPrefixOf s):=by
 have hs:(Base.ofL s).size = s.length:=(Tx.cut_ofL s 0 (by omega)).2.2
 have hp:(Base.ofL p).size = p.length:=(Tx.cut_ofL p 0 (by omega)).2.2
 unfold u1p.f u1w.f
 rw [hs,hp]
 by_cases h:p.length ≤ s.length
 · have e1:((Base.ofL s).extract 0 ((p.length:Int)).toNat).toList = s.take p.length:=by
    rw [ByteArray.toList_eq,Base.extract_list,Base.ofL_data]
    simp
   have e2:(Base.ofL p).toList = p:=by rw [ByteArray.toList_eq,Base.ofL_data]
   have e4:(s.take p.length == p) = p.isPrefixOf s:=by
    rw [Bool.eq_iff_iff,beq_iff_eq,List.isPrefixOf_iff_prefix]
    constructor
    · intro e
      rw [← e]
      exact List.take_prefix _ _
    · intro e
      exact (List.prefix_iff_eq_take.1 e).symm
   rw [if_pos (by omega),if_pos (by omega),if_pos (by omega),e1,e2,e4]
   rfl
 · have e5:p.isPrefixOf s = false:=by
    cases e:p.isPrefixOf s with
    | false => rfl
    | true => exact absurd (List.IsPrefix.length_le (List.isPrefixOf_iff_prefix.1 e)) h
   rw [if_neg (by omega),e5]
   rfl
theorem uj.known_is (s:List UInt8):text_known.f (Base.ofL s) = some (Tx.knownL s):=by
 have e:(Base.ofL s).toList = s:=by rw [ByteArray.toList_eq,Base.ofL_data]
 unfold text_known.f Tx.knownL Tx.kinds
 rw [e]
 simp only [List.contains_cons,List.contains_nil,Bool.or_false]
 repeat' split
 all_goals first
  | (rename_i h;subst h;rfl)
  | (simp_all;done)
  | (simp_all [beq_iff_eq])
theorem uj.both {s:List UInt8} (h:Tx.typeW.isPrefixOf s = true):Tx.helpW.isPrefixOf s = false:=by
 obtain ⟨t,rfl⟩:=List.isPrefixOf_iff_prefix.1 h
 rfl
theorem uj.pre_len {p s:List UInt8} (h:p.isPrefixOf s = true):p.length ≤ s.length:=List.IsPrefix.length_le (List.isPrefixOf_iff_prefix.1 h)
theorem uj.three {w0 W W4:World} {g:Nat} (hB:Below w0.heap.size w0 W4) (hw:w0.heap.size ≤ W.heap.size) (hk:u1q W W4 g none) (u v x:Value):Below w0.heap.size w0 (((W4.setCell ⟨W.heap.size,0,none⟩ u).setCell ⟨W.heap.size,1,none⟩ v).setCell ⟨W.heap.size,2,none⟩ x) ∧ u1q W (((W4.setCell ⟨W.heap.size,0,none⟩ u).setCell ⟨W.heap.size,1,none⟩ v).setCell ⟨W.heap.size,2,none⟩ x) g none :=
 ⟨((hB.setCell (p:=⟨W.heap.size,0,none⟩) hw u).setCell (p:=⟨W.heap.size,1,none⟩) hw v).setCell (p:=⟨W.heap.size,2,none⟩) hw x,ua.keep_new (p:=⟨W.heap.size,2,none⟩) (ua.keep_new (p:=⟨W.heap.size,1,none⟩) (ua.keep_new (p:=⟨W.heap.size,0,none⟩) hk (Nat.le_refl _) u) (Nat.le_refl _) v) (Nat.le_refl _) x⟩
theorem uj.res0 (W:World) (t n g:Nat) (b:ByteArray) (hg:g < W.heap.size):(((W.alloc (.cells #[.string ⟨#[]⟩,.string ⟨#[]⟩,.string ⟨#[]⟩] t)).drewN n).setCell ⟨g,0,none⟩ (.string b)).heap[W.heap.size]? = some (.cells #[.string ⟨#[]⟩,.string ⟨#[]⟩,.string ⟨#[]⟩] t (0,0)) :=
 (Below.heap_setCell _ ⟨g,0,none⟩ _ W.heap.size (by show W.heap.size ≠ g;omega)).trans (ua.new_at W _)
def uj.Out (w0 W:World) (g:Nat) (o:Option Tx.Me) (e:Ending) (W':World):Prop:=match o with
 | some m => e = .returned (.agg #[.string m.1,.string m.2.1,.string m.2.2]) ∧ Below w0.heap.size w0 W' ∧ u1q W W' g none
 | none => e = .panicked (u2l.chain 280) ∧ Below w0.heap.size w0 W'
theorem uj.out_none {w0 W:World} {g:Nat} {o:Option Tx.Me} (ho:o = none) {W':World} (h1:Below w0.heap.size w0 W'):uj.Out w0 W g o (.panicked (u2l.chain 280)) W':=by
 subst ho
 exact ⟨rfl,h1⟩
theorem uj.out_some {w0 W:World} {g:Nat} {o:Option Tx.Me} {a b c:ByteArray} (ho:o = some (a,b,c)) {W':World} (h2:Below w0.heap.size w0 W') (h3:u1q W W' g none):uj.Out w0 W g o (.returned (.agg #[.string a,.string b,.string c])) W':=by
 subst ho
 exact ⟨rfl,h2,h3⟩
set_option maxRecDepth 100000 in
set_option maxHeartbeats 2000000 in
theorem uj.other (w0 W:World) (g:Nat) (s:List UInt8) (hl:s.length ≤ 1000) (hh:Tx.helpW.isPrefixOf s = false) (ht:Tx.typeW.isPrefixOf s = false) (h:ua.St w0 W g s) :
 Calls Tryz.prog 48 #[.pointer (some ⟨g,0,none⟩)] W fun e W' => uj.Out w0 W g (Tx.remarkP s) e W':=by
 have HE:Aside0 (Tx.remarkP s = some (Base.ofL [],Base.ofL [],Base.ofL [])):=⟨by unfold Tx.remarkP;rw [hh,ht];rfl⟩
 have H1:Aside0 (u1p.f (Base.ofL s) (⟨#[35,32,72,69,76,80,32]⟩:ByteArray) = some false):=⟨(uj.pre_is Tx.helpW s).trans (by rw [hh])⟩
 have H2:Aside0 (u1p.f (Base.ofL s) (⟨#[35,32,84,89,80,69,32]⟩:ByteArray) = some false):=⟨(uj.pre_is Tx.typeW s).trans (by rw [ht])⟩
 have HS:=Aside0.mk h
 have hS1:=h.one_more (.cells #[.string ⟨#[]⟩,.string ⟨#[]⟩,.string ⟨#[]⟩] 34)
 obtain ⟨h0,f0⟩:=hS1.look
 clear h hh ht hS1
 go_enter Tryz.func48,Tryz.ntmps48
 go_wp2_with fail
 go_quiet (first
  | (go_at_call 20;(with_reducible refine (u1p.calls _ _ _ _ H1.out).mono ?_);rintro e w' ⟨rfl,⟨nd,rfl⟩⟩;exact ⟨rfl,_,World.drewN_drewN _ _ _⟩)
  | (go_at_call 20;(with_reducible refine (u1p.calls _ _ _ _ H2.out).mono ?_);rintro e w' ⟨rfl,⟨nd,rfl⟩⟩;exact ⟨rfl,_,World.drewN_drewN _ _ _⟩))
 go_wp2
 refine bodyPost_ret (v:=.agg #[.string ⟨#[]⟩,.string ⟨#[]⟩,.string ⟨#[]⟩]) (by simp [results,Tryz.results48,go_sem]) rfl (uj.out_some HE.out ?_ ?_)
 · exact (uj.three (g:=g) (uo HS.out.below HS.out.below.size (ub (ud (Below.refl _ _) _) nq)) HS.out.below.size (keep_drewN (keep_alloc (u1q.refl _ _ _) _) nq) _ _ _).1
 · exact (uj.three (g:=g) (uo HS.out.below HS.out.below.size (ub (ud (Below.refl _ _) _) nq)) HS.out.below.size (keep_drewN (keep_alloc (u1q.refl _ _ _) _) nq) _ _ _).2
set_option maxRecDepth 100000 in
set_option maxHeartbeats 4000000 in
theorem uj.help (w0 W:World) (g:Nat) (s:List UInt8) (hl:s.length ≤ 1000) (hh:Tx.helpW.isPrefixOf s = true) (ht:Tx.typeW.isPrefixOf s = false) (h:ua.St w0 W g s) :
 Calls Tryz.prog 48 #[.pointer (some ⟨g,0,none⟩)] W fun e W' => uj.Out w0 W g (Tx.remarkP s) e W':=by
 have H1:Aside0 (u1p.f (Base.ofL s) (⟨#[35,32,72,69,76,80,32]⟩:ByteArray) = some true):=⟨(uj.pre_is Tx.helpW s).trans (by rw [hh])⟩
 have H2:Aside0 (u1p.f (Base.ofL s) (⟨#[35,32,84,89,80,69,32]⟩:ByteArray) = some false):=⟨(uj.pre_is Tx.typeW s).trans (by rw [ht])⟩
 have HS:=Aside0.mk h
 have HG:=Aside0.mk h.lt
 have hS1:=h.one_more (.cells #[.string ⟨#[]⟩,.string ⟨#[]⟩,.string ⟨#[]⟩] 34)
 obtain ⟨h0,f0⟩:=hS1.look
 have h7:7 ≤ s.length:=uj.pre_len hh
 have hdl:(s.drop 7).length ≤ 1000:=by rw [List.length_drop];omega
 have hsz:(Base.ofL s).size = s.length:=(Tx.cut_ofL s 0 (by omega)).2.2
 have hcut:(Base.ofL s).extract 7 s.length = Base.ofL (s.drop 7):=by
  have:=(Tx.cut_ofL s 7 h7).2.1
  rwa [hsz] at this
 have HO:Aside0 (Tx.remarkP s = (Tx.nameP (s.drop 7)).bind fun p => (Tx.expectP [32] p.2).bind fun r => if Tx.plainL r = true then some (p.1,Base.ofL [],Base.ofL r) else none):=⟨by unfold Tx.remarkP;rw [hh,ht];rfl⟩
 generalize hoo:Tx.remarkP s = o at HO ⊢
 clear hoo h hh ht hS1
 cases hn:Tx.nameP (s.drop 7) with
 | none =>
   have HE:Aside0 (o = none):=⟨by rw [HO.out,hn];rfl⟩
   have HN:=Aside0.mk hn
   clear hn HO
   go_enter Tryz.func48,Tryz.ntmps48
   go_wp2_with fail
   go_quiet (first
    | (go_at_call 20;(with_reducible refine (u1p.calls _ _ _ _ H1.out).mono ?_);rintro e w' ⟨rfl,⟨nd,rfl⟩⟩;exact ⟨rfl,_,World.drewN_drewN _ _ _⟩)
    | (go_at_call 20;(with_reducible refine (u1p.calls _ _ _ _ H2.out).mono ?_);rintro e w' ⟨rfl,⟨nd,rfl⟩⟩;exact ⟨rfl,_,World.drewN_drewN _ _ _⟩))
   go_wp2_with (first
    | (go_at_call 81;(with_reducible refine (u2m.calls_no w0 _ g (s.drop 7) (by omega) HN.out (by exact ((HS.out.one_more _).drew nq).set _)).mono ?_);rintro e W2 ⟨rfl,hb2⟩))
   exact ⟨rfl,uj.out_none HE.out hb2⟩
 | some p =>
   obtain ⟨n,r⟩:=p
   have hr:=u1j.name_rest hn
   have HN:=Aside0.mk hn
   cases he:Tx.expectP [32] r with
   | none =>
     have HE2:Aside0 (o = none):=⟨by rw [HO.out,hn];simp only [Option.bind_some];rw [he];rfl⟩
     have HE:=Aside0.mk ((u1j.expect_is 32 r).2 he)
     clear hn he HO
     go_enter Tryz.func48,Tryz.ntmps48
     go_wp2_with fail
     go_quiet (first
      | (go_at_call 20;(with_reducible refine (u1p.calls _ _ _ _ H1.out).mono ?_);rintro e w' ⟨rfl,⟨nd,rfl⟩⟩;exact ⟨rfl,_,World.drewN_drewN _ _ _⟩)
      | (go_at_call 20;(with_reducible refine (u1p.calls _ _ _ _ H2.out).mono ?_);rintro e w' ⟨rfl,⟨nd,rfl⟩⟩;exact ⟨rfl,_,World.drewN_drewN _ _ _⟩))
     go_wp2_with (first
      | (go_at_call 81;(with_reducible refine (u2m.calls_ok w0 _ g (s.drop 7) (by omega) n r HN.out (by exact ((HS.out.one_more _).drew nq).set _)).mono ?_);rintro e W2 ⟨rfl,hs2,hk2⟩;have HS2:=Aside0.mk hs2;have HL2:Aside0 (W.heap.size < W2.heap.size):=⟨by have:=hk2.1;simp at this;omega⟩;have B2:=Aside0.mk (ua.kept_at hk2 (by have:=HG.out;omega) (uj.res0 W 34 nq g (Base.ofL (s.drop 7)) HG.out));have HK2:=Aside0.mk (ua.keep_then ((keep_drewN (keep_alloc (u1q.refl W g none) (.cells #[.string ⟨#[]⟩,.string ⟨#[]⟩,.string ⟨#[]⟩] 34)) nq).set_ 0 (.string (Base.ofL (s.drop 7)))) hk2);clear hs2 hk2)
      | (go_at_call 82;(with_reducible refine (u1n.calls_no w0 _ g 32 r HE.out (by exact HS2.out.one_more _)).mono ?_);rintro e W3 ⟨rfl,hb3⟩))
     exact ⟨rfl,uj.out_none HE2.out hb3⟩
   | some t =>
     have hrt:=(u1j.expect_is 32 r).1 t he
     have HV:Aside0 (o = if Tx.plainL t = true then some (n,Base.ofL [],Base.ofL t) else none):=⟨by rw [HO.out,hn];simp only [Option.bind_some];rw [he];rfl⟩
     subst hrt
     rw [List.length_cons] at hr
     clear hn he HO
     cases htt:Tx.plainL t with
     | false =>
       have HE:Aside0 (o = none):=⟨by rw [HV.out,htt];rfl⟩
       have HT:Aside0 (Tx.plainL t = false):=⟨htt⟩
       clear htt HV
       go_enter Tryz.func48,Tryz.ntmps48
       go_wp2_with fail
       go_quiet (first
        | (go_at_call 20;(with_reducible refine (u1p.calls _ _ _ _ H1.out).mono ?_);rintro e w' ⟨rfl,⟨nd,rfl⟩⟩;exact ⟨rfl,_,World.drewN_drewN _ _ _⟩)
        | (go_at_call 20;(with_reducible refine (u1p.calls _ _ _ _ H2.out).mono ?_);rintro e w' ⟨rfl,⟨nd,rfl⟩⟩;exact ⟨rfl,_,World.drewN_drewN _ _ _⟩))
       go_wp2_with (first
        | (go_at_call 81;(with_reducible refine (u2m.calls_ok w0 _ g (s.drop 7) (by omega) n (32 :: t) HN.out (by exact ((HS.out.one_more _).drew nq).set _)).mono ?_);rintro e W2 ⟨rfl,hs2,hk2⟩;have HS2:=Aside0.mk hs2;have HL2:Aside0 (W.heap.size < W2.heap.size):=⟨by have:=hk2.1;simp at this;omega⟩;have B2:=Aside0.mk (ua.kept_at hk2 (by have:=HG.out;omega) (uj.res0 W 34 nq g (Base.ofL (s.drop 7)) HG.out));have HK2:=Aside0.mk (ua.keep_then ((keep_drewN (keep_alloc (u1q.refl W g none) (.cells #[.string ⟨#[]⟩,.string ⟨#[]⟩,.string ⟨#[]⟩] 34)) nq).set_ 0 (.string (Base.ofL (s.drop 7)))) hk2);clear hs2 hk2)
        | (go_at_call 82;(with_reducible refine (u1n.calls_ok w0 _ g 32 t (by exact HS2.out.one_more _)).mono ?_);rintro e W3 ⟨rfl,hs3,hk3⟩;have HS3:=Aside0.mk hs3;have B3:=Aside0.mk (ua.kept_at (b:=W.heap.size) hk3 (by have:=HG.out;omega) (ua.new_old B2.out _));have C3:=Aside0.mk (ua.kept_at hk3 (by have:=HG.out;have:=HL2.out;omega) (ua.new_at W2 _));have HK3:=Aside0.mk (ua.keep_then HK2.out (ua.keep_from hk3));clear h0 f0;obtain ⟨h0,f0⟩:=hs3.look;clear hs3 hk3)
        | (go_at_call 31;(with_reducible refine (u2s.calls t (by omega) _).mono ?_);rw [HT.out];rintro e W4 ⟨rfl,hb4⟩;have HS4:=Aside0.mk (HS3.out.more hb4);have B4:=Aside0.mk (ua.below_at hb4 B3.out);have C4:=Aside0.mk (ua.below_at hb4 C3.out);have HK4:=Aside0.mk (ua.keep_then HK3.out (u1q.of_below hb4 g none));clear h0 f0;obtain ⟨h0,f0⟩:=HS4.out.look;obtain ⟨⟨a0,a1,a2⟩,a3,a4,a5⟩:=uc.look3 B4.out;obtain ⟨⟨c0,c1,c2⟩,c3,c4,c5⟩:=uc.look3 C4.out;clear hb4)
        | (go_at_call 83;(with_reducible refine (u2e.calls_no _).mono ?_);rintro e W5 ⟨rfl,rfl⟩))
       exact ⟨rfl,uj.out_none HE.out HS4.out.below⟩
     | true =>
       have HE:Aside0 (o = some (n,Base.ofL [],Base.ofL t)):=⟨by rw [HV.out,htt];rfl⟩
       have HT:Aside0 (Tx.plainL t = true):=⟨htt⟩
       have N1:Aside0 (g < W.heap.size):=⟨HG.out⟩
       clear htt HV
       go_enter Tryz.func48,Tryz.ntmps48
       go_wp2_with fail
       go_quiet (first
        | (go_at_call 20;(with_reducible refine (u1p.calls _ _ _ _ H1.out).mono ?_);rintro e w' ⟨rfl,⟨nd,rfl⟩⟩;exact ⟨rfl,_,World.drewN_drewN _ _ _⟩)
        | (go_at_call 20;(with_reducible refine (u1p.calls _ _ _ _ H2.out).mono ?_);rintro e w' ⟨rfl,⟨nd,rfl⟩⟩;exact ⟨rfl,_,World.drewN_drewN _ _ _⟩))
       go_wp2_with (first
        | (go_at_call 81;(with_reducible refine (u2m.calls_ok w0 _ g (s.drop 7) (by omega) n (32 :: t) HN.out (by exact ((HS.out.one_more _).drew nq).set _)).mono ?_);rintro e W2 ⟨rfl,hs2,hk2⟩;have HS2:=Aside0.mk hs2;have HL2:Aside0 (W.heap.size < W2.heap.size):=⟨by have:=hk2.1;simp at this;omega⟩;have B2:=Aside0.mk (ua.kept_at hk2 (by have:=HG.out;omega) (uj.res0 W 34 nq g (Base.ofL (s.drop 7)) HG.out));have HK2:=Aside0.mk (ua.keep_then ((keep_drewN (keep_alloc (u1q.refl W g none) (.cells #[.string ⟨#[]⟩,.string ⟨#[]⟩,.string ⟨#[]⟩] 34)) nq).set_ 0 (.string (Base.ofL (s.drop 7)))) hk2);clear hs2 hk2)
        | (go_at_call 82;(with_reducible refine (u1n.calls_ok w0 _ g 32 t (by exact HS2.out.one_more _)).mono ?_);rintro e W3 ⟨rfl,hs3,hk3⟩;have HS3:=Aside0.mk hs3;have B3:=Aside0.mk (ua.kept_at (b:=W.heap.size) hk3 (by have:=HG.out;omega) (ua.new_old B2.out _));have C3:=Aside0.mk (ua.kept_at hk3 (by have:=HG.out;have:=HL2.out;omega) (ua.new_at W2 _));have HK3:=Aside0.mk (ua.keep_then HK2.out (ua.keep_from hk3));clear h0 f0;obtain ⟨h0,f0⟩:=hs3.look;clear hs3 hk3)
        | (go_at_call 31;(with_reducible refine (u2s.calls t (by omega) _).mono ?_);rw [HT.out];rintro e W4 ⟨rfl,hb4⟩;have HS4:=Aside0.mk (HS3.out.more hb4);have B4:=Aside0.mk (ua.below_at hb4 B3.out);have C4:=Aside0.mk (ua.below_at hb4 C3.out);have HK4:=Aside0.mk (ua.keep_then HK3.out (u1q.of_below hb4 g none));clear h0 f0;obtain ⟨h0,f0⟩:=HS4.out.look;obtain ⟨⟨a0,a1,a2⟩,a3,a4,a5⟩:=uc.look3 B4.out;obtain ⟨⟨c0,c1,c2⟩,c3,c4,c5⟩:=uc.look3 C4.out;clear hb4;have n1:¬ W2.heap.size = g:=(by have:=HG.out;have:=HL2.out;omega);have n2:¬ W.heap.size = g:=(by have:=HG.out;omega);have n3:¬ W.heap.size = W2.heap.size:=(by have:=HL2.out;omega);have n4:¬ g = W2.heap.size:=fun e => n1 e.symm;have n5:¬ g = W.heap.size:=fun e => n2 e.symm;have n6:¬ W2.heap.size = W.heap.size:=fun e => n3 e.symm)
        | (go_at_call 83;(with_reducible refine (u2e.calls_ok _).mono ?_);rintro e W5 ⟨rfl,rfl⟩))
       refine bodyPost_ret (v:=.agg #[.string n,.string ⟨#[]⟩,.string (Base.ofL t)]) (by simp [results,Tryz.results48,go_sem,a0,a1,a2,n1,n2,n3,n4,n5,n6]) rfl ?_
       have hw:w0.heap.size ≤ W.heap.size:=HS.out.below.size
       have hw2:w0.heap.size ≤ W2.heap.size:=HS2.out.below.size
       have h3:=uj.three (u:=.string n) (v:=.string ⟨#[]⟩) (x:=.string (Base.ofL t)) (HS4.out.below.setCell (p:=⟨W2.heap.size,2,none⟩) hw2 (.string (Base.ofL t))) hw (ua.keep_new (p:=⟨W2.heap.size,2,none⟩) HK4.out (by have:=HL2.out;show W.heap.size ≤ W2.heap.size;omega) (.string (Base.ofL t)))
       exact uj.out_some HE.out h3.1 h3.2
set_option maxRecDepth 100000 in
set_option maxHeartbeats 4000000 in
theorem uj.type (w0 W:World) (g:Nat) (s:List UInt8) (hl:s.length ≤ 1000) (hh:Tx.helpW.isPrefixOf s = false) (ht:Tx.typeW.isPrefixOf s = true) (h:ua.St w0 W g s) :
 Calls Tryz.prog 48 #[.pointer (some ⟨g,0,none⟩)] W fun e W' => uj.Out w0 W g (Tx.remarkP s) e W':=by
 have H1:Aside0 (u1p.f (Base.ofL s) (⟨#[35,32,72,69,76,80,32]⟩:ByteArray) = some false):=⟨(uj.pre_is Tx.helpW s).trans (by rw [hh])⟩
 have H2:Aside0 (u1p.f (Base.ofL s) (⟨#[35,32,84,89,80,69,32]⟩:ByteArray) = some true):=⟨(uj.pre_is Tx.typeW s).trans (by rw [ht])⟩
 have HS:=Aside0.mk h
 have HG:=Aside0.mk h.lt
 have hS1:=h.one_more (.cells #[.string ⟨#[]⟩,.string ⟨#[]⟩,.string ⟨#[]⟩] 34)
 obtain ⟨h0,f0⟩:=hS1.look
 have h7:7 ≤ s.length:=uj.pre_len ht
 have hdl:(s.drop 7).length ≤ 1000:=by rw [List.length_drop];omega
 have hsz:(Base.ofL s).size = s.length:=(Tx.cut_ofL s 0 (by omega)).2.2
 have hcut:(Base.ofL s).extract 7 s.length = Base.ofL (s.drop 7):=by
  have:=(Tx.cut_ofL s 7 h7).2.1
  rwa [hsz] at this
 have HO:Aside0 (Tx.remarkP s = (Tx.nameP (s.drop 7)).bind fun p => (Tx.expectP [32] p.2).bind fun r => if Tx.knownL r = true then some (p.1,Base.ofL r,Base.ofL []) else none):=⟨by unfold Tx.remarkP;rw [hh,ht];rfl⟩
 generalize hoo:Tx.remarkP s = o at HO ⊢
 clear hoo h hh ht hS1
 cases hn:Tx.nameP (s.drop 7) with
 | none =>
   have HE:Aside0 (o = none):=⟨by rw [HO.out,hn];rfl⟩
   have HN:=Aside0.mk hn
   clear hn HO
   go_enter Tryz.func48,Tryz.ntmps48
   go_wp2_with fail
   go_quiet (first
    | (go_at_call 20;(with_reducible refine (u1p.calls _ _ _ _ H1.out).mono ?_);rintro e w' ⟨rfl,⟨nd,rfl⟩⟩;exact ⟨rfl,_,World.drewN_drewN _ _ _⟩)
    | (go_at_call 20;(with_reducible refine (u1p.calls _ _ _ _ H2.out).mono ?_);rintro e w' ⟨rfl,⟨nd,rfl⟩⟩;exact ⟨rfl,_,World.drewN_drewN _ _ _⟩))
   go_wp2_with (first
    | (go_at_call 81;(with_reducible refine (u2m.calls_no w0 _ g (s.drop 7) (by omega) HN.out (by exact ((HS.out.one_more _).drew nq).set _)).mono ?_);rintro e W2 ⟨rfl,hb2⟩))
   exact ⟨rfl,uj.out_none HE.out hb2⟩
 | some p =>
   obtain ⟨n,r⟩:=p
   have hr:=u1j.name_rest hn
   have HN:=Aside0.mk hn
   cases he:Tx.expectP [32] r with
   | none =>
     have HE2:Aside0 (o = none):=⟨by rw [HO.out,hn];simp only [Option.bind_some];rw [he];rfl⟩
     have HE:=Aside0.mk ((u1j.expect_is 32 r).2 he)
     clear hn he HO
     go_enter Tryz.func48,Tryz.ntmps48
     go_wp2_with fail
     go_quiet (first
      | (go_at_call 20;(with_reducible refine (u1p.calls _ _ _ _ H1.out).mono ?_);rintro e w' ⟨rfl,⟨nd,rfl⟩⟩;exact ⟨rfl,_,World.drewN_drewN _ _ _⟩)
      | (go_at_call 20;(with_reducible refine (u1p.calls _ _ _ _ H2.out).mono ?_);rintro e w' ⟨rfl,⟨nd,rfl⟩⟩;exact ⟨rfl,_,World.drewN_drewN _ _ _⟩))
     go_wp2_with (first
      | (go_at_call 81;(with_reducible refine (u2m.calls_ok w0 _ g (s.drop 7) (by omega) n r HN.out (by exact ((HS.out.one_more _).drew nq).set _)).mono ?_);rintro e W2 ⟨rfl,hs2,hk2⟩;have HS2:=Aside0.mk hs2;have HL2:Aside0 (W.heap.size < W2.heap.size):=⟨by have:=hk2.1;simp at this;omega⟩;have B2:=Aside0.mk (ua.kept_at hk2 (by have:=HG.out;omega) (uj.res0 W 34 nq g (Base.ofL (s.drop 7)) HG.out));have HK2:=Aside0.mk (ua.keep_then ((keep_drewN (keep_alloc (u1q.refl W g none) (.cells #[.string ⟨#[]⟩,.string ⟨#[]⟩,.string ⟨#[]⟩] 34)) nq).set_ 0 (.string (Base.ofL (s.drop 7)))) hk2);clear hs2 hk2)
      | (go_at_call 82;(with_reducible refine (u1n.calls_no w0 _ g 32 r HE.out (by exact HS2.out.one_more _)).mono ?_);rintro e W3 ⟨rfl,hb3⟩))
     exact ⟨rfl,uj.out_none HE2.out hb3⟩
   | some t =>
     have hrt:=(u1j.expect_is 32 r).1 t he
     have HV:Aside0 (o = if Tx.knownL t = true then some (n,Base.ofL t,Base.ofL []) else none):=⟨by rw [HO.out,hn];simp only [Option.bind_some];rw [he];rfl⟩
     subst hrt
     rw [List.length_cons] at hr
     clear hn he HO
     cases htt:Tx.knownL t with
     | false =>
       have HE:Aside0 (o = none):=⟨by rw [HV.out,htt];rfl⟩
       have HT:Aside0 (text_known.f (Base.ofL t) = some false):=⟨(uj.known_is t).trans (by rw [htt])⟩
       clear htt HV
       go_enter Tryz.func48,Tryz.ntmps48
       go_wp2_with fail
       go_quiet (first
        | (go_at_call 20;(with_reducible refine (u1p.calls _ _ _ _ H1.out).mono ?_);rintro e w' ⟨rfl,⟨nd,rfl⟩⟩;exact ⟨rfl,_,World.drewN_drewN _ _ _⟩)
        | (go_at_call 20;(with_reducible refine (u1p.calls _ _ _ _ H2.out).mono ?_);rintro e w' ⟨rfl,⟨nd,rfl⟩⟩;exact ⟨rfl,_,World.drewN_drewN _ _ _⟩))
       go_wp2_with (first
        | (go_at_call 81;(with_reducible refine (u2m.calls_ok w0 _ g (s.drop 7) (by omega) n (32 :: t) HN.out (by exact ((HS.out.one_more _).drew nq).set _)).mono ?_);rintro e W2 ⟨rfl,hs2,hk2⟩;have HS2:=Aside0.mk hs2;have HL2:Aside0 (W.heap.size < W2.heap.size):=⟨by have:=hk2.1;simp at this;omega⟩;have B2:=Aside0.mk (ua.kept_at hk2 (by have:=HG.out;omega) (uj.res0 W 34 nq g (Base.ofL (s.drop 7)) HG.out));have HK2:=Aside0.mk (ua.keep_then ((keep_drewN (keep_alloc (u1q.refl W g none) (.cells #[.string ⟨#[]⟩,.string ⟨#[]⟩,.string ⟨#[]⟩] 34)) nq).set_ 0 (.string (Base.ofL (s.drop 7)))) hk2);clear hs2 hk2)
        | (go_at_call 82;(with_reducible refine (u1n.calls_ok w0 _ g 32 t (by exact HS2.out.one_more _)).mono ?_);rintro e W3 ⟨rfl,hs3,hk3⟩;have HS3:=Aside0.mk hs3;have B3:=Aside0.mk (ua.kept_at (b:=W.heap.size) hk3 (by have:=HG.out;omega) (ua.new_old B2.out _));have C3:=Aside0.mk (ua.kept_at hk3 (by have:=HG.out;have:=HL2.out;omega) (ua.new_at W2 _));have HK3:=Aside0.mk (ua.keep_then HK2.out (ua.keep_from hk3));clear h0 f0;obtain ⟨h0,f0⟩:=hs3.look;clear hs3 hk3)
        | (go_at_call 30;(with_reducible refine (text_known.calls _ _ _ HT.out).mono ?_);rintro e W4 ⟨rfl,⟨kd,rfl⟩⟩;have HS4:=Aside0.mk (HS3.out.drew kd);have B4:=Aside0.mk (ua.below_at (ub (Below.refl _ _) kd) B3.out);have C4:=Aside0.mk (ua.below_at (ub (Below.refl _ _) kd) C3.out);have HK4:=Aside0.mk (keep_drewN HK3.out kd);obtain ⟨⟨a0,a1,a2⟩,a3,a4,a5⟩:=uc.look3 B3.out;obtain ⟨⟨c0,c1,c2⟩,c3,c4,c5⟩:=uc.look3 C3.out)
        | (go_at_call 83;(with_reducible refine (u2e.calls_no _).mono ?_);rintro e W5 ⟨rfl,rfl⟩))
       exact ⟨rfl,uj.out_none HE.out HS4.out.below⟩
     | true =>
       have HE:Aside0 (o = some (n,Base.ofL t,Base.ofL [])):=⟨by rw [HV.out,htt];rfl⟩
       have HT:Aside0 (text_known.f (Base.ofL t) = some true):=⟨(uj.known_is t).trans (by rw [htt])⟩
       have N1:Aside0 (g < W.heap.size):=⟨HG.out⟩
       clear htt HV
       go_enter Tryz.func48,Tryz.ntmps48
       go_wp2_with fail
       go_quiet (first
        | (go_at_call 20;(with_reducible refine (u1p.calls _ _ _ _ H1.out).mono ?_);rintro e w' ⟨rfl,⟨nd,rfl⟩⟩;exact ⟨rfl,_,World.drewN_drewN _ _ _⟩)
        | (go_at_call 20;(with_reducible refine (u1p.calls _ _ _ _ H2.out).mono ?_);rintro e w' ⟨rfl,⟨nd,rfl⟩⟩;exact ⟨rfl,_,World.drewN_drewN _ _ _⟩))
       go_wp2_with (first
        | (go_at_call 81;(with_reducible refine (u2m.calls_ok w0 _ g (s.drop 7) (by omega) n (32 :: t) HN.out (by exact ((HS.out.one_more _).drew nq).set _)).mono ?_);rintro e W2 ⟨rfl,hs2,hk2⟩;have HS2:=Aside0.mk hs2;have HL2:Aside0 (W.heap.size < W2.heap.size):=⟨by have:=hk2.1;simp at this;omega⟩;have B2:=Aside0.mk (ua.kept_at hk2 (by have:=HG.out;omega) (uj.res0 W 34 nq g (Base.ofL (s.drop 7)) HG.out));have HK2:=Aside0.mk (ua.keep_then ((keep_drewN (keep_alloc (u1q.refl W g none) (.cells #[.string ⟨#[]⟩,.string ⟨#[]⟩,.string ⟨#[]⟩] 34)) nq).set_ 0 (.string (Base.ofL (s.drop 7)))) hk2);clear hs2 hk2)
        | (go_at_call 82;(with_reducible refine (u1n.calls_ok w0 _ g 32 t (by exact HS2.out.one_more _)).mono ?_);rintro e W3 ⟨rfl,hs3,hk3⟩;have HS3:=Aside0.mk hs3;have B3:=Aside0.mk (ua.kept_at (b:=W.heap.size) hk3 (by have:=HG.out;omega) (ua.new_old B2.out _));have C3:=Aside0.mk (ua.kept_at hk3 (by have:=HG.out;have:=HL2.out;omega) (ua.new_at W2 _));have HK3:=Aside0.mk (ua.keep_then HK2.out (ua.keep_from hk3));clear h0 f0;obtain ⟨h0,f0⟩:=hs3.look;clear hs3 hk3)
        | (go_at_call 30;(with_reducible refine (text_known.calls _ _ _ HT.out).mono ?_);rintro e W4 ⟨rfl,⟨kd,rfl⟩⟩;have HS4:=Aside0.mk (HS3.out.drew kd);have B4:=Aside0.mk (ua.below_at (ub (Below.refl _ _) kd) B3.out);have C4:=Aside0.mk (ua.below_at (ub (Below.refl _ _) kd) C3.out);have HK4:=Aside0.mk (keep_drewN HK3.out kd);obtain ⟨⟨a0,a1,a2⟩,a3,a4,a5⟩:=uc.look3 B3.out;obtain ⟨⟨c0,c1,c2⟩,c3,c4,c5⟩:=uc.look3 C3.out;have n1:¬ W2.heap.size = g:=(by have:=HG.out;have:=HL2.out;omega);have n2:¬ W.heap.size = g:=(by have:=HG.out;omega);have n3:¬ W.heap.size = W2.heap.size:=(by have:=HL2.out;omega);have n4:¬ g = W2.heap.size:=fun e => n1 e.symm;have n5:¬ g = W.heap.size:=fun e => n2 e.symm;have n6:¬ W2.heap.size = W.heap.size:=fun e => n3 e.symm)
        | (go_at_call 83;(with_reducible refine (u2e.calls_ok _).mono ?_);rintro e W5 ⟨rfl,rfl⟩))
       refine bodyPost_ret (v:=.agg #[.string n,.string (Base.ofL t),.string ⟨#[]⟩]) (by simp [results,Tryz.results48,go_sem,a0,a1,a2,n1,n2,n3,n4,n5,n6]) rfl ?_
       have hw:w0.heap.size ≤ W.heap.size:=HS.out.below.size
       have hw2:w0.heap.size ≤ W2.heap.size:=HS2.out.below.size
       have h3:=uj.three (u:=.string n) (v:=.string (Base.ofL t)) (x:=.string ⟨#[]⟩) (HS4.out.below.setCell (p:=⟨W2.heap.size,1,none⟩) hw2 (.string (Base.ofL t))) hw (ua.keep_new (p:=⟨W2.heap.size,1,none⟩) HK4.out (by have:=HL2.out;show W.heap.size ≤ W2.heap.size;omega) (.string (Base.ofL t)))
       exact uj.out_some HE.out h3.1 h3.2
theorem uj.calls (w0 W:World) (g:Nat) (s:List UInt8) (hl:s.length ≤ 1000) (h:ua.St w0 W g s) :
 Calls Tryz.prog 48 #[.pointer (some ⟨g,0,none⟩)] W fun e W' => uj.Out w0 W g (Tx.remarkP s) e W':=by
 cases ht:Tx.typeW.isPrefixOf s with
 | true => exact uj.type w0 W g s hl (uj.both ht) ht h
 | false =>
   cases hh:Tx.helpW.isPrefixOf s with
   | true => exact uj.help w0 W g s hl hh ht h
   | false => exact uj.other w0 W g s hl hh ht h
def u2a.l0:Nat → List ByteArray → List (S66) → Int → Int → Option (ByteArray × Int)
 | 0,_,_,_,_ => none
 | k + 1,x4,x13,x14,x15 => if x15 < x14 then (if 0 ≤ x15 then (if x15 < (x13.length:Int) then (if ((un x13 x15).f0).size + 1 ≤ 9223372036854775807 then ((u1k.f ((un x13 x15).f1)).bind fun t296 => (if (((un x13 x15).f0) ++ (⟨#[61]⟩:ByteArray)).size + t296.size ≤ 9223372036854775807 then (if x15 < (x4.length:Int) then (u2a.l0 k (x4.set (x15:Int).toNat ((((un x13 x15).f0) ++ (⟨#[61]⟩:ByteArray)) ++ t296)) x13 x14 (wrap64 (x15 + 1))) else (none)) else (none))) else (none)) else (none)) else (none)) else ((strings_Join.f x4 (⟨#[44]⟩:ByteArray)).bind fun t298 => (if 1 + t298.size ≤ 9223372036854775807 then (if ((⟨#[123]⟩:ByteArray) ++ t298).size + 1 ≤ 9223372036854775807 then (some (((⟨#[123]⟩:ByteArray) ++ t298) ++ (⟨#[125]⟩:ByteArray),0)) else (none)) else (none)))
def u2a.f (k:Nat) (l0:List (S66)):Option (ByteArray × Int):=(u1s.f k l0).bind fun t290 => (if t290 = true then (if 0 ≤ (l0.length:Int) then (if ((l0.length:Int):Int).toNat ≤ 17592186044416 then (u2a.l0 k (List.replicate ((l0.length:Int):Int).toNat (⟨#[]⟩:ByteArray)) l0 (l0.length:Int) 0) else (none)) else (none)) else (some ((⟨#[]⟩:ByteArray),1)))
def u2a.T7:Bool × List (List Nat × List Nat):=(true,[([],[]),([],[]),([],[]),([2],[2]),([3],[3]),([],[]),([5],[5]),([6],[6]),([4,7],[4,7]),([0,1,0,1,2,3,4,5,6,7,8],[0,1]),([9,8,7,0,1,2,3,4,5,6,7,8],[8,9])])
def u2a.B7:List Nat:=[0,0,0,4,12,0,32,96,252,511,1023]
theorem u2a.tab7:rtab .any (opsOf Tryz.f67 7) = u2a.T7:=by kernel_rfl
theorem u2a.bits7:waitsOk u2a.T7.2 u2a.B7 = true:=by kernel_rfl
set_option maxHeartbeats 8000000 in
set_option maxRecDepth 100000 in
theorem u2a.calls (k:Nat) (A0:Option Addr) (c0:Nat) (l0:List (S66)) (r1:ByteArray) (r2:Int) (w:World) (hr0:Kd.C k66 w A0 l0.length l0) (hc0:l0.length ≤ c0) (h:u2a.f k l0 = some (r1,r2)) :
 Calls Tryz.prog 67 #[.slice A0 l0.length c0] w fun e w' => e = .returned (.tuple #[.string r1,.int .i64 r2]) ∧ Below w.heap.size w w':=by
 have hu66:=Tryz.underlying66
 have HR0:=Aside0.mk hr0
 have HC0:=Aside0.mk hc0
 clear hr0 hc0
 have HB:=Aside0.mk (Below.refl w.heap.size w)
 have H:((u1s.f k l0).bind fun t290 => (if t290 = true then (if 0 ≤ (l0.length:Int) then (if ((l0.length:Int):Int).toNat ≤ 17592186044416 then (u2a.l0 k (List.replicate ((l0.length:Int):Int).toNat (⟨#[]⟩:ByteArray)) l0 (l0.length:Int) 0) else (none)) else (none)) else (some ((⟨#[]⟩:ByteArray),1)))) = some (r1,r2):=h
 clear h
 replace H:=Option.bind_eq_some_iff.mp H
 obtain ⟨t290,A20,H⟩:=H
 replace H:(if t290 = true then (if 0 ≤ (l0.length:Int) then (if ((l0.length:Int):Int).toNat ≤ 17592186044416 then (u2a.l0 k (List.replicate ((l0.length:Int):Int).toNat (⟨#[]⟩:ByteArray)) l0 (l0.length:Int) 0) else (none)) else (none)) else (some ((⟨#[]⟩:ByteArray),1))) = some (r1,r2):=H
 have A2:=Aside0.mk A20
 clear A20
 by_cases c3:t290 = true
 · subst c3
   have H1:(if 0 ≤ (l0.length:Int) then (if ((l0.length:Int):Int).toNat ≤ 17592186044416 then (u2a.l0 k (List.replicate ((l0.length:Int):Int).toNat (⟨#[]⟩:ByteArray)) l0 (l0.length:Int) 0) else (none)) else (none)) = some (r1,r2):=by rw [if_pos rfl] at H;exact H
   clear H
   have H:=H1
   clear H1
   by_cases c4:0 ≤ (l0.length:Int)
   · rw [if_pos c4] at H
     have c4b0:=eq_true c4
     have c4b1:decide (0 ≤ (l0.length:Int)) = true:=decide_eq_true c4
     clear c4
     by_cases c5:((l0.length:Int):Int).toNat ≤ 17592186044416
     · rw [if_pos c5] at H
       have c5b0:=eq_true c5
       have c5b1:decide (((l0.length:Int):Int).toNat ≤ 17592186044416) = true:=decide_eq_true c5
       clear c5
       obtain ⟨y291,hy291⟩:∃ y_:List ByteArray,y_ = (List.replicate ((l0.length:Int):Int).toNat (⟨#[]⟩:ByteArray)):=⟨_,rfl⟩
       replace H:(u2a.l0 k y291 l0 (l0.length:Int) 0) = some (r1,r2):=by first | (rw [hy291];with_reducible exact H) | (have H2_:=(Option.bind_some _ _).symm.trans H;rw [hy291];with_reducible exact H2_) | (have H2_:=(Option.bind_some _ _).symm.trans H;with_reducible exact H2_) | with_reducible exact H | (rw [hy291];exact H) | exact H
       have Ny291:=Aside0.mk hy291
       clear hy291
       have H':=Aside0.mk H
       clear H
       go_enter Tryz.func67,Tryz.ntmps67
       go_wp2_with (first | ((with_reducible refine u2w (f:=33) rfl ?_);refine goesL_ (some 8) rfl rfl Tryz.func33 (by kernel_rfl) rfl #[.slice A0 l0.length c0] rfl (by (try simp only [List.map_toArray,List.map_cons,List.map_nil]);first | done | rfl | (simp only [List.length_drop,List.length_take];rfl)) ?_;(with_reducible refine (u1s.calls k _ _ l0 true _ ?side1 ?side2 A2.out).mono ?_);(case side1 => repeat (first | exact HR0.out | (with_reducible refine Kd.C_alloc ?_ _) | (with_reducible refine Kd.C_drewN ?_ _) | (with_reducible refine Kd.C_drew ?_)));(case side2 => exact HC0.out);rintro e w6 ⟨rfl,hb⟩;refine ⟨_,rfl,?_⟩;have n0_:=Aside0.mk (u1c (by repeat (first | (with_reducible first | exact HB.out | apply ud | apply ub | apply uf) | exact HB.out)) hb);clear HB;have HB:=n0_;clear n0_;(try clear hb);(try clear hb2);(try clear hk);(try clear hi)) | ((with_reducible refine u2o (N:=12) rfl ?_);refine Kd.R_make Kd.string _ 9 rfl (N:=12) rfl 113 _ _ rfl (l0.length:Int) rfl rfl Tryz.underlying113 (.string ⟨#[]⟩) 16 info9 rfl (by decide) (by omega) (⟨#[]⟩:ByteArray) (ok:=fun _ => True) (okp:=fun _ => True) rfl (fun _ hk => hk) trivial (of_decide_eq_true (by first | (with_reducible assumption) | assumption)) (Nat.le_trans (Nat.mul_le_mul_right _ (of_decide_eq_true (by first | (with_reducible assumption) | assumption):(l0.length:Int).toNat ≤ 17592186044416)) (by omega)) (Below.refl _ _) (Nat.le_refl _) ?_;intro v292 w7 ho8 hb hg_ hnew_;clear hg_ hnew_;(first | rw [← Ny291.out] at ho8 | (simp only [Int.reduceToNat] at ho8;rw [← Ny291.out] at ho8));have n0_:=Aside0.mk (Kd.R_lower ho8 (uz (by repeat (first | (with_reducible first | exact HB.out | apply ud | apply ub | apply uf) | exact HB.out))));have n1_:=Aside0.mk (u1c (by repeat (first | (with_reducible first | exact HB.out | apply ud | apply ub | apply uf) | exact HB.out)) hb);clear HB;have HO293:=n0_;have HB:=n1_;clear n0_ n1_;clear hb ho8))
       go_loopg [15] k (fun kq v15 w' => ∃ (x4_1:List ByteArray) (x15_1:Int),v15 = .int .i64 x15_1 ∧ Aside0 (u2a.l0 kq x4_1 l0 (l0.length:Int) x15_1 = some (r1,r2)) ∧ Aside0 (kq ≤ k) ∧ Aside0 (Kd.R Kd.string 9 w' w.heap.size (fun _ => True) v292 x4_1) ∧ Aside0 (Below w.heap.size w w'))
       case atStart => exact ⟨(y291),(0),(by first | rfl | (simp;done) | (simp [*];done)),H',⟨Nat.le_refl _⟩,⟨by (with_reducible repeat (first | apply Kd.R_alloc | apply Kd.R_drewN | apply Kd.R_drew));exact HO293.out⟩,⟨by repeat (first | (with_reducible first | exact HB.out | apply ud | apply ub | apply uf) | exact HB.out)⟩⟩
       case round =>
        clear H'
        try clear p2
        try clear c3
        try clear c4
        try clear c4b0
        try clear c4b1
        try clear c5
        try clear c5b0
        try clear c5b1
        try clear c6
        obtain ⟨x4_1,x15_1,rfl,HA,HK1,HO_4,HB⟩:=hrel
        cases gk with
        | zero => exact absurd HA.out (by simp [u2a.l0])
        | succ k1 =>
          have H:=HA.out
          clear HA
          simp only [u2a.l0] at H
          by_cases c9:x15_1 < (l0.length:Int)
          · rw [if_pos c9] at H
            have c9b0:decide (x15_1 < (l0.length:Int)) = true:=decide_eq_true c9
            clear c9
            by_cases c10:0 ≤ x15_1
            · rw [if_pos c10] at H
              have c10b0:decide (0 ≤ x15_1) = true:=decide_eq_true c10
              clear c10
              by_cases c11:x15_1 < (l0.length:Int)
              · rw [if_pos c11] at H
                have c11b0:decide (x15_1 < (l0.length:Int)) = true:=decide_eq_true c11
                clear c11
                by_cases c12:((un l0 x15_1).f0).size + 1 ≤ 9223372036854775807
                · rw [if_pos c12] at H
                  have c12b0:=eq_true c12
                  have c12b1:decide (((un l0 x15_1).f0).size + 1 ≤ 9223372036854775807) = true:=decide_eq_true c12
                  try have c12b2:(9223372036854775807 < ((un l0 x15_1).f0).size + 1) = False:=eq_false (Nat.not_lt.2 c12)
                  try (have c12b3:=c12b2;simp only [ByteArray.size_append,Base.size1,(show ∀ a_ b_:UInt8,(⟨#[a_,b_]⟩:ByteArray).size = 2 from fun _ _ => rfl)] at c12b3)
                  replace H:=Option.bind_eq_some_iff.mp H
                  obtain ⟨t296,A130,H⟩:=H
                  replace H:(if (((un l0 x15_1).f0) ++ (⟨#[61]⟩:ByteArray)).size + t296.size ≤ 9223372036854775807 then (if x15_1 < (x4_1.length:Int) then (u2a.l0 k1 (x4_1.set (x15_1:Int).toNat ((((un l0 x15_1).f0) ++ (⟨#[61]⟩:ByteArray)) ++ t296)) l0 (l0.length:Int) (wrap64 (x15_1 + 1))) else (none)) else (none)) = some (r1,r2):=H
                  have A13:=Aside0.mk A130
                  clear A130
                  by_cases c14:(((un l0 x15_1).f0) ++ (⟨#[61]⟩:ByteArray)).size + t296.size ≤ 9223372036854775807
                  · rw [if_pos c14] at H
                    have c14b0:=eq_true c14
                    have c14b1:decide ((((un l0 x15_1).f0) ++ (⟨#[61]⟩:ByteArray)).size + t296.size ≤ 9223372036854775807) = true:=decide_eq_true c14
                    try have c14b2:(9223372036854775807 < (((un l0 x15_1).f0) ++ (⟨#[61]⟩:ByteArray)).size + t296.size) = False:=eq_false (Nat.not_lt.2 c14)
                    try (have c14b3:=c14b2;simp only [ByteArray.size_append,Base.size1,(show ∀ a_ b_:UInt8,(⟨#[a_,b_]⟩:ByteArray).size = 2 from fun _ _ => rfl)] at c14b3)
                    by_cases c15:x15_1 < (x4_1.length:Int)
                    · rw [if_pos c15] at H
                      have c15b0:decide (x15_1 < (x4_1.length:Int)) = true:=decide_eq_true c15
                      clear c15
                      obtain ⟨y297,hy297⟩:∃ y_:List ByteArray,y_ = (x4_1.set (x15_1:Int).toNat ((((un l0 x15_1).f0) ++ (⟨#[61]⟩:ByteArray)) ++ t296)):=⟨_,rfl⟩
                      replace H:(u2a.l0 k1 y297 l0 (l0.length:Int) (wrap64 (x15_1 + 1))) = some (r1,r2):=by first | (rw [hy297];with_reducible exact H) | (have H2_:=(Option.bind_some _ _).symm.trans H;rw [hy297];with_reducible exact H2_) | (have H2_:=(Option.bind_some _ _).symm.trans H;with_reducible exact H2_) | with_reducible exact H | (rw [hy297];exact H) | exact H
                      have Ny297:=Aside0.mk hy297
                      clear hy297
                      have H':=Aside0.mk H
                      clear H
                      have p294:0 ≤ (x15_1:Int):=of_decide_eq_true (by first | (with_reducible assumption) | assumption)
                      have q294:x15_1 < (l0.length:Int):=of_decide_eq_true (by first | (with_reducible assumption) | assumption)
                      obtain ⟨ad294,e294,hx294_0,hx294_1⟩:=at_T66 HR0.out x15_1 p294 q294
                      cases e294
                      replace hx294_0:=(HB.out.cell (World.block_lt_of_cell? w _ hx294_0)).trans hx294_0
                      replace hx294_1:=(HB.out.cell (World.block_lt_of_cell? w _ hx294_1)).trans hx294_1
                      replace p294:=eq_true p294
                      replace q294:=eq_true q294
                      try go_wp2_with (first | ((with_reducible refine u2o (N:=6) rfl ?_);refine u2n ?hg (N:=6) ?hd (cs:=#[.string (⟨#[]⟩:ByteArray),.string (⟨#[]⟩:ByteArray)]) (t:=66) ?hr ?_;(case hd => rfl);(case hg => rfl);(case hr => first | (go_simp;done) | (go_simp;rfl));intro gb295 hg w17 hbox hb;have n0_:=Aside0.mk (Kd.R_below (by (with_reducible repeat (first | apply Kd.R_alloc | apply Kd.R_drewN | apply Kd.R_drew));exact HO_4.out) hb);have n1_:=Aside0.mk (u1c (by repeat (first | (with_reducible first | exact HB.out | apply ud | apply ub | apply uf) | exact HB.out)) hb);have n2_:=Aside0.mk (hbox);have n3_:=Aside0.mk ((by rw [hg];exact (uz (by repeat (first | (with_reducible first | exact HB.out | apply ud | apply ub | apply uf) | exact HB.out))):w.heap.size ≤ gb295));have n4_:=Aside0.mk ((by rw [hg];exact (uz (by repeat (first | (with_reducible first | exact HB.out | apply ud | apply ub | apply uf) | exact HB.out))):w.heap.size ≤ gb295));clear HO_4;clear HB;have HO_4:=n0_;have HB:=n1_;have BK295:=n2_;have GW295:=n3_;have GE295:=n4_;clear n0_ n1_ n2_ n3_ n4_;clear hb hbox hg;have hcz18_0:w17.cell? ⟨gb295,0,none⟩ = some (.string (⟨#[]⟩:ByteArray)):=(um BK295.out 0).trans rfl;have hcz18_1:w17.cell? ⟨gb295,1,none⟩ = some (.string (⟨#[]⟩:ByteArray)):=(um BK295.out 1).trans rfl;have hfz18_0:=uk BK295.out 0;have hfz18_1:=uk BK295.out 1))
                      have n0_:Aside0 (Kd.R Kd.string 9 ((w17.setCell ⟨gb295,0,none⟩ (.string ((un l0 x15_1).f0))).setCell ⟨gb295,1,none⟩ (.string ((un l0 x15_1).f1))) w.heap.size (fun _ => True) v292 x4_1):=⟨by (with_reducible repeat (first | apply Kd.R_alloc | apply Kd.R_drewN | apply Kd.R_drew));exact Kd.R_mono (Kd.R_far (p:=⟨gb295,1,none⟩) (Kd.R_far (p:=⟨gb295,0,none⟩) (Kd.R_types HO_4.out BK295.out (by decide)) (fun _ hk => hk.2) (.string ((un l0 x15_1).f0))) (fun _ hk => hk.2) (.string ((un l0 x15_1).f1))) (fun _ hk => trivial)⟩
                      have n1_:Aside0 (((w17.setCell ⟨gb295,0,none⟩ (.string ((un l0 x15_1).f0))).setCell ⟨gb295,1,none⟩ (.string ((un l0 x15_1).f1))).heap[gb295]? = some (.cells #[.string ((un l0 x15_1).f0),.string ((un l0 x15_1).f1)] 66 (0,0))):=⟨by (with_reducible repeat (first | refine us ?_ _ | refine uw ?_ | refine uq ?_ _));refine u2y (cs:=#[.string ((un l0 x15_1).f0),.string (⟨#[]⟩:ByteArray)]) ?_ 1 _ rfl;(with_reducible repeat (first | refine us ?_ _ | refine uw ?_ | refine uq ?_ _));refine u2y (cs:=#[.string (⟨#[]⟩:ByteArray),.string (⟨#[]⟩:ByteArray)]) ?_ 0 _ rfl;(with_reducible repeat (first | refine us ?_ _ | refine uw ?_ | refine uq ?_ _));exact BK295.out⟩
                      have n2_:Aside0 (Below w.heap.size w ((w17.setCell ⟨gb295,0,none⟩ (.string ((un l0 x15_1).f0))).setCell ⟨gb295,1,none⟩ (.string ((un l0 x15_1).f1)))):=⟨by repeat (first | (with_reducible first | exact HB.out | apply ud | apply ub | apply uf | refine ux ?_ GE295.out) | exact HB.out)⟩
                      (try clear HO_4)
                      (try clear BK295)
                      (try clear HB)
                      generalize ((w17.setCell ⟨gb295,0,none⟩ (.string ((un l0 x15_1).f0))).setCell ⟨gb295,1,none⟩ (.string ((un l0 x15_1).f1))) = w19 at n0_ n1_ n2_ ⊢
                      have HO_4:=n0_
                      have BK295:=n1_
                      have HB:=n2_
                      clear n0_ n1_ n2_
                      have n0_:=Aside0.mk (Kd.R_drew HO_4.out)
                      have n1_:=Aside0.mk (uw BK295.out)
                      have n2_:=Aside0.mk (uf HB.out)
                      clear HO_4
                      clear BK295
                      clear HB
                      have HO_4:=n0_
                      have BK295:=n1_
                      have HB:=n2_
                      clear n0_ n1_ n2_
                      refine start_ (n:=11) (S:=fun w' => w'.cell? ⟨gb295,0,none⟩ = some (.string ((un l0 x15_1).f0)) ∧ w'.cell? ⟨gb295,1,none⟩ = some (.string ((un l0 x15_1).f1))) (ds:=[10]) #[false,false,false,false,false,false,false,false,false,false,false] (by kernel_rfl) rfl rfl ⟨(um BK295.out 0).trans rfl,(um BK295.out 1).trans rfl⟩ (fun hHeld => ?_);refine with_tabW u2a.tab7 u2a.bits7 (fun HT_ HW_ => ?_)
                      generalize w19.drew = w20 at HO_4 BK295 HB hHeld ⊢
                      refine pure_ (i:=0) (N:=some 20) (v:=?_) (a':=?_) #[true,false,false,false,false,false,false,false,false,false,false] rfl rfl (any_of HT_.out (by kernel_rfl)) (fun _ _ _ h => h) (Or.inl ⟨by rfl,?_⟩) ?_ ?_
                      rotate_left
                      · intro w'
                        go_simp
                        with_reducible rfl
                      rotate_left
                      · simp only [Act.put,List.setIfInBounds_toArray,List.set_cons_zero,List.set_cons_succ,i64_w,i32_w]
                        rfl
                      refine pure_ (i:=1) (N:=some 21) (v:=?_) (a':=?_) #[true,true,false,false,false,false,false,false,false,false,false] rfl rfl (any_of HT_.out (by kernel_rfl)) (fun _ _ _ h => h) (Or.inl ⟨by rfl,?_⟩) ?_ ?_
                      rotate_left
                      · intro w'
                        go_simp
                        with_reducible rfl
                      rotate_left
                      · simp only [Act.put,List.setIfInBounds_toArray,List.set_cons_zero,List.set_cons_succ,i64_w,i32_w]
                        rfl
                      refine pure_ (i:=2) (N:=some 22) (v:=?_) (a':=?_) #[true,true,true,false,false,false,false,false,false,false,false] rfl rfl (any_of HT_.out (by kernel_rfl)) (fun _ _ _ h => h) (Or.inl ⟨by rfl,?_⟩) ?_ ?_
                      rotate_left
                      · intro w'
                        go_simp
                        with_reducible rfl
                      rotate_left
                      · simp only [Act.put,List.setIfInBounds_toArray,List.set_cons_zero,List.set_cons_succ,i64_w,i32_w]
                        rfl
                      refine pure_ (i:=5) (N:=some 25) (v:=?_) (a':=?_) #[true,true,true,false,false,true,false,false,false,false,false] rfl rfl (any_of HT_.out (by kernel_rfl)) (fun _ _ _ h => h) (Or.inl ⟨by rfl,?_⟩) ?_ ?_
                      rotate_left
                      · intro w'
                        go_simp
                        with_reducible rfl
                      rotate_left
                      · simp only [Act.put,List.setIfInBounds_toArray,List.set_cons_zero,List.set_cons_succ,i64_w,i32_w]
                        rfl
                      refine take_ (i:=3) (N:=some 23) (v:=?_) (a':=?_) #[true,true,true,true,false,true,false,false,false,false,false] rfl rfl (take_ofW HT_.out HW_.out (by kernel_rfl)) (fun _ _ _ h => h) (Or.inl ⟨by rfl,?_⟩) hHeld ?_ ?_
                      rotate_left
                      · rintro w' ⟨s0,s1⟩
                        go_simp
                        with_reducible rfl
                      rotate_left
                      · simp only [Act.put,List.setIfInBounds_toArray,List.set_cons_zero,List.set_cons_succ,i64_w,i32_w]
                        rfl
                      refine pure_ (i:=4) (N:=some 24) (v:=?_) (a':=?_) #[true,true,true,true,true,true,false,false,false,false,false] rfl rfl (any_of HT_.out (by kernel_rfl)) (fun _ _ _ h => h) (Or.inl ⟨by rfl,?_⟩) ?_ ?_
                      rotate_left
                      · intro w'
                        go_simp
                        with_reducible rfl
                      rotate_left
                      · simp only [Act.put,List.setIfInBounds_toArray,List.set_cons_zero,List.set_cons_succ,i64_w,i32_w]
                        rfl
                      refine take_ (i:=6) (N:=some 26) (v:=?_) (a':=?_) #[true,true,true,true,true,true,true,false,false,false,false] rfl rfl (take_ofW HT_.out HW_.out (by kernel_rfl)) (fun _ _ _ h => h) (Or.inl ⟨by rfl,?_⟩) hHeld ?_ ?_
                      rotate_left
                      · rintro w' ⟨s0,s1⟩
                        go_simp
                        with_reducible rfl
                      rotate_left
                      · simp only [Act.put,List.setIfInBounds_toArray,List.set_cons_zero,List.set_cons_succ,i64_w,i32_w]
                        rfl
                      refine one_ (i:=7) (N:=some 27) #[true,true,true,true,true,true,true,true,false,false,false] rfl rfl (one_of HT_.out (by kernel_rfl)) (by decide) (fun K hK => ?_)
                      refine goes_ Tryz.func108 (by kernel_rfl) rfl #[.string ((un l0 x15_1).f1)] (by rfl) rfl rfl (by (try simp only [List.map_toArray,List.map_cons,List.map_nil]);first | done | rfl | (simp only [List.length_drop,List.length_take];rfl)) ?_
                      with_reducible refine (u1k.calls ((un l0 x15_1).f1) t296 _ A13.out).mono ?_
                      rintro e w21 ⟨rfl,hb⟩
                      refine ⟨_,rfl,?_⟩
                      have n0_:=Aside0.mk (Kd.R_below (by (with_reducible repeat (first | apply Kd.R_alloc | apply Kd.R_drewN | apply Kd.R_drew));exact HO_4.out) hb)
                      have n1_:=Aside0.mk (u1z (g:=gb295) (o:=.cells #[.string ((un l0 x15_1).f0),.string ((un l0 x15_1).f1)] 66 (0,0)) (by (with_reducible repeat (first | refine us ?_ _ | refine uw ?_ | refine uq ?_ _));exact BK295.out) hb)
                      have n2_:=Aside0.mk (u1c (by repeat (first | (with_reducible first | exact HB.out | apply ud | apply ub | apply uf | refine ux ?_ GE295.out) | exact HB.out)) hb)
                      clear HO_4
                      clear BK295
                      clear HB
                      have HO_4:=n0_
                      have BK295:=n1_
                      have HB:=n2_
                      clear n0_ n1_ n2_
                      (try clear hb)
                      (try clear hb2)
                      (try clear hk)
                      (try clear hi)
                      have p16:0 ≤ (x15_1:Int):=of_decide_eq_true (by first | (with_reducible assumption) | assumption)
                      have q16:(x15_1:Int) < ((x4_1.length:Int):Int):=of_decide_eq_true (by first | (with_reducible assumption) | assumption)
                      obtain ⟨go16,co16,eo16,gb16,gl16,cl16,HG16⟩:=Kd.R_form HO_4.out (by omega)
                      (first | cases eo16 | (injection eo16 with ea_ en_ ec_;(first | subst ea_ | (injection ea_ with ea_;subst ea_));subst ec_;clear en_))
                      have GB16:=Aside0.mk gb16
                      have GG16:=Aside0.mk HG16
                      clear gb16 gl16 HG16
                      obtain ⟨hx16_0,hf16_0⟩:=Kd.R_celln (⟨#[]⟩:ByteArray) HO_4.out (x15_1:Int) p16 q16
                      replace p16:=eq_true p16
                      replace q16:=eq_true q16
                      have HP22:=Kd.R_putn HO_4.out (x15_1:Int) ((((un l0 x15_1).f0) ++ (⟨#[61]⟩:ByteArray)) ++ t296)
                      rw [← Ny297.out] at HP22
                      have HQ22:=Aside0.mk HP22
                      clear HP22
                      refine hK.out _ _ ⟨(um BK295.out 0).trans rfl,(um BK295.out 1).trans rfl⟩ (fun hHeld => ?_)
                      clear hK K
                      refine norm_ (a':=?_) ?_ ?_
                      rotate_left
                      · show Act.put _ (some 27) _ = _
                        simp only [Act.put,List.setIfInBounds_toArray,List.set_cons_zero,List.set_cons_succ,i64_w,i32_w]
                        rfl
                      refine pure_ (i:=8) (N:=some 28) (v:=?_) (a':=?_) #[true,true,true,true,true,true,true,true,true,false,false] rfl rfl (any_of HT_.out (by kernel_rfl)) (fun _ _ _ h => h) (Or.inl ⟨by rfl,?_⟩) ?_ ?_
                      rotate_left
                      · intro w'
                        go_simp
                        with_reducible rfl
                      rotate_left
                      · simp only [Act.put,List.setIfInBounds_toArray,List.set_cons_zero,List.set_cons_succ,i64_w,i32_w]
                        rfl
                      refine pure_ (i:=9) (N:=some 29) (v:=?_) (a':=?_) #[true,true,true,true,true,true,true,true,true,true,false] rfl rfl (any_of HT_.out (by kernel_rfl)) (fun _ _ _ h => h) (Or.inl ⟨by rfl,?_⟩) ?_ ?_
                      rotate_left
                      · intro w'
                        go_simp
                        with_reducible rfl
                      rotate_left
                      · simp only [Act.put,List.setIfInBounds_toArray,List.set_cons_zero,List.set_cons_succ,i64_w,i32_w]
                        rfl
                      refine last_ (i:=10) (N:=none) #[true,true,true,true,true,true,true,true,true,true,true] rfl rfl (one_of HT_.out (by kernel_rfl)) (by decide) (fun K hK => ?_)
                      refine skip_ (w1:=?_) (by rfl) rfl ?_ ?_
                      rotate_left
                      · go_simp
                        rfl
                      refine hK.out _ _ ?_
                      clear hK K
                      refine done_ (done_of HT_.out (by kernel_rfl)) ?_
                      try go_wp2
                      go_roundg k1
                      case measure => have:=HK1.out;omega
                      case rel => exact ⟨(y297),(wrap64 (x15_1 + 1)),(by first | rfl | (simp;done) | (simp [*];done)),H',⟨by have:=HK1.out;omega⟩,⟨by (with_reducible repeat (first | apply Kd.R_alloc | apply Kd.R_drewN | apply Kd.R_drew));exact HQ22.out⟩,⟨by repeat (first | (with_reducible first | exact HB.out | apply ud | apply ub | apply uf | refine ux ?_ GB16.out | refine ux ?_ GE295.out) | exact HB.out)⟩⟩
                    · rw [if_neg c15] at H
                      exact absurd H (by simp)
                  · rw [if_neg c14] at H
                    exact absurd H (by simp)
                · rw [if_neg c12] at H
                  exact absurd H (by simp)
              · rw [if_neg c11] at H
                exact absurd H (by simp)
            · rw [if_neg c10] at H
              exact absurd H (by simp)
          · rw [if_neg c9] at H
            have c9b0:decide (x15_1 < (l0.length:Int)) = false:=decide_eq_false c9
            clear c9
            replace H:=Option.bind_eq_some_iff.mp H
            obtain ⟨t298,A230,H⟩:=H
            replace H:(if 1 + t298.size ≤ 9223372036854775807 then (if ((⟨#[123]⟩:ByteArray) ++ t298).size + 1 ≤ 9223372036854775807 then (some (((⟨#[123]⟩:ByteArray) ++ t298) ++ (⟨#[125]⟩:ByteArray),0)) else (none)) else (none)) = some (r1,r2):=H
            have A23:=Aside0.mk A230
            clear A230
            by_cases c24:1 + t298.size ≤ 9223372036854775807
            · rw [if_pos c24] at H
              have c24b0:=eq_true c24
              have c24b1:decide (1 + t298.size ≤ 9223372036854775807) = true:=decide_eq_true c24
              try have c24b2:(9223372036854775807 < 1 + t298.size) = False:=eq_false (Nat.not_lt.2 c24)
              try (have c24b3:=c24b2;simp only [ByteArray.size_append,Base.size1,(show ∀ a_ b_:UInt8,(⟨#[a_,b_]⟩:ByteArray).size = 2 from fun _ _ => rfl)] at c24b3)
              by_cases c25:((⟨#[123]⟩:ByteArray) ++ t298).size + 1 ≤ 9223372036854775807
              · rw [if_pos c25] at H
                have c25b0:=eq_true c25
                have c25b1:decide (((⟨#[123]⟩:ByteArray) ++ t298).size + 1 ≤ 9223372036854775807) = true:=decide_eq_true c25
                try have c25b2:(9223372036854775807 < ((⟨#[123]⟩:ByteArray) ++ t298).size + 1) = False:=eq_false (Nat.not_lt.2 c25)
                try (have c25b3:=c25b2;simp only [ByteArray.size_append,Base.size1,(show ∀ a_ b_:UInt8,(⟨#[a_,b_]⟩:ByteArray).size = 2 from fun _ _ => rfl)] at c25b3)
                simp only [Option.some.injEq,Prod.mk.injEq] at H
                obtain ⟨rfl,rfl⟩:=H
                obtain ⟨Ao26,co26,eo26⟩:=Kd.R_slice HO_4.out
                subst eo26
                go_wp2_with (first | ((with_reducible refine u2w (f:=109) rfl ?_);refine goesL_ (some 32) rfl rfl Tryz.func109 (by kernel_rfl) rfl #[.slice Ao26 x4_1.length co26,.string (⟨#[44]⟩:ByteArray)] rfl (by (try simp only [List.map_toArray,List.map_cons,List.map_nil]);first | done | rfl | (simp only [List.length_drop,List.length_take];rfl)) ?_;(with_reducible refine (strings_Join.calls _ _ x4_1 (⟨#[44]⟩:ByteArray) t298 _ ?side1 ?side2 A23.out).mono ?_);(case side1 => repeat (first | exact (Kd.R_reads' HO_4.out).2.2 | (with_reducible refine Kd.C_alloc ?_ _) | (with_reducible refine Kd.C_drewN ?_ _) | (with_reducible refine Kd.C_drew ?_)));(case side2 => exact (Kd.R_reads' HO_4.out).2.1);rintro e w27 ⟨rfl,hb⟩;refine ⟨_,rfl,?_⟩;have n0_:=Aside0.mk (Kd.R_below (by (with_reducible repeat (first | apply Kd.R_alloc | apply Kd.R_drewN | apply Kd.R_drew));exact HO_4.out) hb);have n1_:=Aside0.mk (u1c (by repeat (first | (with_reducible first | exact HB.out | apply ud | apply ub | apply uf) | exact HB.out)) hb);clear HO_4;clear HB;have HO_4:=n0_;have HB:=n1_;clear n0_ n1_;(try clear hb);(try clear hb2);(try clear hk);(try clear hi)))
                go_ret2
                exact ⟨by first | rfl | (simp [u1x,u1y] <;> rfl) | (simp [*,u1x,u1y] <;> rfl),by repeat (first | (with_reducible first | exact HB.out | apply ud | apply ub | apply uf) | exact HB.out)⟩
              · rw [if_neg c25] at H
                exact absurd H (by simp)
            · rw [if_neg c24] at H
              exact absurd H (by simp)
     · rw [if_neg c5] at H
       exact absurd H (by simp)
   · rw [if_neg c4] at H
     exact absurd H (by simp)
 · replace c3:=Bool.eq_false_iff.mpr c3
   subst c3
   have H1:(some ((⟨#[]⟩:ByteArray),1)) = some (r1,r2):=by rw [if_neg (show ¬ (false = true) by decide)] at H;exact H
   clear H
   have H:=H1
   clear H1
   simp only [Option.some.injEq,Prod.mk.injEq] at H
   obtain ⟨rfl,rfl⟩:=H
   go_enter Tryz.func67,Tryz.ntmps67
   go_wp2_with (first | ((with_reducible refine u2w (f:=33) rfl ?_);refine goesL_ (some 8) rfl rfl Tryz.func33 (by kernel_rfl) rfl #[.slice A0 l0.length c0] rfl (by (try simp only [List.map_toArray,List.map_cons,List.map_nil]);first | done | rfl | (simp only [List.length_drop,List.length_take];rfl)) ?_;(with_reducible refine (u1s.calls k _ _ l0 false _ ?side1 ?side2 A2.out).mono ?_);(case side1 => repeat (first | exact HR0.out | (with_reducible refine Kd.C_alloc ?_ _) | (with_reducible refine Kd.C_drewN ?_ _) | (with_reducible refine Kd.C_drew ?_)));(case side2 => exact HC0.out);rintro e w28 ⟨rfl,hb⟩;refine ⟨_,rfl,?_⟩;have n0_:=Aside0.mk (u1c (by repeat (first | (with_reducible first | exact HB.out | apply ud | apply ub | apply uf) | exact HB.out)) hb);clear HB;have HB:=n0_;clear n0_;(try clear hb);(try clear hb2);(try clear hk);(try clear hi)))
   go_ret2
   exact ⟨by first | rfl | (simp [u1x,u1y] <;> rfl) | (simp [*,u1x,u1y] <;> rfl),by repeat (first | (with_reducible first | exact HB.out | apply ud | apply ub | apply uf) | exact HB.out)⟩
end Go.Proofs.YtmcpeifhapekoaaGreatDoor.PAll
namespace Go.Proofs.YtmcpeifhapekoaaGreatDoor.Laws
open Go.RowKit Go.Proofs.YtmcpeifhapekoaaGreatDoor.PAll Go.Proofs.YtmcpeifhapekoaaGreatDoorW.PrintWords Go.Proofs.YtmcpeifhapekoaaGreatDoorW.PrintLast
set_option linter.unusedVariables false
set_option linter.unusedSimpArgs false
def pieceL (x:S66):List UInt8:=x.f0.data.toList ++ 61 :: Base.quoteL x.f1.data.toList
def pieceS (x:S66):ByteArray:=(x.f0 ++ (⟨#[61]⟩:ByteArray)) ++ Base.quoteS x.f1
def textL (l:List S66):List UInt8:=123 :: (Lib.join (l.map pieceL) [44] ++ [125])
theorem pieceS_data (x:S66):(pieceS x).data.toList = pieceL x:=by
 simp [pieceS,pieceL,Base.append_data,Base.quoteS]
theorem quoteL_le (l:List UInt8):(Base.quoteL l).length ≤ 2 * l.length + 2:=by
 have h:∀ l:List UInt8,(l.flatMap Base.quoteByte).length ≤ 2 * l.length:=by
  intro l
  induction l with
  | nil => simp
  | cons x r ih =>
    have h1:(Base.quoteByte x).length ≤ 2:=by unfold Base.quoteByte;split <;> simp
    simp only [List.flatMap_cons,List.length_append,List.length_cons]
    omega
 have:=h l
 simp only [Base.quoteL,List.length_cons,List.length_append,List.length_nil]
 omega
theorem join_le (M:Nat):∀ (xs:List (List UInt8)),(∀ x ∈ xs,x.length ≤ M) → (Lib.join xs [44]).length ≤ xs.length * (M + 1):=by
 intro xs
 induction xs with
 | nil => intro _;simp [Lib.join_nil]
 | cons x r ih =>
   intro h
   have hx:=h x (by simp)
   have hr:=ih (fun y hy => h y (by simp [hy]))
   rw [Lib.join_cons]
   have ht:(Lib.joinTail [44] r).length ≤ r.length * (M + 1):=by
    clear ih hr hx
    have:∀ y ∈ r,y.length ≤ M:=fun y hy => h y (by simp [hy])
    clear h
    induction r with
    | nil => simp [Lib.joinTail]
    | cons y q ih =>
      have hy:=this y (by simp)
      have hq:=ih (fun z hz => this z (by simp [hz]))
      simp only [Lib.joinTail,List.map_cons,List.flatten_cons,List.length_append,List.length_cons] at hq ⊢
      rw [Nat.add_mul]
      simp only [List.length_nil]
      omega
   simp only [List.length_append,List.length_cons]
   rw [Nat.add_mul]
   omega
theorem piece_le {x:S66} (h0:Base.nameB x.f0 = true) (h1:Base.valueB x.f1 = true):(pieceL x).length ≤ 107:=by
 have a:=nameB_size h0
 have b:=valueB_size h1
 have c:=quoteL_le x.f1.data.toList
 rw [← Base.size_list] at c
 simp only [pieceL,List.length_append,List.length_cons]
 rw [← Base.size_list]
 omega
theorem quote_some {s:ByteArray} (h:s.size ≤ 1000000000):u1k.f s = some (Base.quoteS s):=by
 have c:=quoteL_le s.data.toList
 rw [← Base.size_list] at c
 unfold u1k.f
 rw [if_pos (by omega)]
theorem quoteS_size (s:ByteArray):(Base.quoteS s).size ≤ 2 * s.size + 2:=by
 have c:=quoteL_le s.data.toList
 rw [← Base.size_list] at c
 rw [Base.size_list]
 simpa [Base.quoteS] using c
theorem text_l0 (l:List S66) (hl:l.length ≤ 8) (hok:∀ x ∈ l,Base.nameB x.f0 = true ∧ Base.valueB x.f1 = true):∀ (r:List S66) (i:Nat),l.drop i = r → i ≤ l.length →
 Ev (fun k => u2a.l0 k ((l.take i).map pieceS ++ List.replicate (l.length - i) (⟨#[]⟩:ByteArray)) l (l.length:Int) (i:Int)) (Base.ofL (textL l),0):=by
 intro r
 induction r with
 | nil =>
   intro i h hil
   have hi:l.length ≤ i:=by
    rcases Nat.lt_or_ge i l.length with h1 | h1
    · rw [List.drop_eq_getElem_cons h1] at h
      cases h
    · exact h1
   have he:i = l.length:=by omega
   subst he
   have hp:(l.take l.length).map pieceS ++ List.replicate (l.length - l.length) (⟨#[]⟩:ByteArray) = l.map pieceS:=by simp
   rw [hp]
   have hm:(l.map pieceS).map (·.data.toList) = l.map pieceL:=by
    rw [List.map_map]
    exact List.map_congr_left (fun x _ => pieceS_data x)
   have hj:=join_le 107 (l.map pieceL) (by
    intro y hy
    obtain ⟨x,hx,rfl⟩:=List.mem_map.1 hy
    exact piece_le (hok x hx).1 (hok x hx).2)
   rw [List.length_map] at hj
   have hjl:(Lib.join (l.map pieceL) [44]).length ≤ 864:=by omega
   refine Ev.step (f:=fun _ => some (Base.ofL (textL l),0)) (fun k => ?_) (Ev.now _)
   simp only [u2a.l0]
   rw [if_neg (by omega)]
   have h44:((⟨#[44]⟩:ByteArray)).data.toList = [44]:=rfl
   simp only [strings_Join.f,hm,h44,List.length_map]
   rw [if_pos (by omega),if_pos (by omega)]
   simp only [Option.bind_some]
   have hsz:(⟨(Lib.join (l.map pieceL) [44]).toArray⟩:ByteArray).size = (Lib.join (l.map pieceL) [44]).length:=by
    rw [Base.size_list]
   rw [if_pos (by rw [hsz];omega),if_pos (by rw [Base.size_list,Base.append_data];simp;omega)]
   congr 2
 | cons x r ih =>
   intro i h hil
   obtain ⟨hx,hi,hr⟩:=rd_drop l i x r h
   have hw:wrap64 ((i:Int) + 1) = ((i + 1:Nat):Int):=Base.wrap_nat i (by omega)
   have h1:((i:Int) < (l.length:Int)):=by omega
   have h0:((0:Int) ≤ (i:Int)):=by omega
   have hmem:x ∈ l:=by
    have h2:x ∈ l.drop i:=by rw [h];simp
    exact List.mem_of_mem_drop h2
   have hn:=nameB_size (hok x hmem).1
   have hv:=valueB_size (hok x hmem).2
   have hq:=quoteS_size x.f1
   have ih2:=ih (i + 1) hr (by omega)
   have hset:((l.take i).map pieceS ++ List.replicate (l.length - i) (⟨#[]⟩:ByteArray)).set i (pieceS x) = (l.take (i + 1)).map pieceS ++ List.replicate (l.length - (i + 1)) (⟨#[]⟩:ByteArray):=by
    have e1:l.take (i + 1) = l.take i ++ [x]:=by
     rw [List.take_succ_eq_append_getElem hi]
     have h2:l[i] = x:=by
      rw [List.drop_eq_getElem_cons hi] at h
      exact (List.cons.inj h).1
     rw [h2]
    have e2:l.length - i = (l.length - (i + 1)) + 1:=by omega
    rw [e1,e2,List.replicate_succ,List.map_append,List.set_append_right]
    · simp [Nat.min_eq_left (Nat.le_of_lt hi)]
    · simp
      omega
   refine Ev.step (f:=fun k => u2a.l0 k ((l.take (i + 1)).map pieceS ++ List.replicate (l.length - (i + 1)) (⟨#[]⟩:ByteArray)) l (l.length:Int) ((i + 1:Nat):Int)) (fun k => ?_) ih2
   simp only [u2a.l0]
   rw [if_pos h1,if_pos h0,if_pos h1,hx,hw,if_pos (by omega),quote_some (by omega)]
   simp only [Option.bind_some]
   have hsz:(x.f0 ++ (⟨#[61]⟩:ByteArray)).size = x.f0.size + 1:=by
    rw [Base.size_list,Base.append_data,List.length_append,← Base.size_list]
    rfl
   rw [if_pos (by rw [hsz];omega)]
   rw [if_pos (by simp;omega)]
   rw [show (i:Int).toNat = i from rfl,← hset]
   rfl
theorem text_ev (l:List S66):Ev (fun k => u2a.f k l) (if canB l = true then (Base.ofL (textL l),0) else ((⟨#[]⟩:ByteArray),1)):=by
 refine Ev.bind (can_ev l) ?_
 cases hc:canB l with
 | false => exact Ev.congr (fun k => by simp) (Ev.now _)
 | true =>
   have h:=hc
   simp only [canB,Bool.and_eq_true,decide_eq_true_eq] at h
   have h2:=text_l0 l h.1.2 (okFrom_mem l [] h.2) l 0 rfl (by omega)
   refine Ev.congr (fun k => ?_) h2
   rw [if_pos rfl,if_pos (by omega),if_pos (by simp;omega)]
   simp
end Go.Proofs.YtmcpeifhapekoaaGreatDoor.Laws
namespace Go.Proofs.YtmcpeifhapekoaaGreatDoor.PAll
open Go.RowKit Go.Proofs.YtmcpeifhapekoaaGreatDoorW.PrintWords Go.Proofs.YtmcpeifhapekoaaGreatDoorW.PrintLast Go.Proofs.YtmcpeifhapekoaaGreatDoorW.PrintMore
attribute [local go_sem] max2_int min2_int max_two min_two max_three min_three max_four min_four
set_option linter.unusedVariables false
set_option linter.unusedSimpArgs false
def u1b.own (l:List Tx.Lb):ByteArray:=if Base.nameB (u2h.get ⟨#[95,95,110,97,109,101,95,95]⟩ l) = true then u2h.get ⟨#[95,95,110,97,109,101,95,95]⟩ l else ⟨#[]⟩
def u1b.met (x:Tx.Lb):Bool:=x.f0.toList == [95,95,110,97,109,101,95,95]
def u1b.oth (l:List Tx.Lb):List Tx.Lb:=if Base.nameB (u2h.get ⟨#[95,95,110,97,109,101,95,95]⟩ l) = true then l.filter (fun x => !u1b.met x) else l
def u1b.lineB (l:List Tx.Lb) (br:ByteArray) (T:Int) (u:Nat):List Int:=ug.parts [u1b.own l,br,⟨#[32]⟩,⟨(Lib.decDigits u).toArray⟩,⟨#[32]⟩,⟨(Lib.itoa T).toArray⟩] ++ [10]
theorem u1b.test (a b:ByteArray) (W:World):Calls Tryz.prog 66 #[.agg #[.string a,.string b]] W fun e w' => e = .returned (.bool (a.toList == [95,95,110,97,109,101,95,95])) ∧ Below W.heap.size W w':=by
 go_enter Tryz.func66,Tryz.ntmps66
 go_wp2
 go_ret
 exact ⟨rfl,ud (Below.refl _ _) _⟩
theorem u1b.test2 (x:Tx.Lb) (W:World):Calls Tryz.prog 66 (#[.agg #[.string x.f0,.string x.f1]] ++ #[]) W fun e w' => e = .returned (.bool (u1b.met x)) ∧ Below W.heap.size W w':=by
 rw [show (#[Value.agg #[.string x.f0,.string x.f1]] ++ #[]:Array Value) = #[.agg #[.string x.f0,.string x.f1]] from by simp]
 exact u1b.test x.f0 x.f1 W
theorem u1b.enters:∀ args W,(callFunc 66 args).run Tryz.prog W = .ok (.enter 66 args) W:=enters_of Tryz.func66 (by kernel_rfl) rfl
set_option maxRecDepth 100000 in
set_option maxHeartbeats 8000000 in
theorem u1b.calls (k:Nat) (w0 W:World) (g:Nat) (bs:List Int) (A:Option Addr) (c:Nat) (l:List Tx.Lb) (T:Int) (u:Nat) (br:ByteArray) (e1:Int) (h:ug.Pr w0 W g bs) (hB:Below w0.heap.size w0 W) (hG:u1i.Gd W) (hr:Kd.C k66 W A l.length l) (hc:l.length ≤ c) (hll:l.length ≤ 1000)
 (hT : -9223372036854775808 ≤ T ∧ T ≤ 9223372036854775807) (hu:u < 18446744073709551616) (hbr:(u1b.oth l = [] ∧ br = ⟨#[]⟩) ∨ (u1b.oth l ≠ [] ∧ u2a.f k (u1b.oth l) = some (br,e1))) (hlen:bs.length + (u1b.lineB l br T u).length ≤ 100000000) :
 Calls Tryz.prog 36 #[.pointer (some ⟨g,0,none⟩),.agg #[.slice A l.length c,.int .i64 T,.int .u64 (u:Int)]] W fun e W' => e = .returned (.tuple #[]) ∧ ug.Pr w0 W' g (bs ++ u1b.lineB l br T u) ∧ Below w0.heap.size w0 W' ∧ ug.Stay W W' ∧ W.heap.size ≤ W'.heap.size:=by
 have HR:=Aside0.mk hr
 have HC:=Aside0.mk hc
 have HP:=Aside0.mk h
 have HB:=Aside0.mk hB
 have HG:=Aside0.mk hG
 have HT:=Aside0.mk hT
 have HU:=Aside0.mk hu
 have HLL:Aside0 (l.length ≤ 4611686018427387904):=⟨by omega⟩
 have HCF:Aside0 (api_Label_65.f l = some l):=⟨by unfold api_Label_65.f;rw [if_pos (by omega)]⟩
 have hz1:=ud (Below.refl W.heap.size W) (.cells #[.slice A l.length c,.int .i64 T,.int .u64 (u:Int)] 53)
 have HZ1:=Aside0.mk hz1
 have HN1:=Aside0.mk (ua.new_at W (.cells #[.slice A l.length c,.int .i64 T,.int .u64 (u:Int)] 53))
 unfold u1b.lineB at hlen ⊢
 obtain ⟨nm0,hge⟩:∃ nm0,u2h.get ⟨#[95,95,110,97,109,101,95,95]⟩ l = nm0:=⟨_,rfl⟩
 have HGE:=Aside0.mk hge
 obtain ⟨o,ho⟩:∃ o,u1b.oth l = o:=⟨_,rfl⟩
 rw [ho] at hbr
 obtain ⟨q,hq⟩:∃ q,u1b.own l = q:=⟨_,rfl⟩
 rw [hq] at hlen ⊢
 rw [← List.append_assoc]
 have HLEN:Aside0 (bs.length + (ug.parts [q,br,⟨#[32]⟩,⟨(Lib.decDigits u).toArray⟩,⟨#[32]⟩,⟨(Lib.itoa T).toArray⟩]).length ≤ 100000000):=⟨by rw [List.length_append] at hlen;omega⟩
 unfold u1b.own at hq
 unfold u1b.oth at ho
 rw [hge] at hq ho
 clear hr hc h hB hG hT hu hz1 hlen hge
 cases hb:Base.nameB nm0 with
 | true =>
   have HNB:Aside0 (u1m.f nm0 = some true):=⟨by unfold u1m.f;rw [hb]⟩
   rw [hb,if_pos rfl] at hq ho
   subst hq
   have HO:=Aside0.mk ho
   clear hb ho
   rcases hbr with ⟨rfl,rfl⟩ | ⟨hne,hbr⟩
   · have hl0:decide ((0:Int) < (([]:List Tx.Lb).length:Int)) = false:=rfl
     go_enter Tryz.func36,Tryz.ntmps36
     go_wp2_with (first
      | (go_at_call 63;(with_reducible refine (u2h.calls A c l ⟨#[95,95,110,97,109,101,95,95]⟩ (u2h.get ⟨#[95,95,110,97,109,101,95,95]⟩ l) _ (Kd.C_below HR.out HZ1.out) HC.out rfl).mono ?_);rintro e W2 ⟨rfl,hb2⟩;rw [HGE.out];have HZ2:=Aside0.mk (uo HZ1.out HZ1.out.size hb2);have HN2:=Aside0.mk (ua.below_at hb2 HN1.out);obtain ⟨⟨n0,n1,n2⟩,n3⟩:=uc.look3 HN2.out;clear hb2)
      | (go_at_call 29;(with_reducible refine (u1m.calls nm0 true _ HNB.out).mono ?_);rintro e W3 ⟨rfl,hb3⟩;have HZ3:=Aside0.mk (uo HZ2.out HZ2.out.size hb3);have HN3:=Aside0.mk (ua.below_at hb3 HN2.out);clear n0 n1 n2 n3;obtain ⟨⟨n0,n1,n2⟩,n3⟩:=uc.look3 HN3.out;clear hb3)
      | (go_at_call 65;(with_reducible refine (api_Label_65.calls A c l l _ (Kd.C_below HR.out HZ3.out) HC.out HCF.out).mono ?_);rintro e W4 ⟨v4,rfl,hr4,hb4⟩;have HR4:=Aside0.mk hr4;have HZ4:=Aside0.mk (uo HZ3.out HZ3.out.size hb4);have HN4:=Aside0.mk (ua.below_at hb4 HN3.out);clear n0 n1 n2 n3;obtain ⟨⟨n0,n1,n2⟩,n3⟩:=uc.look3 HN4.out;clear hr4 hb4)
      | (go_at_call 64;(with_reducible refine (u2t.calls W4 W3.heap.size v4 l 66 #[] u1b.met HR4.out HLL.out u1b.enters (fun W' x _ _ => u1b.test2 x W')).mono ?_);rintro e W5 ⟨v5,rfl,hr5,hg5⟩;have hr5':=hr5;rw [HO.out] at hr5';have HR5:=Aside0.mk hr5';have HZ5:=Aside0.mk (HZ4.out.grown hg5 HZ4.out.size (fun k hk => Nat.le_trans HZ3.out.size (Kd.R_base HR4.out k hk)));have HN5:=Aside0.mk ((hg5.block W.heap.size (u2u HN4.out) (fun e => by have h1:=Kd.R_base HR4.out _ e.symm;have h2:=u2u HN3.out;omega)).trans HN4.out);clear n0 n1 n2 n3;obtain ⟨⟨n0,n1,n2⟩,n3⟩:=uc.look3 HN5.out;obtain ⟨A9,c9,e9⟩:=Kd.R_slice HR5.out;subst e9;clear hr5 hr5' hg5))
     have HD0:=Aside0.mk (uw HN5.out)
     have HQ0:=Aside0.mk (uf HZ5.out)
     clear n0 n1 n2 n3
     refine startO_ (n:=11) (S:=fun w' => w'.heap[W.heap.size]? = some (.cells #[.slice A l.length c,.int .i64 T,.int .u64 (u:Int)] 53 (0,0))) (ds:=[]) [(0,25),(1,26),(2,27),(3,28),(4,29),(6,31),(7,32),(5,0),(8,0),(9,0),(10,0)] (by kernel_rfl) rfl HD0.out (fun hHeld => ?_)
     iterate 4 (refine hd_ (v:=?_) (a':=?_) rfl rfl (by kernel_rfl) (Or.inl ⟨by kernel_rfl,?_⟩) ?_ ?_;rotate_left;(intro w';go_simp;with_reducible rfl);rotate_left;(simp only [Act.put,List.setIfInBounds_toArray,List.set_cons_zero,List.set_cons_succ,i64_w,i32_w];rfl))
     refine hdS_ (v:=?_) (a':=?_) rfl rfl (by kernel_rfl) (Or.inl ⟨by kernel_rfl,?_⟩) hHeld ?_ ?_
     rotate_left
     · rintro w' hS'
       have hcell:w'.cell? ⟨W.heap.size,2,none⟩ = some (.int .u64 (u:Int)):=(um hS' 2).trans rfl
       go_simp
       (try with_reducible rfl)
     rotate_left
     · simp only [Act.put,List.setIfInBounds_toArray,List.set_cons_zero,List.set_cons_succ,i64_w,i32_w]
       rfl
     (refine hd_ (v:=?_) (a':=?_) rfl rfl (by kernel_rfl) (Or.inl ⟨by kernel_rfl,?_⟩) ?_ ?_;rotate_left;(intro w';go_simp;with_reducible rfl);rotate_left;(simp only [Act.put,List.setIfInBounds_toArray,List.set_cons_zero,List.set_cons_succ,i64_w,i32_w];rfl))
     refine hdS_ (v:=?_) (a':=?_) rfl rfl (by kernel_rfl) (Or.inl ⟨by kernel_rfl,?_⟩) hHeld ?_ ?_
     rotate_left
     · rintro w' hS'
       have hcell:w'.cell? ⟨W.heap.size,1,none⟩ = some (.int .i64 T):=(um hS' 1).trans rfl
       go_simp
       (try with_reducible rfl)
     rotate_left
     · simp only [Act.put,List.setIfInBounds_toArray,List.set_cons_zero,List.set_cons_succ,i64_w,i32_w]
       rfl
     refine oneO_ (N:=some 30) rfl rfl (by kernel_rfl) (by decide) (fun K hK => ?_)
     refine goes_ Tryz.func68 (by kernel_rfl) rfl #[.int .u64 (u:Int),.int .i64 10] (by rfl) rfl rfl (by (try simp only [List.map_toArray,List.map_cons,List.map_nil]);first | done | rfl) ?_
     refine (u1i.calls u HU.out _ (HG.out.below HQ0.out)).mono ?_
     rintro e Wa ⟨rfl,hba⟩
     refine ⟨_,rfl,?_⟩
     have HDa:=Aside0.mk (u1z HD0.out hba)
     have HQa:=Aside0.mk (uo HQ0.out HQ0.out.size hba)
     clear hba
     refine hK.out (Act.put _ (some 30) (.string ⟨(Lib.decDigits u).toArray⟩)) _ HDa.out (fun hNext => ?_)
     simp only [Act.put,List.setIfInBounds_toArray,List.set_cons_zero,List.set_cons_succ,i64_w,i32_w]
     clear hK hHeld K
     have hHeld:=hNext
     clear hNext
     refine oneO_ (N:=some 33) rfl rfl (by kernel_rfl) (by decide) (fun K hK => ?_)
     refine goes_ Tryz.func69 (by kernel_rfl) rfl #[.int .i64 T] (by rfl) rfl rfl (by (try simp only [List.map_toArray,List.map_cons,List.map_nil]);first | done | rfl) ?_
     refine (u1i.itoa T HT.out.1 HT.out.2 _ (HG.out.below HQa.out)).mono ?_
     rintro e Wb ⟨rfl,hbb⟩
     refine ⟨_,rfl,?_⟩
     have HDb:=Aside0.mk (u1z HDa.out hbb)
     have HQb:=Aside0.mk (uo HQa.out HQa.out.size hbb)
     clear hbb
     refine hK.out (Act.put _ (some 33) (.string ⟨(Lib.itoa T).toArray⟩)) _ HDb.out (fun hNext => ?_)
     simp only [Act.put,List.setIfInBounds_toArray,List.set_cons_zero,List.set_cons_succ,i64_w,i32_w]
     clear hK hHeld K
     have hHeld:=hNext
     clear hNext
     refine oneO_ (N:=some 34) rfl rfl (by kernel_rfl) (by decide) (fun K hK => ?_)
     refine value_ (w1:=Wb.alloc (.cells #[.string nm0,.string ⟨#[]⟩,.string ⟨#[32]⟩,.string ⟨(Lib.decDigits u).toArray⟩,.string ⟨#[32]⟩,.string ⟨(Lib.itoa T).toArray⟩] 9)) (v:=.slice (some ⟨Wb.heap.size,0,none⟩) 6 6) (by rfl) rfl ?_ ?_
     · go_simp
     refine hK.out (Act.put _ (some 34) (.slice (some ⟨Wb.heap.size,0,none⟩) 6 6)) _ (uq HDb.out _) (fun hNext => ?_)
     simp only [Act.put,List.setIfInBounds_toArray,List.set_cons_zero,List.set_cons_succ,i64_w,i32_w]
     clear hK hHeld K
     have hHeld:=hNext
     clear hNext
     refine oneO_ (N:=some 35) rfl rfl (by kernel_rfl) (by decide) (fun K hK => ?_)
     refine goes_ Tryz.func62 (by kernel_rfl) rfl #[.pointer (some ⟨g,0,none⟩),.slice (some ⟨Wb.heap.size,0,none⟩) 6 6] (by rfl) rfl rfl (by (try simp only [List.map_toArray,List.map_cons,List.map_nil]);first | done | rfl) ?_
     refine (ug.six w0 Wb g _ bs nm0 ⟨#[]⟩ ⟨#[32]⟩ ⟨(Lib.decDigits u).toArray⟩ ⟨#[32]⟩ ⟨(Lib.itoa T).toArray⟩ rfl (HP.out.more HQb.out) (uo HB.out HB.out.size HQb.out) HLEN.out).mono ?_
     rintro e Wc ⟨rfl,hp,hbc,hs,hz⟩
     refine ⟨_,rfl,?_⟩
     have HPc:=Aside0.mk hp
     have HBc:=Aside0.mk hbc
     have HSc:=Aside0.mk ((ug.Stay.below HQb.out).trans hs)
     have HZc:=Aside0.mk (Nat.le_trans HQb.out.size hz)
     have HDc:=Aside0.mk ((hs W.heap.size 53 _ HDb.out (by decide) (by decide)).trans HDb.out)
     clear hp hbc hs hz
     refine hK.out (Act.put _ (some 35) (.tuple #[])) _ HDc.out (fun hNext => ?_)
     simp only [Act.put,List.setIfInBounds_toArray,List.set_cons_zero,List.set_cons_succ,i64_w,i32_w]
     clear hK hHeld K
     have hHeld:=hNext
     clear hNext
     refine doneO_ (by kernel_rfl) ?_
     go_end0
     exact ⟨rfl,HPc.out,HBc.out,HSc.out,HZc.out⟩
   · have hpos:0 < o.length:=List.length_pos_iff.2 hne
     have hl1:decide ((0:Int) < (o.length:Int)) = true:=decide_eq_true (by omega)
     have hl2:decide (0 < o.length) = true:=decide_eq_true hpos
     have HBR:=Aside0.mk hbr
     clear hbr hne
     go_enter Tryz.func36,Tryz.ntmps36
     go_wp2_with (first
      | (go_at_call 63;(with_reducible refine (u2h.calls A c l ⟨#[95,95,110,97,109,101,95,95]⟩ (u2h.get ⟨#[95,95,110,97,109,101,95,95]⟩ l) _ (Kd.C_below HR.out HZ1.out) HC.out rfl).mono ?_);rintro e W2 ⟨rfl,hb2⟩;rw [HGE.out];have HZ2:=Aside0.mk (uo HZ1.out HZ1.out.size hb2);have HN2:=Aside0.mk (ua.below_at hb2 HN1.out);obtain ⟨⟨n0,n1,n2⟩,n3⟩:=uc.look3 HN2.out;clear hb2)
      | (go_at_call 29;(with_reducible refine (u1m.calls nm0 true _ HNB.out).mono ?_);rintro e W3 ⟨rfl,hb3⟩;have HZ3:=Aside0.mk (uo HZ2.out HZ2.out.size hb3);have HN3:=Aside0.mk (ua.below_at hb3 HN2.out);clear n0 n1 n2 n3;obtain ⟨⟨n0,n1,n2⟩,n3⟩:=uc.look3 HN3.out;clear hb3)
      | (go_at_call 65;(with_reducible refine (api_Label_65.calls A c l l _ (Kd.C_below HR.out HZ3.out) HC.out HCF.out).mono ?_);rintro e W4 ⟨v4,rfl,hr4,hb4⟩;have HR4:=Aside0.mk hr4;have HZ4:=Aside0.mk (uo HZ3.out HZ3.out.size hb4);have HN4:=Aside0.mk (ua.below_at hb4 HN3.out);clear n0 n1 n2 n3;obtain ⟨⟨n0,n1,n2⟩,n3⟩:=uc.look3 HN4.out;clear hr4 hb4)
      | (go_at_call 64;(with_reducible refine (u2t.calls W4 W3.heap.size v4 l 66 #[] u1b.met HR4.out HLL.out u1b.enters (fun W' x _ _ => u1b.test2 x W')).mono ?_);rintro e W5 ⟨v5,rfl,hr5,hg5⟩;have hr5':=hr5;rw [HO.out] at hr5';have HR5:=Aside0.mk hr5';have HZ5:=Aside0.mk (HZ4.out.grown hg5 HZ4.out.size (fun k hk => Nat.le_trans HZ3.out.size (Kd.R_base HR4.out k hk)));have HN5:=Aside0.mk ((hg5.block W.heap.size (u2u HN4.out) (fun e => by have h1:=Kd.R_base HR4.out _ e.symm;have h2:=u2u HN3.out;omega)).trans HN4.out);clear n0 n1 n2 n3;obtain ⟨⟨n0,n1,n2⟩,n3⟩:=uc.look3 HN5.out;obtain ⟨A9,c9,e9⟩:=Kd.R_slice HR5.out;subst e9;clear hr5 hr5' hg5)
      | (go_at_call 67;(with_reducible refine (u2a.calls k A9 c9 o br e1 _ (Kd.R_reads' HR5.out).2.2 (Kd.R_reads' HR5.out).2.1 HBR.out).mono ?_);rintro e W6 ⟨rfl,hb6⟩;have HZ6:=Aside0.mk (uo HZ5.out HZ5.out.size hb6);have HN6:=Aside0.mk (ua.below_at hb6 HN5.out);clear n0 n1 n2 n3;obtain ⟨⟨n0,n1,n2⟩,n3⟩:=uc.look3 HN6.out;clear hb6))
     have HD0:=Aside0.mk (uw HN6.out)
     have HQ0:=Aside0.mk (uf HZ6.out)
     clear n0 n1 n2 n3
     refine startO_ (n:=11) (S:=fun w' => w'.heap[W.heap.size]? = some (.cells #[.slice A l.length c,.int .i64 T,.int .u64 (u:Int)] 53 (0,0))) (ds:=[]) [(0,25),(1,26),(2,27),(3,28),(4,29),(6,31),(7,32),(5,0),(8,0),(9,0),(10,0)] (by kernel_rfl) rfl HD0.out (fun hHeld => ?_)
     iterate 4 (refine hd_ (v:=?_) (a':=?_) rfl rfl (by kernel_rfl) (Or.inl ⟨by kernel_rfl,?_⟩) ?_ ?_;rotate_left;(intro w';go_simp;with_reducible rfl);rotate_left;(simp only [Act.put,List.setIfInBounds_toArray,List.set_cons_zero,List.set_cons_succ,i64_w,i32_w];rfl))
     refine hdS_ (v:=?_) (a':=?_) rfl rfl (by kernel_rfl) (Or.inl ⟨by kernel_rfl,?_⟩) hHeld ?_ ?_
     rotate_left
     · rintro w' hS'
       have hcell:w'.cell? ⟨W.heap.size,2,none⟩ = some (.int .u64 (u:Int)):=(um hS' 2).trans rfl
       go_simp
       (try with_reducible rfl)
     rotate_left
     · simp only [Act.put,List.setIfInBounds_toArray,List.set_cons_zero,List.set_cons_succ,i64_w,i32_w]
       rfl
     (refine hd_ (v:=?_) (a':=?_) rfl rfl (by kernel_rfl) (Or.inl ⟨by kernel_rfl,?_⟩) ?_ ?_;rotate_left;(intro w';go_simp;with_reducible rfl);rotate_left;(simp only [Act.put,List.setIfInBounds_toArray,List.set_cons_zero,List.set_cons_succ,i64_w,i32_w];rfl))
     refine hdS_ (v:=?_) (a':=?_) rfl rfl (by kernel_rfl) (Or.inl ⟨by kernel_rfl,?_⟩) hHeld ?_ ?_
     rotate_left
     · rintro w' hS'
       have hcell:w'.cell? ⟨W.heap.size,1,none⟩ = some (.int .i64 T):=(um hS' 1).trans rfl
       go_simp
       (try with_reducible rfl)
     rotate_left
     · simp only [Act.put,List.setIfInBounds_toArray,List.set_cons_zero,List.set_cons_succ,i64_w,i32_w]
       rfl
     refine oneO_ (N:=some 30) rfl rfl (by kernel_rfl) (by decide) (fun K hK => ?_)
     refine goes_ Tryz.func68 (by kernel_rfl) rfl #[.int .u64 (u:Int),.int .i64 10] (by rfl) rfl rfl (by (try simp only [List.map_toArray,List.map_cons,List.map_nil]);first | done | rfl) ?_
     refine (u1i.calls u HU.out _ (HG.out.below HQ0.out)).mono ?_
     rintro e Wa ⟨rfl,hba⟩
     refine ⟨_,rfl,?_⟩
     have HDa:=Aside0.mk (u1z HD0.out hba)
     have HQa:=Aside0.mk (uo HQ0.out HQ0.out.size hba)
     clear hba
     refine hK.out (Act.put _ (some 30) (.string ⟨(Lib.decDigits u).toArray⟩)) _ HDa.out (fun hNext => ?_)
     simp only [Act.put,List.setIfInBounds_toArray,List.set_cons_zero,List.set_cons_succ,i64_w,i32_w]
     clear hK hHeld K
     have hHeld:=hNext
     clear hNext
     refine oneO_ (N:=some 33) rfl rfl (by kernel_rfl) (by decide) (fun K hK => ?_)
     refine goes_ Tryz.func69 (by kernel_rfl) rfl #[.int .i64 T] (by rfl) rfl rfl (by (try simp only [List.map_toArray,List.map_cons,List.map_nil]);first | done | rfl) ?_
     refine (u1i.itoa T HT.out.1 HT.out.2 _ (HG.out.below HQa.out)).mono ?_
     rintro e Wb ⟨rfl,hbb⟩
     refine ⟨_,rfl,?_⟩
     have HDb:=Aside0.mk (u1z HDa.out hbb)
     have HQb:=Aside0.mk (uo HQa.out HQa.out.size hbb)
     clear hbb
     refine hK.out (Act.put _ (some 33) (.string ⟨(Lib.itoa T).toArray⟩)) _ HDb.out (fun hNext => ?_)
     simp only [Act.put,List.setIfInBounds_toArray,List.set_cons_zero,List.set_cons_succ,i64_w,i32_w]
     clear hK hHeld K
     have hHeld:=hNext
     clear hNext
     refine oneO_ (N:=some 34) rfl rfl (by kernel_rfl) (by decide) (fun K hK => ?_)
     refine value_ (w1:=Wb.alloc (.cells #[.string nm0,.string br,.string ⟨#[32]⟩,.string ⟨(Lib.decDigits u).toArray⟩,.string ⟨#[32]⟩,.string ⟨(Lib.itoa T).toArray⟩] 9)) (v:=.slice (some ⟨Wb.heap.size,0,none⟩) 6 6) (by rfl) rfl ?_ ?_
     · go_simp
     refine hK.out (Act.put _ (some 34) (.slice (some ⟨Wb.heap.size,0,none⟩) 6 6)) _ (uq HDb.out _) (fun hNext => ?_)
     simp only [Act.put,List.setIfInBounds_toArray,List.set_cons_zero,List.set_cons_succ,i64_w,i32_w]
     clear hK hHeld K
     have hHeld:=hNext
     clear hNext
     refine oneO_ (N:=some 35) rfl rfl (by kernel_rfl) (by decide) (fun K hK => ?_)
     refine goes_ Tryz.func62 (by kernel_rfl) rfl #[.pointer (some ⟨g,0,none⟩),.slice (some ⟨Wb.heap.size,0,none⟩) 6 6] (by rfl) rfl rfl (by (try simp only [List.map_toArray,List.map_cons,List.map_nil]);first | done | rfl) ?_
     refine (ug.six w0 Wb g _ bs nm0 br ⟨#[32]⟩ ⟨(Lib.decDigits u).toArray⟩ ⟨#[32]⟩ ⟨(Lib.itoa T).toArray⟩ rfl (HP.out.more HQb.out) (uo HB.out HB.out.size HQb.out) HLEN.out).mono ?_
     rintro e Wc ⟨rfl,hp,hbc,hs,hz⟩
     refine ⟨_,rfl,?_⟩
     have HPc:=Aside0.mk hp
     have HBc:=Aside0.mk hbc
     have HSc:=Aside0.mk ((ug.Stay.below HQb.out).trans hs)
     have HZc:=Aside0.mk (Nat.le_trans HQb.out.size hz)
     have HDc:=Aside0.mk ((hs W.heap.size 53 _ HDb.out (by decide) (by decide)).trans HDb.out)
     clear hp hbc hs hz
     refine hK.out (Act.put _ (some 35) (.tuple #[])) _ HDc.out (fun hNext => ?_)
     simp only [Act.put,List.setIfInBounds_toArray,List.set_cons_zero,List.set_cons_succ,i64_w,i32_w]
     clear hK hHeld K
     have hHeld:=hNext
     clear hNext
     refine doneO_ (by kernel_rfl) ?_
     go_end0
     exact ⟨rfl,HPc.out,HBc.out,HSc.out,HZc.out⟩
 | false =>
   have HNB:Aside0 (u1m.f nm0 = some false):=⟨by unfold u1m.f;rw [hb]⟩
   rw [hb,if_neg Bool.false_ne_true] at hq ho
   subst hq ho
   clear hb
   rcases hbr with ⟨he,rfl⟩ | ⟨hne,hbr⟩
   · have hl0:decide ((0:Int) < (l.length:Int)) = false:=by rw [he];rfl
     have hl00:decide (0 < l.length) = false:=by rw [he];rfl
     clear he
     go_enter Tryz.func36,Tryz.ntmps36
     go_wp2_with (first
      | (go_at_call 63;(with_reducible refine (u2h.calls A c l ⟨#[95,95,110,97,109,101,95,95]⟩ (u2h.get ⟨#[95,95,110,97,109,101,95,95]⟩ l) _ (Kd.C_below HR.out HZ1.out) HC.out rfl).mono ?_);rintro e W2 ⟨rfl,hb2⟩;rw [HGE.out];have HZ2:=Aside0.mk (uo HZ1.out HZ1.out.size hb2);have HN2:=Aside0.mk (ua.below_at hb2 HN1.out);obtain ⟨⟨n0,n1,n2⟩,n3⟩:=uc.look3 HN2.out;clear hb2)
      | (go_at_call 29;(with_reducible refine (u1m.calls nm0 false _ HNB.out).mono ?_);rintro e W3 ⟨rfl,hb3⟩;have HZ3:=Aside0.mk (uo HZ2.out HZ2.out.size hb3);have HN3:=Aside0.mk (ua.below_at hb3 HN2.out);clear n0 n1 n2 n3;obtain ⟨⟨n0,n1,n2⟩,n3⟩:=uc.look3 HN3.out;clear hb3))
     have HD0:=Aside0.mk (uw HN3.out)
     have HQ0:=Aside0.mk (uf HZ3.out)
     clear n0 n1 n2 n3
     refine startO_ (n:=11) (S:=fun w' => w'.heap[W.heap.size]? = some (.cells #[.slice A l.length c,.int .i64 T,.int .u64 (u:Int)] 53 (0,0))) (ds:=[]) [(0,25),(1,26),(2,27),(3,28),(4,29),(6,31),(7,32),(5,0),(8,0),(9,0),(10,0)] (by kernel_rfl) rfl HD0.out (fun hHeld => ?_)
     iterate 4 (refine hd_ (v:=?_) (a':=?_) rfl rfl (by kernel_rfl) (Or.inl ⟨by kernel_rfl,?_⟩) ?_ ?_;rotate_left;(intro w';go_simp;with_reducible rfl);rotate_left;(simp only [Act.put,List.setIfInBounds_toArray,List.set_cons_zero,List.set_cons_succ,i64_w,i32_w];rfl))
     refine hdS_ (v:=?_) (a':=?_) rfl rfl (by kernel_rfl) (Or.inl ⟨by kernel_rfl,?_⟩) hHeld ?_ ?_
     rotate_left
     · rintro w' hS'
       have hcell:w'.cell? ⟨W.heap.size,2,none⟩ = some (.int .u64 (u:Int)):=(um hS' 2).trans rfl
       go_simp
       (try with_reducible rfl)
     rotate_left
     · simp only [Act.put,List.setIfInBounds_toArray,List.set_cons_zero,List.set_cons_succ,i64_w,i32_w]
       rfl
     (refine hd_ (v:=?_) (a':=?_) rfl rfl (by kernel_rfl) (Or.inl ⟨by kernel_rfl,?_⟩) ?_ ?_;rotate_left;(intro w';go_simp;with_reducible rfl);rotate_left;(simp only [Act.put,List.setIfInBounds_toArray,List.set_cons_zero,List.set_cons_succ,i64_w,i32_w];rfl))
     refine hdS_ (v:=?_) (a':=?_) rfl rfl (by kernel_rfl) (Or.inl ⟨by kernel_rfl,?_⟩) hHeld ?_ ?_
     rotate_left
     · rintro w' hS'
       have hcell:w'.cell? ⟨W.heap.size,1,none⟩ = some (.int .i64 T):=(um hS' 1).trans rfl
       go_simp
       (try with_reducible rfl)
     rotate_left
     · simp only [Act.put,List.setIfInBounds_toArray,List.set_cons_zero,List.set_cons_succ,i64_w,i32_w]
       rfl
     refine oneO_ (N:=some 30) rfl rfl (by kernel_rfl) (by decide) (fun K hK => ?_)
     refine goes_ Tryz.func68 (by kernel_rfl) rfl #[.int .u64 (u:Int),.int .i64 10] (by rfl) rfl rfl (by (try simp only [List.map_toArray,List.map_cons,List.map_nil]);first | done | rfl) ?_
     refine (u1i.calls u HU.out _ (HG.out.below HQ0.out)).mono ?_
     rintro e Wa ⟨rfl,hba⟩
     refine ⟨_,rfl,?_⟩
     have HDa:=Aside0.mk (u1z HD0.out hba)
     have HQa:=Aside0.mk (uo HQ0.out HQ0.out.size hba)
     clear hba
     refine hK.out (Act.put _ (some 30) (.string ⟨(Lib.decDigits u).toArray⟩)) _ HDa.out (fun hNext => ?_)
     simp only [Act.put,List.setIfInBounds_toArray,List.set_cons_zero,List.set_cons_succ,i64_w,i32_w]
     clear hK hHeld K
     have hHeld:=hNext
     clear hNext
     refine oneO_ (N:=some 33) rfl rfl (by kernel_rfl) (by decide) (fun K hK => ?_)
     refine goes_ Tryz.func69 (by kernel_rfl) rfl #[.int .i64 T] (by rfl) rfl rfl (by (try simp only [List.map_toArray,List.map_cons,List.map_nil]);first | done | rfl) ?_
     refine (u1i.itoa T HT.out.1 HT.out.2 _ (HG.out.below HQa.out)).mono ?_
     rintro e Wb ⟨rfl,hbb⟩
     refine ⟨_,rfl,?_⟩
     have HDb:=Aside0.mk (u1z HDa.out hbb)
     have HQb:=Aside0.mk (uo HQa.out HQa.out.size hbb)
     clear hbb
     refine hK.out (Act.put _ (some 33) (.string ⟨(Lib.itoa T).toArray⟩)) _ HDb.out (fun hNext => ?_)
     simp only [Act.put,List.setIfInBounds_toArray,List.set_cons_zero,List.set_cons_succ,i64_w,i32_w]
     clear hK hHeld K
     have hHeld:=hNext
     clear hNext
     refine oneO_ (N:=some 34) rfl rfl (by kernel_rfl) (by decide) (fun K hK => ?_)
     refine value_ (w1:=Wb.alloc (.cells #[.string ⟨#[]⟩,.string ⟨#[]⟩,.string ⟨#[32]⟩,.string ⟨(Lib.decDigits u).toArray⟩,.string ⟨#[32]⟩,.string ⟨(Lib.itoa T).toArray⟩] 9)) (v:=.slice (some ⟨Wb.heap.size,0,none⟩) 6 6) (by rfl) rfl ?_ ?_
     · go_simp
     refine hK.out (Act.put _ (some 34) (.slice (some ⟨Wb.heap.size,0,none⟩) 6 6)) _ (uq HDb.out _) (fun hNext => ?_)
     simp only [Act.put,List.setIfInBounds_toArray,List.set_cons_zero,List.set_cons_succ,i64_w,i32_w]
     clear hK hHeld K
     have hHeld:=hNext
     clear hNext
     refine oneO_ (N:=some 35) rfl rfl (by kernel_rfl) (by decide) (fun K hK => ?_)
     refine goes_ Tryz.func62 (by kernel_rfl) rfl #[.pointer (some ⟨g,0,none⟩),.slice (some ⟨Wb.heap.size,0,none⟩) 6 6] (by rfl) rfl rfl (by (try simp only [List.map_toArray,List.map_cons,List.map_nil]);first | done | rfl) ?_
     refine (ug.six w0 Wb g _ bs ⟨#[]⟩ ⟨#[]⟩ ⟨#[32]⟩ ⟨(Lib.decDigits u).toArray⟩ ⟨#[32]⟩ ⟨(Lib.itoa T).toArray⟩ rfl (HP.out.more HQb.out) (uo HB.out HB.out.size HQb.out) HLEN.out).mono ?_
     rintro e Wc ⟨rfl,hp,hbc,hs,hz⟩
     refine ⟨_,rfl,?_⟩
     have HPc:=Aside0.mk hp
     have HBc:=Aside0.mk hbc
     have HSc:=Aside0.mk ((ug.Stay.below HQb.out).trans hs)
     have HZc:=Aside0.mk (Nat.le_trans HQb.out.size hz)
     have HDc:=Aside0.mk ((hs W.heap.size 53 _ HDb.out (by decide) (by decide)).trans HDb.out)
     clear hp hbc hs hz
     refine hK.out (Act.put _ (some 35) (.tuple #[])) _ HDc.out (fun hNext => ?_)
     simp only [Act.put,List.setIfInBounds_toArray,List.set_cons_zero,List.set_cons_succ,i64_w,i32_w]
     clear hK hHeld K
     have hHeld:=hNext
     clear hNext
     refine doneO_ (by kernel_rfl) ?_
     go_end0
     exact ⟨rfl,HPc.out,HBc.out,HSc.out,HZc.out⟩
   · have hpos:0 < l.length:=List.length_pos_iff.2 hne
     have hl1:decide ((0:Int) < (l.length:Int)) = true:=decide_eq_true (by omega)
     have hl2:decide (0 < l.length) = true:=decide_eq_true hpos
     have HBR:=Aside0.mk hbr
     clear hbr hne
     go_enter Tryz.func36,Tryz.ntmps36
     go_wp2_with (first
      | (go_at_call 63;(with_reducible refine (u2h.calls A c l ⟨#[95,95,110,97,109,101,95,95]⟩ (u2h.get ⟨#[95,95,110,97,109,101,95,95]⟩ l) _ (Kd.C_below HR.out HZ1.out) HC.out rfl).mono ?_);rintro e W2 ⟨rfl,hb2⟩;rw [HGE.out];have HZ2:=Aside0.mk (uo HZ1.out HZ1.out.size hb2);have HN2:=Aside0.mk (ua.below_at hb2 HN1.out);obtain ⟨⟨n0,n1,n2⟩,n3⟩:=uc.look3 HN2.out;clear hb2)
      | (go_at_call 29;(with_reducible refine (u1m.calls nm0 false _ HNB.out).mono ?_);rintro e W3 ⟨rfl,hb3⟩;have HZ3:=Aside0.mk (uo HZ2.out HZ2.out.size hb3);have HN3:=Aside0.mk (ua.below_at hb3 HN2.out);clear n0 n1 n2 n3;obtain ⟨⟨n0,n1,n2⟩,n3⟩:=uc.look3 HN3.out;clear hb3)
      | (go_at_call 67;(with_reducible refine (u2a.calls k A c l br e1 _ (Kd.C_below HR.out HZ3.out) HC.out HBR.out).mono ?_);rintro e W6 ⟨rfl,hb6⟩;have HZ6:=Aside0.mk (uo HZ3.out HZ3.out.size hb6);have HN6:=Aside0.mk (ua.below_at hb6 HN3.out);clear n0 n1 n2 n3;obtain ⟨⟨n0,n1,n2⟩,n3⟩:=uc.look3 HN6.out;clear hb6))
     have HD0:=Aside0.mk (uw HN6.out)
     have HQ0:=Aside0.mk (uf HZ6.out)
     clear n0 n1 n2 n3
     refine startO_ (n:=11) (S:=fun w' => w'.heap[W.heap.size]? = some (.cells #[.slice A l.length c,.int .i64 T,.int .u64 (u:Int)] 53 (0,0))) (ds:=[]) [(0,25),(1,26),(2,27),(3,28),(4,29),(6,31),(7,32),(5,0),(8,0),(9,0),(10,0)] (by kernel_rfl) rfl HD0.out (fun hHeld => ?_)
     iterate 4 (refine hd_ (v:=?_) (a':=?_) rfl rfl (by kernel_rfl) (Or.inl ⟨by kernel_rfl,?_⟩) ?_ ?_;rotate_left;(intro w';go_simp;with_reducible rfl);rotate_left;(simp only [Act.put,List.setIfInBounds_toArray,List.set_cons_zero,List.set_cons_succ,i64_w,i32_w];rfl))
     refine hdS_ (v:=?_) (a':=?_) rfl rfl (by kernel_rfl) (Or.inl ⟨by kernel_rfl,?_⟩) hHeld ?_ ?_
     rotate_left
     · rintro w' hS'
       have hcell:w'.cell? ⟨W.heap.size,2,none⟩ = some (.int .u64 (u:Int)):=(um hS' 2).trans rfl
       go_simp
       (try with_reducible rfl)
     rotate_left
     · simp only [Act.put,List.setIfInBounds_toArray,List.set_cons_zero,List.set_cons_succ,i64_w,i32_w]
       rfl
     (refine hd_ (v:=?_) (a':=?_) rfl rfl (by kernel_rfl) (Or.inl ⟨by kernel_rfl,?_⟩) ?_ ?_;rotate_left;(intro w';go_simp;with_reducible rfl);rotate_left;(simp only [Act.put,List.setIfInBounds_toArray,List.set_cons_zero,List.set_cons_succ,i64_w,i32_w];rfl))
     refine hdS_ (v:=?_) (a':=?_) rfl rfl (by kernel_rfl) (Or.inl ⟨by kernel_rfl,?_⟩) hHeld ?_ ?_
     rotate_left
     · rintro w' hS'
       have hcell:w'.cell? ⟨W.heap.size,1,none⟩ = some (.int .i64 T):=(um hS' 1).trans rfl
       go_simp
       (try with_reducible rfl)
     rotate_left
     · simp only [Act.put,List.setIfInBounds_toArray,List.set_cons_zero,List.set_cons_succ,i64_w,i32_w]
       rfl
     refine oneO_ (N:=some 30) rfl rfl (by kernel_rfl) (by decide) (fun K hK => ?_)
     refine goes_ Tryz.func68 (by kernel_rfl) rfl #[.int .u64 (u:Int),.int .i64 10] (by rfl) rfl rfl (by (try simp only [List.map_toArray,List.map_cons,List.map_nil]);first | done | rfl) ?_
     refine (u1i.calls u HU.out _ (HG.out.below HQ0.out)).mono ?_
     rintro e Wa ⟨rfl,hba⟩
     refine ⟨_,rfl,?_⟩
     have HDa:=Aside0.mk (u1z HD0.out hba)
     have HQa:=Aside0.mk (uo HQ0.out HQ0.out.size hba)
     clear hba
     refine hK.out (Act.put _ (some 30) (.string ⟨(Lib.decDigits u).toArray⟩)) _ HDa.out (fun hNext => ?_)
     simp only [Act.put,List.setIfInBounds_toArray,List.set_cons_zero,List.set_cons_succ,i64_w,i32_w]
     clear hK hHeld K
     have hHeld:=hNext
     clear hNext
     refine oneO_ (N:=some 33) rfl rfl (by kernel_rfl) (by decide) (fun K hK => ?_)
     refine goes_ Tryz.func69 (by kernel_rfl) rfl #[.int .i64 T] (by rfl) rfl rfl (by (try simp only [List.map_toArray,List.map_cons,List.map_nil]);first | done | rfl) ?_
     refine (u1i.itoa T HT.out.1 HT.out.2 _ (HG.out.below HQa.out)).mono ?_
     rintro e Wb ⟨rfl,hbb⟩
     refine ⟨_,rfl,?_⟩
     have HDb:=Aside0.mk (u1z HDa.out hbb)
     have HQb:=Aside0.mk (uo HQa.out HQa.out.size hbb)
     clear hbb
     refine hK.out (Act.put _ (some 33) (.string ⟨(Lib.itoa T).toArray⟩)) _ HDb.out (fun hNext => ?_)
     simp only [Act.put,List.setIfInBounds_toArray,List.set_cons_zero,List.set_cons_succ,i64_w,i32_w]
     clear hK hHeld K
     have hHeld:=hNext
     clear hNext
     refine oneO_ (N:=some 34) rfl rfl (by kernel_rfl) (by decide) (fun K hK => ?_)
     refine value_ (w1:=Wb.alloc (.cells #[.string ⟨#[]⟩,.string br,.string ⟨#[32]⟩,.string ⟨(Lib.decDigits u).toArray⟩,.string ⟨#[32]⟩,.string ⟨(Lib.itoa T).toArray⟩] 9)) (v:=.slice (some ⟨Wb.heap.size,0,none⟩) 6 6) (by rfl) rfl ?_ ?_
     · go_simp
     refine hK.out (Act.put _ (some 34) (.slice (some ⟨Wb.heap.size,0,none⟩) 6 6)) _ (uq HDb.out _) (fun hNext => ?_)
     simp only [Act.put,List.setIfInBounds_toArray,List.set_cons_zero,List.set_cons_succ,i64_w,i32_w]
     clear hK hHeld K
     have hHeld:=hNext
     clear hNext
     refine oneO_ (N:=some 35) rfl rfl (by kernel_rfl) (by decide) (fun K hK => ?_)
     refine goes_ Tryz.func62 (by kernel_rfl) rfl #[.pointer (some ⟨g,0,none⟩),.slice (some ⟨Wb.heap.size,0,none⟩) 6 6] (by rfl) rfl rfl (by (try simp only [List.map_toArray,List.map_cons,List.map_nil]);first | done | rfl) ?_
     refine (ug.six w0 Wb g _ bs ⟨#[]⟩ br ⟨#[32]⟩ ⟨(Lib.decDigits u).toArray⟩ ⟨#[32]⟩ ⟨(Lib.itoa T).toArray⟩ rfl (HP.out.more HQb.out) (uo HB.out HB.out.size HQb.out) HLEN.out).mono ?_
     rintro e Wc ⟨rfl,hp,hbc,hs,hz⟩
     refine ⟨_,rfl,?_⟩
     have HPc:=Aside0.mk hp
     have HBc:=Aside0.mk hbc
     have HSc:=Aside0.mk ((ug.Stay.below HQb.out).trans hs)
     have HZc:=Aside0.mk (Nat.le_trans HQb.out.size hz)
     have HDc:=Aside0.mk ((hs W.heap.size 53 _ HDb.out (by decide) (by decide)).trans HDb.out)
     clear hp hbc hs hz
     refine hK.out (Act.put _ (some 35) (.tuple #[])) _ HDc.out (fun hNext => ?_)
     simp only [Act.put,List.setIfInBounds_toArray,List.set_cons_zero,List.set_cons_succ,i64_w,i32_w]
     clear hK hHeld K
     have hHeld:=hNext
     clear hNext
     refine doneO_ (by kernel_rfl) ?_
     go_end0
     exact ⟨rfl,HPc.out,HBc.out,HSc.out,HZc.out⟩
def ur.wrongB (x:S34):Bool:=!Base.nameB x.f0 || ((!decide (x.f1 = Base.ofL [])) && !Tx.knownL x.f1.data.toList) || !Tx.plainL x.f2.data.toList || decide (900 < x.f2.size)
theorem ur.of (s:ByteArray):Base.ofL s.data.toList = s:=Base.ext_data (Base.ofL_data _)
set_option maxRecDepth 100000 in
set_option maxHeartbeats 4000000 in
theorem ur.wrong (x:S34) (hl:x.f2.size ≤ 140737488351232) (W:World) :
 Calls Tryz.prog 28 #[.agg #[.string x.f0,.string x.f1,.string x.f2]] W fun e w' => e = .returned (.bool (ur.wrongB x)) ∧ Below W.heap.size W w':=by
 obtain ⟨a,b,c⟩:=x
 have hz1:=ud (Below.refl W.heap.size W) (.cells #[.string a,.string b,.string c] 34)
 have HZ1:=Aside0.mk hz1
 have HN1:=Aside0.mk (ua.new_at W (.cells #[.string a,.string b,.string c] 34))
 have HPL:Aside0 (∀ W,Calls Tryz.prog 31 #[.string c] W fun e w' => e = .returned (.bool (Tx.plainL c.data.toList)) ∧ Below W.heap.size W w'):=⟨fun W => by
  have h:=u2s.calls c.data.toList (by rw [u2f];exact hl) W
  rw [ur.of] at h
  exact h⟩
 have HKN:Aside0 (∀ W,Calls Tryz.prog 30 #[.string b] W fun e w' => e = .returned (.bool (Tx.knownL b.data.toList)) ∧ Below W.heap.size W w'):=⟨fun W => by
  have h:=uj.known_is b.data.toList
  rw [ur.of] at h
  exact (text_known.calls b _ W h).mono fun e w' ⟨h1,h2⟩ => ⟨h1,h2.below⟩⟩
 have HNM:Aside0 (∀ W,Calls Tryz.prog 29 #[.string a] W fun e w' => e = .returned (.bool (Base.nameB a)) ∧ Below W.heap.size W w'):=⟨fun W => u1m.calls a _ W rfl⟩
 unfold ur.wrongB
 simp only
 clear hz1 hl
 cases hna:Base.nameB a with
 | false =>
   rw [hna] at HNM
   clear hna
   go_enter Tryz.func28,Tryz.ntmps28
   go_wp2_with (first
    | (go_at_call 29;(with_reducible refine (HNM.out _).mono ?_);rintro e W2 ⟨rfl,hb2⟩;have HZ2:=Aside0.mk (uo HZ1.out HZ1.out.size hb2);obtain ⟨⟨n0,n1,n2⟩,n3⟩:=uc.look3 (ua.below_at hb2 HN1.out);have HN2:=Aside0.mk (ua.below_at hb2 HN1.out);clear hb2))
   go_ret
   exact ⟨by simp [*],HZ2.out⟩
 | true =>
   rw [hna] at HNM
   clear hna
   by_cases hb:b = Base.ofL []
   · have b1:=u1t.emp hb
     have b2:decide (b = Base.ofL []) = true:=decide_eq_true hb
     rw [b2]
     clear hb b2
     cases hp:Tx.plainL c.data.toList with
     | false =>
       rw [hp] at HPL
       go_enter Tryz.func28,Tryz.ntmps28
       go_wp2_with (first
        | (go_at_call 29;(with_reducible refine (HNM.out _).mono ?_);rintro e W2 ⟨rfl,hb2⟩;have HZ2:=Aside0.mk (uo HZ1.out HZ1.out.size hb2);obtain ⟨⟨n0,n1,n2⟩,n3⟩:=uc.look3 (ua.below_at hb2 HN1.out);have HN2:=Aside0.mk (ua.below_at hb2 HN1.out);clear hb2)
        | (go_at_call 31;(with_reducible refine (HPL.out _).mono ?_);rintro e W4 ⟨rfl,hb4⟩;have HZ4:=Aside0.mk (uo HZ2.out HZ2.out.size hb4);clear n0 n1 n2 n3;obtain ⟨⟨n0,n1,n2⟩,n3⟩:=uc.look3 (ua.below_at hb4 HN2.out);clear hb4))
       go_ret
       exact ⟨by simp [*],HZ4.out⟩
     | true =>
       rw [hp] at HPL
       by_cases h9:900 < c.size
       · have s1:decide ((900:Int) < (c.size:Int)) = true:=decide_eq_true (by omega)
         have s2:decide (900 < c.size) = true:=decide_eq_true h9
         go_enter Tryz.func28,Tryz.ntmps28
         go_wp2_with (first
          | (go_at_call 29;(with_reducible refine (HNM.out _).mono ?_);rintro e W2 ⟨rfl,hb2⟩;have HZ2:=Aside0.mk (uo HZ1.out HZ1.out.size hb2);obtain ⟨⟨n0,n1,n2⟩,n3⟩:=uc.look3 (ua.below_at hb2 HN1.out);have HN2:=Aside0.mk (ua.below_at hb2 HN1.out);clear hb2)
          | (go_at_call 31;(with_reducible refine (HPL.out _).mono ?_);rintro e W4 ⟨rfl,hb4⟩;have HZ4:=Aside0.mk (uo HZ2.out HZ2.out.size hb4);clear n0 n1 n2 n3;obtain ⟨⟨n0,n1,n2⟩,n3⟩:=uc.look3 (ua.below_at hb4 HN2.out);clear hb4))
         go_ret
         exact ⟨by simp [*],HZ4.out⟩
       · have s1:decide ((900:Int) < (c.size:Int)) = false:=decide_eq_false (by omega)
         have s2:decide (900 < c.size) = false:=decide_eq_false h9
         go_enter Tryz.func28,Tryz.ntmps28
         go_wp2_with (first
          | (go_at_call 29;(with_reducible refine (HNM.out _).mono ?_);rintro e W2 ⟨rfl,hb2⟩;have HZ2:=Aside0.mk (uo HZ1.out HZ1.out.size hb2);obtain ⟨⟨n0,n1,n2⟩,n3⟩:=uc.look3 (ua.below_at hb2 HN1.out);have HN2:=Aside0.mk (ua.below_at hb2 HN1.out);clear hb2)
          | (go_at_call 31;(with_reducible refine (HPL.out _).mono ?_);rintro e W4 ⟨rfl,hb4⟩;have HZ4:=Aside0.mk (uo HZ2.out HZ2.out.size hb4);clear n0 n1 n2 n3;obtain ⟨⟨n0,n1,n2⟩,n3⟩:=uc.look3 (ua.below_at hb4 HN2.out);clear hb4))
         go_ret
         exact ⟨by simp [*],HZ4.out⟩
   · have b1:=u1t.nonemp hb
     have b2:decide (b = Base.ofL []) = false:=decide_eq_false hb
     rw [b2]
     clear hb b2
     cases hk:Tx.knownL b.data.toList with
     | false =>
       rw [hk] at HKN
       clear hk
       go_enter Tryz.func28,Tryz.ntmps28
       go_wp2_with (first
        | (go_at_call 29;(with_reducible refine (HNM.out _).mono ?_);rintro e W2 ⟨rfl,hb2⟩;have HZ2:=Aside0.mk (uo HZ1.out HZ1.out.size hb2);obtain ⟨⟨n0,n1,n2⟩,n3⟩:=uc.look3 (ua.below_at hb2 HN1.out);have HN2:=Aside0.mk (ua.below_at hb2 HN1.out);clear hb2)
        | (go_at_call 30;(with_reducible refine (HKN.out _).mono ?_);rintro e W3 ⟨rfl,hb3⟩;have HZ3:=Aside0.mk (uo HZ2.out HZ2.out.size hb3);clear n0 n1 n2 n3;obtain ⟨⟨n0,n1,n2⟩,n3⟩:=uc.look3 (ua.below_at hb3 HN2.out);have HN3:=Aside0.mk (ua.below_at hb3 HN2.out);clear hb3))
       go_ret
       exact ⟨by simp [*],HZ3.out⟩
     | true =>
       rw [hk] at HKN
       clear hk
       cases hp:Tx.plainL c.data.toList with
       | false =>
         rw [hp] at HPL
         go_enter Tryz.func28,Tryz.ntmps28
         go_wp2_with (first
          | (go_at_call 29;(with_reducible refine (HNM.out _).mono ?_);rintro e W2 ⟨rfl,hb2⟩;have HZ2:=Aside0.mk (uo HZ1.out HZ1.out.size hb2);obtain ⟨⟨n0,n1,n2⟩,n3⟩:=uc.look3 (ua.below_at hb2 HN1.out);have HN2:=Aside0.mk (ua.below_at hb2 HN1.out);clear hb2)
          | (go_at_call 30;(with_reducible refine (HKN.out _).mono ?_);rintro e W3 ⟨rfl,hb3⟩;have HZ3:=Aside0.mk (uo HZ2.out HZ2.out.size hb3);clear n0 n1 n2 n3;obtain ⟨⟨n0,n1,n2⟩,n3⟩:=uc.look3 (ua.below_at hb3 HN2.out);have HN3:=Aside0.mk (ua.below_at hb3 HN2.out);clear hb3)
          | (go_at_call 31;(with_reducible refine (HPL.out _).mono ?_);rintro e W4 ⟨rfl,hb4⟩;have HZ4:=Aside0.mk (uo HZ3.out HZ3.out.size hb4);clear n0 n1 n2 n3;obtain ⟨⟨n0,n1,n2⟩,n3⟩:=uc.look3 (ua.below_at hb4 HN3.out);clear hb4))
         go_ret
         exact ⟨by simp [*],HZ4.out⟩
       | true =>
         rw [hp] at HPL
         by_cases h9:900 < c.size
         · have s1:decide ((900:Int) < (c.size:Int)) = true:=decide_eq_true (by omega)
           have s2:decide (900 < c.size) = true:=decide_eq_true h9
           go_enter Tryz.func28,Tryz.ntmps28
           go_wp2_with (first
            | (go_at_call 29;(with_reducible refine (HNM.out _).mono ?_);rintro e W2 ⟨rfl,hb2⟩;have HZ2:=Aside0.mk (uo HZ1.out HZ1.out.size hb2);obtain ⟨⟨n0,n1,n2⟩,n3⟩:=uc.look3 (ua.below_at hb2 HN1.out);have HN2:=Aside0.mk (ua.below_at hb2 HN1.out);clear hb2)
            | (go_at_call 30;(with_reducible refine (HKN.out _).mono ?_);rintro e W3 ⟨rfl,hb3⟩;have HZ3:=Aside0.mk (uo HZ2.out HZ2.out.size hb3);clear n0 n1 n2 n3;obtain ⟨⟨n0,n1,n2⟩,n3⟩:=uc.look3 (ua.below_at hb3 HN2.out);have HN3:=Aside0.mk (ua.below_at hb3 HN2.out);clear hb3)
            | (go_at_call 31;(with_reducible refine (HPL.out _).mono ?_);rintro e W4 ⟨rfl,hb4⟩;have HZ4:=Aside0.mk (uo HZ3.out HZ3.out.size hb4);clear n0 n1 n2 n3;obtain ⟨⟨n0,n1,n2⟩,n3⟩:=uc.look3 (ua.below_at hb4 HN3.out);clear hb4))
           go_ret
           exact ⟨by simp [*],HZ4.out⟩
         · have s1:decide ((900:Int) < (c.size:Int)) = false:=decide_eq_false (by omega)
           have s2:decide (900 < c.size) = false:=decide_eq_false h9
           go_enter Tryz.func28,Tryz.ntmps28
           go_wp2_with (first
            | (go_at_call 29;(with_reducible refine (HNM.out _).mono ?_);rintro e W2 ⟨rfl,hb2⟩;have HZ2:=Aside0.mk (uo HZ1.out HZ1.out.size hb2);obtain ⟨⟨n0,n1,n2⟩,n3⟩:=uc.look3 (ua.below_at hb2 HN1.out);have HN2:=Aside0.mk (ua.below_at hb2 HN1.out);clear hb2)
            | (go_at_call 30;(with_reducible refine (HKN.out _).mono ?_);rintro e W3 ⟨rfl,hb3⟩;have HZ3:=Aside0.mk (uo HZ2.out HZ2.out.size hb3);clear n0 n1 n2 n3;obtain ⟨⟨n0,n1,n2⟩,n3⟩:=uc.look3 (ua.below_at hb3 HN2.out);have HN3:=Aside0.mk (ua.below_at hb3 HN2.out);clear hb3)
            | (go_at_call 31;(with_reducible refine (HPL.out _).mono ?_);rintro e W4 ⟨rfl,hb4⟩;have HZ4:=Aside0.mk (uo HZ3.out HZ3.out.size hb4);clear n0 n1 n2 n3;obtain ⟨⟨n0,n1,n2⟩,n3⟩:=uc.look3 (ua.below_at hb4 HN3.out);clear hb4))
           go_ret
           exact ⟨by simp [*],HZ4.out⟩
set_option maxRecDepth 100000 in
theorem ur.bad (x:S53) (A:Option Addr) (c:Nat) (W:World) (hc:x.f0.length ≤ c) (hr:Kd.C k66 W A x.f0.length x.f0) :
 Calls Tryz.prog 32 #[.agg #[.slice A x.f0.length c,.int .i64 x.f1,.int .u64 x.f2]] W fun e w' => e = .returned (.bool (!Laws.canB x.f0)) ∧ Below W.heap.size W w':=by
 obtain ⟨k,hk⟩:=(Laws.can_ev x.f0).rounds
 have hz1:=ud (Below.refl W.heap.size W) (.cells #[.slice A x.f0.length c,.int .i64 x.f1,.int .u64 x.f2] 53)
 have HZ1:=Aside0.mk hz1
 have HC:=Aside0.mk (u1s.calls k A c x.f0 _ (W.alloc (.cells #[.slice A x.f0.length c,.int .i64 x.f1,.int .u64 x.f2] 53)) (Kd.C_below hr hz1) hc hk)
 clear hz1 hr hc hk
 go_enter Tryz.func32,Tryz.ntmps32
 go_wp2_with (go_at_call 33;(with_reducible refine HC.out.mono ?_);rintro e W2 ⟨rfl,hb2⟩;have HZ2:=Aside0.mk (uo HZ1.out HZ1.out.size hb2);clear hb2)
 go_ret
 exact ⟨rfl,HZ2.out⟩
def ur.brOf (l:List Tx.Lb):ByteArray:=if u1b.oth l = [] then ⟨#[]⟩ else if Laws.canB (u1b.oth l) = true then Base.ofL (Laws.textL (u1b.oth l)) else ⟨#[]⟩
def ur.rowB (r:S53):List Int:=u1b.lineB r.f0 (ur.brOf r.f0) r.f1 r.f2.toNat
def ur.metB (x:S34):List Int:=u1t.metaB x.f0 x.f1 x.f2
def ur.bytesB (l0:List S53) (l1:List S34):List Int:=l1.flatMap ur.metB ++ l0.flatMap ur.rowB
def ur.f (l0:List S53) (l1:List S34):Option (List Int × Int) :=
 if (∀ x ∈ l1,x.f2.size ≤ 140737488351232) ∧ (∀ r ∈ l0,-9223372036854775808 ≤ r.f1 ∧ r.f1 ≤ 9223372036854775807 ∧ 0 ≤ r.f2 ∧ r.f2 < 18446744073709551616) ∧ l0.length ≤ 1000 ∧ l1.length ≤ 1000 then
  if l1.any ur.wrongB = true ∨ l0.any (fun r => !Laws.canB r.f0) = true then some ([],1)
  else if (ur.bytesB l0 l1).length ≤ 100000000 then some (ur.bytesB l0 l1,0) else none
 else none
theorem ur.take_next {α:Type} (f:α → List Int) (l:List α) (i:Nat) (h:i < l.length):(l.take (i + 1)).flatMap f = (l.take i).flatMap f ++ f l[i]:=by
 rw [List.take_succ_eq_append_getElem h,List.flatMap_append]
 simp
theorem ur.take_le {α:Type} (f:α → List Int) (l:List α) (i:Nat):((l.take i).flatMap f).length ≤ (l.flatMap f).length:=by
 have h:l.flatMap f = (l.take i).flatMap f ++ (l.drop i).flatMap f:=by rw [← List.flatMap_append,List.take_append_drop]
 rw [h,List.length_append]
 omega
theorem ur.can8 {l:List Tx.Lb} (h:Laws.canB l = true):l.length ≤ 8:=by
 unfold Laws.canB at h
 simp only [Bool.and_eq_true,decide_eq_true_eq] at h
 exact h.1.2
theorem ur.meta_calls (w0 W:World) (g:Nat) (bs:List Int) (y:S34) (h:ug.Pr w0 W g bs) (hB:Below w0.heap.size w0 W) (hl:bs.length + (ur.metB y).length ≤ 100000000) :
 Calls Tryz.prog 35 #[.pointer (some ⟨g,0,none⟩),.agg #[.string y.f0,.string y.f1,.string y.f2]] W fun e W' => e = .returned (.tuple #[]) ∧ ug.Pr w0 W' g (bs ++ ur.metB y) ∧ Below w0.heap.size w0 W' ∧ ug.Stay W W' ∧ W.heap.size ≤ W'.heap.size:=u1t.calls w0 W g bs y.f0 y.f1 y.f2 h hB hl
theorem ur.row_calls (w0 W:World) (g:Nat) (bs:List Int) (A:Option Addr) (c:Nat) (r:S53) (h:ug.Pr w0 W g bs) (hB:Below w0.heap.size w0 W) (hG:u1i.Gd W) (hr:Kd.C k66 W A r.f0.length r.f0) (hc:r.f0.length ≤ c) (hcan:Laws.canB r.f0 = true)
 (hT : -9223372036854775808 ≤ r.f1 ∧ r.f1 ≤ 9223372036854775807 ∧ 0 ≤ r.f2 ∧ r.f2 < 18446744073709551616) (hlen:bs.length + (ur.rowB r).length ≤ 100000000) :
 Calls Tryz.prog 36 #[.pointer (some ⟨g,0,none⟩),.agg #[.slice A r.f0.length c,.int .i64 r.f1,.int .u64 r.f2]] W fun e W' => e = .returned (.tuple #[]) ∧ ug.Pr w0 W' g (bs ++ ur.rowB r) ∧ Below w0.heap.size w0 W' ∧ ug.Stay W W' ∧ W.heap.size ≤ W'.heap.size:=by
 have h8:=ur.can8 hcan
 obtain ⟨u,hu⟩:∃ u:Nat,r.f2 = (u:Int):=⟨r.f2.toNat,by omega⟩
 have hun:r.f2.toNat = u:=by omega
 unfold ur.rowB at hlen ⊢
 rw [hun] at hlen ⊢
 rw [hu]
 by_cases ho:u1b.oth r.f0 = []
 · have hb:ur.brOf r.f0 = ⟨#[]⟩:=by unfold ur.brOf;rw [if_pos ho]
   rw [hb] at hlen ⊢
   exact u1b.calls 0 w0 W g bs A c r.f0 r.f1 u ⟨#[]⟩ 0 h hB hG hr hc (by omega) ⟨hT.1,hT.2.1⟩ (by omega) (Or.inl ⟨ho,rfl⟩) hlen
 · obtain ⟨k,hk⟩:=(Laws.text_ev (u1b.oth r.f0)).rounds
   have hb:∃ e1,u2a.f k (u1b.oth r.f0) = some (ur.brOf r.f0,e1):=by
    unfold ur.brOf
    rw [if_neg ho]
    cases hcc:Laws.canB (u1b.oth r.f0) with
    | true => rw [hcc] at hk;exact ⟨0,hk⟩
    | false => rw [hcc] at hk;exact ⟨1,hk⟩
   obtain ⟨e1,he⟩:=hb
   exact u1b.calls k w0 W g bs A c r.f0 r.f1 u _ e1 h hB hG hr hc (by omega) ⟨hT.1,hT.2.1⟩ (by omega) (Or.inr ⟨ho,he⟩) hlen
theorem ur.wrong2 (x:S34) (hl:x.f2.size ≤ 140737488351232) (W:World) :
 Calls Tryz.prog 28 (#[.agg #[.string x.f0,.string x.f1,.string x.f2]] ++ #[]) W fun e w' => e = .returned (.bool (ur.wrongB x)) ∧ Below W.heap.size W w':=by
 rw [show (#[Value.agg #[.string x.f0,.string x.f1,.string x.f2]] ++ #[]:Array Value) = #[.agg #[.string x.f0,.string x.f1,.string x.f2]] from by simp]
 exact ur.wrong x hl W
theorem ur.bad2 (x:S53) (A:Option Addr) (c:Nat) (W:World) (hc:x.f0.length ≤ c) (hr:Kd.C k66 W A x.f0.length x.f0) :
 Calls Tryz.prog 32 (#[.agg #[.slice A x.f0.length c,.int .i64 x.f1,.int .u64 x.f2]] ++ #[]) W fun e w' => e = .returned (.bool (!Laws.canB x.f0)) ∧ Below W.heap.size W w':=by
 rw [show (#[Value.agg #[.slice A x.f0.length c,.int .i64 x.f1,.int .u64 x.f2]] ++ #[]:Array Value) = #[.agg #[.slice A x.f0.length c,.int .i64 x.f1,.int .u64 x.f2]] from by simp]
 exact ur.bad x A c W hc hr
theorem ur.enters1:∀ args W,(callFunc 28 args).run Tryz.prog W = .ok (.enter 28 args) W:=enters_of Tryz.func28 (by kernel_rfl) rfl
theorem ur.enters2:∀ args W,(callFunc 32 args).run Tryz.prog W = .ok (.enter 32 args) W:=enters_of Tryz.func32 (by kernel_rfl) rfl
set_option maxRecDepth 100000 in
set_option maxHeartbeats 4000000 in
theorem ur.refused (A0:Option Addr) (c0:Nat) (l0:List S53) (A1:Option Addr) (c1:Nat) (l1:List S34) (w:World) (hr0:Kd.C k53 w A0 l0.length l0) (hc0:l0.length ≤ c0) (hr1:Kd.C k34 w A1 l1.length l1) (hc1:l1.length ≤ c1) (hm:∀ x ∈ l1,x.f2.size ≤ 140737488351232) (hn0:l0.length ≤ 1000) (hn1:l1.length ≤ 1000) (hb:l1.any ur.wrongB = true ∨ l0.any (fun r => !Laws.canB r.f0) = true) :
 Calls Tryz.prog 13 #[.slice A0 l0.length c0,.slice A1 l1.length c1] w fun e w' => e = .returned (.tuple #[.slice none 0 0,.int .i64 1]) ∧ Below w.heap.size w w':=by
 have H1:=Aside0.mk (api_Meta_15.calls A1 c1 l1 28 #[] ur.wrongB w hr1 (by omega) ur.enters1 (fun W x _ hx => ur.wrong2 x (hm x hx) W))
 have H2:Aside0 (∀ W,Below w.heap.size w W → Calls Tryz.prog 34 #[.slice A0 l0.length c0,.func (.func 32) #[] #[]] W fun e w' => e = .returned (.bool (l0.any (fun r => !Laws.canB r.f0))) ∧ Below W.heap.size W w'):=⟨fun W hW => api_Row_34.calls A0 c0 l0 32 #[] (fun r => !Laws.canB r.f0) W (Kd.C_below hr0 hW) (by omega) ur.enters2 (fun W' x A c hc hr _ _ => ur.bad2 x A c W' hc hr)⟩
 clear hr0 hr1 hm hc0 hc1
 cases ha:l1.any ur.wrongB with
 | true =>
   rw [ha] at H1
   clear ha hb
   go_enter Tryz.func13,Tryz.ntmps13
   go_wp2_with (go_at_call 15;(with_reducible refine H1.out.mono ?_);rintro e W1 ⟨rfl,hb1⟩;have HB1:=Aside0.mk hb1;clear hb1)
   go_ret2
   exact ⟨rfl,HB1.out⟩
 | false =>
   rw [ha] at H1
   have hb2:=hb.resolve_left (by rw [ha];exact Bool.false_ne_true)
   rw [hb2] at H2
   clear ha hb hb2
   go_enter Tryz.func13,Tryz.ntmps13
   go_wp2_with (first
    | (go_at_call 15;(with_reducible refine H1.out.mono ?_);rintro e W1 ⟨rfl,hb1⟩;have HB1:=Aside0.mk hb1;clear hb1)
    | (go_at_call 34;(with_reducible refine (H2.out _ HB1.out).mono ?_);rintro e W2 ⟨rfl,hb2⟩;have HB2:=Aside0.mk (uo HB1.out HB1.out.size hb2);clear hb2))
   go_ret2
   exact ⟨rfl,HB2.out⟩
set_option maxRecDepth 100000 in
set_option maxHeartbeats 4000000 in
theorem ur.printed (A0:Option Addr) (c0:Nat) (l0:List S53) (A1:Option Addr) (c1:Nat) (l1:List S34) (w:World) (hr0:Kd.C k53 w A0 l0.length l0) (hc0:l0.length ≤ c0) (hr1:Kd.C k34 w A1 l1.length l1) (hc1:l1.length ≤ c1) (hG:u1i.Gd w) (hm:∀ x ∈ l1,x.f2.size ≤ 140737488351232) (hrr:∀ r ∈ l0,-9223372036854775808 ≤ r.f1 ∧ r.f1 ≤ 9223372036854775807 ∧ 0 ≤ r.f2 ∧ r.f2 < 18446744073709551616) (hn0:l0.length ≤ 1000) (hn1:l1.length ≤ 1000) (hb1:l1.any ur.wrongB = false) (hb2:l0.any (fun r => !Laws.canB r.f0) = false) (hl:(ur.bytesB l0 l1).length ≤ 100000000) :
 Calls Tryz.prog 13 #[.slice A0 l0.length c0,.slice A1 l1.length c1] w fun e w' => ∃ v0_:Value,e = .returned (.tuple #[v0_,.int .i64 0]) ∧ Kd.R (Kd.int .u8) 5 w' w.heap.size (fun _ => True) v0_ (ur.bytesB l0 l1) ∧ Below w.heap.size w w':=by
 have H1:=Aside0.mk (api_Meta_15.calls A1 c1 l1 28 #[] ur.wrongB w hr1 (by omega) ur.enters1 (fun W x _ hx => ur.wrong2 x (hm x hx) W))
 have H2:Aside0 (∀ W,Below w.heap.size w W → Calls Tryz.prog 34 #[.slice A0 l0.length c0,.func (.func 32) #[] #[]] W fun e w' => e = .returned (.bool (l0.any (fun r => !Laws.canB r.f0))) ∧ Below W.heap.size W w'):=⟨fun W hW => api_Row_34.calls A0 c0 l0 32 #[] (fun r => !Laws.canB r.f0) W (Kd.C_below hr0 hW) (by omega) ur.enters2 (fun W' x A c hc hr _ _ => ur.bad2 x A c W' hc hr)⟩
 rw [hb1] at H1
 rw [hb2] at H2
 have HCAN:Aside0 (∀ r ∈ l0,Laws.canB r.f0 = true):=⟨fun r hr => by
  have:=List.any_eq_false.1 hb2 r hr
  simpa using this⟩
 have HC0:=Aside0.mk hr0
 have HC1:=Aside0.mk hr1
 have HGG:=Aside0.mk hG
 have HRR:=Aside0.mk hrr
 have HL:=Aside0.mk hl
 clear hr0 hr1 hm hc0 hc1 hG hrr hb1 hb2 hl
 go_enter Tryz.func13,Tryz.ntmps13
 go_wp2_with (first
  | (go_at_call 15;(with_reducible refine H1.out.mono ?_);rintro e W1 ⟨rfl,hb1⟩;have HB1:=Aside0.mk hb1;clear hb1)
  | (go_at_call 34;(with_reducible refine (H2.out _ HB1.out).mono ?_);rintro e W2 ⟨rfl,hb2⟩;have HB2:=Aside0.mk (uo HB1.out HB1.out.size hb2);clear hb2))
 have HP0:Aside0 (ug.Pr w (W2.alloc (.cells #[.slice none 0 0] 76)) W2.heap.size []):=⟨⟨HB2.out.size,_,ua.new_at _ _,Kd.R_nil _ _ _ _ _⟩⟩
 have HB3:=Aside0.mk (ud HB2.out (.cells #[.slice none 0 0] 76))
 clear H1 H2 HB1 HB2
 generalize W2.alloc (.cells #[.slice none 0 0] 76) = W3 at *
 generalize W2.heap.size = g at *
 go_loopw [25] (fun v25 wr => ∃ i:Nat,v25 = .int .i64 (i:Int) ∧ i ≤ l1.length ∧ Aside0 (ug.Pr w wr g ((l1.take i).flatMap ur.metB)) ∧ Aside0 (Below w.heap.size w wr)) (fun v25 _ => l1.length - (intOf v25).toNat)
 case atStart => exact ⟨0,rfl,Nat.zero_le _,⟨by simpa using HP0.out⟩,HB3⟩
 case round =>
  clear HP0 HB3
  obtain ⟨i,rfl,hi,HP,HB⟩:=hrel
  by_cases hlt:i < l1.length
  · obtain ⟨ad,ea,f0,f1,f2⟩:=at_T34 (Kd.C_below HC1.out HB.out) (i:Int) (by omega) (by omega)
    subst ea
    obtain ⟨y,hy⟩:∃ y,l1[i] = y:=⟨_,rfl⟩
    have hx9:rd_T34 l1 (i:Int) = y:=by rw [← hy];simp [rd_T34,List.getD_eq_getElem?_getD,hlt]
    rw [hx9] at f0 f1 f2
    have hd0:wr.cell? (ad.add (i * 3)) = some (.string y.f0):=by simpa using f0
    have hd1:wr.cell? ⟨(ad.add (i * 3)).block,(ad.add (i * 3)).off + 1,none⟩ = some (.string y.f1):=by simpa using f1
    have hd2:wr.cell? ⟨(ad.add (i * 3)).block,(ad.add (i * 3)).off + 2,none⟩ = some (.string y.f2):=by simpa using f2
    have hq:decide ((i:Int) < (l1.length:Int)) = true:=decide_eq_true (by omega)
    have hq2:(i:Int) < (l1.length:Int):=by omega
    have HN:Aside0 ((l1.take (i + 1)).flatMap ur.metB = (l1.take i).flatMap ur.metB ++ ur.metB y):=⟨by rw [ur.take_next _ l1 i hlt,hy]⟩
    have HLN:Aside0 (((l1.take i).flatMap ur.metB).length + (ur.metB y).length ≤ 100000000):=⟨by
     have h1:=ur.take_le ur.metB l1 (i + 1)
     have h2:=HL.out
     rw [HN.out,List.length_append] at h1
     unfold ur.bytesB at h2
     rw [List.length_append] at h2
     omega⟩
    obtain ⟨cur,hcur⟩:∃ cur,(l1.take i).flatMap ur.metB = cur:=⟨_,rfl⟩
    rw [hcur] at HP HN HLN
    have HPA:=Aside0.mk (HP.out.more (ud (Below.refl wr.heap.size wr) (.cells #[.string y.f0,.string y.f1,.string y.f2] 34)))
    have HBA:=Aside0.mk (ud HB.out (.cells #[.string y.f0,.string y.f1,.string y.f2] 34))
    clear f0 f1 f2 hx9 hy hcur HP HB
    go_wp2_with (go_at_call 35;(with_reducible refine (ur.meta_calls w _ g cur y HPA.out HBA.out HLN.out).mono ?_);rintro e W4 ⟨rfl,hp4,hb4,hs4,hz4⟩;have HP4:=Aside0.mk hp4;have HB4:=Aside0.mk hb4;clear hp4 hb4 hs4 hz4)
    go_roundw
    case rel => exact ⟨i + 1,by go_num,by omega,⟨by rw [HN.out];exact HP4.out⟩,HB4⟩
    case measure => simp [intOf];omega
  · have hq:decide ((i:Int) < (l1.length:Int)) = false:=decide_eq_false (by omega)
    have hq2:decide (i < l1.length) = false:=decide_eq_false hlt
    have HM:Aside0 ((l1.take i).flatMap ur.metB = l1.flatMap ur.metB):=⟨by rw [List.take_of_length_le (by omega)]⟩
    rw [HM.out] at HP
    clear HM hlt
    go_wp2
    go_loopw [35] (fun v35 wq => ∃ j:Nat,v35 = .int .i64 (j:Int) ∧ j ≤ l0.length ∧ Aside0 (ug.Pr w wq g (l1.flatMap ur.metB ++ (l0.take j).flatMap ur.rowB)) ∧ Aside0 (Below w.heap.size w wq)) (fun v35 _ => l0.length - (intOf v35).toNat)
    case atStart => exact ⟨0,rfl,Nat.zero_le _,⟨by simpa using HP.out⟩,HB⟩
    case round =>
     clear HP HB
     obtain ⟨j,rfl,hj,HP,HB⟩:=hrel
     by_cases hlt:j < l0.length
     · obtain ⟨ad,A2,c2,ea,f0,f1,f2,gl,gc⟩:=at_T53 (Kd.C_below HC0.out HB.out) (j:Int) (by omega) (by omega)
       subst ea
       obtain ⟨y,hy⟩:∃ y,l0[j] = y:=⟨_,rfl⟩
       have hx9:rd_T53 l0 (j:Int) = y:=by rw [← hy];simp [rd_T53,List.getD_eq_getElem?_getD,hlt]
       rw [hx9] at f0 f1 f2 gl gc
       have hmem:y ∈ l0:=by rw [← hy];exact List.getElem_mem hlt
       have HGC:=Aside0.mk gc
       have HGL:=Aside0.mk gl
       have HYR:=Aside0.mk (HRR.out y hmem)
       have HYC:=Aside0.mk (HCAN.out y hmem)
       have hd0:wr.cell? (ad.add (j * 3)) = some (.slice A2 y.f0.length c2):=by simpa using f0
       have hd1:wr.cell? ⟨(ad.add (j * 3)).block,(ad.add (j * 3)).off + 1,none⟩ = some (.int .i64 y.f1):=by simpa using f1
       have hd2:wr.cell? ⟨(ad.add (j * 3)).block,(ad.add (j * 3)).off + 2,none⟩ = some (.int .u64 y.f2):=by simpa using f2
       have hqj:decide ((j:Int) < (l0.length:Int)) = true:=decide_eq_true (by omega)
       have hqj2:(j:Int) < (l0.length:Int):=by omega
       have HN:Aside0 (l1.flatMap ur.metB ++ (l0.take (j + 1)).flatMap ur.rowB = (l1.flatMap ur.metB ++ (l0.take j).flatMap ur.rowB) ++ ur.rowB y):=⟨by rw [ur.take_next _ l0 j hlt,hy,List.append_assoc]⟩
       have HLN:Aside0 ((l1.flatMap ur.metB ++ (l0.take j).flatMap ur.rowB).length + (ur.rowB y).length ≤ 100000000):=⟨by
        have h1:=ur.take_le ur.rowB l0 (j + 1)
        have h2:=HL.out
        have h3:=congrArg List.length HN.out
        unfold ur.bytesB at h2
        rw [List.length_append] at h2 h3
        rw [List.length_append] at h3
        omega⟩
       obtain ⟨cur,hcur⟩:∃ cur,l1.flatMap ur.metB ++ (l0.take j).flatMap ur.rowB = cur:=⟨_,rfl⟩
       rw [hcur] at HP HN HLN
       have HPA:=Aside0.mk (HP.out.more (ud (Below.refl wr.heap.size wr) (.cells #[.slice A2 y.f0.length c2,.int .i64 y.f1,.int .u64 y.f2] 53)))
       have HBA:=Aside0.mk (ud HB.out (.cells #[.slice A2 y.f0.length c2,.int .i64 y.f1,.int .u64 y.f2] 53))
       clear f0 f1 f2 hx9 hy hcur hmem gl gc HP HB
       go_wp2_with (go_at_call 36;(with_reducible refine (ur.row_calls w _ g cur A2 c2 y HPA.out HBA.out (HGG.out.below HBA.out) (Kd.C_alloc HGC.out _) HGL.out HYC.out HYR.out HLN.out).mono ?_);rintro e W4 ⟨rfl,hp4,hb4,hs4,hz4⟩;have HP4:=Aside0.mk hp4;have HB4:=Aside0.mk hb4;clear hp4 hb4 hs4 hz4)
       go_roundw
       case rel => exact ⟨j + 1,by go_num,by omega,⟨by rw [HN.out];exact HP4.out⟩,HB4⟩
       case measure => simp [intOf];omega
     · have hqj:decide ((j:Int) < (l0.length:Int)) = false:=decide_eq_false (by omega)
       have hqj2:decide (j < l0.length) = false:=decide_eq_false hlt
       have HM:Aside0 (l1.flatMap ur.metB ++ (l0.take j).flatMap ur.rowB = ur.bytesB l0 l1):=⟨by rw [List.take_of_length_le (by omega)];rfl⟩
       rw [HM.out] at HP
       clear HM hlt
       obtain ⟨_,v9,hg9,hr9⟩:=HP.out
       have z0:=(um hg9 0).trans rfl
       have HR9:=Aside0.mk hr9
       obtain ⟨A9,c9,e9⟩:=Kd.R_slice hr9
       subst e9
       clear hg9 hr9
       go_wp2
       go_ret2
       exact ⟨_,rfl,HR9.out,HB.out⟩
theorem ur.callsP (A0:Option Addr) (c0:Nat) (l0:List S53) (A1:Option Addr) (c1:Nat) (l1:List S34) (r1:List Int) (r2:Int) (w:World) (hr0:Kd.C k53 w A0 l0.length l0) (hc0:l0.length ≤ c0) (hr1:Kd.C k34 w A1 l1.length l1) (hc1:l1.length ≤ c1) (hG:u1i.Gd w) (h:ur.f l0 l1 = some (r1,r2)) :
 Calls Tryz.prog 13 #[.slice A0 l0.length c0,.slice A1 l1.length c1] w fun e w' => ∃ v0_:Value,e = .returned (.tuple #[v0_,.int .i64 r2]) ∧ Kd.R (Kd.int .u8) 5 w' w.heap.size (fun _ => True) v0_ r1 ∧ Below w.heap.size w w':=by
 unfold ur.f at h
 split at h
 · rename_i hc
   split at h
   · rename_i hb
     cases Option.some.inj h
     exact (ur.refused A0 c0 l0 A1 c1 l1 w hr0 hc0 hr1 hc1 hc.1 hc.2.2.1 hc.2.2.2 hb).mono fun e w' ⟨h1,h2⟩ => ⟨_,h1,Kd.R_nil _ _ _ _ _,h2⟩
   · rename_i hb
     split at h
     · rename_i hl
       cases Option.some.inj h
       exact ur.printed A0 c0 l0 A1 c1 l1 w hr0 hc0 hr1 hc1 hG hc.1 hc.2.1 hc.2.2.1 hc.2.2.2 (Bool.eq_false_iff.2 (fun e => hb (Or.inl e))) (Bool.eq_false_iff.2 (fun e => hb (Or.inr e))) hl
     · cases h
 · cases h
abbrev ul.Lb:=S66
def ul.nm (k:Nat) (x:ul.Lb):Bool:=(ut.f k x.f0).getD false
def ul.vl (x:ul.Lb):Bool:=(u2q.f x.f1).getD false
def ul.stepB (k:Nat) (l:List ul.Lb) (i:Nat):Bool:=ul.nm k (un l (i:Int)) && ul.vl (un l (i:Int)) && (decide (i = 0) || Op.bytesLess (un l ((i:Int) - 1)).f0.toList (un l (i:Int)).f0.toList)
def ul.canB (k:Nat) (l:List ul.Lb):Bool:=decide (1 ≤ l.length) && decide (l.length ≤ 8) && (List.range l.length).all (ul.stepB k l)
def ul.okB (k:Nat) (l:List ul.Lb):Bool:=l.all fun x => (ut.f k x.f0).isSome && (u2q.f x.f1).isSome
def ul.f (k:Nat) (l0:List ul.Lb):Option Bool:=if ul.okB k l0 = true then some (ul.canB k l0) else none
theorem ul.is_some {a:Option Bool} (h:a.isSome = true):a = some (a.getD false):=by
 cases a with
 | none => cases h
 | some b => rfl
theorem ul.rd_mem (l:List ul.Lb) (i:Int) (h0:0 ≤ i) (h1:i < l.length):un l i ∈ l:=by
 unfold un
 rw [List.getD_eq_getElem?_getD,List.getElem?_eq_getElem (by omega)]
 exact List.getElem_mem _
theorem ul.ok_at {k:Nat} {l:List ul.Lb} (h:ul.okB k l = true) (x:ul.Lb) (hx:x ∈ l):ut.f k x.f0 = some (ul.nm k x) ∧ u2q.f x.f1 = some (ul.vl x):=by
 have h1:=List.all_eq_true.1 h x hx
 rw [Bool.and_eq_true] at h1
 exact ⟨ul.is_some h1.1,ul.is_some h1.2⟩
set_option maxHeartbeats 4000000 in
set_option maxRecDepth 10000 in
theorem ul.calls (k:Nat) (A0:Option Addr) (c0:Nat) (l0:List ul.Lb) (r:Bool) (w:World) (hr0:Kd.C k66 w A0 l0.length l0) (hc0:l0.length ≤ c0) (h:ul.f k l0 = some r) :
 Calls Tryz.prog 40 #[.slice A0 l0.length c0] w fun e w' => e = .returned (.bool r) ∧ Below w.heap.size w w':=by
 have hok:ul.okB k l0 = true:=by
  unfold ul.f at h
  split at h
  · assumption
  · cases h
 unfold ul.f at h
 rw [if_pos hok] at h
 obtain rfl:=Option.some.inj h
 have HO:=Aside0.mk hok
 have HR:=Aside0.mk hr0
 have HC:=Aside0.mk hc0
 clear hr0 h hok hc0
 by_cases h1:l0.length < 1
 · have d1:decide ((l0.length:Int) < 1) = true:=decide_eq_true (by omega)
   have d2:decide (l0.length < 1) = true:=decide_eq_true h1
   have HE:Aside0 (ul.canB k l0 = false):=⟨by unfold ul.canB;rw [decide_eq_false (by omega),Bool.false_and,Bool.false_and]⟩
   rw [HE.out]
   go_enter Tryz.func40,Tryz.ntmps40
   go_wp2
   go_ret
   exact ⟨rfl,Below.refl _ _⟩
 · have d1:decide ((l0.length:Int) < 1) = false:=decide_eq_false (by omega)
   have d2:decide (l0.length < 1) = false:=decide_eq_false h1
   by_cases h8:8 < l0.length
   · have d3:decide ((l0.length:Int) > 8) = true:=decide_eq_true (by omega)
     have d4:decide (8 < l0.length) = true:=decide_eq_true h8
     have HE:Aside0 (ul.canB k l0 = false):=⟨by unfold ul.canB;rw [decide_eq_false (show ¬ l0.length ≤ 8 by omega),Bool.and_false,Bool.false_and]⟩
     rw [HE.out]
     go_enter Tryz.func40,Tryz.ntmps40
     go_wp2
     go_ret
     exact ⟨rfl,Below.refl _ _⟩
   · have d3:decide ((l0.length:Int) > 8) = false:=decide_eq_false (by omega)
     have d4:decide (8 < l0.length) = false:=decide_eq_false h8
     have HE:Aside0 (ul.canB k l0 = (List.range l0.length).all (ul.stepB k l0)):=⟨by unfold ul.canB;rw [decide_eq_true (show 1 ≤ l0.length by omega),decide_eq_true (show l0.length ≤ 8 by omega),Bool.true_and,Bool.true_and]⟩
     rw [HE.out]
     have HB0:=Aside0.mk (Below.refl w.heap.size w)
     go_enter Tryz.func40,Tryz.ntmps40
     go_wp2
     clear d1 d2 d3 d4
     go_loopg [15] (l0.length) (fun kq v15 wr => ∃ (i:Nat),i ≤ l0.length ∧ v15 = .int .i64 i ∧ Aside0 (∀ j,j < i → ul.stepB k l0 j = true) ∧ l0.length ≤ kq + i ∧ Aside0 (Below w.heap.size w wr))
     case atStart => exact ⟨0,Nat.zero_le _,rfl,⟨fun j hj => absurd hj (Nat.not_lt_zero j)⟩,by omega,HB0⟩
     case round =>
      obtain ⟨i,hi,rfl,HJ,hk,HB⟩:=hrel
      by_cases hlt:i < l0.length
      · obtain ⟨ad,e,hc0,hc1⟩:=at_T66 HR.out (i:Int) (by omega) (by omega)
        subst e
        have HX:=ul.ok_at HO.out _ (ul.rd_mem l0 (i:Int) (by omega) (by omega))
        obtain ⟨x,hx⟩:∃ x,Aside0 (un l0 (i:Int) = x):=⟨_,⟨rfl⟩⟩
        rw [hx.out] at hc0 hc1 HX
        have q0:wr.cell? (ad.add (i * 2)) = some (.string x.f0):=(HB.out.cell (World.block_lt_of_cell? w _ (by simpa using hc0))).trans (by simpa using hc0)
        have q1:wr.cell? ⟨(ad.add (i * 2)).block,(ad.add (i * 2)).off + 1,none⟩ = some (.string x.f1):=(HB.out.cell (World.block_lt_of_cell? w _ (by simpa using hc1))).trans (by simpa using hc1)
        clear hc0 hc1
        obtain ⟨bn,hbn⟩:∃ b,Aside0 (ul.nm k x = b):=⟨_,⟨rfl⟩⟩
        obtain ⟨bv,hbv⟩:∃ b,Aside0 (ul.vl x = b):=⟨_,⟨rfl⟩⟩
        have HN:Aside0 (ut.f k x.f0 = some bn):=⟨by rw [← hbn.out];exact HX.1⟩
        have HV:Aside0 (u2q.f x.f1 = some bv):=⟨by rw [← hbv.out];exact HX.2⟩
        have hs:ul.stepB k l0 i = (bn && bv && (decide (i = 0) || Op.bytesLess (un l0 ((i:Int) - 1)).f0.toList x.f0.toList)):=by
         unfold ul.stepB
         rw [hx.out,hbn.out,hbv.out]
        have HS:=Aside0.mk hs
        clear hs HX
        obtain ⟨W1,hW1⟩:∃ W1,Aside0 (wr.alloc (.cells #[.string x.f0,.string x.f1] 66) = W1):=⟨_,⟨rfl⟩⟩
        have HG:Aside0 (W1.heap[wr.heap.size]? = some (.cells #[.string x.f0,.string x.f1] 66 (0,0))):=⟨by rw [← hW1.out];exact blk_new _ _⟩
        have HB1:Aside0 (Below w.heap.size w W1):=⟨by rw [← hW1.out];exact ud HB.out _⟩
        have HG1:=Aside0.mk (uw HG.out)
        have HB2:=Aside0.mk (uf HB1.out)
        have hfail:ul.stepB k l0 i = false → (List.range l0.length).all (ul.stepB k l0) = false:=fun h9 => List.all_eq_false.2 ⟨i,List.mem_range.2 hlt,by rw [h9];decide⟩
        have HFL:=Aside0.mk hfail
        clear hfail
        obtain ⟨g1,rfl⟩:∃ g1,gk = g1 + 1:=⟨gk - 1,by omega⟩
        cases bn with
        | false =>
          go_wp2
          rw [hW1.out]
          clear q0 q1
          refine startO_ (n:=25) (S:=fun w' => w'.cell? ⟨wr.heap.size,0,none⟩ = some (.string x.f0) ∧ w'.cell? ⟨wr.heap.size,1,none⟩ = some (.string x.f1)) (ds:=[]) [(0,20),(1,21),(2,0),(3,23),(4,24),(5,25),(6,26),(7,27),(8,28),(9,29),(10,30),(11,31),(12,32),(13,33),(14,34),(15,35),(16,36),(17,37),(18,38),(19,39),(20,40),(21,41),(22,42),(23,43),(24,44)] (by kernel_rfl) rfl ⟨(um HG1.out 0).trans rfl,(um HG1.out 1).trans rfl⟩ (fun hHeld => ?_)
          (refine hd_ (v:=?_) (a':=?_) rfl rfl (by kernel_rfl) (Or.inl ⟨by kernel_rfl,?_⟩) ?_ ?_;rotate_left;(intro w';go_simp;with_reducible rfl);rotate_left;(simp only [Act.put,List.setIfInBounds_toArray,List.set_cons_zero,List.set_cons_succ,i64_w,i32_w];rfl))
          refine hdS_ (v:=?_) (a':=?_) rfl rfl (by kernel_rfl) (Or.inl ⟨by kernel_rfl,?_⟩) hHeld ?_ ?_
          rotate_left
          · rintro w' hS'
            obtain ⟨s0,s1⟩:=hS'
            go_simp
            (try with_reducible rfl)
          rotate_left
          · simp only [Act.put,List.setIfInBounds_toArray,List.set_cons_zero,List.set_cons_succ,i64_w,i32_w]
            rfl
          refine oneO_ (N:=some 22) rfl rfl (by kernel_rfl) (by decide) (fun K hK => ?_)
          refine goes_ Tryz.func37 (by kernel_rfl) rfl #[.string x.f0] (by rfl) rfl rfl (by (try simp only [List.map_toArray,List.map_cons,List.map_nil]);first | done | rfl) ?_
          refine (ut.calls k x.f0 false _ HN.out).mono ?_
          rintro e W2 ⟨rfl,hb2⟩
          refine ⟨_,rfl,?_⟩
          have hB2:=hb2.below
          have HG2:=Aside0.mk (u1z HG1.out hB2)
          have HB3:=Aside0.mk (uo HB2.out HB2.out.size hB2)
          clear hb2 hB2
          refine hK.out (Act.put _ (some 22) (.bool false)) _ ⟨(um HG2.out 0).trans rfl,(um HG2.out 1).trans rfl⟩ (fun hNext => ?_)
          simp only [Act.put,List.setIfInBounds_toArray,List.set_cons_zero,List.set_cons_succ,i64_w,i32_w]
          clear hK hHeld K
          have hHeld:=hNext
          clear hNext
          iterate 2 (refine hd_ (v:=?_) (a':=?_) rfl rfl (by kernel_rfl) (Or.inl ⟨by kernel_rfl,?_⟩) ?_ ?_;rotate_left;(intro w';go_simp;with_reducible rfl);rotate_left;(simp only [Act.put,List.setIfInBounds_toArray,List.set_cons_zero,List.set_cons_succ,i64_w,i32_w];rfl))
          iterate 4 (refine hd_ (v:=undef) (a':=?_) rfl rfl (by kernel_rfl) (Or.inr ⟨by kernel_rfl,rfl⟩) ?_ ?_;rotate_left;(simp only [Act.put,List.setIfInBounds_toArray,List.set_cons_zero,List.set_cons_succ,i64_w,i32_w];rfl))
          iterate 2 (refine hd_ (v:=?_) (a':=?_) rfl rfl (by kernel_rfl) (Or.inl ⟨by kernel_rfl,?_⟩) ?_ ?_;rotate_left;(intro w';go_simp;with_reducible rfl);rotate_left;(simp only [Act.put,List.setIfInBounds_toArray,List.set_cons_zero,List.set_cons_succ,i64_w,i32_w];rfl))
          iterate 13 (refine hd_ (v:=undef) (a':=?_) rfl rfl (by kernel_rfl) (Or.inr ⟨by kernel_rfl,rfl⟩) ?_ ?_;rotate_left;(simp only [Act.put,List.setIfInBounds_toArray,List.set_cons_zero,List.set_cons_succ,i64_w,i32_w];rfl))
          (refine hd_ (v:=?_) (a':=?_) rfl rfl (by kernel_rfl) (Or.inl ⟨by kernel_rfl,?_⟩) ?_ ?_;rotate_left;(intro w';go_simp;with_reducible rfl);rotate_left;(simp only [Act.put,List.setIfInBounds_toArray,List.set_cons_zero,List.set_cons_succ,i64_w,i32_w];rfl))
          refine doneO_ (by kernel_rfl) ?_
          try go_wp2
          go_ret
          exact ⟨by rw [HFL.out (by rw [HS.out];simp)];rfl,HB3.out⟩
        | true =>
          cases bv with
          | false =>
            go_wp2
            rw [hW1.out]
            clear q0 q1
            refine startO_ (n:=25) (S:=fun w' => w'.cell? ⟨wr.heap.size,0,none⟩ = some (.string x.f0) ∧ w'.cell? ⟨wr.heap.size,1,none⟩ = some (.string x.f1)) (ds:=[]) [(0,20),(1,21),(2,0),(3,23),(4,24),(5,25),(6,26),(7,0),(8,28),(9,29),(10,30),(11,31),(12,32),(13,33),(14,34),(15,35),(16,36),(17,37),(18,38),(19,39),(20,40),(21,41),(22,42),(23,43),(24,44)] (by kernel_rfl) rfl ⟨(um HG1.out 0).trans rfl,(um HG1.out 1).trans rfl⟩ (fun hHeld => ?_)
            (refine hd_ (v:=?_) (a':=?_) rfl rfl (by kernel_rfl) (Or.inl ⟨by kernel_rfl,?_⟩) ?_ ?_;rotate_left;(intro w';go_simp;with_reducible rfl);rotate_left;(simp only [Act.put,List.setIfInBounds_toArray,List.set_cons_zero,List.set_cons_succ,i64_w,i32_w];rfl))
            refine hdS_ (v:=?_) (a':=?_) rfl rfl (by kernel_rfl) (Or.inl ⟨by kernel_rfl,?_⟩) hHeld ?_ ?_
            rotate_left
            · rintro w' hS'
              obtain ⟨s0,s1⟩:=hS'
              go_simp
              (try with_reducible rfl)
            rotate_left
            · simp only [Act.put,List.setIfInBounds_toArray,List.set_cons_zero,List.set_cons_succ,i64_w,i32_w]
              rfl
            refine oneO_ (N:=some 22) rfl rfl (by kernel_rfl) (by decide) (fun K hK => ?_)
            refine goes_ Tryz.func37 (by kernel_rfl) rfl #[.string x.f0] (by rfl) rfl rfl (by (try simp only [List.map_toArray,List.map_cons,List.map_nil]);first | done | rfl) ?_
            refine (ut.calls k x.f0 true _ HN.out).mono ?_
            rintro e W2 ⟨rfl,hb2⟩
            refine ⟨_,rfl,?_⟩
            have hB2:=hb2.below
            have HG2:=Aside0.mk (u1z HG1.out hB2)
            have HB3:=Aside0.mk (uo HB2.out HB2.out.size hB2)
            clear hb2 hB2
            refine hK.out (Act.put _ (some 22) (.bool true)) _ ⟨(um HG2.out 0).trans rfl,(um HG2.out 1).trans rfl⟩ (fun hNext => ?_)
            simp only [Act.put,List.setIfInBounds_toArray,List.set_cons_zero,List.set_cons_succ,i64_w,i32_w]
            clear hK hHeld K
            have hHeld:=hNext
            clear hNext
            iterate 3 (refine hd_ (v:=?_) (a':=?_) rfl rfl (by kernel_rfl) (Or.inl ⟨by kernel_rfl,?_⟩) ?_ ?_;rotate_left;(intro w';go_simp;with_reducible rfl);rotate_left;(simp only [Act.put,List.setIfInBounds_toArray,List.set_cons_zero,List.set_cons_succ,i64_w,i32_w];rfl))
            refine hdS_ (v:=?_) (a':=?_) rfl rfl (by kernel_rfl) (Or.inl ⟨by kernel_rfl,?_⟩) hHeld ?_ ?_
            rotate_left
            · rintro w' hS'
              obtain ⟨s0,s1⟩:=hS'
              go_simp
              (try with_reducible rfl)
            rotate_left
            · simp only [Act.put,List.setIfInBounds_toArray,List.set_cons_zero,List.set_cons_succ,i64_w,i32_w]
              rfl
            refine oneO_ (N:=some 27) rfl rfl (by kernel_rfl) (by decide) (fun K hK => ?_)
            refine goes_ Tryz.func70 (by kernel_rfl) rfl #[.string x.f1] (by rfl) rfl rfl (by (try simp only [List.map_toArray,List.map_cons,List.map_nil]);first | done | rfl) ?_
            refine (u2q.calls x.f1 false _ HV.out).mono ?_
            rintro e W3 ⟨rfl,hb3⟩
            refine ⟨_,rfl,?_⟩
            have HG3:=Aside0.mk (u1z HG2.out hb3)
            have HB4:=Aside0.mk (uo HB3.out HB3.out.size hb3)
            clear hb3
            refine hK.out (Act.put _ (some 27) (.bool false)) _ ⟨(um HG3.out 0).trans rfl,(um HG3.out 1).trans rfl⟩ (fun hNext => ?_)
            simp only [Act.put,List.setIfInBounds_toArray,List.set_cons_zero,List.set_cons_succ,i64_w,i32_w]
            clear hK hHeld K
            have hHeld:=hNext
            clear hNext
            iterate 3 (refine hd_ (v:=?_) (a':=?_) rfl rfl (by kernel_rfl) (Or.inl ⟨by kernel_rfl,?_⟩) ?_ ?_;rotate_left;(intro w';go_simp;with_reducible rfl);rotate_left;(simp only [Act.put,List.setIfInBounds_toArray,List.set_cons_zero,List.set_cons_succ,i64_w,i32_w];rfl))
            iterate 13 (refine hd_ (v:=undef) (a':=?_) rfl rfl (by kernel_rfl) (Or.inr ⟨by kernel_rfl,rfl⟩) ?_ ?_;rotate_left;(simp only [Act.put,List.setIfInBounds_toArray,List.set_cons_zero,List.set_cons_succ,i64_w,i32_w];rfl))
            (refine hd_ (v:=?_) (a':=?_) rfl rfl (by kernel_rfl) (Or.inl ⟨by kernel_rfl,?_⟩) ?_ ?_;rotate_left;(intro w';go_simp;with_reducible rfl);rotate_left;(simp only [Act.put,List.setIfInBounds_toArray,List.set_cons_zero,List.set_cons_succ,i64_w,i32_w];rfl))
            refine doneO_ (by kernel_rfl) ?_
            try go_wp2
            go_ret
            exact ⟨by rw [HFL.out (by rw [HS.out];simp)];rfl,HB4.out⟩
          | true =>
            by_cases hz9:i = 0
            · have z1:decide ((i:Int) > 0) = false:=decide_eq_false (by omega)
              have z2:decide (0 < i) = false:=decide_eq_false (by omega)
              have HZ9:=Aside0.mk hz9
              clear hz9
              go_wp2
              rw [hW1.out]
              clear q0 q1
              refine startO_ (n:=25) (S:=fun w' => w'.cell? ⟨wr.heap.size,0,none⟩ = some (.string x.f0) ∧ w'.cell? ⟨wr.heap.size,1,none⟩ = some (.string x.f1)) (ds:=[]) [(0,20),(1,21),(2,0),(3,23),(4,24),(5,25),(6,26),(7,0),(8,28),(9,29),(10,30),(11,31),(12,32),(13,33),(14,34),(15,35),(16,36),(17,37),(18,38),(19,39),(20,40),(21,41),(22,42),(23,43),(24,44)] (by kernel_rfl) rfl ⟨(um HG1.out 0).trans rfl,(um HG1.out 1).trans rfl⟩ (fun hHeld => ?_)
              (refine hd_ (v:=?_) (a':=?_) rfl rfl (by kernel_rfl) (Or.inl ⟨by kernel_rfl,?_⟩) ?_ ?_;rotate_left;(intro w';go_simp;with_reducible rfl);rotate_left;(simp only [Act.put,List.setIfInBounds_toArray,List.set_cons_zero,List.set_cons_succ,i64_w,i32_w];rfl))
              refine hdS_ (v:=?_) (a':=?_) rfl rfl (by kernel_rfl) (Or.inl ⟨by kernel_rfl,?_⟩) hHeld ?_ ?_
              rotate_left
              · rintro w' hS'
                obtain ⟨s0,s1⟩:=hS'
                go_simp
                (try with_reducible rfl)
              rotate_left
              · simp only [Act.put,List.setIfInBounds_toArray,List.set_cons_zero,List.set_cons_succ,i64_w,i32_w]
                rfl
              refine oneO_ (N:=some 22) rfl rfl (by kernel_rfl) (by decide) (fun K hK => ?_)
              refine goes_ Tryz.func37 (by kernel_rfl) rfl #[.string x.f0] (by rfl) rfl rfl (by (try simp only [List.map_toArray,List.map_cons,List.map_nil]);first | done | rfl) ?_
              refine (ut.calls k x.f0 true _ HN.out).mono ?_
              rintro e W2 ⟨rfl,hb2⟩
              refine ⟨_,rfl,?_⟩
              have hB2:=hb2.below
              have HG2:=Aside0.mk (u1z HG1.out hB2)
              have HB3:=Aside0.mk (uo HB2.out HB2.out.size hB2)
              clear hb2 hB2
              refine hK.out (Act.put _ (some 22) (.bool true)) _ ⟨(um HG2.out 0).trans rfl,(um HG2.out 1).trans rfl⟩ (fun hNext => ?_)
              simp only [Act.put,List.setIfInBounds_toArray,List.set_cons_zero,List.set_cons_succ,i64_w,i32_w]
              clear hK hHeld K
              have hHeld:=hNext
              clear hNext
              iterate 3 (refine hd_ (v:=?_) (a':=?_) rfl rfl (by kernel_rfl) (Or.inl ⟨by kernel_rfl,?_⟩) ?_ ?_;rotate_left;(intro w';go_simp;with_reducible rfl);rotate_left;(simp only [Act.put,List.setIfInBounds_toArray,List.set_cons_zero,List.set_cons_succ,i64_w,i32_w];rfl))
              refine hdS_ (v:=?_) (a':=?_) rfl rfl (by kernel_rfl) (Or.inl ⟨by kernel_rfl,?_⟩) hHeld ?_ ?_
              rotate_left
              · rintro w' hS'
                obtain ⟨s0,s1⟩:=hS'
                go_simp
                (try with_reducible rfl)
              rotate_left
              · simp only [Act.put,List.setIfInBounds_toArray,List.set_cons_zero,List.set_cons_succ,i64_w,i32_w]
                rfl
              refine oneO_ (N:=some 27) rfl rfl (by kernel_rfl) (by decide) (fun K hK => ?_)
              refine goes_ Tryz.func70 (by kernel_rfl) rfl #[.string x.f1] (by rfl) rfl rfl (by (try simp only [List.map_toArray,List.map_cons,List.map_nil]);first | done | rfl) ?_
              refine (u2q.calls x.f1 true _ HV.out).mono ?_
              rintro e W3 ⟨rfl,hb3⟩
              refine ⟨_,rfl,?_⟩
              have HG3:=Aside0.mk (u1z HG2.out hb3)
              have HB4:=Aside0.mk (uo HB3.out HB3.out.size hb3)
              clear hb3
              refine hK.out (Act.put _ (some 27) (.bool true)) _ ⟨(um HG3.out 0).trans rfl,(um HG3.out 1).trans rfl⟩ (fun hNext => ?_)
              simp only [Act.put,List.setIfInBounds_toArray,List.set_cons_zero,List.set_cons_succ,i64_w,i32_w]
              clear hK hHeld K
              have hHeld:=hNext
              clear hNext
              iterate 6 (refine hd_ (v:=?_) (a':=?_) rfl rfl (by kernel_rfl) (Or.inl ⟨by kernel_rfl,?_⟩) ?_ ?_;rotate_left;(intro w';go_simp;with_reducible rfl);rotate_left;(simp only [Act.put,List.setIfInBounds_toArray,List.set_cons_zero,List.set_cons_succ,i64_w,i32_w];rfl))
              iterate 9 (refine hd_ (v:=undef) (a':=?_) rfl rfl (by kernel_rfl) (Or.inr ⟨by kernel_rfl,rfl⟩) ?_ ?_;rotate_left;(simp only [Act.put,List.setIfInBounds_toArray,List.set_cons_zero,List.set_cons_succ,i64_w,i32_w];rfl))
              iterate 2 (refine hd_ (v:=?_) (a':=?_) rfl rfl (by kernel_rfl) (Or.inl ⟨by kernel_rfl,?_⟩) ?_ ?_;rotate_left;(intro w';go_simp;with_reducible rfl);rotate_left;(simp only [Act.put,List.setIfInBounds_toArray,List.set_cons_zero,List.set_cons_succ,i64_w,i32_w];rfl))
              refine doneO_ (by kernel_rfl) ?_
              try go_wp2
              go_roundg g1
              case rel =>
               refine ⟨i + 1,hlt,by go_num,⟨fun m hm => ?_⟩,by omega,HB4⟩
               rcases Nat.lt_or_ge m i with h9 | h9
               · exact HJ.out m h9
               · have h8:m = i:=by omega
                 rw [h8,HS.out]
                 simp [HZ9.out]
              case measure => omega
            · obtain ⟨j,rfl⟩:∃ j,i = j + 1:=⟨i - 1,by omega⟩
              obtain ⟨ad2,e2,hp0,_⟩:=at_T66 HR.out (j:Int) (by omega) (by omega)
              obtain rfl:ad = ad2:=Option.some.inj e2
              obtain ⟨p,hp⟩:∃ p,Aside0 (un l0 (j:Int) = p):=⟨_,⟨rfl⟩⟩
              rw [hp.out] at hp0
              simp only [Int.toNat_natCast] at hp0
              have HP:Aside0 (∀ W',Below w.heap.size w W' → W'.cell? (ad.add (j * 2)) = some (.string p.f0)):=⟨fun W' hW' => (hW'.cell (World.block_lt_of_cell? w _ hp0)).trans hp0⟩
              have hj1:(((j + 1:Nat):Int) - 1) = (j:Int):=by omega
              rw [hj1,hp.out] at HS
              clear hp0 hj1
              have z1:decide (((j + 1:Nat):Int) > 0) = true:=decide_eq_true (by omega)
              have z2:decide (0 < j + 1) = true:=decide_eq_true (by omega)
              have z3:decide ((0:Int) < (j:Int) + 1) = true:=decide_eq_true (by omega)
              have z4:(0:Int) ≤ (j:Int):=by omega
              have z6:wrap64 (j:Int) = (j:Int):=by unfold wrap64;omega
              have z5:(j:Int) < (l0.length:Int):=by omega
              cases hls:Op.bytesLess p.f0.toList x.f0.toList with
              | false =>
                go_wp2
                rw [hW1.out]
                clear q0 q1
                refine startO_ (n:=25) (S:=fun w' => w'.cell? ⟨wr.heap.size,0,none⟩ = some (.string x.f0) ∧ w'.cell? ⟨wr.heap.size,1,none⟩ = some (.string x.f1) ∧ w'.cell? (ad.add (j * 2)) = some (.string p.f0)) (ds:=[]) [(0,20),(1,21),(2,0),(3,23),(4,24),(5,25),(6,26),(7,0),(8,28),(9,29),(10,30),(11,31),(12,32),(13,33),(14,34),(15,35),(16,36),(17,37),(18,38),(19,39),(20,40),(21,41),(22,42),(23,43),(24,44)] (by kernel_rfl) rfl ⟨(um HG1.out 0).trans rfl,(um HG1.out 1).trans rfl,HP.out _ (HB2.out)⟩ (fun hHeld => ?_)
                (refine hd_ (v:=?_) (a':=?_) rfl rfl (by kernel_rfl) (Or.inl ⟨by kernel_rfl,?_⟩) ?_ ?_;rotate_left;(intro w';go_simp;with_reducible rfl);rotate_left;(simp only [Act.put,List.setIfInBounds_toArray,List.set_cons_zero,List.set_cons_succ,i64_w,i32_w];rfl))
                refine hdS_ (v:=?_) (a':=?_) rfl rfl (by kernel_rfl) (Or.inl ⟨by kernel_rfl,?_⟩) hHeld ?_ ?_
                rotate_left
                · rintro w' hS'
                  obtain ⟨s0,s1,s2⟩:=hS'
                  go_simp
                  (try with_reducible rfl)
                rotate_left
                · simp only [Act.put,List.setIfInBounds_toArray,List.set_cons_zero,List.set_cons_succ,i64_w,i32_w]
                  rfl
                refine oneO_ (N:=some 22) rfl rfl (by kernel_rfl) (by decide) (fun K hK => ?_)
                refine goes_ Tryz.func37 (by kernel_rfl) rfl #[.string x.f0] (by rfl) rfl rfl (by (try simp only [List.map_toArray,List.map_cons,List.map_nil]);first | done | rfl) ?_
                refine (ut.calls k x.f0 true _ HN.out).mono ?_
                rintro e W2 ⟨rfl,hb2⟩
                refine ⟨_,rfl,?_⟩
                have hB2:=hb2.below
                have HG2:=Aside0.mk (u1z HG1.out hB2)
                have HB3:=Aside0.mk (uo HB2.out HB2.out.size hB2)
                clear hb2 hB2
                refine hK.out (Act.put _ (some 22) (.bool true)) _ ⟨(um HG2.out 0).trans rfl,(um HG2.out 1).trans rfl,HP.out _ (HB3.out)⟩ (fun hNext => ?_)
                simp only [Act.put,List.setIfInBounds_toArray,List.set_cons_zero,List.set_cons_succ,i64_w,i32_w]
                clear hK hHeld K
                have hHeld:=hNext
                clear hNext
                iterate 3 (refine hd_ (v:=?_) (a':=?_) rfl rfl (by kernel_rfl) (Or.inl ⟨by kernel_rfl,?_⟩) ?_ ?_;rotate_left;(intro w';go_simp;with_reducible rfl);rotate_left;(simp only [Act.put,List.setIfInBounds_toArray,List.set_cons_zero,List.set_cons_succ,i64_w,i32_w];rfl))
                refine hdS_ (v:=?_) (a':=?_) rfl rfl (by kernel_rfl) (Or.inl ⟨by kernel_rfl,?_⟩) hHeld ?_ ?_
                rotate_left
                · rintro w' hS'
                  obtain ⟨s0,s1,s2⟩:=hS'
                  go_simp
                  (try with_reducible rfl)
                rotate_left
                · simp only [Act.put,List.setIfInBounds_toArray,List.set_cons_zero,List.set_cons_succ,i64_w,i32_w]
                  rfl
                refine oneO_ (N:=some 27) rfl rfl (by kernel_rfl) (by decide) (fun K hK => ?_)
                refine goes_ Tryz.func70 (by kernel_rfl) rfl #[.string x.f1] (by rfl) rfl rfl (by (try simp only [List.map_toArray,List.map_cons,List.map_nil]);first | done | rfl) ?_
                refine (u2q.calls x.f1 true _ HV.out).mono ?_
                rintro e W3 ⟨rfl,hb3⟩
                refine ⟨_,rfl,?_⟩
                have HG3:=Aside0.mk (u1z HG2.out hb3)
                have HB4:=Aside0.mk (uo HB3.out HB3.out.size hb3)
                clear hb3
                refine hK.out (Act.put _ (some 27) (.bool true)) _ ⟨(um HG3.out 0).trans rfl,(um HG3.out 1).trans rfl,HP.out _ (HB4.out)⟩ (fun hNext => ?_)
                simp only [Act.put,List.setIfInBounds_toArray,List.set_cons_zero,List.set_cons_succ,i64_w,i32_w]
                clear hK hHeld K
                have hHeld:=hNext
                clear hNext
                iterate 11 (refine hd_ (v:=?_) (a':=?_) rfl rfl (by kernel_rfl) (Or.inl ⟨by kernel_rfl,?_⟩) ?_ ?_;rotate_left;(intro w';go_simp;with_reducible rfl);rotate_left;(simp only [Act.put,List.setIfInBounds_toArray,List.set_cons_zero,List.set_cons_succ,i64_w,i32_w];rfl))
                refine hdS_ (v:=?_) (a':=?_) rfl rfl (by kernel_rfl) (Or.inl ⟨by kernel_rfl,?_⟩) hHeld ?_ ?_
                rotate_left
                · rintro w' hS'
                  obtain ⟨s0,s1,s2⟩:=hS'
                  go_simp
                  (try with_reducible rfl)
                rotate_left
                · simp only [Act.put,List.setIfInBounds_toArray,List.set_cons_zero,List.set_cons_succ,i64_w,i32_w]
                  rfl
                (refine hd_ (v:=?_) (a':=?_) rfl rfl (by kernel_rfl) (Or.inl ⟨by kernel_rfl,?_⟩) ?_ ?_;rotate_left;(intro w';go_simp;with_reducible rfl);rotate_left;(simp only [Act.put,List.setIfInBounds_toArray,List.set_cons_zero,List.set_cons_succ,i64_w,i32_w];rfl))
                refine hdS_ (v:=?_) (a':=?_) rfl rfl (by kernel_rfl) (Or.inl ⟨by kernel_rfl,?_⟩) hHeld ?_ ?_
                rotate_left
                · rintro w' hS'
                  obtain ⟨s0,s1,s2⟩:=hS'
                  go_simp
                  (try with_reducible rfl)
                rotate_left
                · simp only [Act.put,List.setIfInBounds_toArray,List.set_cons_zero,List.set_cons_succ,i64_w,i32_w]
                  rfl
                iterate 3 (refine hd_ (v:=?_) (a':=?_) rfl rfl (by kernel_rfl) (Or.inl ⟨by kernel_rfl,?_⟩) ?_ ?_;rotate_left;(intro w';go_simp;with_reducible rfl);rotate_left;(simp only [Act.put,List.setIfInBounds_toArray,List.set_cons_zero,List.set_cons_succ,i64_w,i32_w];rfl))
                refine doneO_ (by kernel_rfl) ?_
                try go_wp2
                go_ret
                exact ⟨by rw [HFL.out (by rw [HS.out,hls];simp)];rfl,HB4.out⟩
              | true =>
                go_wp2
                rw [hW1.out]
                clear q0 q1
                refine startO_ (n:=25) (S:=fun w' => w'.cell? ⟨wr.heap.size,0,none⟩ = some (.string x.f0) ∧ w'.cell? ⟨wr.heap.size,1,none⟩ = some (.string x.f1) ∧ w'.cell? (ad.add (j * 2)) = some (.string p.f0)) (ds:=[]) [(0,20),(1,21),(2,0),(3,23),(4,24),(5,25),(6,26),(7,0),(8,28),(9,29),(10,30),(11,31),(12,32),(13,33),(14,34),(15,35),(16,36),(17,37),(18,38),(19,39),(20,40),(21,41),(22,42),(23,43),(24,44)] (by kernel_rfl) rfl ⟨(um HG1.out 0).trans rfl,(um HG1.out 1).trans rfl,HP.out _ (HB2.out)⟩ (fun hHeld => ?_)
                (refine hd_ (v:=?_) (a':=?_) rfl rfl (by kernel_rfl) (Or.inl ⟨by kernel_rfl,?_⟩) ?_ ?_;rotate_left;(intro w';go_simp;with_reducible rfl);rotate_left;(simp only [Act.put,List.setIfInBounds_toArray,List.set_cons_zero,List.set_cons_succ,i64_w,i32_w];rfl))
                refine hdS_ (v:=?_) (a':=?_) rfl rfl (by kernel_rfl) (Or.inl ⟨by kernel_rfl,?_⟩) hHeld ?_ ?_
                rotate_left
                · rintro w' hS'
                  obtain ⟨s0,s1,s2⟩:=hS'
                  go_simp
                  (try with_reducible rfl)
                rotate_left
                · simp only [Act.put,List.setIfInBounds_toArray,List.set_cons_zero,List.set_cons_succ,i64_w,i32_w]
                  rfl
                refine oneO_ (N:=some 22) rfl rfl (by kernel_rfl) (by decide) (fun K hK => ?_)
                refine goes_ Tryz.func37 (by kernel_rfl) rfl #[.string x.f0] (by rfl) rfl rfl (by (try simp only [List.map_toArray,List.map_cons,List.map_nil]);first | done | rfl) ?_
                refine (ut.calls k x.f0 true _ HN.out).mono ?_
                rintro e W2 ⟨rfl,hb2⟩
                refine ⟨_,rfl,?_⟩
                have hB2:=hb2.below
                have HG2:=Aside0.mk (u1z HG1.out hB2)
                have HB3:=Aside0.mk (uo HB2.out HB2.out.size hB2)
                clear hb2 hB2
                refine hK.out (Act.put _ (some 22) (.bool true)) _ ⟨(um HG2.out 0).trans rfl,(um HG2.out 1).trans rfl,HP.out _ (HB3.out)⟩ (fun hNext => ?_)
                simp only [Act.put,List.setIfInBounds_toArray,List.set_cons_zero,List.set_cons_succ,i64_w,i32_w]
                clear hK hHeld K
                have hHeld:=hNext
                clear hNext
                iterate 3 (refine hd_ (v:=?_) (a':=?_) rfl rfl (by kernel_rfl) (Or.inl ⟨by kernel_rfl,?_⟩) ?_ ?_;rotate_left;(intro w';go_simp;with_reducible rfl);rotate_left;(simp only [Act.put,List.setIfInBounds_toArray,List.set_cons_zero,List.set_cons_succ,i64_w,i32_w];rfl))
                refine hdS_ (v:=?_) (a':=?_) rfl rfl (by kernel_rfl) (Or.inl ⟨by kernel_rfl,?_⟩) hHeld ?_ ?_
                rotate_left
                · rintro w' hS'
                  obtain ⟨s0,s1,s2⟩:=hS'
                  go_simp
                  (try with_reducible rfl)
                rotate_left
                · simp only [Act.put,List.setIfInBounds_toArray,List.set_cons_zero,List.set_cons_succ,i64_w,i32_w]
                  rfl
                refine oneO_ (N:=some 27) rfl rfl (by kernel_rfl) (by decide) (fun K hK => ?_)
                refine goes_ Tryz.func70 (by kernel_rfl) rfl #[.string x.f1] (by rfl) rfl rfl (by (try simp only [List.map_toArray,List.map_cons,List.map_nil]);first | done | rfl) ?_
                refine (u2q.calls x.f1 true _ HV.out).mono ?_
                rintro e W3 ⟨rfl,hb3⟩
                refine ⟨_,rfl,?_⟩
                have HG3:=Aside0.mk (u1z HG2.out hb3)
                have HB4:=Aside0.mk (uo HB3.out HB3.out.size hb3)
                clear hb3
                refine hK.out (Act.put _ (some 27) (.bool true)) _ ⟨(um HG3.out 0).trans rfl,(um HG3.out 1).trans rfl,HP.out _ (HB4.out)⟩ (fun hNext => ?_)
                simp only [Act.put,List.setIfInBounds_toArray,List.set_cons_zero,List.set_cons_succ,i64_w,i32_w]
                clear hK hHeld K
                have hHeld:=hNext
                clear hNext
                iterate 11 (refine hd_ (v:=?_) (a':=?_) rfl rfl (by kernel_rfl) (Or.inl ⟨by kernel_rfl,?_⟩) ?_ ?_;rotate_left;(intro w';go_simp;with_reducible rfl);rotate_left;(simp only [Act.put,List.setIfInBounds_toArray,List.set_cons_zero,List.set_cons_succ,i64_w,i32_w];rfl))
                refine hdS_ (v:=?_) (a':=?_) rfl rfl (by kernel_rfl) (Or.inl ⟨by kernel_rfl,?_⟩) hHeld ?_ ?_
                rotate_left
                · rintro w' hS'
                  obtain ⟨s0,s1,s2⟩:=hS'
                  go_simp
                  (try with_reducible rfl)
                rotate_left
                · simp only [Act.put,List.setIfInBounds_toArray,List.set_cons_zero,List.set_cons_succ,i64_w,i32_w]
                  rfl
                (refine hd_ (v:=?_) (a':=?_) rfl rfl (by kernel_rfl) (Or.inl ⟨by kernel_rfl,?_⟩) ?_ ?_;rotate_left;(intro w';go_simp;with_reducible rfl);rotate_left;(simp only [Act.put,List.setIfInBounds_toArray,List.set_cons_zero,List.set_cons_succ,i64_w,i32_w];rfl))
                refine hdS_ (v:=?_) (a':=?_) rfl rfl (by kernel_rfl) (Or.inl ⟨by kernel_rfl,?_⟩) hHeld ?_ ?_
                rotate_left
                · rintro w' hS'
                  obtain ⟨s0,s1,s2⟩:=hS'
                  go_simp
                  (try with_reducible rfl)
                rotate_left
                · simp only [Act.put,List.setIfInBounds_toArray,List.set_cons_zero,List.set_cons_succ,i64_w,i32_w]
                  rfl
                iterate 3 (refine hd_ (v:=?_) (a':=?_) rfl rfl (by kernel_rfl) (Or.inl ⟨by kernel_rfl,?_⟩) ?_ ?_;rotate_left;(intro w';go_simp;with_reducible rfl);rotate_left;(simp only [Act.put,List.setIfInBounds_toArray,List.set_cons_zero,List.set_cons_succ,i64_w,i32_w];rfl))
                refine doneO_ (by kernel_rfl) ?_
                try go_wp2
                go_roundg g1
                case rel =>
                 refine ⟨j + 1 + 1,hlt,by go_num,⟨fun m hm => ?_⟩,by omega,HB4⟩
                 rcases Nat.lt_or_ge m (j + 1) with h9 | h9
                 · exact HJ.out m h9
                 · have h8:m = j + 1:=by omega
                   rw [h8,HS.out,hls]
                   simp
                case measure => omega
      · have hie:i = l0.length:=by omega
        have HT:Aside0 ((List.range l0.length).all (ul.stepB k l0) = true):=⟨List.all_eq_true.2 (fun m hm => HJ.out m (by rw [hie];exact List.mem_range.1 hm))⟩
        go_wp2
        go_ret
        exact ⟨by rw [HT.out];rfl,HB.out⟩
end Go.Proofs.YtmcpeifhapekoaaGreatDoor.PAll
namespace Go.Proofs.YtmcpeifhapekoaaGreatDoor.Laws
open Go.RowKit Go.Proofs.YtmcpeifhapekoaaGreatDoor.PAll Go.Proofs.YtmcpeifhapekoaaGreatDoorW.PrintWords Go.Proofs.YtmcpeifhapekoaaGreatDoorW.PrintLast
set_option linter.unusedVariables false
set_option linter.unusedSimpArgs false
theorem wrap_up (i:Nat) (h:i < 9223372036854775807):wrap64 ((i:Int) + 1) = ((i + 1:Nat):Int):=by
 unfold wrap64
 omega
theorem at_byte (s:ByteArray) (i:Nat) (c:UInt8) (r:List UInt8) (h:s.data.toList.drop i = c :: r):i < s.size ∧ bt s (i:Int) = (c.toNat:Int) ∧ s.data.toList.drop (i + 1) = r:=by
 have hlt:i < s.data.toList.length:=by
  rcases Nat.lt_or_ge i s.data.toList.length with h1 | h1
  · exact h1
  · rw [List.drop_eq_nil_of_le h1] at h
    cases h
 have hs:s.size = s.data.toList.length:=Base.size_list s
 rw [List.drop_eq_getElem_cons hlt] at h
 obtain ⟨h1,h2⟩:=List.cons.inj h
 refine ⟨by omega,?_,h2⟩
 rw [Base.bt_list s i (by omega),List.getD_eq_getElem?_getD,List.getElem?_eq_getElem hlt,h1]
 rfl
theorem no_byte (s:ByteArray) (i:Nat) (h:s.data.toList.drop i = []):s.size ≤ i:=by
 have hs:s.size = s.data.toList.length:=Base.size_list s
 have:=List.drop_eq_nil_iff.1 h
 omega
def letterI (c:Int):Bool:=(decide (97 ≤ c) && decide (c ≤ 122)) || (decide (65 ≤ c) && decide (c ≤ 90)) || decide (c = 95)
theorem letter_fin:∀ n:Fin 256,Base.letterB (n.val:Int) = letterI (n.val:Int):=by decide +kernel
theorem letter_is (c:UInt8):Base.letterB (c.toNat:Int) = letterI (c.toNat:Int):=letter_fin ⟨c.toNat,c.toNat_lt⟩
theorem name_step (k:Nat) (s:ByteArray) (i:Nat) (hi:i < s.size) (hs:s.size ≤ 9223372036854775807) :
 ut.l0 (k + 1) s (i:Int) = if letterI (bt s i) = true then ut.l0 k s ((i + 1:Nat):Int) else if i = 0 then some false else
  if Base.digitB (bt s i) = true then ut.l0 k s ((i + 1:Nat):Int) else some false:=by
 have hw:=wrap_up i (by omega)
 simp only [ut.l0]
 rw [if_pos (by omega),if_pos (by omega),hw]
 generalize bt s (i:Int) = c
 have e0:((i:Int) = 0) = (i = 0):=by simp
 simp only [e0]
 unfold letterI Base.digitB
 by_cases h1:97 ≤ c <;> by_cases h2:c ≤ 122 <;> by_cases h3:65 ≤ c <;> by_cases h4:c ≤ 90 <;> by_cases h5:c = 95 <;> first | (exfalso;omega) | skip
 all_goals by_cases h6:48 ≤ c <;> by_cases h7:c ≤ 57 <;> first | (exfalso;omega) | skip
 all_goals simp [h1,h2,h3,h4,h5,h6,h7]
 all_goals rw [if_neg (show ¬ c < 48 by omega),if_neg (show ¬ 57 < c by omega)]
theorem name_l0 (s:ByteArray) (hs:s.size ≤ 9223372036854775807):∀ (r:List UInt8) (i:Nat),1 ≤ i → s.data.toList.drop i = r →
 Ev (fun k => ut.l0 k s (i:Int)) (r.all (fun c => Base.letterB (c.toNat:Int) || Base.digitB (c.toNat:Int)) && (decide (1 ≤ s.size) && decide (s.size ≤ 24))):=by
 intro r
 induction r with
 | nil =>
   intro i hi h
   have h1:=no_byte s i h
   refine Ev.step (f:=fun _ => some (decide (1 ≤ s.size) && decide (s.size ≤ 24))) (fun k => ?_) (by simpa using Ev.now _)
   simp only [ut.l0]
   rw [if_neg (by omega)]
   by_cases h2:1 ≤ s.size
   · rw [if_pos (by omega)]
     simp [h2]
     omega
   · rw [if_neg (by omega)]
     simp [h2]
 | cons c r ih =>
   intro i hi h
   obtain ⟨hlt,hbt,hr⟩:=at_byte s i c r h
   have ih2:=ih (i + 1) (by omega) hr
   cases hl:Base.letterB (c.toNat:Int) with
   | true =>
     have e:(c :: r).all (fun c => Base.letterB (c.toNat:Int) || Base.digitB (c.toNat:Int)) = r.all (fun c => Base.letterB (c.toNat:Int) || Base.digitB (c.toNat:Int)):=by rw [List.all_cons,hl];rfl
     rw [e]
     refine Ev.step (fun k => ?_) ih2
     rw [name_step k s i hlt hs,hbt,← letter_is,if_pos hl]
   | false =>
     cases hd:Base.digitB (c.toNat:Int) with
     | true =>
       have e:(c :: r).all (fun c => Base.letterB (c.toNat:Int) || Base.digitB (c.toNat:Int)) = r.all (fun c => Base.letterB (c.toNat:Int) || Base.digitB (c.toNat:Int)):=by rw [List.all_cons,hl,hd];rfl
       rw [e]
       refine Ev.step (fun k => ?_) ih2
       rw [name_step k s i hlt hs,hbt,← letter_is,if_neg (by rw [hl];simp),if_neg (by omega),if_pos hd]
     | false =>
       have e:(c :: r).all (fun c => Base.letterB (c.toNat:Int) || Base.digitB (c.toNat:Int)) = false:=by rw [List.all_cons,hl,hd];rfl
       rw [e]
       refine Ev.step (f:=fun _ => some false) (fun k => ?_) (Ev.now _)
       rw [name_step k s i hlt hs,hbt,← letter_is,if_neg (by rw [hl];simp),if_neg (by omega),if_neg (by rw [hd];simp)]
theorem all_bytes (s:ByteArray) (p:Int → Bool):(bytesOf s).all p = s.data.toList.all (fun c => p (c.toNat:Int)):=by
 rw [bytesOf,List.all_map]
 rfl
theorem rname_ev (s:ByteArray) (hs:s.size ≤ 9223372036854775807):Ev (fun k => ut.f k s) (Base.nameB s):=by
 refine Ev.congr (f:=fun k => ut.l0 k s ((0:Nat):Int)) (fun k => rfl) ?_
 have hz:=Base.size_list s
 cases hd:s.data.toList with
 | nil =>
   have h0:s.size = 0:=by rw [hz,hd];rfl
   have e:Base.nameB s = false:=by simp [Base.nameB,h0]
   rw [e]
   refine Ev.step (f:=fun _ => some false) (fun k => ?_) (Ev.now _)
   simp only [ut.l0]
   rw [if_neg (by omega),if_neg (by omega)]
 | cons c r =>
   obtain ⟨hlt,hbt,hr⟩:=at_byte s 0 c r (by rw [hd];rfl)
   have ih:=name_l0 s hs r 1 (Nat.le_refl _) (by rw [hd];rfl)
   have hb:(bytesOf s).headD 0 = (c.toNat:Int):=by rw [bytesOf,hd];rfl
   have e:Base.nameB s = (Base.letterB (c.toNat:Int) && (r.all (fun c => Base.letterB (c.toNat:Int) || Base.digitB (c.toNat:Int)) && (decide (1 ≤ s.size) && decide (s.size ≤ 24)))):=by
    rw [Base.nameB,all_bytes,hb,hd,List.all_cons]
    have h1:decide (0 < s.size) = decide (1 ≤ s.size):=rfl
    rw [h1]
    cases Base.letterB (c.toNat:Int) <;> cases decide (1 ≤ s.size) <;> cases decide (s.size ≤ 24) <;> simp
   rw [e]
   cases hl:Base.letterB (c.toNat:Int) with
   | true =>
     rw [Bool.true_and]
     refine Ev.step (fun k => ?_) ih
     rw [name_step k s 0 hlt hs,hbt,← letter_is,if_pos hl]
   | false =>
     rw [Bool.false_and]
     refine Ev.step (f:=fun _ => some false) (fun k => ?_) (Ev.now _)
     rw [name_step k s 0 hlt hs,hbt,← letter_is,if_neg (by rw [hl];simp),if_pos rfl]
theorem plain_is (r:Int):(!(decide (r < 32) || decide (r = 127) || decide (r = 65533))) = Base.plainB r:=by
 unfold Base.plainB
 by_cases h:r < 32
 · have:¬ 32 ≤ r:=by omega
   simp [h,this]
 · have:32 ≤ r:=by omega
   simp [h,this]
theorem rvalue_is (s:ByteArray):u2q.f s = some (Base.valueB s):=by
 have e:Base.plainTextB s = (Base.runesOf s).all Base.plainB:=by
  unfold Base.plainTextB
  congr 1
  funext r
  exact plain_is r
 simp only [u2q.f,u2p.f,Option.bind_some,e,Base.valueB]
 by_cases h1:1 ≤ s.size
 · rw [if_pos (by omega)]
   by_cases h2:s.size ≤ 40
   · rw [if_pos (by omega)]
     have:0 < s.size:=h1
     simp [h2,this]
   · rw [if_neg (by omega)]
     simp [h2]
 · rw [if_neg (by omega)]
   have:¬ 0 < s.size:=h1
   simp [this]
theorem names_ev:∀ (l:List S66),(∀ y ∈ l,y.f0.size ≤ maxLen ∧ y.f1.size ≤ maxLen) → ∃ K,∀ k,K ≤ k → ∀ x ∈ l,ut.f k x.f0 = some (Base.nameB x.f0)
 | [],_ => ⟨0,fun _ _ x hx => by cases hx⟩
 | x :: r,hs => by
   obtain ⟨K,hK⟩:=names_ev r (fun y hy => hs y (List.mem_cons_of_mem _ hy))
   obtain ⟨M,hM⟩:=rname_ev x.f0 (Nat.le_trans (hs x (List.mem_cons_self ..)).1 (by decide))
   refine ⟨K + M,fun k hk y hy => ?_⟩
   rcases List.mem_cons.1 hy with rfl | h9
   · exact hM k (by omega)
   · exact hK k (by omega) y h9
theorem less_nil {x:ByteArray} (h:Base.nameB x = true):Op.bytesLess [] x.data.toList = true:=by
 have hz:=nameB_size h
 cases hd:x.data.toList with
 | nil => rw [Base.size_list,hd] at hz;simp at hz
 | cons c q => simp [Op.bytesLess]
theorem steps_ok (k:Nat) (l:List S66) (hn:∀ x ∈ l,ut.f k x.f0 = some (Base.nameB x.f0)):∀ (r:List S66) (i:Nat) (last:ByteArray),l.drop i = r → (i = 0 → last = ⟨#[]⟩) → (0 < i → (un l ((i - 1:Nat):Int)).f0 = last) →
 (List.range' i r.length).all (ul.stepB k l) = okFrom last.data.toList r:=by
 intro r
 induction r with
 | nil => intro i last _ _ _;rfl
 | cons x r ih =>
   intro i last h hfst hlast
   obtain ⟨hx,hi,hr⟩:=rd_drop l i x r h
   have hmem:x ∈ l:=List.mem_of_mem_drop (by rw [h];simp)
   have e2:=ih (i + 1) x.f0 hr (fun h => by omega) (fun _ => by rw [show i + 1 - 1 = i by omega,hx])
   have e3:ul.stepB k l i = (Base.nameB x.f0 && Base.valueB x.f1 && Op.bytesLess last.data.toList x.f0.data.toList):=by
    unfold ul.stepB ul.nm ul.vl
    rw [hx,hn x hmem,rvalue_is]
    simp only [Option.getD_some,ByteArray.toList_eq]
    by_cases h0:i = 0
    · rw [hfst h0,decide_eq_true h0,Bool.true_or]
      cases hm:Base.nameB x.f0 with
      | false => rfl
      | true =>
        have e4:Op.bytesLess (⟨#[]⟩:ByteArray).data.toList x.f0.data.toList = true:=less_nil hm
        rw [e4]
    · rw [decide_eq_false h0,Bool.false_or,show (i:Int) - 1 = ((i - 1:Nat):Int) by omega,hlast (by omega)]
   rw [List.length_cons,List.range'_succ,List.all_cons,e2,e3]
   rfl
theorem rcan_ev (l:List S66) (hs:∀ y ∈ l,y.f0.size ≤ maxLen ∧ y.f1.size ≤ maxLen):Ev (fun k => ul.f k l) (canB l):=by
 obtain ⟨K,hK⟩:=names_ev l hs
 refine ⟨K,fun k hk => ?_⟩
 have h1:ul.okB k l = true:=List.all_eq_true.2 (fun x hx => by rw [hK k hk x hx,rvalue_is];rfl)
 have h2:=steps_ok k l (hK k hk) l 0 ⟨#[]⟩ rfl (fun _ => rfl) (fun h => by omega)
 rw [← List.range_eq_range'] at h2
 show ul.f k l = some (canB l)
 unfold ul.f
 rw [if_pos h1,ul.canB,h2]
 rfl
def nb (c:UInt8):Bool:=Base.letterB (c.toNat:Int) || Base.digitB (c.toNat:Int)
theorem name_of (c:UInt8) (x:ByteArray) (h:x.data.toList = [97,c]):Base.nameB x = nb c:=by
 have hz:=Base.size_list x
 rw [h] at hz
 have h2:x.size = 2:=hz
 have h3:bytesOf x = [97,(c.toNat:Int)]:=by rw [bytesOf,h];rfl
 have h4:Base.letterB 97 = true:=by decide +kernel
 simp [Base.nameB,h2,h3,h4,nb]
theorem take_tw (p:UInt8 → Bool):∀ l:List UInt8,l.take (l.takeWhile p).length = l.takeWhile p:=by
 intro l
 induction l with
 | nil => rfl
 | cons x r ih =>
   rw [List.takeWhile_cons]
   split
   · simp [ih]
   · rfl
theorem word_l0 (s:ByteArray) (hs:s.size ≤ 140737488351232):∀ (r:List UInt8) (i:Nat),s.data.toList.drop i = r → i ≤ s.size →
 Ev (fun k => u3c.l0 k s (i:Int)) (Base.ofL (s.data.toList.take (i + (r.takeWhile nb).length)),Base.ofL (r.dropWhile nb)):=by
 intro r
 induction r with
 | nil =>
   intro i h hi
   have h1:=no_byte s i h
   have h2:i = s.size:=by omega
   have e1:s.extract 0 ((i:Nat):Int).toNat = Base.ofL (s.data.toList.take (i + (([]:List UInt8).takeWhile nb).length)):=Base.ext_data (by rw [Base.extract_list,Base.ofL_data];simp)
   have e2:s.extract ((i:Nat):Int).toNat s.size = Base.ofL (([]:List UInt8).dropWhile nb):=Base.ext_data (by rw [Base.extract_rest,Base.ofL_data];exact h)
   rw [← e1,← e2]
   refine Ev.step (f:=fun _ => some (s.extract 0 ((i:Nat):Int).toNat,s.extract ((i:Nat):Int).toNat s.size)) (fun k => ?_) (Ev.now _)
   simp only [u3c.l0]
   rw [if_neg (by omega),if_pos (by omega),if_pos (by omega)]
 | cons c r ih =>
   intro i h hi
   obtain ⟨hlt,hbt,hr⟩:=at_byte s i c r h
   have hw:=wrap_up i (by omega)
   have hx:(⟨#[97]⟩:ByteArray) ++ s.extract ((i:Nat):Int).toNat ((i + 1:Nat):Int).toNat = Base.ofL [97,c]:=Base.ext_data (by
    rw [Base.append_data,Base.extract_list,Base.ofL_data]
    have:((i + 1:Nat):Int).toNat - ((i:Nat):Int).toNat = 1:=by omega
    rw [this,show ((i:Nat):Int).toNat = i by omega,h]
    rfl)
   have hxs:(s.extract ((i:Nat):Int).toNat ((i + 1:Nat):Int).toNat).size ≤ 1:=by
    rw [ByteArray.size_extract]
    omega
   have hn:=rname_ev (Base.ofL [97,c]) (by rw [Base.size_list,Base.ofL_data];simp)
   rw [name_of c (Base.ofL [97,c]) (Base.ofL_data _)] at hn
   have hstep:∀ k,u3c.l0 (k + 1) s (i:Int) = ((ut.f k (Base.ofL [97,c])).bind fun t255 => (if t255 = true then (u3c.l0 k s ((i + 1:Nat):Int)) else (some (s.extract 0 (i:Int).toNat,s.extract (i:Int).toNat s.size)))):=by
    intro k
    simp only [u3c.l0]
    rw [hw,if_pos (by omega),if_pos (by omega),if_pos (by omega),if_pos (by omega),if_pos (by omega),hx]
    have:((i:Int) ≤ (s.size:Int)):=by omega
    simp only [this,if_true]
   refine Ev.step hstep (Ev.bind hn ?_)
   cases hb:nb c with
   | true =>
     have ih2:=ih (i + 1) hr (by omega)
     have e1:(c :: r).takeWhile nb = c :: r.takeWhile nb:=by rw [List.takeWhile_cons,if_pos hb]
     have e2:(c :: r).dropWhile nb = r.dropWhile nb:=by rw [List.dropWhile_cons,if_pos hb]
     rw [e1,e2,show i + (c :: r.takeWhile nb).length = i + 1 + (r.takeWhile nb).length by simp;omega]
     exact Ev.congr (fun k => by simp) ih2
   | false =>
     have e1:(c :: r).takeWhile nb = []:=by rw [List.takeWhile_cons,if_neg (by simp [hb])]
     have e2:(c :: r).dropWhile nb = c :: r:=by rw [List.dropWhile_cons,if_neg (by simp [hb])]
     rw [e1,e2]
     have e3:s.extract 0 ((i:Nat):Int).toNat = Base.ofL (s.data.toList.take (i + ([]:List UInt8).length)):=Base.ext_data (by rw [Base.extract_list,Base.ofL_data];simp)
     have e4:s.extract ((i:Nat):Int).toNat s.size = Base.ofL (c :: r):=Base.ext_data (by rw [Base.extract_rest,Base.ofL_data];exact h)
     rw [← e3,← e4]
     exact Ev.congr (fun k => by simp) (Ev.now _)
theorem word_ev (s:ByteArray) (hs:s.size ≤ 140737488351232):Ev (fun k => u3c.f k s) (Base.ofL (s.data.toList.takeWhile nb),Base.ofL (s.data.toList.dropWhile nb)):=by
 have h:=word_l0 s hs s.data.toList 0 rfl (by omega)
 have e:s.data.toList.take (0 + (s.data.toList.takeWhile nb).length) = s.data.toList.takeWhile nb:=by
  rw [Nat.zero_add]
  exact take_tw nb _
 rw [e] at h
 exact h
end Go.Proofs.YtmcpeifhapekoaaGreatDoor.Laws
namespace Go.Proofs.YtmcpeifhapekoaaGreatDoor.Tx
open Go.RowKit Go.Proofs.YtmcpeifhapekoaaGreatDoor.PAll Go.Proofs.YtmcpeifhapekoaaGreatDoorW.PrintWords Go.Proofs.YtmcpeifhapekoaaGreatDoorW.PrintLast
open Go.Proofs.YtmcpeifhapekoaaGreatDoor.Laws (okFrom canB wrap_up at_byte no_byte word_ev)
set_option linter.unusedVariables false
set_option linter.unusedSimpArgs false
theorem sz (s:B8):(Base.ofL s).size = s.length:=(cut_ofL s 0 (by omega)).2.2
theorem tl_ofL (s:B8):(Base.ofL s).toList = s:=by rw [ByteArray.toList_eq,Base.ofL_data]
def bs (h:Bool):Int:=if h = true then 16 else 10
theorem u64_id (x:Int) (h0:0 ≤ x) (h1:x ≤ 18446744073709551615):IntKind.u64.wrap x = x:=by
 unfold IntKind.wrap
 simp only [IntKind.signed,IntKind.bits,Bool.false_and,Bool.false_eq_true,if_false]
 omega
theorem quo {base d:Int} (hb:base = 10 ∨ base = 16) (h0:0 ≤ d) (h1:d ≤ 15):IntKind.u64.wrap (Int.tdiv (IntKind.u64.wrap (18446744073709551615 - IntKind.u64.wrap d)) base) = (18446744073709551615 - d) / base:=by
 rw [u64_id d h0 (by omega),u64_id (18446744073709551615 - d) (by omega) (by omega),Int.tdiv_eq_ediv_of_nonneg (by omega)]
 rcases hb with rfl | rfl <;> exact u64_id _ (by omega) (by omega)
theorem fits {base d m:Int} (hb:base = 10 ∨ base = 16) (h0:0 ≤ d) (h1:d ≤ 15) (hm:0 ≤ m) (h:m ≤ (18446744073709551615 - d) / base):0 ≤ m * base + d ∧ m * base + d ≤ 18446744073709551615 ∧ IntKind.u64.wrap (IntKind.u64.wrap (m * base) + IntKind.u64.wrap d) = m * base + d:=by
 have e:IntKind.u64.wrap d = d:=u64_id d h0 (by omega)
 rcases hb with rfl | rfl
 · have e2:IntKind.u64.wrap (m * 10) = m * 10:=u64_id _ (by omega) (by omega)
   rw [e,e2]
   exact ⟨by omega,by omega,u64_id _ (by omega) (by omega)⟩
 · have e2:IntKind.u64.wrap (m * 16) = m * 16:=u64_id _ (by omega) (by omega)
   rw [e,e2]
   exact ⟨by omega,by omega,u64_id _ (by omega) (by omega)⟩
def Says (g:Nat → Option (Int × ByteArray × Bool)) (o:Option (Int × B8)):Prop:=match o with
 | some (n,r) => Ev g (n,Base.ofL r,true)
 | none => ∃ (x:Int) (y:B8),y.length ≤ 1000 ∧ Ev g (x,Base.ofL y,false)
theorem Says.congr {g f:Nat → Option (Int × ByteArray × Bool)} {o:Option (Int × B8)} (h:∀ k,g k = f k) (hf:Says f o):Says g o:=by
 have e:g = f:=funext h
 rw [e]
 exact hf
theorem neg_is {n:Int} (h0:0 ≤ n) (h:n ≤ 9223372036854775808):wrap64 (IntKind.u64.wrap (-n)) = -n:=by
 unfold wrap64 IntKind.wrap
 simp only [IntKind.signed,IntKind.bits,Bool.false_and,Bool.false_eq_true,if_false]
 omega
end Go.Proofs.YtmcpeifhapekoaaGreatDoor.Tx
namespace Go.Proofs.YtmcpeifhapekoaaGreatDoor.PAll
open Go.RowKit Go.Proofs.YtmcpeifhapekoaaGreatDoorW.PrintWords Go.Proofs.YtmcpeifhapekoaaGreatDoorW.PrintLast Go.Proofs.YtmcpeifhapekoaaGreatDoorW.PrintMore
attribute [local go_sem] max2_int min2_int max_two min_two max_three min_three max_four min_four
set_option linter.unusedVariables false
set_option linter.unusedSimpArgs false
def u1v.l0:Nat → ByteArray → List (S66) → Int → Int → Option (ByteArray × Int)
 | 0,_,_,_,_ => none
 | k + 1,x4,x10,x11,x12 => if x12 < x11 then (if 0 ≤ x12 then (if x12 < (x10.length:Int) then (if x12 > 0 then (if x4.size + 1 ≤ 9223372036854775807 then (if ((un x10 x12).f0).size + 1 ≤ 9223372036854775807 then ((u1r.f k ((un x10 x12).f1)).bind fun t304 => (if (((un x10 x12).f0) ++ (⟨#[61]⟩:ByteArray)).size + t304.size ≤ 9223372036854775807 then (if (x4 ++ (⟨#[44]⟩:ByteArray)).size + ((((un x10 x12).f0) ++ (⟨#[61]⟩:ByteArray)) ++ t304).size ≤ 9223372036854775807 then (u1v.l0 k ((x4 ++ (⟨#[44]⟩:ByteArray)) ++ ((((un x10 x12).f0) ++ (⟨#[61]⟩:ByteArray)) ++ t304)) x10 x11 (wrap64 (x12 + 1))) else (none)) else (none))) else (none)) else (none)) else (if ((un x10 x12).f0).size + 1 ≤ 9223372036854775807 then ((u1r.f k ((un x10 x12).f1)).bind fun t305 => (if (((un x10 x12).f0) ++ (⟨#[61]⟩:ByteArray)).size + t305.size ≤ 9223372036854775807 then (if x4.size + ((((un x10 x12).f0) ++ (⟨#[61]⟩:ByteArray)) ++ t305).size ≤ 9223372036854775807 then (u1v.l0 k (x4 ++ ((((un x10 x12).f0) ++ (⟨#[61]⟩:ByteArray)) ++ t305)) x10 x11 (wrap64 (x12 + 1))) else (none)) else (none))) else (none))) else (none)) else (none)) else (if 1 + x4.size ≤ 9223372036854775807 then (if ((⟨#[123]⟩:ByteArray) ++ x4).size + 1 ≤ 9223372036854775807 then (some (((⟨#[123]⟩:ByteArray) ++ x4) ++ (⟨#[125]⟩:ByteArray),0)) else (none)) else (none))
def u1v.f (k:Nat) (l0:List (S66)):Option (ByteArray × Int):=(ul.f k l0).bind fun t301 => (if t301 = true then (u1v.l0 k (⟨#[]⟩:ByteArray) l0 (l0.length:Int) 0) else (some ((⟨#[]⟩:ByteArray),1)))
set_option maxHeartbeats 8000000 in
set_option maxRecDepth 100000 in
theorem u1v.calls (k:Nat) (A0:Option Addr) (c0:Nat) (l0:List (S66)) (r1:ByteArray) (r2:Int) (w:World) (hr0:Kd.C k66 w A0 l0.length l0) (hc0:l0.length ≤ c0) (h:u1v.f k l0 = some (r1,r2)) :
 Calls Tryz.prog 72 #[.slice A0 l0.length c0] w fun e w' => e = .returned (.tuple #[.string r1,.int .i64 r2]) ∧ Below w.heap.size w w':=by
 have hu66:=Tryz.underlying66
 have HR0:=Aside0.mk hr0
 have HC0:=Aside0.mk hc0
 clear hr0 hc0
 have HB:=Aside0.mk (Below.refl w.heap.size w)
 have H:((ul.f k l0).bind fun t301 => (if t301 = true then (u1v.l0 k (⟨#[]⟩:ByteArray) l0 (l0.length:Int) 0) else (some ((⟨#[]⟩:ByteArray),1)))) = some (r1,r2):=h
 clear h
 replace H:=Option.bind_eq_some_iff.mp H
 obtain ⟨t301,A20,H⟩:=H
 replace H:(if t301 = true then (u1v.l0 k (⟨#[]⟩:ByteArray) l0 (l0.length:Int) 0) else (some ((⟨#[]⟩:ByteArray),1))) = some (r1,r2):=H
 have A2:=Aside0.mk A20
 clear A20
 by_cases c3:t301 = true
 · subst c3
   have H1:(u1v.l0 k (⟨#[]⟩:ByteArray) l0 (l0.length:Int) 0) = some (r1,r2):=by rw [if_pos rfl] at H;exact H
   clear H
   have H:=H1
   clear H1
   have H':=Aside0.mk H
   clear H
   go_enter Tryz.func72,Tryz.ntmps72
   go_wp2_with (first | (go_at_call 40;(with_reducible refine (ul.calls k _ _ l0 true _ ?side1 ?side2 A2.out).mono ?_);(case side1 => repeat (first | exact HR0.out | (with_reducible refine Kd.C_alloc ?_ _) | (with_reducible refine Kd.C_drewN ?_ _) | (with_reducible refine Kd.C_drew ?_)));(case side2 => exact HC0.out);rintro e w4 ⟨rfl,hb⟩;have n0_:=Aside0.mk (u1c (by repeat (first | (with_reducible first | exact HB.out | apply ud | apply ub | apply uf) | exact HB.out)) hb);clear HB;have HB:=n0_;clear n0_;(try clear hb);(try clear hb2);(try clear hk);(try clear hi)))
   repeat (go_quiet (first | (go_at_call 40;(with_reducible refine (ul.calls k _ _ l0 true _ ?side1 ?side2 A2.out).mono ?_);(case side1 => repeat (first | exact HR0.out | (with_reducible refine Kd.C_alloc ?_ _) | (with_reducible refine Kd.C_drewN ?_ _) | (with_reducible refine Kd.C_drew ?_)));(case side2 => exact HC0.out);rintro e w4 ⟨rfl,hb⟩;have n0_:=Aside0.mk (u1c (by repeat (first | (with_reducible first | exact HB.out | apply ud | apply ub | apply uf) | exact HB.out)) hb);clear HB;have HB:=n0_;clear n0_;(try clear hb);(try clear hb2);(try clear hk);(try clear hi)));try go_wp2_with (first | (go_at_call 40;(with_reducible refine (ul.calls k _ _ l0 true _ ?side1 ?side2 A2.out).mono ?_);(case side1 => repeat (first | exact HR0.out | (with_reducible refine Kd.C_alloc ?_ _) | (with_reducible refine Kd.C_drewN ?_ _) | (with_reducible refine Kd.C_drew ?_)));(case side2 => exact HC0.out);rintro e w4 ⟨rfl,hb⟩;have n0_:=Aside0.mk (u1c (by repeat (first | (with_reducible first | exact HB.out | apply ud | apply ub | apply uf) | exact HB.out)) hb);clear HB;have HB:=n0_;clear n0_;(try clear hb);(try clear hb2);(try clear hk);(try clear hi))))
   go_loopg [4,12] k (fun kq v4 v12 w' => ∃ (x4_1:ByteArray) (x12_1:Int),v4 = .string x4_1 ∧ v12 = .int .i64 x12_1 ∧ Aside0 (u1v.l0 kq x4_1 l0 (l0.length:Int) x12_1 = some (r1,r2)) ∧ Aside0 (kq ≤ k) ∧ Aside0 (Below w.heap.size w w'))
   case atStart => exact ⟨((⟨#[]⟩:ByteArray)),(0),(by first | rfl | (simp;done) | (simp [*];done)),(by first | rfl | (simp;done) | (simp [*];done)),H',⟨Nat.le_refl _⟩,⟨by repeat (first | (with_reducible first | exact HB.out | apply ud | apply ub | apply uf) | exact HB.out)⟩⟩
   case round =>
    clear H'
    try clear p2
    try clear c3
    obtain ⟨x4_1,x12_1,rfl,rfl,HA,HK1,HB⟩:=hrel
    cases gk with
    | zero => exact absurd HA.out (by simp [u1v.l0])
    | succ k1 =>
      have H:=HA.out
      clear HA
      simp only [u1v.l0] at H
      by_cases c5:x12_1 < (l0.length:Int)
      · rw [if_pos c5] at H
        have c5b0:decide (x12_1 < (l0.length:Int)) = true:=decide_eq_true c5
        clear c5
        by_cases c6:0 ≤ x12_1
        · rw [if_pos c6] at H
          have c6b0:decide (0 ≤ x12_1) = true:=decide_eq_true c6
          clear c6
          by_cases c7:x12_1 < (l0.length:Int)
          · rw [if_pos c7] at H
            have c7b0:decide (x12_1 < (l0.length:Int)) = true:=decide_eq_true c7
            clear c7
            by_cases c8:x12_1 > 0
            · rw [if_pos c8] at H
              have c8b0:decide (0 < x12_1) = true:=decide_eq_true c8
              clear c8
              by_cases c9:x4_1.size + 1 ≤ 9223372036854775807
              · rw [if_pos c9] at H
                have c9b0:=eq_true c9
                have c9b1:decide (x4_1.size + 1 ≤ 9223372036854775807) = true:=decide_eq_true c9
                try have c9b2:(9223372036854775807 < x4_1.size + 1) = False:=eq_false (Nat.not_lt.2 c9)
                try (have c9b3:=c9b2;simp only [ByteArray.size_append,Base.size1,(show ∀ a_ b_:UInt8,(⟨#[a_,b_]⟩:ByteArray).size = 2 from fun _ _ => rfl)] at c9b3)
                by_cases c10:((un l0 x12_1).f0).size + 1 ≤ 9223372036854775807
                · rw [if_pos c10] at H
                  have c10b0:=eq_true c10
                  have c10b1:decide (((un l0 x12_1).f0).size + 1 ≤ 9223372036854775807) = true:=decide_eq_true c10
                  try have c10b2:(9223372036854775807 < ((un l0 x12_1).f0).size + 1) = False:=eq_false (Nat.not_lt.2 c10)
                  try (have c10b3:=c10b2;simp only [ByteArray.size_append,Base.size1,(show ∀ a_ b_:UInt8,(⟨#[a_,b_]⟩:ByteArray).size = 2 from fun _ _ => rfl)] at c10b3)
                  replace H:=Option.bind_eq_some_iff.mp H
                  obtain ⟨t304,A110,H⟩:=H
                  replace H:(if (((un l0 x12_1).f0) ++ (⟨#[61]⟩:ByteArray)).size + t304.size ≤ 9223372036854775807 then (if (x4_1 ++ (⟨#[44]⟩:ByteArray)).size + ((((un l0 x12_1).f0) ++ (⟨#[61]⟩:ByteArray)) ++ t304).size ≤ 9223372036854775807 then (u1v.l0 k1 ((x4_1 ++ (⟨#[44]⟩:ByteArray)) ++ ((((un l0 x12_1).f0) ++ (⟨#[61]⟩:ByteArray)) ++ t304)) l0 (l0.length:Int) (wrap64 (x12_1 + 1))) else (none)) else (none)) = some (r1,r2):=H
                  have A11:=Aside0.mk A110
                  clear A110
                  by_cases c12:(((un l0 x12_1).f0) ++ (⟨#[61]⟩:ByteArray)).size + t304.size ≤ 9223372036854775807
                  · rw [if_pos c12] at H
                    have c12b0:=eq_true c12
                    have c12b1:decide ((((un l0 x12_1).f0) ++ (⟨#[61]⟩:ByteArray)).size + t304.size ≤ 9223372036854775807) = true:=decide_eq_true c12
                    try have c12b2:(9223372036854775807 < (((un l0 x12_1).f0) ++ (⟨#[61]⟩:ByteArray)).size + t304.size) = False:=eq_false (Nat.not_lt.2 c12)
                    try (have c12b3:=c12b2;simp only [ByteArray.size_append,Base.size1,(show ∀ a_ b_:UInt8,(⟨#[a_,b_]⟩:ByteArray).size = 2 from fun _ _ => rfl)] at c12b3)
                    by_cases c13:(x4_1 ++ (⟨#[44]⟩:ByteArray)).size + ((((un l0 x12_1).f0) ++ (⟨#[61]⟩:ByteArray)) ++ t304).size ≤ 9223372036854775807
                    · rw [if_pos c13] at H
                      have c13b0:=eq_true c13
                      have c13b1:decide ((x4_1 ++ (⟨#[44]⟩:ByteArray)).size + ((((un l0 x12_1).f0) ++ (⟨#[61]⟩:ByteArray)) ++ t304).size ≤ 9223372036854775807) = true:=decide_eq_true c13
                      try have c13b2:(9223372036854775807 < (x4_1 ++ (⟨#[44]⟩:ByteArray)).size + ((((un l0 x12_1).f0) ++ (⟨#[61]⟩:ByteArray)) ++ t304).size) = False:=eq_false (Nat.not_lt.2 c13)
                      try (have c13b3:=c13b2;simp only [ByteArray.size_append,Base.size1,(show ∀ a_ b_:UInt8,(⟨#[a_,b_]⟩:ByteArray).size = 2 from fun _ _ => rfl)] at c13b3)
                      have H':=Aside0.mk H
                      clear H
                      have p302:0 ≤ (x12_1:Int):=of_decide_eq_true (by first | (with_reducible assumption) | assumption)
                      have q302:x12_1 < (l0.length:Int):=of_decide_eq_true (by first | (with_reducible assumption) | assumption)
                      obtain ⟨ad302,e302,hx302_0,hx302_1⟩:=at_T66 HR0.out x12_1 p302 q302
                      cases e302
                      replace hx302_0:=(HB.out.cell (World.block_lt_of_cell? w _ hx302_0)).trans hx302_0
                      replace hx302_1:=(HB.out.cell (World.block_lt_of_cell? w _ hx302_1)).trans hx302_1
                      replace p302:=eq_true p302
                      replace q302:=eq_true q302
                      go_wp2_with (first | ((with_reducible refine u2o (N:=6) rfl ?_);refine u2n ?hg (N:=6) ?hd (cs:=#[.string (⟨#[]⟩:ByteArray),.string (⟨#[]⟩:ByteArray)]) (t:=66) ?hr ?_;(case hd => rfl);(case hg => rfl);(case hr => first | (go_simp;done) | (go_simp;rfl));intro gb303 hg w14 hbox hb;have n0_:=Aside0.mk (u1c (by repeat (first | (with_reducible first | exact HB.out | apply ud | apply ub | apply uf) | exact HB.out)) hb);have n1_:=Aside0.mk (hbox);have n2_:=Aside0.mk ((by rw [hg];exact (uz (by repeat (first | (with_reducible first | exact HB.out | apply ud | apply ub | apply uf) | exact HB.out))):w.heap.size ≤ gb303));have n3_:=Aside0.mk ((by rw [hg];exact (uz (by repeat (first | (with_reducible first | exact HB.out | apply ud | apply ub | apply uf) | exact HB.out))):w.heap.size ≤ gb303));clear HB;have HB:=n0_;have BK303:=n1_;have GW303:=n2_;have GE303:=n3_;clear n0_ n1_ n2_ n3_;clear hb hbox hg;have hcz15_0:w14.cell? ⟨gb303,0,none⟩ = some (.string (⟨#[]⟩:ByteArray)):=(um BK303.out 0).trans rfl;have hcz15_1:w14.cell? ⟨gb303,1,none⟩ = some (.string (⟨#[]⟩:ByteArray)):=(um BK303.out 1).trans rfl;have hfz15_0:=uk BK303.out 0;have hfz15_1:=uk BK303.out 1) | (go_at_call 113;(with_reducible refine (u1r.calls k1 ((un l0 x12_1).f1) t304 _ A11.out).mono ?_);rintro e w' ⟨rfl,⟨nd,rfl⟩⟩;(try first | exact ⟨rfl,_,World.drewN_drewN _ _ _⟩ | exact ⟨rfl,_,Eq.trans (World.drewN_drewN _ _ _) (congrArg (World.drewN _) (Nat.add_assoc _ _ _))⟩)))
                      repeat (go_quiet (first | ((with_reducible refine u2o (N:=6) rfl ?_);refine u2n ?hg (N:=6) ?hd (cs:=#[.string (⟨#[]⟩:ByteArray),.string (⟨#[]⟩:ByteArray)]) (t:=66) ?hr ?_;(case hd => rfl);(case hg => rfl);(case hr => first | (go_simp;done) | (go_simp;rfl));intro gb303 hg w14 hbox hb;have n0_:=Aside0.mk (u1c (by repeat (first | (with_reducible first | exact HB.out | apply ud | apply ub | apply uf) | exact HB.out)) hb);have n1_:=Aside0.mk (hbox);have n2_:=Aside0.mk ((by rw [hg];exact (uz (by repeat (first | (with_reducible first | exact HB.out | apply ud | apply ub | apply uf) | exact HB.out))):w.heap.size ≤ gb303));have n3_:=Aside0.mk ((by rw [hg];exact (uz (by repeat (first | (with_reducible first | exact HB.out | apply ud | apply ub | apply uf) | exact HB.out))):w.heap.size ≤ gb303));clear HB;have HB:=n0_;have BK303:=n1_;have GW303:=n2_;have GE303:=n3_;clear n0_ n1_ n2_ n3_;clear hb hbox hg;have hcz15_0:w14.cell? ⟨gb303,0,none⟩ = some (.string (⟨#[]⟩:ByteArray)):=(um BK303.out 0).trans rfl;have hcz15_1:w14.cell? ⟨gb303,1,none⟩ = some (.string (⟨#[]⟩:ByteArray)):=(um BK303.out 1).trans rfl;have hfz15_0:=uk BK303.out 0;have hfz15_1:=uk BK303.out 1) | (go_at_call 113;(with_reducible refine (u1r.calls k1 ((un l0 x12_1).f1) t304 _ A11.out).mono ?_);rintro e w' ⟨rfl,⟨nd,rfl⟩⟩;(try first | exact ⟨rfl,_,World.drewN_drewN _ _ _⟩ | exact ⟨rfl,_,Eq.trans (World.drewN_drewN _ _ _) (congrArg (World.drewN _) (Nat.add_assoc _ _ _))⟩)));try go_wp2_with (first | ((with_reducible refine u2o (N:=6) rfl ?_);refine u2n ?hg (N:=6) ?hd (cs:=#[.string (⟨#[]⟩:ByteArray),.string (⟨#[]⟩:ByteArray)]) (t:=66) ?hr ?_;(case hd => rfl);(case hg => rfl);(case hr => first | (go_simp;done) | (go_simp;rfl));intro gb303 hg w14 hbox hb;have n0_:=Aside0.mk (u1c (by repeat (first | (with_reducible first | exact HB.out | apply ud | apply ub | apply uf) | exact HB.out)) hb);have n1_:=Aside0.mk (hbox);have n2_:=Aside0.mk ((by rw [hg];exact (uz (by repeat (first | (with_reducible first | exact HB.out | apply ud | apply ub | apply uf) | exact HB.out))):w.heap.size ≤ gb303));have n3_:=Aside0.mk ((by rw [hg];exact (uz (by repeat (first | (with_reducible first | exact HB.out | apply ud | apply ub | apply uf) | exact HB.out))):w.heap.size ≤ gb303));clear HB;have HB:=n0_;have BK303:=n1_;have GW303:=n2_;have GE303:=n3_;clear n0_ n1_ n2_ n3_;clear hb hbox hg;have hcz15_0:w14.cell? ⟨gb303,0,none⟩ = some (.string (⟨#[]⟩:ByteArray)):=(um BK303.out 0).trans rfl;have hcz15_1:w14.cell? ⟨gb303,1,none⟩ = some (.string (⟨#[]⟩:ByteArray)):=(um BK303.out 1).trans rfl;have hfz15_0:=uk BK303.out 0;have hfz15_1:=uk BK303.out 1) | (go_at_call 113;(with_reducible refine (u1r.calls k1 ((un l0 x12_1).f1) t304 _ A11.out).mono ?_);rintro e w' ⟨rfl,⟨nd,rfl⟩⟩;(try first | exact ⟨rfl,_,World.drewN_drewN _ _ _⟩ | exact ⟨rfl,_,Eq.trans (World.drewN_drewN _ _ _) (congrArg (World.drewN _) (Nat.add_assoc _ _ _))⟩))))
                      go_roundg k1
                      case measure => have:=HK1.out;omega
                      case rel => exact ⟨((x4_1 ++ (⟨#[44]⟩:ByteArray)) ++ ((((un l0 x12_1).f0) ++ (⟨#[61]⟩:ByteArray)) ++ t304)),(wrap64 (x12_1 + 1)),(by first | rfl | (simp;done) | (simp [*];done)),(by first | rfl | (simp;done) | (simp [*];done)),H',⟨by have:=HK1.out;omega⟩,⟨by repeat (first | (with_reducible first | exact HB.out | apply ud | apply ub | apply uf | refine ux ?_ GE303.out) | exact HB.out)⟩⟩
                    · rw [if_neg c13] at H
                      exact absurd H (by simp)
                  · rw [if_neg c12] at H
                    exact absurd H (by simp)
                · rw [if_neg c10] at H
                  exact absurd H (by simp)
              · rw [if_neg c9] at H
                exact absurd H (by simp)
            · rw [if_neg c8] at H
              have c8b0:decide (0 < x12_1) = false:=decide_eq_false c8
              clear c8
              by_cases c16:((un l0 x12_1).f0).size + 1 ≤ 9223372036854775807
              · rw [if_pos c16] at H
                have c16b0:=eq_true c16
                have c16b1:decide (((un l0 x12_1).f0).size + 1 ≤ 9223372036854775807) = true:=decide_eq_true c16
                try have c16b2:(9223372036854775807 < ((un l0 x12_1).f0).size + 1) = False:=eq_false (Nat.not_lt.2 c16)
                try (have c16b3:=c16b2;simp only [ByteArray.size_append,Base.size1,(show ∀ a_ b_:UInt8,(⟨#[a_,b_]⟩:ByteArray).size = 2 from fun _ _ => rfl)] at c16b3)
                replace H:=Option.bind_eq_some_iff.mp H
                obtain ⟨t305,A170,H⟩:=H
                replace H:(if (((un l0 x12_1).f0) ++ (⟨#[61]⟩:ByteArray)).size + t305.size ≤ 9223372036854775807 then (if x4_1.size + ((((un l0 x12_1).f0) ++ (⟨#[61]⟩:ByteArray)) ++ t305).size ≤ 9223372036854775807 then (u1v.l0 k1 (x4_1 ++ ((((un l0 x12_1).f0) ++ (⟨#[61]⟩:ByteArray)) ++ t305)) l0 (l0.length:Int) (wrap64 (x12_1 + 1))) else (none)) else (none)) = some (r1,r2):=H
                have A17:=Aside0.mk A170
                clear A170
                by_cases c18:(((un l0 x12_1).f0) ++ (⟨#[61]⟩:ByteArray)).size + t305.size ≤ 9223372036854775807
                · rw [if_pos c18] at H
                  have c18b0:=eq_true c18
                  have c18b1:decide ((((un l0 x12_1).f0) ++ (⟨#[61]⟩:ByteArray)).size + t305.size ≤ 9223372036854775807) = true:=decide_eq_true c18
                  try have c18b2:(9223372036854775807 < (((un l0 x12_1).f0) ++ (⟨#[61]⟩:ByteArray)).size + t305.size) = False:=eq_false (Nat.not_lt.2 c18)
                  try (have c18b3:=c18b2;simp only [ByteArray.size_append,Base.size1,(show ∀ a_ b_:UInt8,(⟨#[a_,b_]⟩:ByteArray).size = 2 from fun _ _ => rfl)] at c18b3)
                  by_cases c19:x4_1.size + ((((un l0 x12_1).f0) ++ (⟨#[61]⟩:ByteArray)) ++ t305).size ≤ 9223372036854775807
                  · rw [if_pos c19] at H
                    have c19b0:=eq_true c19
                    have c19b1:decide (x4_1.size + ((((un l0 x12_1).f0) ++ (⟨#[61]⟩:ByteArray)) ++ t305).size ≤ 9223372036854775807) = true:=decide_eq_true c19
                    try have c19b2:(9223372036854775807 < x4_1.size + ((((un l0 x12_1).f0) ++ (⟨#[61]⟩:ByteArray)) ++ t305).size) = False:=eq_false (Nat.not_lt.2 c19)
                    try (have c19b3:=c19b2;simp only [ByteArray.size_append,Base.size1,(show ∀ a_ b_:UInt8,(⟨#[a_,b_]⟩:ByteArray).size = 2 from fun _ _ => rfl)] at c19b3)
                    have H':=Aside0.mk H
                    clear H
                    have p302:0 ≤ (x12_1:Int):=of_decide_eq_true (by first | (with_reducible assumption) | assumption)
                    have q302:x12_1 < (l0.length:Int):=of_decide_eq_true (by first | (with_reducible assumption) | assumption)
                    obtain ⟨ad302,e302,hx302_0,hx302_1⟩:=at_T66 HR0.out x12_1 p302 q302
                    cases e302
                    replace hx302_0:=(HB.out.cell (World.block_lt_of_cell? w _ hx302_0)).trans hx302_0
                    replace hx302_1:=(HB.out.cell (World.block_lt_of_cell? w _ hx302_1)).trans hx302_1
                    replace p302:=eq_true p302
                    replace q302:=eq_true q302
                    go_wp2_with (first | ((with_reducible refine u2o (N:=6) rfl ?_);refine u2n ?hg (N:=6) ?hd (cs:=#[.string (⟨#[]⟩:ByteArray),.string (⟨#[]⟩:ByteArray)]) (t:=66) ?hr ?_;(case hd => rfl);(case hg => rfl);(case hr => first | (go_simp;done) | (go_simp;rfl));intro gb303 hg w20 hbox hb;have n0_:=Aside0.mk (u1c (by repeat (first | (with_reducible first | exact HB.out | apply ud | apply ub | apply uf) | exact HB.out)) hb);have n1_:=Aside0.mk (hbox);have n2_:=Aside0.mk ((by rw [hg];exact (uz (by repeat (first | (with_reducible first | exact HB.out | apply ud | apply ub | apply uf) | exact HB.out))):w.heap.size ≤ gb303));have n3_:=Aside0.mk ((by rw [hg];exact (uz (by repeat (first | (with_reducible first | exact HB.out | apply ud | apply ub | apply uf) | exact HB.out))):w.heap.size ≤ gb303));clear HB;have HB:=n0_;have BK303:=n1_;have GW303:=n2_;have GE303:=n3_;clear n0_ n1_ n2_ n3_;clear hb hbox hg;have hcz21_0:w20.cell? ⟨gb303,0,none⟩ = some (.string (⟨#[]⟩:ByteArray)):=(um BK303.out 0).trans rfl;have hcz21_1:w20.cell? ⟨gb303,1,none⟩ = some (.string (⟨#[]⟩:ByteArray)):=(um BK303.out 1).trans rfl;have hfz21_0:=uk BK303.out 0;have hfz21_1:=uk BK303.out 1) | (go_at_call 113;(with_reducible refine (u1r.calls k1 ((un l0 x12_1).f1) t305 _ A17.out).mono ?_);rintro e w' ⟨rfl,⟨nd,rfl⟩⟩;(try first | exact ⟨rfl,_,World.drewN_drewN _ _ _⟩ | exact ⟨rfl,_,Eq.trans (World.drewN_drewN _ _ _) (congrArg (World.drewN _) (Nat.add_assoc _ _ _))⟩)))
                    repeat (go_quiet (first | ((with_reducible refine u2o (N:=6) rfl ?_);refine u2n ?hg (N:=6) ?hd (cs:=#[.string (⟨#[]⟩:ByteArray),.string (⟨#[]⟩:ByteArray)]) (t:=66) ?hr ?_;(case hd => rfl);(case hg => rfl);(case hr => first | (go_simp;done) | (go_simp;rfl));intro gb303 hg w20 hbox hb;have n0_:=Aside0.mk (u1c (by repeat (first | (with_reducible first | exact HB.out | apply ud | apply ub | apply uf) | exact HB.out)) hb);have n1_:=Aside0.mk (hbox);have n2_:=Aside0.mk ((by rw [hg];exact (uz (by repeat (first | (with_reducible first | exact HB.out | apply ud | apply ub | apply uf) | exact HB.out))):w.heap.size ≤ gb303));have n3_:=Aside0.mk ((by rw [hg];exact (uz (by repeat (first | (with_reducible first | exact HB.out | apply ud | apply ub | apply uf) | exact HB.out))):w.heap.size ≤ gb303));clear HB;have HB:=n0_;have BK303:=n1_;have GW303:=n2_;have GE303:=n3_;clear n0_ n1_ n2_ n3_;clear hb hbox hg;have hcz21_0:w20.cell? ⟨gb303,0,none⟩ = some (.string (⟨#[]⟩:ByteArray)):=(um BK303.out 0).trans rfl;have hcz21_1:w20.cell? ⟨gb303,1,none⟩ = some (.string (⟨#[]⟩:ByteArray)):=(um BK303.out 1).trans rfl;have hfz21_0:=uk BK303.out 0;have hfz21_1:=uk BK303.out 1) | (go_at_call 113;(with_reducible refine (u1r.calls k1 ((un l0 x12_1).f1) t305 _ A17.out).mono ?_);rintro e w' ⟨rfl,⟨nd,rfl⟩⟩;(try first | exact ⟨rfl,_,World.drewN_drewN _ _ _⟩ | exact ⟨rfl,_,Eq.trans (World.drewN_drewN _ _ _) (congrArg (World.drewN _) (Nat.add_assoc _ _ _))⟩)));try go_wp2_with (first | ((with_reducible refine u2o (N:=6) rfl ?_);refine u2n ?hg (N:=6) ?hd (cs:=#[.string (⟨#[]⟩:ByteArray),.string (⟨#[]⟩:ByteArray)]) (t:=66) ?hr ?_;(case hd => rfl);(case hg => rfl);(case hr => first | (go_simp;done) | (go_simp;rfl));intro gb303 hg w20 hbox hb;have n0_:=Aside0.mk (u1c (by repeat (first | (with_reducible first | exact HB.out | apply ud | apply ub | apply uf) | exact HB.out)) hb);have n1_:=Aside0.mk (hbox);have n2_:=Aside0.mk ((by rw [hg];exact (uz (by repeat (first | (with_reducible first | exact HB.out | apply ud | apply ub | apply uf) | exact HB.out))):w.heap.size ≤ gb303));have n3_:=Aside0.mk ((by rw [hg];exact (uz (by repeat (first | (with_reducible first | exact HB.out | apply ud | apply ub | apply uf) | exact HB.out))):w.heap.size ≤ gb303));clear HB;have HB:=n0_;have BK303:=n1_;have GW303:=n2_;have GE303:=n3_;clear n0_ n1_ n2_ n3_;clear hb hbox hg;have hcz21_0:w20.cell? ⟨gb303,0,none⟩ = some (.string (⟨#[]⟩:ByteArray)):=(um BK303.out 0).trans rfl;have hcz21_1:w20.cell? ⟨gb303,1,none⟩ = some (.string (⟨#[]⟩:ByteArray)):=(um BK303.out 1).trans rfl;have hfz21_0:=uk BK303.out 0;have hfz21_1:=uk BK303.out 1) | (go_at_call 113;(with_reducible refine (u1r.calls k1 ((un l0 x12_1).f1) t305 _ A17.out).mono ?_);rintro e w' ⟨rfl,⟨nd,rfl⟩⟩;(try first | exact ⟨rfl,_,World.drewN_drewN _ _ _⟩ | exact ⟨rfl,_,Eq.trans (World.drewN_drewN _ _ _) (congrArg (World.drewN _) (Nat.add_assoc _ _ _))⟩))))
                    go_roundg k1
                    case measure => have:=HK1.out;omega
                    case rel => exact ⟨(x4_1 ++ ((((un l0 x12_1).f0) ++ (⟨#[61]⟩:ByteArray)) ++ t305)),(wrap64 (x12_1 + 1)),(by first | rfl | (simp;done) | (simp [*];done)),(by first | rfl | (simp;done) | (simp [*];done)),H',⟨by have:=HK1.out;omega⟩,⟨by repeat (first | (with_reducible first | exact HB.out | apply ud | apply ub | apply uf | refine ux ?_ GE303.out) | exact HB.out)⟩⟩
                  · rw [if_neg c19] at H
                    exact absurd H (by simp)
                · rw [if_neg c18] at H
                  exact absurd H (by simp)
              · rw [if_neg c16] at H
                exact absurd H (by simp)
          · rw [if_neg c7] at H
            exact absurd H (by simp)
        · rw [if_neg c6] at H
          exact absurd H (by simp)
      · rw [if_neg c5] at H
        have c5b0:decide (x12_1 < (l0.length:Int)) = false:=decide_eq_false c5
        clear c5
        by_cases c22:1 + x4_1.size ≤ 9223372036854775807
        · rw [if_pos c22] at H
          have c22b0:=eq_true c22
          have c22b1:decide (1 + x4_1.size ≤ 9223372036854775807) = true:=decide_eq_true c22
          try have c22b2:(9223372036854775807 < 1 + x4_1.size) = False:=eq_false (Nat.not_lt.2 c22)
          try (have c22b3:=c22b2;simp only [ByteArray.size_append,Base.size1,(show ∀ a_ b_:UInt8,(⟨#[a_,b_]⟩:ByteArray).size = 2 from fun _ _ => rfl)] at c22b3)
          by_cases c23:((⟨#[123]⟩:ByteArray) ++ x4_1).size + 1 ≤ 9223372036854775807
          · rw [if_pos c23] at H
            have c23b0:=eq_true c23
            have c23b1:decide (((⟨#[123]⟩:ByteArray) ++ x4_1).size + 1 ≤ 9223372036854775807) = true:=decide_eq_true c23
            try have c23b2:(9223372036854775807 < ((⟨#[123]⟩:ByteArray) ++ x4_1).size + 1) = False:=eq_false (Nat.not_lt.2 c23)
            try (have c23b3:=c23b2;simp only [ByteArray.size_append,Base.size1,(show ∀ a_ b_:UInt8,(⟨#[a_,b_]⟩:ByteArray).size = 2 from fun _ _ => rfl)] at c23b3)
            simp only [Option.some.injEq,Prod.mk.injEq] at H
            obtain ⟨rfl,rfl⟩:=H
            go_wp2
            repeat (go_quiet (fail);try go_wp2)
            go_ret2
            exact ⟨by first | rfl | (simp [u1x,u1y] <;> rfl) | (simp [*,u1x,u1y] <;> rfl),by repeat (first | (with_reducible first | exact HB.out | apply ud | apply ub | apply uf) | exact HB.out)⟩
          · rw [if_neg c23] at H
            exact absurd H (by simp)
        · rw [if_neg c22] at H
          exact absurd H (by simp)
 · replace c3:=Bool.eq_false_iff.mpr c3
   subst c3
   have H1:(some ((⟨#[]⟩:ByteArray),1)) = some (r1,r2):=by rw [if_neg (show ¬ (false = true) by decide)] at H;exact H
   clear H
   have H:=H1
   clear H1
   simp only [Option.some.injEq,Prod.mk.injEq] at H
   obtain ⟨rfl,rfl⟩:=H
   go_enter Tryz.func72,Tryz.ntmps72
   go_wp2_with (first | (go_at_call 40;(with_reducible refine (ul.calls k _ _ l0 false _ ?side1 ?side2 A2.out).mono ?_);(case side1 => repeat (first | exact HR0.out | (with_reducible refine Kd.C_alloc ?_ _) | (with_reducible refine Kd.C_drewN ?_ _) | (with_reducible refine Kd.C_drew ?_)));(case side2 => exact HC0.out);rintro e w24 ⟨rfl,hb⟩;have n0_:=Aside0.mk (u1c (by repeat (first | (with_reducible first | exact HB.out | apply ud | apply ub | apply uf) | exact HB.out)) hb);clear HB;have HB:=n0_;clear n0_;(try clear hb);(try clear hb2);(try clear hk);(try clear hi)))
   repeat (go_quiet (first | (go_at_call 40;(with_reducible refine (ul.calls k _ _ l0 false _ ?side1 ?side2 A2.out).mono ?_);(case side1 => repeat (first | exact HR0.out | (with_reducible refine Kd.C_alloc ?_ _) | (with_reducible refine Kd.C_drewN ?_ _) | (with_reducible refine Kd.C_drew ?_)));(case side2 => exact HC0.out);rintro e w24 ⟨rfl,hb⟩;have n0_:=Aside0.mk (u1c (by repeat (first | (with_reducible first | exact HB.out | apply ud | apply ub | apply uf) | exact HB.out)) hb);clear HB;have HB:=n0_;clear n0_;(try clear hb);(try clear hb2);(try clear hk);(try clear hi)));try go_wp2_with (first | (go_at_call 40;(with_reducible refine (ul.calls k _ _ l0 false _ ?side1 ?side2 A2.out).mono ?_);(case side1 => repeat (first | exact HR0.out | (with_reducible refine Kd.C_alloc ?_ _) | (with_reducible refine Kd.C_drewN ?_ _) | (with_reducible refine Kd.C_drew ?_)));(case side2 => exact HC0.out);rintro e w24 ⟨rfl,hb⟩;have n0_:=Aside0.mk (u1c (by repeat (first | (with_reducible first | exact HB.out | apply ud | apply ub | apply uf) | exact HB.out)) hb);clear HB;have HB:=n0_;clear n0_;(try clear hb);(try clear hb2);(try clear hk);(try clear hi))))
   go_ret2
   exact ⟨by first | rfl | (simp [u1x,u1y] <;> rfl) | (simp [*,u1x,u1y] <;> rfl),by repeat (first | (with_reducible first | exact HB.out | apply ud | apply ub | apply uf) | exact HB.out)⟩
end Go.Proofs.YtmcpeifhapekoaaGreatDoor.PAll
namespace Go.Proofs.YtmcpeifhapekoaaGreatDoor.Laws
open Go.RowKit Go.Proofs.YtmcpeifhapekoaaGreatDoor.PAll Go.Proofs.YtmcpeifhapekoaaGreatDoorW.PrintWords Go.Proofs.YtmcpeifhapekoaaGreatDoorW.PrintLast
set_option linter.unusedVariables false
set_option linter.unusedSimpArgs false
def tailOf (i:Nat) (r:List (List UInt8)):List UInt8:=if i = 0 then Lib.join r [44] else Lib.joinTail [44] r
theorem rtext_l0 (l:List S66) (hl:l.length ≤ 8) (hok:∀ x ∈ l,Base.nameB x.f0 = true ∧ Base.valueB x.f1 = true):∀ (r:List S66) (i:Nat) (acc:ByteArray),l.drop i = r → i ≤ l.length → acc.size ≤ 108 * i →
 Ev (fun k => u1v.l0 k acc l (l.length:Int) (i:Int)) (Base.ofL (123 :: (acc.data.toList ++ tailOf i (r.map pieceL)) ++ [125]),0):=by
 intro r
 induction r with
 | nil =>
   intro i acc h hil ha
   have hi:l.length ≤ i:=List.drop_eq_nil_iff.1 h
   have e0:tailOf i (([]:List S66).map pieceL) = []:=by
    unfold tailOf
    split
    · rfl
    · rfl
   rw [e0]
   have e:Base.ofL (123 :: (acc.data.toList ++ []) ++ [125]) = ((⟨#[123]⟩:ByteArray) ++ acc) ++ (⟨#[125]⟩:ByteArray):=Base.ext_data (by
    rw [Base.ofL_data,Base.append_data,Base.append_data]
    simp)
   rw [e]
   refine Ev.step (f:=fun _ => some (((⟨#[123]⟩:ByteArray) ++ acc) ++ (⟨#[125]⟩:ByteArray),(0:Int))) (fun k => ?_) (Ev.now _)
   have hsz:((⟨#[123]⟩:ByteArray) ++ acc).size = 1 + acc.size:=by
    rw [Base.size_list,Base.append_data,List.length_append,← Base.size_list acc]
    rfl
   simp only [u1v.l0]
   rw [if_neg (by omega),if_pos (by omega),if_pos (by rw [hsz];omega)]
 | cons x r ih =>
   intro i acc h hil ha
   obtain ⟨hx,hi,hr⟩:=rd_drop l i x r h
   have hw:wrap64 ((i:Int) + 1) = ((i + 1:Nat):Int):=wrap_up i (by omega)
   have hmem:x ∈ l:=List.mem_of_mem_drop (by rw [h];simp)
   have hn:=nameB_size (hok x hmem).1
   have hv:=valueB_size (hok x hmem).2
   have hq:=quoteS_size x.f1
   have hqe:=rquote_ev x.f1 (by omega)
   have hps:(pieceS x).size ≤ 107:=by
    rw [Base.size_list,pieceS_data]
    exact piece_le (hok x hmem).1 (hok x hmem).2
   have hsz:(x.f0 ++ (⟨#[61]⟩:ByteArray)).size = x.f0.size + 1:=by
    rw [Base.size_list,Base.append_data,List.length_append,← Base.size_list]
    rfl
   by_cases h0:i = 0
   · subst h0
     have ih2:=ih 1 (acc ++ pieceS x) hr (by omega) (by
      rw [Base.size_list,Base.append_data,List.length_append,← Base.size_list,← Base.size_list]
      omega)
     have e:123 :: (acc.data.toList ++ tailOf 0 ((x :: r).map pieceL)) ++ [125] = 123 :: ((acc ++ pieceS x).data.toList ++ tailOf 1 (r.map pieceL)) ++ [125]:=by
      rw [Base.append_data,pieceS_data]
      simp only [tailOf,List.map_cons,if_true]
      rw [Lib.join_cons,if_neg (by omega)]
      simp
     rw [e]
     refine Ev.step (f:=fun k => (u1r.f k x.f1).bind fun t234 => (if (x.f0 ++ (⟨#[61]⟩:ByteArray)).size + t234.size ≤ 9223372036854775807 then (if acc.size + ((x.f0 ++ (⟨#[61]⟩:ByteArray)) ++ t234).size ≤ 9223372036854775807 then (u1v.l0 k (acc ++ ((x.f0 ++ (⟨#[61]⟩:ByteArray)) ++ t234)) l (l.length:Int) (wrap64 (((0:Nat):Int) + 1))) else (none)) else (none))) (fun k => ?_) (Ev.bind hqe ?_)
     · simp only [u1v.l0]
       rw [if_pos (by omega),if_pos (by omega),if_pos (by omega),hx,if_neg (by omega),if_pos (by omega)]
     · refine Ev.congr (fun k => ?_) ih2
       rw [hw]
       show (if (x.f0 ++ (⟨#[61]⟩:ByteArray)).size + (Base.quoteS x.f1).size ≤ 9223372036854775807 then (if acc.size + (pieceS x).size ≤ 9223372036854775807 then _ else none) else none) = _
       rw [if_pos (by rw [hsz];omega),if_pos (by omega)]
       rfl
   · have ih2:=ih (i + 1) ((acc ++ (⟨#[44]⟩:ByteArray)) ++ pieceS x) hr (by omega) (by
      rw [Base.size_list,Base.append_data,Base.append_data,List.length_append,List.length_append,← Base.size_list,← Base.size_list,← Base.size_list]
      have:(⟨#[44]⟩:ByteArray).size = 1:=rfl
      omega)
     have hsz2:(acc ++ (⟨#[44]⟩:ByteArray)).size = acc.size + 1:=by
      rw [Base.size_list,Base.append_data,List.length_append,← Base.size_list]
      rfl
     have e:123 :: (acc.data.toList ++ tailOf i ((x :: r).map pieceL)) ++ [125] = 123 :: (((acc ++ (⟨#[44]⟩:ByteArray)) ++ pieceS x).data.toList ++ tailOf (i + 1) (r.map pieceL)) ++ [125]:=by
      rw [Base.append_data,Base.append_data,pieceS_data]
      simp only [tailOf,List.map_cons]
      rw [if_neg h0,if_neg (by omega)]
      simp [Lib.joinTail]
     rw [e]
     refine Ev.step (f:=fun k => (u1r.f k x.f1).bind fun t233 => (if (x.f0 ++ (⟨#[61]⟩:ByteArray)).size + t233.size ≤ 9223372036854775807 then (if (acc ++ (⟨#[44]⟩:ByteArray)).size + ((x.f0 ++ (⟨#[61]⟩:ByteArray)) ++ t233).size ≤ 9223372036854775807 then (u1v.l0 k ((acc ++ (⟨#[44]⟩:ByteArray)) ++ ((x.f0 ++ (⟨#[61]⟩:ByteArray)) ++ t233)) l (l.length:Int) (wrap64 ((i:Int) + 1))) else (none)) else (none))) (fun k => ?_) (Ev.bind hqe ?_)
     · simp only [u1v.l0]
       rw [if_pos (by omega),if_pos (by omega),if_pos (by omega),hx,if_pos (by omega),if_pos (by omega),if_pos (by omega)]
     · refine Ev.congr (fun k => ?_) ih2
       rw [hw]
       show (if (x.f0 ++ (⟨#[61]⟩:ByteArray)).size + (Base.quoteS x.f1).size ≤ 9223372036854775807 then (if (acc ++ (⟨#[44]⟩:ByteArray)).size + (pieceS x).size ≤ 9223372036854775807 then _ else none) else none) = _
       rw [if_pos (by rw [hsz];omega),if_pos (by rw [hsz2];omega)]
       rfl
theorem rtext_ev (l:List S66) (hs:∀ y ∈ l,y.f0.size ≤ maxLen ∧ y.f1.size ≤ maxLen):Ev (fun k => u1v.f k l) (if canB l = true then (Base.ofL (textL l),0) else ((⟨#[]⟩:ByteArray),1)):=by
 refine Ev.bind (rcan_ev l hs) ?_
 cases hc:canB l with
 | false => exact Ev.congr (fun k => by simp) (Ev.now _)
 | true =>
   have h:=hc
   simp only [canB,Bool.and_eq_true,decide_eq_true_eq] at h
   have h2:=rtext_l0 l h.1.2 (okFrom_mem l [] h.2) l 0 ⟨#[]⟩ rfl (by omega) (by decide)
   have e:123 :: ((⟨#[]⟩:ByteArray).data.toList ++ tailOf 0 (l.map pieceL)) ++ [125] = textL l:=rfl
   rw [e] at h2
   exact Ev.congr (fun k => by rw [if_pos rfl];rfl) h2
end Go.Proofs.YtmcpeifhapekoaaGreatDoor.Laws
