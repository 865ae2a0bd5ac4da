/- A text of this seat. -/
import Derived.Test.YtmcpeifhapekoaaGreatDoorBk6
import Derived.Test.YtmcpeifhapekoaaGreatDoorBk3
import Derived.Test.YtmcpeifhapekoaaGreatDoorBk2
import Derived.Test.YtmcpeifhapekoaaGreatDoorBk1
import Derived.Test.YtmcpeifhapekoaaGreatDoorBk4
namespace Go.Proofs.YtmcpeifhapekoaaGreatDoor.PAll
open Go.RowKit Go.Proofs.YtmcpeifhapekoaaGreatDoorW.PrintWords Go.Proofs.YtmcpeifhapekoaaGreatDoorW.PrintLast Go.Proofs.YtmcpeifhapekoaaGreatDoorW.PrintMore
attribute [local go_sem] max2_int min2_int max_two min_two max_three min_three max_four min_four   -- for this text's walks alone
set_option linter.unusedVariables false
set_option linter.unusedSimpArgs false
-- uses dryrotref07_Name dryrotref07_Can dryrotref27_kind dryrotref27_plain dryrotref27_row text_scanner_peek text_scanner_sample text_printer_meta
def ue.wrongB (x:S34):Bool:=!Base.nameB x.f0 || ((!decide (x.f1 = Base.ofL [])) && !Tx.knownL x.f1.data.toList) || !Tx.plainL x.f2.data.toList || decide (900 < x.f2.size)
def ue.me (x:S34):Tx.Me:=(x.f0,x.f1,x.f2)
def ue.bi (s:List UInt8):List Int:=s.map fun c => (c.toNat:Int)
def ue.outB (l0:List S53) (l1:List S34):List Int × Int:=if l1.any ue.wrongB = true ∨ l0.any (fun r => !Laws.canB r.f0) = true then ([],1) else (ue.bi (Tx.printP l0 (l1.map ue.me)),0)
def ue.f:Option Int:=none
def ue.fits (l0:List S53) (l1:List S34):Prop:=(∀ x ∈ l1,x.f0.size ≤ 140737488351232 ∧ x.f2.size ≤ 140737488351232) ∧ (∀ r ∈ l0,(-9223372036854775808 ≤ r.f1 ∧ r.f1 ≤ 9223372036854775807 ∧ 0 ≤ r.f2 ∧ r.f2 ≤ 18446744073709551615) ∧ ∀ y ∈ r.f0,y.f0.size ≤ maxLen ∧ y.f1.size ≤ maxLen) ∧ l0.length ≤ 1000 ∧ l1.length ≤ 1000
theorem ue.of (s:ByteArray):Base.ofL s.data.toList = s:=Base.ext_data (Base.ofL_data _)
theorem ue.take_next {α:Type} (f:α → List UInt8) (l:List α) (i:Nat) (h:i < l.length):(l.take (i + 1)).flatMap f = (l.take i).flatMap f ++ f l[i]:=by
 rw [List.take_succ_eq_append_getElem h,List.flatMap_append]
 simp
theorem ue.take_mem {α:Type} {P:α → Prop} (l:List α) (i:Nat) (h:i < l.length) (h1:∀ x ∈ l.take i,P x) (h2:P l[i]):∀ x ∈ l.take (i + 1),P x:=by
 intro x hx
 rw [List.take_succ_eq_append_getElem h,List.mem_append] at hx
 rcases hx with hx | hx
 · exact h1 x hx
 · rw [List.mem_singleton.1 hx]
   exact h2
theorem ue.bi_get (s:List UInt8) (j:Nat) (h:j < s.length):(ue.bi s).getD j 0 = ((s.getD j 0).toNat:Int):=by
 unfold ue.bi
 rw [List.getD_eq_getElem?_getD,List.getD_eq_getElem?_getD,List.getElem?_map,List.getElem?_eq_getElem h]
 rfl
theorem ue.conv_C (W:World) (s:ByteArray) (hs:s.size ≤ 100000000):(Kd.int .u8).C (Lib.bytesWorld W 5 s) (some ⟨W.heap.size,0,none⟩) (ue.bi s.data.toList).length (ue.bi s.data.toList):=by
 have hl:(ue.bi s.data.toList).length = s.size:=by rw [ue.bi,List.length_map,u2k]
 refine Kd.C_of_reads (enc:=Value.int .u8) (d:=(0:Int)) (h1:=fun _ => rfl) ⟨rfl,by omega,fun _ => ⟨_,rfl,fun j hj => ?_⟩⟩
 have h1:=Lib.bytesWorld_cell W 5 s j (by omega)
 have h2:(⟨W.heap.size,0,none⟩:Addr).add j = ⟨W.heap.size,j,none⟩:=add_plain _ _
 rw [h2,h1,ue.bi_get _ _ (by rw [u2k];omega)]
theorem ue.conv_below (W:World) (s:ByteArray):Below W.heap.size W (Lib.bytesWorld W 5 s):=⟨rfl,rfl,rfl,by rw [Lib.bytesWorld_size];omega,fun k hk => Lib.bytesWorld_at_old W _ s k hk⟩
theorem ue.me_len (x:S34) (h:ue.wrongB x = false):(Tx.metaS (ue.me x)).length ≤ 2000:=by
 unfold ue.wrongB at h
 rw [Bool.or_eq_false_iff,Bool.or_eq_false_iff,Bool.or_eq_false_iff] at h
 have h1:=Laws.nameB_size (by have:=h.1.1.1;rw [Bool.not_eq_false'] at this;exact this)
 have h4:x.f2.size ≤ 900:=by have:=of_decide_eq_false h.2;omega
 refine Tx.metaS_len _ h1.2 ?_ h4
 by_cases hb:x.f1 = Base.ofL []
 · show x.f1.size ≤ 9
   rw [hb]
   decide
 · have h2:=h.1.1.2
   rw [decide_eq_false hb,Bool.not_false,Bool.true_and,Bool.not_eq_false'] at h2
   exact Tx.known_size h2
theorem ue.row_len (r:S53) (h:Laws.canB r.f0 = true) (hr : -9223372036854775808 ≤ r.f1 ∧ r.f1 ≤ 9223372036854775807 ∧ 0 ≤ r.f2 ∧ r.f2 ≤ 18446744073709551615):(Tx.rowL r ++ [10]).length ≤ 1001:=by
 have:=(Tx.row_back r 0 h hr.1 (by omega) hr.2.2.1 hr.2.2.2).2.2
 rw [List.length_append,List.length_singleton]
 omega
theorem ue.out_bad1 {l0:List S53} {l1:List S34} {y:S34} (hm:y ∈ l1) (h:ue.wrongB y = true):ue.outB l0 l1 = ([],1):=by
 unfold ue.outB
 rw [if_pos (Or.inl (List.any_eq_true.2 ⟨y,hm,h⟩))]
theorem ue.out_bad2 {l0:List S53} {l1:List S34} {y:S53} (hm:y ∈ l0) (h:Laws.canB y.f0 = false):ue.outB l0 l1 = ([],1):=by
 unfold ue.outB
 rw [if_pos (Or.inr (List.any_eq_true.2 ⟨y,hm,by rw [h];rfl⟩))]
set_option maxRecDepth 100000 in
set_option maxHeartbeats 8000000 in
theorem ue.walk (A0:Option Addr) (c0:Nat) (l0:List S53) (A1:Option Addr) (c1:Nat) (l1:List S34) (w:World) (hr0:Kd.C k53 w A0 l0.length l0) (hc0:l0.length ≤ c0) (hr1:Kd.C k34 w A1 l1.length l1) (hc1:l1.length ≤ c1) (hf:ue.fits l0 l1) :
 Calls Tryz.prog 14 #[.slice A0 l0.length c0,.slice A1 l1.length c1] w fun e w' => ∃ A c,e = .returned (.tuple #[.slice A (ue.outB l0 l1).1.length c,.int .i64 (ue.outB l0 l1).2]) ∧ Kd.C (Kd.int .u8) w' A (ue.outB l0 l1).1.length (ue.outB l0 l1).1 ∧ (ue.outB l0 l1).1.length ≤ c ∧ Below w.heap.size w w':=by
 have HC0:=Aside0.mk hr0
 have HC1:=Aside0.mk hr1
 have HF:=Aside0.mk hf
 have hn0:=hf.2.2.1
 have hn1:=hf.2.2.2
 have HB0:=Aside0.mk (Below.refl w.heap.size w)
 clear hr0 hr1 hf
 go_enter Tryz.func14,Tryz.ntmps14
 go_wp2
 go_loopw [6,13] (fun v6 v13 wr => ∃ (i:Nat) (o:ByteArray),v6 = .string o ∧ v13 = .int .i64 (i:Int) ∧ i ≤ l1.length ∧ Aside0 (o.data.toList = (l1.take i).flatMap (fun x => Tx.metaS (ue.me x))) ∧ Aside0 (∀ x ∈ l1.take i,ue.wrongB x = false) ∧ Aside0 (Below w.heap.size w wr)) (fun _ v13 _ => l1.length - (intOf v13).toNat)
 case atStart => exact ⟨0,_,rfl,rfl,Nat.zero_le _,⟨rfl⟩,⟨by simp⟩,HB0⟩
 case round =>
  clear HB0
  obtain ⟨i,o,rfl,rfl,hi,HO,HK,HB⟩:=hrel
  by_cases hlt:i < l1.length
  · obtain ⟨ad,ea,f0,f1,f2⟩:=at_T34 (Kd.C_below HC1.out HB.out) (i:Int) (by omega) (by omega)
    subst ea
    obtain ⟨y,hy⟩:∃ y,l1[i] = y:=⟨_,rfl⟩
    have HY:=Aside0.mk hy
    have hx9:rd_T34 l1 (i:Int) = y:=by rw [← hy];simp [rd_T34,List.getD_eq_getElem?_getD,hlt]
    rw [hx9] at f0 f1 f2
    have hmem:y ∈ l1:=by rw [← hy];exact List.getElem_mem hlt
    have hd0:wr.cell? (ad.add (i * 3)) = some (.string y.f0):=by simpa using f0
    have hd1:wr.cell? ⟨(ad.add (i * 3)).block,(ad.add (i * 3)).off + 1,none⟩ = some (.string y.f1):=by simpa using f1
    have hd2:wr.cell? ⟨(ad.add (i * 3)).block,(ad.add (i * 3)).off + 2,none⟩ = some (.string y.f2):=by simpa using f2
    have hq:decide ((i:Int) < (l1.length:Int)) = true:=decide_eq_true (by omega)
    have hq2:(i:Int) < (l1.length:Int):=by omega
    have HN:Aside0 ((l1.take (i + 1)).flatMap (fun x => Tx.metaS (ue.me x)) = (l1.take i).flatMap (fun x => Tx.metaS (ue.me x)) ++ Tx.metaS (ue.me y)):=⟨by rw [ue.take_next _ l1 i hlt,hy]⟩
    have hoz:o.size ≤ 2000000:=by
     have h1:=Tx.flat_len (fun x => Tx.metaS (ue.me x)) 2000 (l1.take i) (fun x hx => ue.me_len x (HK.out x hx))
     rw [← HO.out,← Base.size_list] at h1
     have h2:=List.length_take_le i l1
     omega
    have hl:=HF.out.1 y hmem
    have HZ1:=Aside0.mk (ud (Below.refl wr.heap.size wr) (.cells #[.string y.f0,.string y.f1,.string y.f2] 34))
    have HN1:=Aside0.mk (ua.new_at wr (.cells #[.string y.f0,.string y.f1,.string y.f2] 34))
    have HPL:Aside0 (∀ W,Calls Tryz.prog 39 #[.string y.f2] W fun e w' => e = .returned (.bool (Tx.plainL y.f2.data.toList)) ∧ Below W.heap.size W w'):=⟨fun W => by
     obtain ⟨k,hk⟩:=(Tx.plain9_ev y.f2.data.toList (by rw [u2k];omega)).rounds
     rw [ue.of] at hk
     exact (u2i.calls k _ _ W hk).mono fun e w' ⟨h1,h2⟩ => ⟨h1,h2.below⟩⟩
    have HKN:Aside0 (∀ W,Calls Tryz.prog 38 #[.string y.f1] W fun e w' => e = .returned (.bool (Tx.knownL y.f1.data.toList)) ∧ Below W.heap.size W w'):=⟨fun W => by
     obtain ⟨k,hk⟩:=(Tx.kind9_ev y.f1.data.toList).rounds
     rw [ue.of] at hk
     exact u2l.calls k _ _ W hk⟩
    have HNM:Aside0 (∀ W,Calls Tryz.prog 37 #[.string y.f0] W fun e w' => e = .returned (.bool (Base.nameB y.f0)) ∧ Below W.heap.size W w'):=⟨fun W => by
     obtain ⟨k,hk⟩:=(Laws.rname_ev y.f0 (by omega)).rounds
     exact (uv.calls k _ _ W hk).mono fun e w' ⟨h1,h2⟩ => ⟨h1,h2.below⟩⟩
    clear f0 f1 f2 hx9 hy hl
    cases hna:Base.nameB y.f0 with
    | false =>
      rw [hna] at HNM
      have HW:=Aside0.mk (ue.out_bad1 (l0:=l0) hmem (by unfold ue.wrongB;simp [*]))
      go_wp2_with (first
       | (go_at_call 37;(with_reducible refine (HNM.out _).mono ?_);rintro e W2 ⟨rfl,hb2⟩;have HZ2:=Aside0.mk (ui HZ1.out HZ1.out.size hb2);obtain ⟨⟨n0,n1,n2⟩,n3⟩:=uc.look3 (ua.below_at hb2 HN1.out);have HN2:=Aside0.mk (ua.below_at hb2 HN1.out);clear hb2))
      go_ret2
      exact ⟨none,0,by rw [HW.out];rfl,by rw [HW.out];exact Kd.C_nil _ _,by rw [HW.out];exact Nat.le_refl _,ui HB.out HB.out.size HZ2.out⟩
    | true =>
      rw [hna] at HNM
      have hnz:Aside0 (y.f0.size ≤ 24):=⟨(Laws.nameB_size hna).2⟩
      by_cases hb:y.f1 = Base.ofL []
      · have b1:=u1y.emp hb
        have HE:Aside0 (y.f1 = Base.ofL []):=⟨hb⟩
        clear hb
        cases hp:Tx.plainL y.f2.data.toList with
        | false =>
          rw [hp] at HPL
          have HW:=Aside0.mk (ue.out_bad1 (l0:=l0) hmem (by unfold ue.wrongB;simp [*]))
          go_wp2_with (first
           | (go_at_call 37;(with_reducible refine (HNM.out _).mono ?_);rintro e W2 ⟨rfl,hb2⟩;have HZ2:=Aside0.mk (ui HZ1.out HZ1.out.size hb2);obtain ⟨⟨n0,n1,n2⟩,n3⟩:=uc.look3 (ua.below_at hb2 HN1.out);have HN2:=Aside0.mk (ua.below_at hb2 HN1.out);clear hb2)
           | (go_at_call 39;(with_reducible refine (HPL.out _).mono ?_);rintro e W4 ⟨rfl,hb4⟩;have HZ4:=Aside0.mk (ui HZ2.out HZ2.out.size hb4);clear n0 n1 n2 n3;obtain ⟨⟨n0,n1,n2⟩,n3⟩:=uc.look3 (ua.below_at hb4 HN2.out);clear hb4))
          go_ret2
          exact ⟨none,0,by rw [HW.out];rfl,by rw [HW.out];exact Kd.C_nil _ _,by rw [HW.out];exact Nat.le_refl _,ui HB.out HB.out.size HZ4.out⟩
        | true =>
          rw [hp] at HPL
          by_cases h9:900 < y.f2.size
          · have HW:=Aside0.mk (ue.out_bad1 (l0:=l0) hmem (by unfold ue.wrongB;simp [*]))
            have s1:decide ((900:Int) < (y.f2.size:Int)) = true:=decide_eq_true (by omega)
            have s2:decide (900 < y.f2.size) = true:=decide_eq_true h9
            go_wp2_with (first
             | (go_at_call 37;(with_reducible refine (HNM.out _).mono ?_);rintro e W2 ⟨rfl,hb2⟩;have HZ2:=Aside0.mk (ui HZ1.out HZ1.out.size hb2);obtain ⟨⟨n0,n1,n2⟩,n3⟩:=uc.look3 (ua.below_at hb2 HN1.out);have HN2:=Aside0.mk (ua.below_at hb2 HN1.out);clear hb2)
             | (go_at_call 39;(with_reducible refine (HPL.out _).mono ?_);rintro e W4 ⟨rfl,hb4⟩;have HZ4:=Aside0.mk (ui HZ2.out HZ2.out.size hb4);clear n0 n1 n2 n3;obtain ⟨⟨n0,n1,n2⟩,n3⟩:=uc.look3 (ua.below_at hb4 HN2.out);clear hb4))
            go_ret2
            exact ⟨none,0,by rw [HW.out];rfl,by rw [HW.out];exact Kd.C_nil _ _,by rw [HW.out];exact Nat.le_refl _,ui HB.out HB.out.size HZ4.out⟩
          · have HK:Aside0 (∀ x ∈ l1.take (i + 1),ue.wrongB x = false):=⟨ue.take_mem l1 i hlt HK.out (by rw [HY.out];unfold ue.wrongB;rw [hna,hp,decide_eq_false h9,decide_eq_true HE.out];rfl)⟩
            have hpl:Aside0 (y.f2.size ≤ 900):=⟨by omega⟩
            have s1:decide ((900:Int) < (y.f2.size:Int)) = false:=decide_eq_false (by omega)
            have s2:decide (900 < y.f2.size) = false:=decide_eq_false h9
            clear hp h9
            by_cases hh:y.f2 = Base.ofL []
            · have h1:=u1y.emp hh
              have HM:Aside0 (Tx.metaS (ue.me y) = []):=⟨by rw [Tx.metaS_is];simp [ue.me,hh,HE.out]⟩
              clear hh
              go_wp2_with (first
               | (go_at_call 37;(with_reducible refine (HNM.out _).mono ?_);rintro e W2 ⟨rfl,hb2⟩;have HZ2:=Aside0.mk (ui HZ1.out HZ1.out.size hb2);obtain ⟨⟨n0,n1,n2⟩,n3⟩:=uc.look3 (ua.below_at hb2 HN1.out);have HN2:=Aside0.mk (ua.below_at hb2 HN1.out);clear hb2)
               | (go_at_call 39;(with_reducible refine (HPL.out _).mono ?_);rintro e W4 ⟨rfl,hb4⟩;have HZ4:=Aside0.mk (ui HZ2.out HZ2.out.size hb4);clear n0 n1 n2 n3;obtain ⟨⟨n0,n1,n2⟩,n3⟩:=uc.look3 (ua.below_at hb4 HN2.out);clear hb4))
              go_roundw
              case rel => exact ⟨i + 1,_,rfl,by go_num,by omega,⟨by rw [HN.out];simp [HM.out,HO.out,Base.append_data,Base.ofL_data,Tx.helpW,Tx.typeW]⟩,HK,⟨ui HB.out HB.out.size HZ4.out⟩⟩
              case measure => simp [intOf];omega
            · have h1:=u1y.nonemp hh
              have HM:Aside0 (Tx.metaS (ue.me y) = (Tx.helpW ++ (y.f0.data.toList ++ 32 :: y.f2.data.toList) ++ [10]) ++ ([])):=⟨by rw [Tx.metaS_is];simp [ue.me,hh,HE.out]⟩
              clear hh
              have z0:(9223372036854775807 < 7 + y.f0.size) = False:=eq_false (by have:=hnz.out;have:=hpl.out;omega)
              have z1:(9223372036854775807 < 7 + y.f0.size + 1) = False:=eq_false (by have:=hnz.out;have:=hpl.out;omega)
              have z2:(9223372036854775807 < 7 + y.f0.size + 1 + y.f2.size) = False:=eq_false (by have:=hnz.out;have:=hpl.out;omega)
              have z3:(9223372036854775807 < 7 + y.f0.size + 1 + y.f2.size + 1) = False:=eq_false (by have:=hnz.out;have:=hpl.out;omega)
              have z4:(9223372036854775807 < o.size + (7 + y.f0.size + 1 + y.f2.size + 1)) = False:=eq_false (by have:=hnz.out;have:=hpl.out;omega)
              go_wp2_with (first
               | (go_at_call 37;(with_reducible refine (HNM.out _).mono ?_);rintro e W2 ⟨rfl,hb2⟩;have HZ2:=Aside0.mk (ui HZ1.out HZ1.out.size hb2);obtain ⟨⟨n0,n1,n2⟩,n3⟩:=uc.look3 (ua.below_at hb2 HN1.out);have HN2:=Aside0.mk (ua.below_at hb2 HN1.out);clear hb2)
               | (go_at_call 39;(with_reducible refine (HPL.out _).mono ?_);rintro e W4 ⟨rfl,hb4⟩;have HZ4:=Aside0.mk (ui HZ2.out HZ2.out.size hb4);clear n0 n1 n2 n3;obtain ⟨⟨n0,n1,n2⟩,n3⟩:=uc.look3 (ua.below_at hb4 HN2.out);clear hb4))
              go_roundw
              case rel => exact ⟨i + 1,_,rfl,by go_num,by omega,⟨by rw [HN.out];simp [HM.out,HO.out,Base.append_data,Base.ofL_data,Tx.helpW,Tx.typeW]⟩,HK,⟨ui HB.out HB.out.size HZ4.out⟩⟩
              case measure => simp [intOf];omega
      · have b1:=u1y.nonemp hb
        have HE:Aside0 (¬ y.f1 = Base.ofL []):=⟨hb⟩
        clear hb
        cases hk:Tx.knownL y.f1.data.toList with
        | false =>
          rw [hk] at HKN
          have hne:=HE.out
          have HW:=Aside0.mk (ue.out_bad1 (l0:=l0) hmem (by unfold ue.wrongB;simp [*]))
          clear hne
          go_wp2_with (first
           | (go_at_call 37;(with_reducible refine (HNM.out _).mono ?_);rintro e W2 ⟨rfl,hb2⟩;have HZ2:=Aside0.mk (ui HZ1.out HZ1.out.size hb2);obtain ⟨⟨n0,n1,n2⟩,n3⟩:=uc.look3 (ua.below_at hb2 HN1.out);have HN2:=Aside0.mk (ua.below_at hb2 HN1.out);clear hb2)
           | (go_at_call 38;(with_reducible refine (HKN.out _).mono ?_);rintro e W3 ⟨rfl,hb3⟩;have HZ3:=Aside0.mk (ui HZ2.out HZ2.out.size hb3);clear n0 n1 n2 n3;obtain ⟨⟨n0,n1,n2⟩,n3⟩:=uc.look3 (ua.below_at hb3 HN2.out);have HN3:=Aside0.mk (ua.below_at hb3 HN2.out);clear hb3))
          go_ret2
          exact ⟨none,0,by rw [HW.out];rfl,by rw [HW.out];exact Kd.C_nil _ _,by rw [HW.out];exact Nat.le_refl _,ui HB.out HB.out.size HZ3.out⟩
        | true =>
          rw [hk] at HKN
          have hkz:Aside0 (y.f1.size ≤ 9):=⟨Tx.known_size hk⟩
          cases hp:Tx.plainL y.f2.data.toList with
          | false =>
            rw [hp] at HPL
            have HW:=Aside0.mk (ue.out_bad1 (l0:=l0) hmem (by unfold ue.wrongB;simp [*]))
            go_wp2_with (first
             | (go_at_call 37;(with_reducible refine (HNM.out _).mono ?_);rintro e W2 ⟨rfl,hb2⟩;have HZ2:=Aside0.mk (ui HZ1.out HZ1.out.size hb2);obtain ⟨⟨n0,n1,n2⟩,n3⟩:=uc.look3 (ua.below_at hb2 HN1.out);have HN2:=Aside0.mk (ua.below_at hb2 HN1.out);clear hb2)
             | (go_at_call 38;(with_reducible refine (HKN.out _).mono ?_);rintro e W3 ⟨rfl,hb3⟩;have HZ3:=Aside0.mk (ui HZ2.out HZ2.out.size hb3);clear n0 n1 n2 n3;obtain ⟨⟨n0,n1,n2⟩,n3⟩:=uc.look3 (ua.below_at hb3 HN2.out);have HN3:=Aside0.mk (ua.below_at hb3 HN2.out);clear hb3)
             | (go_at_call 39;(with_reducible refine (HPL.out _).mono ?_);rintro e W4 ⟨rfl,hb4⟩;have HZ4:=Aside0.mk (ui HZ3.out HZ3.out.size hb4);clear n0 n1 n2 n3;obtain ⟨⟨n0,n1,n2⟩,n3⟩:=uc.look3 (ua.below_at hb4 HN3.out);clear hb4))
            go_ret2
            exact ⟨none,0,by rw [HW.out];rfl,by rw [HW.out];exact Kd.C_nil _ _,by rw [HW.out];exact Nat.le_refl _,ui HB.out HB.out.size HZ4.out⟩
          | true =>
            rw [hp] at HPL
            by_cases h9:900 < y.f2.size
            · have HW:=Aside0.mk (ue.out_bad1 (l0:=l0) hmem (by unfold ue.wrongB;simp [*]))
              have s1:decide ((900:Int) < (y.f2.size:Int)) = true:=decide_eq_true (by omega)
              have s2:decide (900 < y.f2.size) = true:=decide_eq_true h9
              go_wp2_with (first
               | (go_at_call 37;(with_reducible refine (HNM.out _).mono ?_);rintro e W2 ⟨rfl,hb2⟩;have HZ2:=Aside0.mk (ui HZ1.out HZ1.out.size hb2);obtain ⟨⟨n0,n1,n2⟩,n3⟩:=uc.look3 (ua.below_at hb2 HN1.out);have HN2:=Aside0.mk (ua.below_at hb2 HN1.out);clear hb2)
               | (go_at_call 38;(with_reducible refine (HKN.out _).mono ?_);rintro e W3 ⟨rfl,hb3⟩;have HZ3:=Aside0.mk (ui HZ2.out HZ2.out.size hb3);clear n0 n1 n2 n3;obtain ⟨⟨n0,n1,n2⟩,n3⟩:=uc.look3 (ua.below_at hb3 HN2.out);have HN3:=Aside0.mk (ua.below_at hb3 HN2.out);clear hb3)
               | (go_at_call 39;(with_reducible refine (HPL.out _).mono ?_);rintro e W4 ⟨rfl,hb4⟩;have HZ4:=Aside0.mk (ui HZ3.out HZ3.out.size hb4);clear n0 n1 n2 n3;obtain ⟨⟨n0,n1,n2⟩,n3⟩:=uc.look3 (ua.below_at hb4 HN3.out);clear hb4))
              go_ret2
              exact ⟨none,0,by rw [HW.out];rfl,by rw [HW.out];exact Kd.C_nil _ _,by rw [HW.out];exact Nat.le_refl _,ui HB.out HB.out.size HZ4.out⟩
            · have HK:Aside0 (∀ x ∈ l1.take (i + 1),ue.wrongB x = false):=⟨ue.take_mem l1 i hlt HK.out (by rw [HY.out];unfold ue.wrongB;rw [hna,hp,decide_eq_false h9,hk,Bool.not_true,Bool.and_false];rfl)⟩
              have hpl:Aside0 (y.f2.size ≤ 900):=⟨by omega⟩
              have s1:decide ((900:Int) < (y.f2.size:Int)) = false:=decide_eq_false (by omega)
              have s2:decide (900 < y.f2.size) = false:=decide_eq_false h9
              clear hp h9
              by_cases hh:y.f2 = Base.ofL []
              · have h1:=u1y.emp hh
                have HM:Aside0 (Tx.metaS (ue.me y) = Tx.typeW ++ (y.f0.data.toList ++ 32 :: y.f1.data.toList) ++ [10]):=⟨by rw [Tx.metaS_is];simp [ue.me,hh,HE.out]⟩
                clear hh
                have z0:(9223372036854775807 < 7 + y.f0.size) = False:=eq_false (by have:=hnz.out;have:=hpl.out;have:=hkz.out;omega)
                have z1:(9223372036854775807 < 7 + y.f0.size + 1) = False:=eq_false (by have:=hnz.out;have:=hpl.out;have:=hkz.out;omega)
                have z2:(9223372036854775807 < 7 + y.f0.size + 1 + y.f1.size) = False:=eq_false (by have:=hnz.out;have:=hpl.out;have:=hkz.out;omega)
                have z3:(9223372036854775807 < 7 + y.f0.size + 1 + y.f1.size + 1) = False:=eq_false (by have:=hnz.out;have:=hpl.out;have:=hkz.out;omega)
                have z4:(9223372036854775807 < o.size + (7 + y.f0.size + 1 + y.f1.size + 1)) = False:=eq_false (by have:=hnz.out;have:=hpl.out;have:=hkz.out;omega)
                go_wp2_with (first
                 | (go_at_call 37;(with_reducible refine (HNM.out _).mono ?_);rintro e W2 ⟨rfl,hb2⟩;have HZ2:=Aside0.mk (ui HZ1.out HZ1.out.size hb2);obtain ⟨⟨n0,n1,n2⟩,n3⟩:=uc.look3 (ua.below_at hb2 HN1.out);have HN2:=Aside0.mk (ua.below_at hb2 HN1.out);clear hb2)
                 | (go_at_call 38;(with_reducible refine (HKN.out _).mono ?_);rintro e W3 ⟨rfl,hb3⟩;have HZ3:=Aside0.mk (ui HZ2.out HZ2.out.size hb3);clear n0 n1 n2 n3;obtain ⟨⟨n0,n1,n2⟩,n3⟩:=uc.look3 (ua.below_at hb3 HN2.out);have HN3:=Aside0.mk (ua.below_at hb3 HN2.out);clear hb3)
                 | (go_at_call 39;(with_reducible refine (HPL.out _).mono ?_);rintro e W4 ⟨rfl,hb4⟩;have HZ4:=Aside0.mk (ui HZ3.out HZ3.out.size hb4);clear n0 n1 n2 n3;obtain ⟨⟨n0,n1,n2⟩,n3⟩:=uc.look3 (ua.below_at hb4 HN3.out);clear hb4))
                go_roundw
                case rel => exact ⟨i + 1,_,rfl,by go_num,by omega,⟨by rw [HN.out];simp [HM.out,HO.out,Base.append_data,Base.ofL_data,Tx.helpW,Tx.typeW]⟩,HK,⟨ui HB.out HB.out.size HZ4.out⟩⟩
                case measure => simp [intOf];omega
              · have h1:=u1y.nonemp hh
                have HM:Aside0 (Tx.metaS (ue.me y) = (Tx.helpW ++ (y.f0.data.toList ++ 32 :: y.f2.data.toList) ++ [10]) ++ (Tx.typeW ++ (y.f0.data.toList ++ 32 :: y.f1.data.toList) ++ [10])):=⟨by rw [Tx.metaS_is];simp [ue.me,hh,HE.out]⟩
                clear hh
                have z0:(9223372036854775807 < 7 + y.f0.size) = False:=eq_false (by have:=hnz.out;have:=hpl.out;have:=hkz.out;omega)
                have z1:(9223372036854775807 < 7 + y.f0.size + 1) = False:=eq_false (by have:=hnz.out;have:=hpl.out;have:=hkz.out;omega)
                have z2:(9223372036854775807 < 7 + y.f0.size + 1 + y.f2.size) = False:=eq_false (by have:=hnz.out;have:=hpl.out;have:=hkz.out;omega)
                have z3:(9223372036854775807 < 7 + y.f0.size + 1 + y.f2.size + 1) = False:=eq_false (by have:=hnz.out;have:=hpl.out;have:=hkz.out;omega)
                have z4:(9223372036854775807 < o.size + (7 + y.f0.size + 1 + y.f2.size + 1)) = False:=eq_false (by have:=hnz.out;have:=hpl.out;have:=hkz.out;omega)
                have z5:(9223372036854775807 < 7 + y.f0.size + 1 + y.f1.size) = False:=eq_false (by have:=hnz.out;have:=hpl.out;have:=hkz.out;omega)
                have z6:(9223372036854775807 < 7 + y.f0.size + 1 + y.f1.size + 1) = False:=eq_false (by have:=hnz.out;have:=hpl.out;have:=hkz.out;omega)
                have z7:(9223372036854775807 < o.size + (7 + y.f0.size + 1 + y.f2.size + 1) + (7 + y.f0.size + 1 + y.f1.size + 1)) = False:=eq_false (by have:=hnz.out;have:=hpl.out;have:=hkz.out;omega)
                go_wp2_with (first
                 | (go_at_call 37;(with_reducible refine (HNM.out _).mono ?_);rintro e W2 ⟨rfl,hb2⟩;have HZ2:=Aside0.mk (ui HZ1.out HZ1.out.size hb2);obtain ⟨⟨n0,n1,n2⟩,n3⟩:=uc.look3 (ua.below_at hb2 HN1.out);have HN2:=Aside0.mk (ua.below_at hb2 HN1.out);clear hb2)
                 | (go_at_call 38;(with_reducible refine (HKN.out _).mono ?_);rintro e W3 ⟨rfl,hb3⟩;have HZ3:=Aside0.mk (ui HZ2.out HZ2.out.size hb3);clear n0 n1 n2 n3;obtain ⟨⟨n0,n1,n2⟩,n3⟩:=uc.look3 (ua.below_at hb3 HN2.out);have HN3:=Aside0.mk (ua.below_at hb3 HN2.out);clear hb3)
                 | (go_at_call 39;(with_reducible refine (HPL.out _).mono ?_);rintro e W4 ⟨rfl,hb4⟩;have HZ4:=Aside0.mk (ui HZ3.out HZ3.out.size hb4);clear n0 n1 n2 n3;obtain ⟨⟨n0,n1,n2⟩,n3⟩:=uc.look3 (ua.below_at hb4 HN3.out);clear hb4))
                go_roundw
                case rel => exact ⟨i + 1,_,rfl,by go_num,by omega,⟨by rw [HN.out];simp [HM.out,HO.out,Base.append_data,Base.ofL_data,Tx.helpW,Tx.typeW]⟩,HK,⟨ui HB.out HB.out.size HZ4.out⟩⟩
                case measure => simp [intOf];omega
  · have hq:decide ((i:Int) < (l1.length:Int)) = false:=decide_eq_false (by omega)
    have hq2:decide (i < l1.length) = false:=decide_eq_false hlt
    rw [List.take_of_length_le (by omega)] at HO HK
    have hoz:o.size ≤ 2000000:=by
     have h1:=Tx.flat_len (fun x => Tx.metaS (ue.me x)) 2000 l1 (fun x hx => ue.me_len x (HK.out x hx))
     rw [← HO.out,← Base.size_list] at h1
     omega
    have HOZ:=Aside0.mk hoz
    clear hlt hoz
    go_wp2
    go_loopw [6,73] (fun v6 v73 wr => ∃ (j:Nat) (q:ByteArray),v6 = .string q ∧ v73 = .int .i64 (j:Int) ∧ j ≤ l0.length ∧ Aside0 (q.data.toList = o.data.toList ++ (l0.take j).flatMap (fun r => Tx.rowL r ++ [10])) ∧ Aside0 (∀ r ∈ l0.take j,Laws.canB r.f0 = true) ∧ Aside0 (Below w.heap.size w wr)) (fun _ v73 _ => l0.length - (intOf v73).toNat)
    case atStart => exact ⟨0,_,rfl,rfl,Nat.zero_le _,⟨by simp⟩,⟨by simp⟩,HB⟩
    case round =>
     clear HB
     obtain ⟨j,q,rfl,rfl,hj,HQ,HCN,HB⟩:=hrel
     have hqz:q.size ≤ 4000000:=by
      have h1:=Tx.flat_len (fun r:S53 => Tx.rowL r ++ [10]) 1001 (l0.take j) (fun r hr => ue.row_len r (HCN.out r hr) (HF.out.2.1 r (List.mem_of_mem_take hr)).1)
      have h2:=List.length_take_le j l0
      have h3:=congrArg List.length HQ.out
      have h4:=HOZ.out
      rw [List.length_append,← Base.size_list,← Base.size_list] at h3
      have h5:=Nat.le_trans (Nat.le_of_eq h3) (Nat.add_le_add_left h1 _)
      omega
     by_cases hlt:j < l0.length
     · obtain ⟨ad,A2,c2,ea,f0,f1,f2,gl,gc⟩:=at_T53 (Kd.C_below HC0.out HB.out) (j:Int) (by omega) (by omega)
       subst ea
       obtain ⟨y,hy⟩:∃ y,l0[j] = y:=⟨_,rfl⟩
       have HY:=Aside0.mk hy
       have hx9:rd_T53 l0 (j:Int) = y:=by rw [← hy];simp [rd_T53,List.getD_eq_getElem?_getD,hlt]
       rw [hx9] at f0 f1 f2 gl gc
       have hmem:y ∈ l0:=by rw [← hy];exact List.getElem_mem hlt
       have hd0:wr.cell? (ad.add (j * 3)) = some (.slice A2 y.f0.length c2):=by simpa using f0
       have hd1:wr.cell? ⟨(ad.add (j * 3)).block,(ad.add (j * 3)).off + 1,none⟩ = some (.int .i64 y.f1):=by simpa using f1
       have hd2:wr.cell? ⟨(ad.add (j * 3)).block,(ad.add (j * 3)).off + 2,none⟩ = some (.int .u64 y.f2):=by simpa using f2
       have hq:decide ((j:Int) < (l0.length:Int)) = true:=decide_eq_true (by omega)
       have hq2:(j:Int) < (l0.length:Int):=by omega
       have hz1:=ud (Below.refl wr.heap.size wr) (.cells #[.slice A2 y.f0.length c2,.int .i64 y.f1,.int .u64 y.f2] 53)
       have HZ1:=Aside0.mk hz1
       have HN1:=Aside0.mk (ua.new_at wr (.cells #[.slice A2 y.f0.length c2,.int .i64 y.f1,.int .u64 y.f2] 53))
       have HG:=Aside0.mk (Kd.C_below gc hz1)
       have HL:=Aside0.mk gl
       obtain ⟨kc,hkc⟩:=(Laws.rcan_ev y.f0 (HF.out.2.1 y hmem).2).rounds
       have HCC:=Aside0.mk (ur.calls kc A2 c2 y.f0 _ (wr.alloc (.cells #[.slice A2 y.f0.length c2,.int .i64 y.f1,.int .u64 y.f2] 53)) HG.out gl hkc)
       clear f0 f1 f2 hx9 hy hz1 gc gl hkc
       cases hcan:Laws.canB y.f0 with
       | false =>
         rw [hcan] at HCC
         have HW:=Aside0.mk (ue.out_bad2 (l1:=l1) hmem hcan)
         go_wp2_with (go_at_call 40;(with_reducible refine HCC.out.mono ?_);rintro e W2 ⟨rfl,hb2⟩;have HZ2:=Aside0.mk (ui HZ1.out HZ1.out.size hb2);obtain ⟨⟨n0,n1,n2⟩,n3⟩:=uc.look3 (ua.below_at hb2 HN1.out);clear hb2)
         go_ret2
         exact ⟨none,0,by rw [HW.out];rfl,by rw [HW.out];exact Kd.C_nil _ _,by rw [HW.out];exact Nat.le_refl _,ui HB.out HB.out.size HZ2.out⟩
       | true =>
         rw [hcan] at HCC
         have HT:=Aside0.mk (HF.out.2.1 y hmem).1
         obtain ⟨kr,hkr⟩:=(Tx.rrow_ev y hcan HT.out.1 HT.out.2.1 HT.out.2.2.1 HT.out.2.2.2).rounds
         have HRC:Aside0 (∀ W,Below wr.heap.size wr W → Kd.C k66 W A2 y.f0.length y.f0 → Calls Tryz.prog 41 #[.agg #[.slice A2 y.f0.length c2,.int .i64 y.f1,.int .u64 y.f2]] W fun e w' => e = .returned (.string (Base.ofL (Tx.rowL y ++ [10]))) ∧ Below W.heap.size W w'):=⟨fun W _ hC => u1l.calls kr A2 c2 y.f0 y.f1 y.f2 _ W hC HL.out hkr⟩
         have hrz:(Base.ofL (Tx.rowL y ++ [10])).size ≤ 1001:=by
          rw [Base.size_list,Base.ofL_data]
          exact ue.row_len y hcan HT.out
         have z0:(9223372036854775807 < q.size + (Base.ofL (Tx.rowL y ++ [10])).size) = False:=eq_false (by omega)
         have HN:Aside0 ((l0.take (j + 1)).flatMap (fun r => Tx.rowL r ++ [10]) = (l0.take j).flatMap (fun r => Tx.rowL r ++ [10]) ++ (Tx.rowL y ++ [10])):=⟨by rw [ue.take_next _ l0 j hlt,HY.out]⟩
         have HK2:Aside0 (∀ r ∈ l0.take (j + 1),Laws.canB r.f0 = true):=⟨ue.take_mem l0 j hlt HCN.out (by rw [HY.out];exact hcan)⟩
         clear hkr hrz hcan
         go_wp2_with (first
          | (go_at_call 40;(with_reducible refine HCC.out.mono ?_);rintro e W2 ⟨rfl,hb2⟩;have HZ2:=Aside0.mk (ui HZ1.out HZ1.out.size hb2);obtain ⟨⟨n0,n1,n2⟩,n3⟩:=uc.look3 (ua.below_at hb2 HN1.out);have HN2:=Aside0.mk (ua.below_at hb2 HN1.out);have HG2:=Aside0.mk (Kd.C_below HG.out hb2);clear hb2)
          | (go_at_call 41;(with_reducible refine (HRC.out _ HZ2.out HG2.out).mono ?_);rintro e W3 ⟨rfl,hb3⟩;have HZ3:=Aside0.mk (ui HZ2.out HZ2.out.size hb3);clear hb3))
         go_roundw
         case rel => exact ⟨j + 1,_,rfl,by go_num,by omega,⟨by rw [HN.out,Base.append_data,HQ.out,Base.ofL_data,List.append_assoc]⟩,HK2,⟨ui HB.out HB.out.size HZ3.out⟩⟩
         case measure => simp [intOf];omega
     · have hq:decide ((j:Int) < (l0.length:Int)) = false:=decide_eq_false (by omega)
       have hq2:decide (j < l0.length) = false:=decide_eq_false hlt
       rw [List.take_of_length_le (by omega)] at HQ HCN
       have HOUT:Aside0 (ue.outB l0 l1 = (ue.bi q.data.toList,0)):=⟨by
        unfold ue.outB
        rw [if_neg,Tx.printP_is,HQ.out,HO.out,List.flatMap_map]
        rintro (h | h)
        · obtain ⟨x,hx,hx2⟩:=List.any_eq_true.1 h
          rw [HK.out x hx] at hx2
          cases hx2
        · obtain ⟨x,hx,hx2⟩:=List.any_eq_true.1 h
          rw [HCN.out x hx] at hx2
          cases hx2⟩
       have hbl8:(ue.bi q.data.toList).length = q.size:=by rw [ue.bi,List.length_map,u2k]
       have HBL:=Aside0.mk hbl8
       have HQC:=Aside0.mk (ue.conv_C wr q (by omega))
       have HQB:=Aside0.mk (ui HB.out HB.out.size (ue.conv_below wr q))
       have hcv:=Lib.run_convert_string_bytes (P:=Tryz.prog) wr 9 22 5 q Tryz.underlying9 Tryz.underlying22 Tryz.underlying5
       clear hlt hbl8
       go_wp2
       go_ret2
       exact ⟨some ⟨wr.heap.size,0,none⟩,grownCap wr q.size 0 5,by rw [HOUT.out];simp only [HBL.out];rfl,by rw [HOUT.out];exact HQC.out,by rw [HOUT.out];simp only [HBL.out];exact grownCap_ge _ _ _ _,HQB.out⟩
end Go.Proofs.YtmcpeifhapekoaaGreatDoor.PAll
