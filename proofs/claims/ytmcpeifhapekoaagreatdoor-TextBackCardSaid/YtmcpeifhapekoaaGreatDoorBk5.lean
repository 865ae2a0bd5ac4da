/- Texts of this seat, joined in the order in which they build. -/
import Derived.Test.YtmcpeifhapekoaaGreatDoorBk3
import Derived.Test.YtmcpeifhapekoaaGreatDoorBk4
import Derived.Test.YtmcpeifhapekoaaGreatDoorBk2
import Derived.Test.YtmcpeifhapekoaaGreatDoorBk1
namespace Go.Proofs.YtmcpeifhapekoaaGreatDoor.Tx
open Go.RowKit Go.Proofs.YtmcpeifhapekoaaGreatDoor.PAll Go.Proofs.YtmcpeifhapekoaaGreatDoorW.PrintWords Go.Proofs.YtmcpeifhapekoaaGreatDoorW.PrintLast
open Go.Proofs.YtmcpeifhapekoaaGreatDoor.Laws (okFrom canB wrap_up)
set_option linter.unusedVariables false
set_option linter.unusedSimpArgs false
theorem same9_l0 (m:List Lb) (hm:m.length ≤ 9223372036854775806):∀ (r:List Lb) (i:Nat),m.drop i = r → Ev (fun k => u2y.l0 k m m (m.length:Int) (i:Int)) true:=by
 intro r
 induction r with
 | nil =>
   intro i h
   have hi:m.length ≤ i:=List.drop_eq_nil_iff.1 h
   refine Ev.step (f:=fun _ => some true) (fun k => ?_) (Ev.now true)
   simp only [u2y.l0]
   rw [if_neg (by omega)]
 | cons x r ih =>
   intro i h
   obtain ⟨hx,hi,hr⟩:=Laws.rd_drop m i x r h
   have hw:=wrap_up i (by omega)
   refine Ev.step (fun k => ?_) (ih (i + 1) hr)
   simp only [u2y.l0]
   rw [if_pos (by omega),if_pos (by omega),if_pos (by omega),if_pos (by omega),hx,if_neg (by simp),hw]
theorem same9_ls (m:List Lb) (hm:m.length ≤ 9223372036854775806):Ev (fun k => u2y.f k m m) true:=by
 refine Ev.congr (fun k => ?_) (same9_l0 m hm m 0 rfl)
 show u2y.f k m m = _
 unfold u2y.f
 rw [if_pos rfl]
 rfl
theorem same9_rows:∀ (l:List Rw),(∀ x ∈ l,x.f0.length ≤ 9223372036854775806) → Ev (fun k => u1p.all k l l) true
 | [],_ => Ev.now true
 | x :: l,h => by
   refine Ev.bind (a:=true) (g:=fun k => u1p.same k x x) ?_ ?_
   · refine Ev.bind (same9_ls x.f0 (h x (List.mem_cons_self ..))) ?_
     exact Ev.congr (fun k => by simp) (Ev.now true)
   · exact Ev.congr (fun k => by simp) (same9_rows l (fun y hy => h y (List.mem_cons_of_mem _ hy)))
theorem same9_rowsf (l:List Rw) (hl:l.length ≤ 4611686018427387904) (h:∀ x ∈ l,x.f0.length ≤ 9223372036854775806):Ev (fun k => u1p.f k l l) true:=by
 refine Ev.congr (fun k => ?_) (same9_rows l h)
 show u1p.f k l l = _
 unfold u1p.f
 rw [if_pos rfl,if_pos (by omega)]
end Go.Proofs.YtmcpeifhapekoaaGreatDoor.Tx
namespace Go.Proofs.YtmcpeifhapekoaaGreatDoor.Laws
open Go.RowKit Go.Proofs.YtmcpeifhapekoaaGreatDoor.PAll Go.Proofs.YtmcpeifhapekoaaGreatDoorW.PrintWords Go.Proofs.YtmcpeifhapekoaaGreatDoorW.PrintLast
set_option linter.unusedVariables false
set_option linter.unusedSimpArgs false
def nb (c:UInt8):Bool:=Base.letterB (c.toNat:Int) || Base.digitB (c.toNat:Int)
theorem name_of (c:UInt8) (x:ByteArray) (h:x.data.toList = [97,c]):Base.nameB x = nb c:=by
 have hz:=Base.size_list x
 rw [h] at hz
 have h2:x.size = 2:=hz
 have h3:bytesOf x = [97,(c.toNat:Int)]:=by rw [bytesOf,h];rfl
 have h4:Base.letterB 97 = true:=by decide +kernel
 simp [Base.nameB,h2,h3,h4,nb]
theorem take_tw (p:UInt8 → Bool):∀ l:List UInt8,l.take (l.takeWhile p).length = l.takeWhile p:=by
 intro l
 induction l with
 | nil => rfl
 | cons x r ih =>
   rw [List.takeWhile_cons]
   split
   · simp [ih]
   · rfl
theorem word_l0 (s:ByteArray) (hs:s.size ≤ 140737488351232):∀ (r:List UInt8) (i:Nat),s.data.toList.drop i = r → i ≤ s.size →
 Ev (fun k => u3j.l0 k s (i:Int)) (Base.ofL (s.data.toList.take (i + (r.takeWhile nb).length)),Base.ofL (r.dropWhile nb)):=by
 intro r
 induction r with
 | nil =>
   intro i h hi
   have h1:=no_byte s i h
   have h2:i = s.size:=by omega
   have e1:s.extract 0 ((i:Nat):Int).toNat = Base.ofL (s.data.toList.take (i + (([]:List UInt8).takeWhile nb).length)):=Base.ext_data (by rw [Base.extract_list,Base.ofL_data];simp)
   have e2:s.extract ((i:Nat):Int).toNat s.size = Base.ofL (([]:List UInt8).dropWhile nb):=Base.ext_data (by rw [Base.extract_rest,Base.ofL_data];exact h)
   rw [← e1,← e2]
   refine Ev.step (f:=fun _ => some (s.extract 0 ((i:Nat):Int).toNat,s.extract ((i:Nat):Int).toNat s.size)) (fun k => ?_) (Ev.now _)
   simp only [u3j.l0]
   rw [if_neg (by omega),if_pos (by omega),if_pos (by omega)]
 | cons c r ih =>
   intro i h hi
   obtain ⟨hlt,hbt,hr⟩:=at_byte s i c r h
   have hw:=wrap_up i (by omega)
   have hx:(⟨#[97]⟩:ByteArray) ++ s.extract ((i:Nat):Int).toNat ((i + 1:Nat):Int).toNat = Base.ofL [97,c]:=Base.ext_data (by
    rw [Base.append_data,Base.extract_list,Base.ofL_data]
    have:((i + 1:Nat):Int).toNat - ((i:Nat):Int).toNat = 1:=by omega
    rw [this,show ((i:Nat):Int).toNat = i by omega,h]
    rfl)
   have hxs:(s.extract ((i:Nat):Int).toNat ((i + 1:Nat):Int).toNat).size ≤ 1:=by
    rw [ByteArray.size_extract]
    omega
   have hn:=rname_ev (Base.ofL [97,c]) (by rw [Base.size_list,Base.ofL_data];simp)
   rw [name_of c (Base.ofL [97,c]) (Base.ofL_data _)] at hn
   have hstep:∀ k,u3j.l0 (k + 1) s (i:Int) = ((uv.f k (Base.ofL [97,c])).bind fun t255 => (if t255 = true then (u3j.l0 k s ((i + 1:Nat):Int)) else (some (s.extract 0 (i:Int).toNat,s.extract (i:Int).toNat s.size)))):=by
    intro k
    simp only [u3j.l0]
    rw [hw,if_pos (by omega),if_pos (by omega),if_pos (by omega),if_pos (by omega),if_pos (by omega),hx]
    have:((i:Int) ≤ (s.size:Int)):=by omega
    simp only [this,if_true]
   refine Ev.step hstep (Ev.bind hn ?_)
   cases hb:nb c with
   | true =>
     have ih2:=ih (i + 1) hr (by omega)
     have e1:(c :: r).takeWhile nb = c :: r.takeWhile nb:=by rw [List.takeWhile_cons,if_pos hb]
     have e2:(c :: r).dropWhile nb = r.dropWhile nb:=by rw [List.dropWhile_cons,if_pos hb]
     rw [e1,e2,show i + (c :: r.takeWhile nb).length = i + 1 + (r.takeWhile nb).length by simp;omega]
     exact Ev.congr (fun k => by simp) ih2
   | false =>
     have e1:(c :: r).takeWhile nb = []:=by rw [List.takeWhile_cons,if_neg (by simp [hb])]
     have e2:(c :: r).dropWhile nb = c :: r:=by rw [List.dropWhile_cons,if_neg (by simp [hb])]
     rw [e1,e2]
     have e3:s.extract 0 ((i:Nat):Int).toNat = Base.ofL (s.data.toList.take (i + ([]:List UInt8).length)):=Base.ext_data (by rw [Base.extract_list,Base.ofL_data];simp)
     have e4:s.extract ((i:Nat):Int).toNat s.size = Base.ofL (c :: r):=Base.ext_data (by rw [Base.extract_rest,Base.ofL_data];exact h)
     rw [← e3,← e4]
     exact Ev.congr (fun k => by simp) (Ev.now _)
theorem word_ev (s:ByteArray) (hs:s.size ≤ 140737488351232):Ev (fun k => u3j.f k s) (Base.ofL (s.data.toList.takeWhile nb),Base.ofL (s.data.toList.dropWhile nb)):=by
 have h:=word_l0 s hs s.data.toList 0 rfl (by omega)
 have e:s.data.toList.take (0 + (s.data.toList.takeWhile nb).length) = s.data.toList.takeWhile nb:=by
  rw [Nat.zero_add]
  exact take_tw nb _
 rw [e] at h
 exact h
end Go.Proofs.YtmcpeifhapekoaaGreatDoor.Laws
namespace Go.Proofs.YtmcpeifhapekoaaGreatDoor.Tx
open Go.RowKit Go.Proofs.YtmcpeifhapekoaaGreatDoor.PAll Go.Proofs.YtmcpeifhapekoaaGreatDoorW.PrintWords Go.Proofs.YtmcpeifhapekoaaGreatDoorW.PrintLast
open Go.Proofs.YtmcpeifhapekoaaGreatDoor.Laws (okFrom canB wrap_up at_byte no_byte word_ev)
set_option linter.unusedVariables false
set_option linter.unusedSimpArgs false
theorem sz (s:B8):(Base.ofL s).size = s.length:=(cut_ofL s 0 (by omega)).2.2
theorem tl_ofL (s:B8):(Base.ofL s).toList = s:=by rw [ByteArray.toList_eq,Base.ofL_data]
def bs (h:Bool):Int:=if h = true then 16 else 10
theorem u64_id (x:Int) (h0:0 ≤ x) (h1:x ≤ 18446744073709551615):IntKind.u64.wrap x = x:=by
 unfold IntKind.wrap
 simp only [IntKind.signed,IntKind.bits,Bool.false_and,Bool.false_eq_true,if_false]
 omega
theorem quo {base d:Int} (hb:base = 10 ∨ base = 16) (h0:0 ≤ d) (h1:d ≤ 15):IntKind.u64.wrap (Int.tdiv (IntKind.u64.wrap (18446744073709551615 - IntKind.u64.wrap d)) base) = (18446744073709551615 - d) / base:=by
 rw [u64_id d h0 (by omega),u64_id (18446744073709551615 - d) (by omega) (by omega),Int.tdiv_eq_ediv_of_nonneg (by omega)]
 rcases hb with rfl | rfl <;> exact u64_id _ (by omega) (by omega)
theorem fits {base d m:Int} (hb:base = 10 ∨ base = 16) (h0:0 ≤ d) (h1:d ≤ 15) (hm:0 ≤ m) (h:m ≤ (18446744073709551615 - d) / base):0 ≤ m * base + d ∧ m * base + d ≤ 18446744073709551615 ∧ IntKind.u64.wrap (IntKind.u64.wrap (m * base) + IntKind.u64.wrap d) = m * base + d:=by
 have e:IntKind.u64.wrap d = d:=u64_id d h0 (by omega)
 rcases hb with rfl | rfl
 · have e2:IntKind.u64.wrap (m * 10) = m * 10:=u64_id _ (by omega) (by omega)
   rw [e,e2]
   exact ⟨by omega,by omega,u64_id _ (by omega) (by omega)⟩
 · have e2:IntKind.u64.wrap (m * 16) = m * 16:=u64_id _ (by omega) (by omega)
   rw [e,e2]
   exact ⟨by omega,by omega,u64_id _ (by omega) (by omega)⟩
def Says (g:Nat → Option (Int × ByteArray × Bool)) (o:Option (Int × B8)):Prop:=match o with
 | some (n,r) => Ev g (n,Base.ofL r,true)
 | none => ∃ (x:Int) (y:B8),y.length ≤ 1000 ∧ Ev g (x,Base.ofL y,false)
theorem Says.congr {g f:Nat → Option (Int × ByteArray × Bool)} {o:Option (Int × B8)} (h:∀ k,g k = f k) (hf:Says f o):Says g o:=by
 have e:g = f:=funext h
 rw [e]
 exact hf
theorem neg_is {n:Int} (h0:0 ≤ n) (h:n ≤ 9223372036854775808):wrap64 (IntKind.u64.wrap (-n)) = -n:=by
 unfold wrap64 IntKind.wrap
 simp only [IntKind.signed,IntKind.bits,Bool.false_and,Bool.false_eq_true,if_false]
 omega
end Go.Proofs.YtmcpeifhapekoaaGreatDoor.Tx
namespace Go.Proofs.YtmcpeifhapekoaaGreatDoor.PAll
open Go.RowKit Go.Proofs.YtmcpeifhapekoaaGreatDoorW.PrintWords Go.Proofs.YtmcpeifhapekoaaGreatDoorW.PrintLast Go.Proofs.YtmcpeifhapekoaaGreatDoorW.PrintMore
attribute [local go_sem] max2_int min2_int max_two min_two max_three min_three max_four min_four
set_option linter.unusedVariables false
set_option linter.unusedSimpArgs false
def ut.wrongB (x:S34):Bool:=!Base.nameB x.f0 || ((!decide (x.f1 = Base.ofL [])) && !Tx.knownL x.f1.data.toList) || !Tx.plainL x.f2.data.toList || decide (900 < x.f2.size)
theorem ut.of (s:ByteArray):Base.ofL s.data.toList = s:=Base.ext_data (Base.ofL_data _)
set_option maxRecDepth 100000 in
set_option maxHeartbeats 4000000 in
theorem ut.wrong (x:S34) (hl:x.f2.size ≤ 140737488351232) (W:World) :
 Calls Tryz.prog 28 #[.agg #[.string x.f0,.string x.f1,.string x.f2]] W fun e w' => e = .returned (.bool (ut.wrongB x)) ∧ Below W.heap.size W w':=by
 obtain ⟨a,b,c⟩:=x
 have hz1:=ud (Below.refl W.heap.size W) (.cells #[.string a,.string b,.string c] 34)
 have HZ1:=Aside0.mk hz1
 have HN1:=Aside0.mk (ua.new_at W (.cells #[.string a,.string b,.string c] 34))
 have HPL:Aside0 (∀ W,Calls Tryz.prog 31 #[.string c] W fun e w' => e = .returned (.bool (Tx.plainL c.data.toList)) ∧ Below W.heap.size W w'):=⟨fun W => by
  have h:=u2z.calls c.data.toList (by rw [u2k];exact hl) W
  rw [ut.of] at h
  exact h⟩
 have HKN:Aside0 (∀ W,Calls Tryz.prog 30 #[.string b] W fun e w' => e = .returned (.bool (Tx.knownL b.data.toList)) ∧ Below W.heap.size W w'):=⟨fun W => by
  have h:=ul.known_is b.data.toList
  rw [ut.of] at h
  exact (text_known.calls b _ W h).mono fun e w' ⟨h1,h2⟩ => ⟨h1,h2.below⟩⟩
 have HNM:Aside0 (∀ W,Calls Tryz.prog 29 #[.string a] W fun e w' => e = .returned (.bool (Base.nameB a)) ∧ Below W.heap.size W w'):=⟨fun W => u1r.calls a _ W rfl⟩
 unfold ut.wrongB
 simp only
 clear hz1 hl
 cases hna:Base.nameB a with
 | false =>
   rw [hna] at HNM
   clear hna
   go_enter Tryz.func28,Tryz.ntmps28
   go_wp2_with (first
    | (go_at_call 29;(with_reducible refine (HNM.out _).mono ?_);rintro e W2 ⟨rfl,hb2⟩;have HZ2:=Aside0.mk (ui HZ1.out HZ1.out.size hb2);obtain ⟨⟨n0,n1,n2⟩,n3⟩:=uc.look3 (ua.below_at hb2 HN1.out);have HN2:=Aside0.mk (ua.below_at hb2 HN1.out);clear hb2))
   go_ret
   exact ⟨by simp [*],HZ2.out⟩
 | true =>
   rw [hna] at HNM
   clear hna
   by_cases hb:b = Base.ofL []
   · have b1:=u1y.emp hb
     have b2:decide (b = Base.ofL []) = true:=decide_eq_true hb
     rw [b2]
     clear hb b2
     cases hp:Tx.plainL c.data.toList with
     | false =>
       rw [hp] at HPL
       go_enter Tryz.func28,Tryz.ntmps28
       go_wp2_with (first
        | (go_at_call 29;(with_reducible refine (HNM.out _).mono ?_);rintro e W2 ⟨rfl,hb2⟩;have HZ2:=Aside0.mk (ui HZ1.out HZ1.out.size hb2);obtain ⟨⟨n0,n1,n2⟩,n3⟩:=uc.look3 (ua.below_at hb2 HN1.out);have HN2:=Aside0.mk (ua.below_at hb2 HN1.out);clear hb2)
        | (go_at_call 31;(with_reducible refine (HPL.out _).mono ?_);rintro e W4 ⟨rfl,hb4⟩;have HZ4:=Aside0.mk (ui HZ2.out HZ2.out.size hb4);clear n0 n1 n2 n3;obtain ⟨⟨n0,n1,n2⟩,n3⟩:=uc.look3 (ua.below_at hb4 HN2.out);clear hb4))
       go_ret
       exact ⟨by simp [*],HZ4.out⟩
     | true =>
       rw [hp] at HPL
       by_cases h9:900 < c.size
       · have s1:decide ((900:Int) < (c.size:Int)) = true:=decide_eq_true (by omega)
         have s2:decide (900 < c.size) = true:=decide_eq_true h9
         go_enter Tryz.func28,Tryz.ntmps28
         go_wp2_with (first
          | (go_at_call 29;(with_reducible refine (HNM.out _).mono ?_);rintro e W2 ⟨rfl,hb2⟩;have HZ2:=Aside0.mk (ui HZ1.out HZ1.out.size hb2);obtain ⟨⟨n0,n1,n2⟩,n3⟩:=uc.look3 (ua.below_at hb2 HN1.out);have HN2:=Aside0.mk (ua.below_at hb2 HN1.out);clear hb2)
          | (go_at_call 31;(with_reducible refine (HPL.out _).mono ?_);rintro e W4 ⟨rfl,hb4⟩;have HZ4:=Aside0.mk (ui HZ2.out HZ2.out.size hb4);clear n0 n1 n2 n3;obtain ⟨⟨n0,n1,n2⟩,n3⟩:=uc.look3 (ua.below_at hb4 HN2.out);clear hb4))
         go_ret
         exact ⟨by simp [*],HZ4.out⟩
       · have s1:decide ((900:Int) < (c.size:Int)) = false:=decide_eq_false (by omega)
         have s2:decide (900 < c.size) = false:=decide_eq_false h9
         go_enter Tryz.func28,Tryz.ntmps28
         go_wp2_with (first
          | (go_at_call 29;(with_reducible refine (HNM.out _).mono ?_);rintro e W2 ⟨rfl,hb2⟩;have HZ2:=Aside0.mk (ui HZ1.out HZ1.out.size hb2);obtain ⟨⟨n0,n1,n2⟩,n3⟩:=uc.look3 (ua.below_at hb2 HN1.out);have HN2:=Aside0.mk (ua.below_at hb2 HN1.out);clear hb2)
          | (go_at_call 31;(with_reducible refine (HPL.out _).mono ?_);rintro e W4 ⟨rfl,hb4⟩;have HZ4:=Aside0.mk (ui HZ2.out HZ2.out.size hb4);clear n0 n1 n2 n3;obtain ⟨⟨n0,n1,n2⟩,n3⟩:=uc.look3 (ua.below_at hb4 HN2.out);clear hb4))
         go_ret
         exact ⟨by simp [*],HZ4.out⟩
   · have b1:=u1y.nonemp hb
     have b2:decide (b = Base.ofL []) = false:=decide_eq_false hb
     rw [b2]
     clear hb b2
     cases hk:Tx.knownL b.data.toList with
     | false =>
       rw [hk] at HKN
       clear hk
       go_enter Tryz.func28,Tryz.ntmps28
       go_wp2_with (first
        | (go_at_call 29;(with_reducible refine (HNM.out _).mono ?_);rintro e W2 ⟨rfl,hb2⟩;have HZ2:=Aside0.mk (ui HZ1.out HZ1.out.size hb2);obtain ⟨⟨n0,n1,n2⟩,n3⟩:=uc.look3 (ua.below_at hb2 HN1.out);have HN2:=Aside0.mk (ua.below_at hb2 HN1.out);clear hb2)
        | (go_at_call 30;(with_reducible refine (HKN.out _).mono ?_);rintro e W3 ⟨rfl,hb3⟩;have HZ3:=Aside0.mk (ui HZ2.out HZ2.out.size hb3);clear n0 n1 n2 n3;obtain ⟨⟨n0,n1,n2⟩,n3⟩:=uc.look3 (ua.below_at hb3 HN2.out);have HN3:=Aside0.mk (ua.below_at hb3 HN2.out);clear hb3))
       go_ret
       exact ⟨by simp [*],HZ3.out⟩
     | true =>
       rw [hk] at HKN
       clear hk
       cases hp:Tx.plainL c.data.toList with
       | false =>
         rw [hp] at HPL
         go_enter Tryz.func28,Tryz.ntmps28
         go_wp2_with (first
          | (go_at_call 29;(with_reducible refine (HNM.out _).mono ?_);rintro e W2 ⟨rfl,hb2⟩;have HZ2:=Aside0.mk (ui HZ1.out HZ1.out.size hb2);obtain ⟨⟨n0,n1,n2⟩,n3⟩:=uc.look3 (ua.below_at hb2 HN1.out);have HN2:=Aside0.mk (ua.below_at hb2 HN1.out);clear hb2)
          | (go_at_call 30;(with_reducible refine (HKN.out _).mono ?_);rintro e W3 ⟨rfl,hb3⟩;have HZ3:=Aside0.mk (ui HZ2.out HZ2.out.size hb3);clear n0 n1 n2 n3;obtain ⟨⟨n0,n1,n2⟩,n3⟩:=uc.look3 (ua.below_at hb3 HN2.out);have HN3:=Aside0.mk (ua.below_at hb3 HN2.out);clear hb3)
          | (go_at_call 31;(with_reducible refine (HPL.out _).mono ?_);rintro e W4 ⟨rfl,hb4⟩;have HZ4:=Aside0.mk (ui HZ3.out HZ3.out.size hb4);clear n0 n1 n2 n3;obtain ⟨⟨n0,n1,n2⟩,n3⟩:=uc.look3 (ua.below_at hb4 HN3.out);clear hb4))
         go_ret
         exact ⟨by simp [*],HZ4.out⟩
       | true =>
         rw [hp] at HPL
         by_cases h9:900 < c.size
         · have s1:decide ((900:Int) < (c.size:Int)) = true:=decide_eq_true (by omega)
           have s2:decide (900 < c.size) = true:=decide_eq_true h9
           go_enter Tryz.func28,Tryz.ntmps28
           go_wp2_with (first
            | (go_at_call 29;(with_reducible refine (HNM.out _).mono ?_);rintro e W2 ⟨rfl,hb2⟩;have HZ2:=Aside0.mk (ui HZ1.out HZ1.out.size hb2);obtain ⟨⟨n0,n1,n2⟩,n3⟩:=uc.look3 (ua.below_at hb2 HN1.out);have HN2:=Aside0.mk (ua.below_at hb2 HN1.out);clear hb2)
            | (go_at_call 30;(with_reducible refine (HKN.out _).mono ?_);rintro e W3 ⟨rfl,hb3⟩;have HZ3:=Aside0.mk (ui HZ2.out HZ2.out.size hb3);clear n0 n1 n2 n3;obtain ⟨⟨n0,n1,n2⟩,n3⟩:=uc.look3 (ua.below_at hb3 HN2.out);have HN3:=Aside0.mk (ua.below_at hb3 HN2.out);clear hb3)
            | (go_at_call 31;(with_reducible refine (HPL.out _).mono ?_);rintro e W4 ⟨rfl,hb4⟩;have HZ4:=Aside0.mk (ui HZ3.out HZ3.out.size hb4);clear n0 n1 n2 n3;obtain ⟨⟨n0,n1,n2⟩,n3⟩:=uc.look3 (ua.below_at hb4 HN3.out);clear hb4))
           go_ret
           exact ⟨by simp [*],HZ4.out⟩
         · have s1:decide ((900:Int) < (c.size:Int)) = false:=decide_eq_false (by omega)
           have s2:decide (900 < c.size) = false:=decide_eq_false h9
           go_enter Tryz.func28,Tryz.ntmps28
           go_wp2_with (first
            | (go_at_call 29;(with_reducible refine (HNM.out _).mono ?_);rintro e W2 ⟨rfl,hb2⟩;have HZ2:=Aside0.mk (ui HZ1.out HZ1.out.size hb2);obtain ⟨⟨n0,n1,n2⟩,n3⟩:=uc.look3 (ua.below_at hb2 HN1.out);have HN2:=Aside0.mk (ua.below_at hb2 HN1.out);clear hb2)
            | (go_at_call 30;(with_reducible refine (HKN.out _).mono ?_);rintro e W3 ⟨rfl,hb3⟩;have HZ3:=Aside0.mk (ui HZ2.out HZ2.out.size hb3);clear n0 n1 n2 n3;obtain ⟨⟨n0,n1,n2⟩,n3⟩:=uc.look3 (ua.below_at hb3 HN2.out);have HN3:=Aside0.mk (ua.below_at hb3 HN2.out);clear hb3)
            | (go_at_call 31;(with_reducible refine (HPL.out _).mono ?_);rintro e W4 ⟨rfl,hb4⟩;have HZ4:=Aside0.mk (ui HZ3.out HZ3.out.size hb4);clear n0 n1 n2 n3;obtain ⟨⟨n0,n1,n2⟩,n3⟩:=uc.look3 (ua.below_at hb4 HN3.out);clear hb4))
           go_ret
           exact ⟨by simp [*],HZ4.out⟩
set_option maxRecDepth 100000 in
theorem ut.bad (x:S53) (A:Option Addr) (c:Nat) (W:World) (hc:x.f0.length ≤ c) (hr:Kd.C k66 W A x.f0.length x.f0) :
 Calls Tryz.prog 32 #[.agg #[.slice A x.f0.length c,.int .i64 x.f1,.int .u64 x.f2]] W fun e w' => e = .returned (.bool (!Laws.canB x.f0)) ∧ Below W.heap.size W w':=by
 obtain ⟨k,hk⟩:=(Laws.can_ev x.f0).rounds
 have hz1:=ud (Below.refl W.heap.size W) (.cells #[.slice A x.f0.length c,.int .i64 x.f1,.int .u64 x.f2] 53)
 have HZ1:=Aside0.mk hz1
 have HC:=Aside0.mk (u1w.calls k A c x.f0 _ (W.alloc (.cells #[.slice A x.f0.length c,.int .i64 x.f1,.int .u64 x.f2] 53)) (Kd.C_below hr hz1) hc hk)
 clear hz1 hr hc hk
 go_enter Tryz.func32,Tryz.ntmps32
 go_wp2_with (go_at_call 33;(with_reducible refine HC.out.mono ?_);rintro e W2 ⟨rfl,hb2⟩;have HZ2:=Aside0.mk (ui HZ1.out HZ1.out.size hb2);clear hb2)
 go_ret
 exact ⟨rfl,HZ2.out⟩
def ut.brOf (l:List Tx.Lb):ByteArray:=if u1f.oth l = [] then ⟨#[]⟩ else if Laws.canB (u1f.oth l) = true then Base.ofL (Laws.textL (u1f.oth l)) else ⟨#[]⟩
def ut.rowB (r:S53):List Int:=u1f.lineB r.f0 (ut.brOf r.f0) r.f1 r.f2.toNat
def ut.metB (x:S34):List Int:=u1y.metaB x.f0 x.f1 x.f2
def ut.bytesB (l0:List S53) (l1:List S34):List Int:=l1.flatMap ut.metB ++ l0.flatMap ut.rowB
def ut.f (l0:List S53) (l1:List S34):Option (List Int × Int) :=
 if (∀ x ∈ l1,x.f2.size ≤ 140737488351232) ∧ (∀ r ∈ l0,-9223372036854775808 ≤ r.f1 ∧ r.f1 ≤ 9223372036854775807 ∧ 0 ≤ r.f2 ∧ r.f2 < 18446744073709551616) ∧ l0.length ≤ 1000 ∧ l1.length ≤ 1000 then
  if l1.any ut.wrongB = true ∨ l0.any (fun r => !Laws.canB r.f0) = true then some ([],1)
  else if (ut.bytesB l0 l1).length ≤ 100000000 then some (ut.bytesB l0 l1,0) else none
 else none
theorem ut.take_next {α:Type} (f:α → List Int) (l:List α) (i:Nat) (h:i < l.length):(l.take (i + 1)).flatMap f = (l.take i).flatMap f ++ f l[i]:=by
 rw [List.take_succ_eq_append_getElem h,List.flatMap_append]
 simp
theorem ut.take_le {α:Type} (f:α → List Int) (l:List α) (i:Nat):((l.take i).flatMap f).length ≤ (l.flatMap f).length:=by
 have h:l.flatMap f = (l.take i).flatMap f ++ (l.drop i).flatMap f:=by rw [← List.flatMap_append,List.take_append_drop]
 rw [h,List.length_append]
 omega
theorem ut.can8 {l:List Tx.Lb} (h:Laws.canB l = true):l.length ≤ 8:=by
 unfold Laws.canB at h
 simp only [Bool.and_eq_true,decide_eq_true_eq] at h
 exact h.1.2
theorem ut.meta_calls (w0 W:World) (g:Nat) (bs:List Int) (y:S34) (h:ug.Pr w0 W g bs) (hB:Below w0.heap.size w0 W) (hl:bs.length + (ut.metB y).length ≤ 100000000) :
 Calls Tryz.prog 35 #[.pointer (some ⟨g,0,none⟩),.agg #[.string y.f0,.string y.f1,.string y.f2]] W fun e W' => e = .returned (.tuple #[]) ∧ ug.Pr w0 W' g (bs ++ ut.metB y) ∧ Below w0.heap.size w0 W' ∧ ug.Stay W W' ∧ W.heap.size ≤ W'.heap.size:=u1y.calls w0 W g bs y.f0 y.f1 y.f2 h hB hl
theorem ut.row_calls (w0 W:World) (g:Nat) (bs:List Int) (A:Option Addr) (c:Nat) (r:S53) (h:ug.Pr w0 W g bs) (hB:Below w0.heap.size w0 W) (hG:u1k.Gd W) (hr:Kd.C k66 W A r.f0.length r.f0) (hc:r.f0.length ≤ c) (hcan:Laws.canB r.f0 = true)
 (hT : -9223372036854775808 ≤ r.f1 ∧ r.f1 ≤ 9223372036854775807 ∧ 0 ≤ r.f2 ∧ r.f2 < 18446744073709551616) (hlen:bs.length + (ut.rowB r).length ≤ 100000000) :
 Calls Tryz.prog 36 #[.pointer (some ⟨g,0,none⟩),.agg #[.slice A r.f0.length c,.int .i64 r.f1,.int .u64 r.f2]] W fun e W' => e = .returned (.tuple #[]) ∧ ug.Pr w0 W' g (bs ++ ut.rowB r) ∧ Below w0.heap.size w0 W' ∧ ug.Stay W W' ∧ W.heap.size ≤ W'.heap.size:=by
 have h8:=ut.can8 hcan
 obtain ⟨u,hu⟩:∃ u:Nat,r.f2 = (u:Int):=⟨r.f2.toNat,by omega⟩
 have hun:r.f2.toNat = u:=by omega
 unfold ut.rowB at hlen ⊢
 rw [hun] at hlen ⊢
 rw [hu]
 by_cases ho:u1f.oth r.f0 = []
 · have hb:ut.brOf r.f0 = ⟨#[]⟩:=by unfold ut.brOf;rw [if_pos ho]
   rw [hb] at hlen ⊢
   exact u1f.calls 0 w0 W g bs A c r.f0 r.f1 u ⟨#[]⟩ 0 h hB hG hr hc (by omega) ⟨hT.1,hT.2.1⟩ (by omega) (Or.inl ⟨ho,rfl⟩) hlen
 · obtain ⟨k,hk⟩:=(Laws.text_ev (u1f.oth r.f0)).rounds
   have hb:∃ e1,u2e.f k (u1f.oth r.f0) = some (ut.brOf r.f0,e1):=by
    unfold ut.brOf
    rw [if_neg ho]
    cases hcc:Laws.canB (u1f.oth r.f0) with
    | true => rw [hcc] at hk;exact ⟨0,hk⟩
    | false => rw [hcc] at hk;exact ⟨1,hk⟩
   obtain ⟨e1,he⟩:=hb
   exact u1f.calls k w0 W g bs A c r.f0 r.f1 u _ e1 h hB hG hr hc (by omega) ⟨hT.1,hT.2.1⟩ (by omega) (Or.inr ⟨ho,he⟩) hlen
theorem ut.wrong2 (x:S34) (hl:x.f2.size ≤ 140737488351232) (W:World) :
 Calls Tryz.prog 28 (#[.agg #[.string x.f0,.string x.f1,.string x.f2]] ++ #[]) W fun e w' => e = .returned (.bool (ut.wrongB x)) ∧ Below W.heap.size W w':=by
 rw [show (#[Value.agg #[.string x.f0,.string x.f1,.string x.f2]] ++ #[]:Array Value) = #[.agg #[.string x.f0,.string x.f1,.string x.f2]] from by simp]
 exact ut.wrong x hl W
theorem ut.bad2 (x:S53) (A:Option Addr) (c:Nat) (W:World) (hc:x.f0.length ≤ c) (hr:Kd.C k66 W A x.f0.length x.f0) :
 Calls Tryz.prog 32 (#[.agg #[.slice A x.f0.length c,.int .i64 x.f1,.int .u64 x.f2]] ++ #[]) W fun e w' => e = .returned (.bool (!Laws.canB x.f0)) ∧ Below W.heap.size W w':=by
 rw [show (#[Value.agg #[.slice A x.f0.length c,.int .i64 x.f1,.int .u64 x.f2]] ++ #[]:Array Value) = #[.agg #[.slice A x.f0.length c,.int .i64 x.f1,.int .u64 x.f2]] from by simp]
 exact ut.bad x A c W hc hr
theorem ut.enters1:∀ args W,(callFunc 28 args).run Tryz.prog W = .ok (.enter 28 args) W:=enters_of Tryz.func28 (by kernel_rfl) rfl
theorem ut.enters2:∀ args W,(callFunc 32 args).run Tryz.prog W = .ok (.enter 32 args) W:=enters_of Tryz.func32 (by kernel_rfl) rfl
set_option maxRecDepth 100000 in
set_option maxHeartbeats 4000000 in
theorem ut.refused (A0:Option Addr) (c0:Nat) (l0:List S53) (A1:Option Addr) (c1:Nat) (l1:List S34) (w:World) (hr0:Kd.C k53 w A0 l0.length l0) (hc0:l0.length ≤ c0) (hr1:Kd.C k34 w A1 l1.length l1) (hc1:l1.length ≤ c1) (hm:∀ x ∈ l1,x.f2.size ≤ 140737488351232) (hn0:l0.length ≤ 1000) (hn1:l1.length ≤ 1000) (hb:l1.any ut.wrongB = true ∨ l0.any (fun r => !Laws.canB r.f0) = true) :
 Calls Tryz.prog 13 #[.slice A0 l0.length c0,.slice A1 l1.length c1] w fun e w' => e = .returned (.tuple #[.slice none 0 0,.int .i64 1]) ∧ Below w.heap.size w w':=by
 have H1:=Aside0.mk (api_Meta_15.calls A1 c1 l1 28 #[] ut.wrongB w hr1 (by omega) ut.enters1 (fun W x _ hx => ut.wrong2 x (hm x hx) W))
 have H2:Aside0 (∀ W,Below w.heap.size w W → Calls Tryz.prog 34 #[.slice A0 l0.length c0,.func (.func 32) #[] #[]] W fun e w' => e = .returned (.bool (l0.any (fun r => !Laws.canB r.f0))) ∧ Below W.heap.size W w'):=⟨fun W hW => api_Row_34.calls A0 c0 l0 32 #[] (fun r => !Laws.canB r.f0) W (Kd.C_below hr0 hW) (by omega) ut.enters2 (fun W' x A c hc hr _ _ => ut.bad2 x A c W' hc hr)⟩
 clear hr0 hr1 hm hc0 hc1
 cases ha:l1.any ut.wrongB with
 | true =>
   rw [ha] at H1
   clear ha hb
   go_enter Tryz.func13,Tryz.ntmps13
   go_wp2_with (go_at_call 15;(with_reducible refine H1.out.mono ?_);rintro e W1 ⟨rfl,hb1⟩;have HB1:=Aside0.mk hb1;clear hb1)
   go_ret2
   exact ⟨rfl,HB1.out⟩
 | false =>
   rw [ha] at H1
   have hb2:=hb.resolve_left (by rw [ha];exact Bool.false_ne_true)
   rw [hb2] at H2
   clear ha hb hb2
   go_enter Tryz.func13,Tryz.ntmps13
   go_wp2_with (first
    | (go_at_call 15;(with_reducible refine H1.out.mono ?_);rintro e W1 ⟨rfl,hb1⟩;have HB1:=Aside0.mk hb1;clear hb1)
    | (go_at_call 34;(with_reducible refine (H2.out _ HB1.out).mono ?_);rintro e W2 ⟨rfl,hb2⟩;have HB2:=Aside0.mk (ui HB1.out HB1.out.size hb2);clear hb2))
   go_ret2
   exact ⟨rfl,HB2.out⟩
set_option maxRecDepth 100000 in
set_option maxHeartbeats 4000000 in
theorem ut.printed (A0:Option Addr) (c0:Nat) (l0:List S53) (A1:Option Addr) (c1:Nat) (l1:List S34) (w:World) (hr0:Kd.C k53 w A0 l0.length l0) (hc0:l0.length ≤ c0) (hr1:Kd.C k34 w A1 l1.length l1) (hc1:l1.length ≤ c1) (hG:u1k.Gd w) (hm:∀ x ∈ l1,x.f2.size ≤ 140737488351232) (hrr:∀ r ∈ l0,-9223372036854775808 ≤ r.f1 ∧ r.f1 ≤ 9223372036854775807 ∧ 0 ≤ r.f2 ∧ r.f2 < 18446744073709551616) (hn0:l0.length ≤ 1000) (hn1:l1.length ≤ 1000) (hb1:l1.any ut.wrongB = false) (hb2:l0.any (fun r => !Laws.canB r.f0) = false) (hl:(ut.bytesB l0 l1).length ≤ 100000000) :
 Calls Tryz.prog 13 #[.slice A0 l0.length c0,.slice A1 l1.length c1] w fun e w' => ∃ v0_:Value,e = .returned (.tuple #[v0_,.int .i64 0]) ∧ Kd.R (Kd.int .u8) 5 w' w.heap.size (fun _ => True) v0_ (ut.bytesB l0 l1) ∧ Below w.heap.size w w':=by
 have H1:=Aside0.mk (api_Meta_15.calls A1 c1 l1 28 #[] ut.wrongB w hr1 (by omega) ut.enters1 (fun W x _ hx => ut.wrong2 x (hm x hx) W))
 have H2:Aside0 (∀ W,Below w.heap.size w W → Calls Tryz.prog 34 #[.slice A0 l0.length c0,.func (.func 32) #[] #[]] W fun e w' => e = .returned (.bool (l0.any (fun r => !Laws.canB r.f0))) ∧ Below W.heap.size W w'):=⟨fun W hW => api_Row_34.calls A0 c0 l0 32 #[] (fun r => !Laws.canB r.f0) W (Kd.C_below hr0 hW) (by omega) ut.enters2 (fun W' x A c hc hr _ _ => ut.bad2 x A c W' hc hr)⟩
 rw [hb1] at H1
 rw [hb2] at H2
 have HCAN:Aside0 (∀ r ∈ l0,Laws.canB r.f0 = true):=⟨fun r hr => by
  have:=List.any_eq_false.1 hb2 r hr
  simpa using this⟩
 have HC0:=Aside0.mk hr0
 have HC1:=Aside0.mk hr1
 have HGG:=Aside0.mk hG
 have HRR:=Aside0.mk hrr
 have HL:=Aside0.mk hl
 clear hr0 hr1 hm hc0 hc1 hG hrr hb1 hb2 hl
 go_enter Tryz.func13,Tryz.ntmps13
 go_wp2_with (first
  | (go_at_call 15;(with_reducible refine H1.out.mono ?_);rintro e W1 ⟨rfl,hb1⟩;have HB1:=Aside0.mk hb1;clear hb1)
  | (go_at_call 34;(with_reducible refine (H2.out _ HB1.out).mono ?_);rintro e W2 ⟨rfl,hb2⟩;have HB2:=Aside0.mk (ui HB1.out HB1.out.size hb2);clear hb2))
 have HP0:Aside0 (ug.Pr w (W2.alloc (.cells #[.slice none 0 0] 76)) W2.heap.size []):=⟨⟨HB2.out.size,_,ua.new_at _ _,Kd.R_nil _ _ _ _ _⟩⟩
 have HB3:=Aside0.mk (ud HB2.out (.cells #[.slice none 0 0] 76))
 clear H1 H2 HB1 HB2
 generalize W2.alloc (.cells #[.slice none 0 0] 76) = W3 at *
 generalize W2.heap.size = g at *
 go_loopw [25] (fun v25 wr => ∃ i:Nat,v25 = .int .i64 (i:Int) ∧ i ≤ l1.length ∧ Aside0 (ug.Pr w wr g ((l1.take i).flatMap ut.metB)) ∧ Aside0 (Below w.heap.size w wr)) (fun v25 _ => l1.length - (intOf v25).toNat)
 case atStart => exact ⟨0,rfl,Nat.zero_le _,⟨by simpa using HP0.out⟩,HB3⟩
 case round =>
  clear HP0 HB3
  obtain ⟨i,rfl,hi,HP,HB⟩:=hrel
  by_cases hlt:i < l1.length
  · obtain ⟨ad,ea,f0,f1,f2⟩:=at_T34 (Kd.C_below HC1.out HB.out) (i:Int) (by omega) (by omega)
    subst ea
    obtain ⟨y,hy⟩:∃ y,l1[i] = y:=⟨_,rfl⟩
    have hx9:rd_T34 l1 (i:Int) = y:=by rw [← hy];simp [rd_T34,List.getD_eq_getElem?_getD,hlt]
    rw [hx9] at f0 f1 f2
    have hd0:wr.cell? (ad.add (i * 3)) = some (.string y.f0):=by simpa using f0
    have hd1:wr.cell? ⟨(ad.add (i * 3)).block,(ad.add (i * 3)).off + 1,none⟩ = some (.string y.f1):=by simpa using f1
    have hd2:wr.cell? ⟨(ad.add (i * 3)).block,(ad.add (i * 3)).off + 2,none⟩ = some (.string y.f2):=by simpa using f2
    have hq:decide ((i:Int) < (l1.length:Int)) = true:=decide_eq_true (by omega)
    have hq2:(i:Int) < (l1.length:Int):=by omega
    have HN:Aside0 ((l1.take (i + 1)).flatMap ut.metB = (l1.take i).flatMap ut.metB ++ ut.metB y):=⟨by rw [ut.take_next _ l1 i hlt,hy]⟩
    have HLN:Aside0 (((l1.take i).flatMap ut.metB).length + (ut.metB y).length ≤ 100000000):=⟨by
     have h1:=ut.take_le ut.metB l1 (i + 1)
     have h2:=HL.out
     rw [HN.out,List.length_append] at h1
     unfold ut.bytesB at h2
     rw [List.length_append] at h2
     omega⟩
    obtain ⟨cur,hcur⟩:∃ cur,(l1.take i).flatMap ut.metB = cur:=⟨_,rfl⟩
    rw [hcur] at HP HN HLN
    have HPA:=Aside0.mk (HP.out.more (ud (Below.refl wr.heap.size wr) (.cells #[.string y.f0,.string y.f1,.string y.f2] 34)))
    have HBA:=Aside0.mk (ud HB.out (.cells #[.string y.f0,.string y.f1,.string y.f2] 34))
    clear f0 f1 f2 hx9 hy hcur HP HB
    go_wp2_with (go_at_call 35;(with_reducible refine (ut.meta_calls w _ g cur y HPA.out HBA.out HLN.out).mono ?_);rintro e W4 ⟨rfl,hp4,hb4,hs4,hz4⟩;have HP4:=Aside0.mk hp4;have HB4:=Aside0.mk hb4;clear hp4 hb4 hs4 hz4)
    go_roundw
    case rel => exact ⟨i + 1,by go_num,by omega,⟨by rw [HN.out];exact HP4.out⟩,HB4⟩
    case measure => simp [intOf];omega
  · have hq:decide ((i:Int) < (l1.length:Int)) = false:=decide_eq_false (by omega)
    have hq2:decide (i < l1.length) = false:=decide_eq_false hlt
    have HM:Aside0 ((l1.take i).flatMap ut.metB = l1.flatMap ut.metB):=⟨by rw [List.take_of_length_le (by omega)]⟩
    rw [HM.out] at HP
    clear HM hlt
    go_wp2
    go_loopw [35] (fun v35 wq => ∃ j:Nat,v35 = .int .i64 (j:Int) ∧ j ≤ l0.length ∧ Aside0 (ug.Pr w wq g (l1.flatMap ut.metB ++ (l0.take j).flatMap ut.rowB)) ∧ Aside0 (Below w.heap.size w wq)) (fun v35 _ => l0.length - (intOf v35).toNat)
    case atStart => exact ⟨0,rfl,Nat.zero_le _,⟨by simpa using HP.out⟩,HB⟩
    case round =>
     clear HP HB
     obtain ⟨j,rfl,hj,HP,HB⟩:=hrel
     by_cases hlt:j < l0.length
     · obtain ⟨ad,A2,c2,ea,f0,f1,f2,gl,gc⟩:=at_T53 (Kd.C_below HC0.out HB.out) (j:Int) (by omega) (by omega)
       subst ea
       obtain ⟨y,hy⟩:∃ y,l0[j] = y:=⟨_,rfl⟩
       have hx9:rd_T53 l0 (j:Int) = y:=by rw [← hy];simp [rd_T53,List.getD_eq_getElem?_getD,hlt]
       rw [hx9] at f0 f1 f2 gl gc
       have hmem:y ∈ l0:=by rw [← hy];exact List.getElem_mem hlt
       have HGC:=Aside0.mk gc
       have HGL:=Aside0.mk gl
       have HYR:=Aside0.mk (HRR.out y hmem)
       have HYC:=Aside0.mk (HCAN.out y hmem)
       have hd0:wr.cell? (ad.add (j * 3)) = some (.slice A2 y.f0.length c2):=by simpa using f0
       have hd1:wr.cell? ⟨(ad.add (j * 3)).block,(ad.add (j * 3)).off + 1,none⟩ = some (.int .i64 y.f1):=by simpa using f1
       have hd2:wr.cell? ⟨(ad.add (j * 3)).block,(ad.add (j * 3)).off + 2,none⟩ = some (.int .u64 y.f2):=by simpa using f2
       have hqj:decide ((j:Int) < (l0.length:Int)) = true:=decide_eq_true (by omega)
       have hqj2:(j:Int) < (l0.length:Int):=by omega
       have HN:Aside0 (l1.flatMap ut.metB ++ (l0.take (j + 1)).flatMap ut.rowB = (l1.flatMap ut.metB ++ (l0.take j).flatMap ut.rowB) ++ ut.rowB y):=⟨by rw [ut.take_next _ l0 j hlt,hy,List.append_assoc]⟩
       have HLN:Aside0 ((l1.flatMap ut.metB ++ (l0.take j).flatMap ut.rowB).length + (ut.rowB y).length ≤ 100000000):=⟨by
        have h1:=ut.take_le ut.rowB l0 (j + 1)
        have h2:=HL.out
        have h3:=congrArg List.length HN.out
        unfold ut.bytesB at h2
        rw [List.length_append] at h2 h3
        rw [List.length_append] at h3
        omega⟩
       obtain ⟨cur,hcur⟩:∃ cur,l1.flatMap ut.metB ++ (l0.take j).flatMap ut.rowB = cur:=⟨_,rfl⟩
       rw [hcur] at HP HN HLN
       have HPA:=Aside0.mk (HP.out.more (ud (Below.refl wr.heap.size wr) (.cells #[.slice A2 y.f0.length c2,.int .i64 y.f1,.int .u64 y.f2] 53)))
       have HBA:=Aside0.mk (ud HB.out (.cells #[.slice A2 y.f0.length c2,.int .i64 y.f1,.int .u64 y.f2] 53))
       clear f0 f1 f2 hx9 hy hcur hmem gl gc HP HB
       go_wp2_with (go_at_call 36;(with_reducible refine (ut.row_calls w _ g cur A2 c2 y HPA.out HBA.out (HGG.out.below HBA.out) (Kd.C_alloc HGC.out _) HGL.out HYC.out HYR.out HLN.out).mono ?_);rintro e W4 ⟨rfl,hp4,hb4,hs4,hz4⟩;have HP4:=Aside0.mk hp4;have HB4:=Aside0.mk hb4;clear hp4 hb4 hs4 hz4)
       go_roundw
       case rel => exact ⟨j + 1,by go_num,by omega,⟨by rw [HN.out];exact HP4.out⟩,HB4⟩
       case measure => simp [intOf];omega
     · have hqj:decide ((j:Int) < (l0.length:Int)) = false:=decide_eq_false (by omega)
       have hqj2:decide (j < l0.length) = false:=decide_eq_false hlt
       have HM:Aside0 (l1.flatMap ut.metB ++ (l0.take j).flatMap ut.rowB = ut.bytesB l0 l1):=⟨by rw [List.take_of_length_le (by omega)];rfl⟩
       rw [HM.out] at HP
       clear HM hlt
       obtain ⟨_,v9,hg9,hr9⟩:=HP.out
       have z0:=(uj hg9 0).trans rfl
       have HR9:=Aside0.mk hr9
       obtain ⟨A9,c9,e9⟩:=Kd.R_slice hr9
       subst e9
       clear hg9 hr9
       go_wp2
       go_ret2
       exact ⟨_,rfl,HR9.out,HB.out⟩
theorem ut.callsP (A0:Option Addr) (c0:Nat) (l0:List S53) (A1:Option Addr) (c1:Nat) (l1:List S34) (r1:List Int) (r2:Int) (w:World) (hr0:Kd.C k53 w A0 l0.length l0) (hc0:l0.length ≤ c0) (hr1:Kd.C k34 w A1 l1.length l1) (hc1:l1.length ≤ c1) (hG:u1k.Gd w) (h:ut.f l0 l1 = some (r1,r2)) :
 Calls Tryz.prog 13 #[.slice A0 l0.length c0,.slice A1 l1.length c1] w fun e w' => ∃ v0_:Value,e = .returned (.tuple #[v0_,.int .i64 r2]) ∧ Kd.R (Kd.int .u8) 5 w' w.heap.size (fun _ => True) v0_ r1 ∧ Below w.heap.size w w':=by
 unfold ut.f at h
 split at h
 · rename_i hc
   split at h
   · rename_i hb
     cases Option.some.inj h
     exact (ut.refused A0 c0 l0 A1 c1 l1 w hr0 hc0 hr1 hc1 hc.1 hc.2.2.1 hc.2.2.2 hb).mono fun e w' ⟨h1,h2⟩ => ⟨_,h1,Kd.R_nil _ _ _ _ _,h2⟩
   · rename_i hb
     split at h
     · rename_i hl
       cases Option.some.inj h
       exact ut.printed A0 c0 l0 A1 c1 l1 w hr0 hc0 hr1 hc1 hG hc.1 hc.2.1 hc.2.2.1 hc.2.2.2 (Bool.eq_false_iff.2 (fun e => hb (Or.inl e))) (Bool.eq_false_iff.2 (fun e => hb (Or.inr e))) hl
     · cases h
 · cases h
def u1z.l0:Nat → ByteArray → List (S66) → Int → Int → Option (ByteArray × Int)
 | 0,_,_,_,_ => none
 | k + 1,x4,x10,x11,x12 => if x12 < x11 then (if 0 ≤ x12 then (if x12 < (x10.length:Int) then (if x12 > 0 then (if x4.size + 1 ≤ 9223372036854775807 then (if ((uq x10 x12).f0).size + 1 ≤ 9223372036854775807 then ((u1x.f k ((uq x10 x12).f1)).bind fun t304 => (if (((uq x10 x12).f0) ++ (⟨#[61]⟩:ByteArray)).size + t304.size ≤ 9223372036854775807 then (if (x4 ++ (⟨#[44]⟩:ByteArray)).size + ((((uq x10 x12).f0) ++ (⟨#[61]⟩:ByteArray)) ++ t304).size ≤ 9223372036854775807 then (u1z.l0 k ((x4 ++ (⟨#[44]⟩:ByteArray)) ++ ((((uq x10 x12).f0) ++ (⟨#[61]⟩:ByteArray)) ++ t304)) x10 x11 (wrap64 (x12 + 1))) else (none)) else (none))) else (none)) else (none)) else (if ((uq x10 x12).f0).size + 1 ≤ 9223372036854775807 then ((u1x.f k ((uq x10 x12).f1)).bind fun t305 => (if (((uq x10 x12).f0) ++ (⟨#[61]⟩:ByteArray)).size + t305.size ≤ 9223372036854775807 then (if x4.size + ((((uq x10 x12).f0) ++ (⟨#[61]⟩:ByteArray)) ++ t305).size ≤ 9223372036854775807 then (u1z.l0 k (x4 ++ ((((uq x10 x12).f0) ++ (⟨#[61]⟩:ByteArray)) ++ t305)) x10 x11 (wrap64 (x12 + 1))) else (none)) else (none))) else (none))) else (none)) else (none)) else (if 1 + x4.size ≤ 9223372036854775807 then (if ((⟨#[123]⟩:ByteArray) ++ x4).size + 1 ≤ 9223372036854775807 then (some (((⟨#[123]⟩:ByteArray) ++ x4) ++ (⟨#[125]⟩:ByteArray),0)) else (none)) else (none))
def u1z.f (k:Nat) (l0:List (S66)):Option (ByteArray × Int):=(ur.f k l0).bind fun t301 => (if t301 = true then (u1z.l0 k (⟨#[]⟩:ByteArray) l0 (l0.length:Int) 0) else (some ((⟨#[]⟩:ByteArray),1)))
set_option maxHeartbeats 8000000 in
set_option maxRecDepth 100000 in
theorem u1z.calls (k:Nat) (A0:Option Addr) (c0:Nat) (l0:List (S66)) (r1:ByteArray) (r2:Int) (w:World) (hr0:Kd.C k66 w A0 l0.length l0) (hc0:l0.length ≤ c0) (h:u1z.f k l0 = some (r1,r2)) :
 Calls Tryz.prog 72 #[.slice A0 l0.length c0] w fun e w' => e = .returned (.tuple #[.string r1,.int .i64 r2]) ∧ Below w.heap.size w w':=by
 have hu66:=Tryz.underlying66
 have HR0:=Aside0.mk hr0
 have HC0:=Aside0.mk hc0
 clear hr0 hc0
 have HB:=Aside0.mk (Below.refl w.heap.size w)
 have H:((ur.f k l0).bind fun t301 => (if t301 = true then (u1z.l0 k (⟨#[]⟩:ByteArray) l0 (l0.length:Int) 0) else (some ((⟨#[]⟩:ByteArray),1)))) = some (r1,r2):=h
 clear h
 replace H:=Option.bind_eq_some_iff.mp H
 obtain ⟨t301,A20,H⟩:=H
 replace H:(if t301 = true then (u1z.l0 k (⟨#[]⟩:ByteArray) l0 (l0.length:Int) 0) else (some ((⟨#[]⟩:ByteArray),1))) = some (r1,r2):=H
 have A2:=Aside0.mk A20
 clear A20
 by_cases c3:t301 = true
 · subst c3
   have H1:(u1z.l0 k (⟨#[]⟩:ByteArray) l0 (l0.length:Int) 0) = some (r1,r2):=by rw [if_pos rfl] at H;exact H
   clear H
   have H:=H1
   clear H1
   have H':=Aside0.mk H
   clear H
   go_enter Tryz.func72,Tryz.ntmps72
   go_wp2_with (first | (go_at_call 40;(with_reducible refine (ur.calls k _ _ l0 true _ ?side1 ?side2 A2.out).mono ?_);(case side1 => repeat (first | exact HR0.out | (with_reducible refine Kd.C_alloc ?_ _) | (with_reducible refine Kd.C_drewN ?_ _) | (with_reducible refine Kd.C_drew ?_)));(case side2 => exact HC0.out);rintro e w4 ⟨rfl,hb⟩;have n0_:=Aside0.mk (u1d (by repeat (first | (with_reducible first | exact HB.out | apply ud | apply ub | apply uf) | exact HB.out)) hb);clear HB;have HB:=n0_;clear n0_;(try clear hb);(try clear hb2);(try clear hk);(try clear hi)))
   repeat (go_quiet (first | (go_at_call 40;(with_reducible refine (ur.calls k _ _ l0 true _ ?side1 ?side2 A2.out).mono ?_);(case side1 => repeat (first | exact HR0.out | (with_reducible refine Kd.C_alloc ?_ _) | (with_reducible refine Kd.C_drewN ?_ _) | (with_reducible refine Kd.C_drew ?_)));(case side2 => exact HC0.out);rintro e w4 ⟨rfl,hb⟩;have n0_:=Aside0.mk (u1d (by repeat (first | (with_reducible first | exact HB.out | apply ud | apply ub | apply uf) | exact HB.out)) hb);clear HB;have HB:=n0_;clear n0_;(try clear hb);(try clear hb2);(try clear hk);(try clear hi)));try go_wp2_with (first | (go_at_call 40;(with_reducible refine (ur.calls k _ _ l0 true _ ?side1 ?side2 A2.out).mono ?_);(case side1 => repeat (first | exact HR0.out | (with_reducible refine Kd.C_alloc ?_ _) | (with_reducible refine Kd.C_drewN ?_ _) | (with_reducible refine Kd.C_drew ?_)));(case side2 => exact HC0.out);rintro e w4 ⟨rfl,hb⟩;have n0_:=Aside0.mk (u1d (by repeat (first | (with_reducible first | exact HB.out | apply ud | apply ub | apply uf) | exact HB.out)) hb);clear HB;have HB:=n0_;clear n0_;(try clear hb);(try clear hb2);(try clear hk);(try clear hi))))
   go_loopg [4,12] k (fun kq v4 v12 w' => ∃ (x4_1:ByteArray) (x12_1:Int),v4 = .string x4_1 ∧ v12 = .int .i64 x12_1 ∧ Aside0 (u1z.l0 kq x4_1 l0 (l0.length:Int) x12_1 = some (r1,r2)) ∧ Aside0 (kq ≤ k) ∧ Aside0 (Below w.heap.size w w'))
   case atStart => exact ⟨((⟨#[]⟩:ByteArray)),(0),(by first | rfl | (simp;done) | (simp [*];done)),(by first | rfl | (simp;done) | (simp [*];done)),H',⟨Nat.le_refl _⟩,⟨by repeat (first | (with_reducible first | exact HB.out | apply ud | apply ub | apply uf) | exact HB.out)⟩⟩
   case round =>
    clear H'
    try clear p2
    try clear c3
    obtain ⟨x4_1,x12_1,rfl,rfl,HA,HK1,HB⟩:=hrel
    cases gk with
    | zero => exact absurd HA.out (by simp [u1z.l0])
    | succ k1 =>
      have H:=HA.out
      clear HA
      simp only [u1z.l0] at H
      by_cases c5:x12_1 < (l0.length:Int)
      · rw [if_pos c5] at H
        have c5b0:decide (x12_1 < (l0.length:Int)) = true:=decide_eq_true c5
        clear c5
        by_cases c6:0 ≤ x12_1
        · rw [if_pos c6] at H
          have c6b0:decide (0 ≤ x12_1) = true:=decide_eq_true c6
          clear c6
          by_cases c7:x12_1 < (l0.length:Int)
          · rw [if_pos c7] at H
            have c7b0:decide (x12_1 < (l0.length:Int)) = true:=decide_eq_true c7
            clear c7
            by_cases c8:x12_1 > 0
            · rw [if_pos c8] at H
              have c8b0:decide (0 < x12_1) = true:=decide_eq_true c8
              clear c8
              by_cases c9:x4_1.size + 1 ≤ 9223372036854775807
              · rw [if_pos c9] at H
                have c9b0:=eq_true c9
                have c9b1:decide (x4_1.size + 1 ≤ 9223372036854775807) = true:=decide_eq_true c9
                try have c9b2:(9223372036854775807 < x4_1.size + 1) = False:=eq_false (Nat.not_lt.2 c9)
                try (have c9b3:=c9b2;simp only [ByteArray.size_append,Base.size1,(show ∀ a_ b_:UInt8,(⟨#[a_,b_]⟩:ByteArray).size = 2 from fun _ _ => rfl)] at c9b3)
                by_cases c10:((uq l0 x12_1).f0).size + 1 ≤ 9223372036854775807
                · rw [if_pos c10] at H
                  have c10b0:=eq_true c10
                  have c10b1:decide (((uq l0 x12_1).f0).size + 1 ≤ 9223372036854775807) = true:=decide_eq_true c10
                  try have c10b2:(9223372036854775807 < ((uq l0 x12_1).f0).size + 1) = False:=eq_false (Nat.not_lt.2 c10)
                  try (have c10b3:=c10b2;simp only [ByteArray.size_append,Base.size1,(show ∀ a_ b_:UInt8,(⟨#[a_,b_]⟩:ByteArray).size = 2 from fun _ _ => rfl)] at c10b3)
                  replace H:=Option.bind_eq_some_iff.mp H
                  obtain ⟨t304,A110,H⟩:=H
                  replace H:(if (((uq l0 x12_1).f0) ++ (⟨#[61]⟩:ByteArray)).size + t304.size ≤ 9223372036854775807 then (if (x4_1 ++ (⟨#[44]⟩:ByteArray)).size + ((((uq l0 x12_1).f0) ++ (⟨#[61]⟩:ByteArray)) ++ t304).size ≤ 9223372036854775807 then (u1z.l0 k1 ((x4_1 ++ (⟨#[44]⟩:ByteArray)) ++ ((((uq l0 x12_1).f0) ++ (⟨#[61]⟩:ByteArray)) ++ t304)) l0 (l0.length:Int) (wrap64 (x12_1 + 1))) else (none)) else (none)) = some (r1,r2):=H
                  have A11:=Aside0.mk A110
                  clear A110
                  by_cases c12:(((uq l0 x12_1).f0) ++ (⟨#[61]⟩:ByteArray)).size + t304.size ≤ 9223372036854775807
                  · rw [if_pos c12] at H
                    have c12b0:=eq_true c12
                    have c12b1:decide ((((uq l0 x12_1).f0) ++ (⟨#[61]⟩:ByteArray)).size + t304.size ≤ 9223372036854775807) = true:=decide_eq_true c12
                    try have c12b2:(9223372036854775807 < (((uq l0 x12_1).f0) ++ (⟨#[61]⟩:ByteArray)).size + t304.size) = False:=eq_false (Nat.not_lt.2 c12)
                    try (have c12b3:=c12b2;simp only [ByteArray.size_append,Base.size1,(show ∀ a_ b_:UInt8,(⟨#[a_,b_]⟩:ByteArray).size = 2 from fun _ _ => rfl)] at c12b3)
                    by_cases c13:(x4_1 ++ (⟨#[44]⟩:ByteArray)).size + ((((uq l0 x12_1).f0) ++ (⟨#[61]⟩:ByteArray)) ++ t304).size ≤ 9223372036854775807
                    · rw [if_pos c13] at H
                      have c13b0:=eq_true c13
                      have c13b1:decide ((x4_1 ++ (⟨#[44]⟩:ByteArray)).size + ((((uq l0 x12_1).f0) ++ (⟨#[61]⟩:ByteArray)) ++ t304).size ≤ 9223372036854775807) = true:=decide_eq_true c13
                      try have c13b2:(9223372036854775807 < (x4_1 ++ (⟨#[44]⟩:ByteArray)).size + ((((uq l0 x12_1).f0) ++ (⟨#[61]⟩:ByteArray)) ++ t304).size) = False:=eq_false (Nat.not_lt.2 c13)
                      try (have c13b3:=c13b2;simp only [ByteArray.size_append,Base.size1,(show ∀ a_ b_:UInt8,(⟨#[a_,b_]⟩:ByteArray).size = 2 from fun _ _ => rfl)] at c13b3)
                      have H':=Aside0.mk H
                      clear H
                      have p302:0 ≤ (x12_1:Int):=of_decide_eq_true (by first | (with_reducible assumption) | assumption)
                      have q302:x12_1 < (l0.length:Int):=of_decide_eq_true (by first | (with_reducible assumption) | assumption)
                      obtain ⟨ad302,e302,hx302_0,hx302_1⟩:=at_T66 HR0.out x12_1 p302 q302
                      cases e302
                      replace hx302_0:=(HB.out.cell (World.block_lt_of_cell? w _ hx302_0)).trans hx302_0
                      replace hx302_1:=(HB.out.cell (World.block_lt_of_cell? w _ hx302_1)).trans hx302_1
                      replace p302:=eq_true p302
                      replace q302:=eq_true q302
                      go_wp2_with (first | ((with_reducible refine u2u (N:=6) rfl ?_);refine u2r ?hg (N:=6) ?hd (cs:=#[.string (⟨#[]⟩:ByteArray),.string (⟨#[]⟩:ByteArray)]) (t:=66) ?hr ?_;(case hd => rfl);(case hg => rfl);(case hr => first | (go_simp;done) | (go_simp;rfl));intro gb303 hg w14 hbox hb;have n0_:=Aside0.mk (u1d (by repeat (first | (with_reducible first | exact HB.out | apply ud | apply ub | apply uf) | exact HB.out)) hb);have n1_:=Aside0.mk (hbox);have n2_:=Aside0.mk ((by rw [hg];exact (u1c (by repeat (first | (with_reducible first | exact HB.out | apply ud | apply ub | apply uf) | exact HB.out))):w.heap.size ≤ gb303));have n3_:=Aside0.mk ((by rw [hg];exact (u1c (by repeat (first | (with_reducible first | exact HB.out | apply ud | apply ub | apply uf) | exact HB.out))):w.heap.size ≤ gb303));clear HB;have HB:=n0_;have BK303:=n1_;have GW303:=n2_;have GE303:=n3_;clear n0_ n1_ n2_ n3_;clear hb hbox hg;have hcz15_0:w14.cell? ⟨gb303,0,none⟩ = some (.string (⟨#[]⟩:ByteArray)):=(uj BK303.out 0).trans rfl;have hcz15_1:w14.cell? ⟨gb303,1,none⟩ = some (.string (⟨#[]⟩:ByteArray)):=(uj BK303.out 1).trans rfl;have hfz15_0:=uo BK303.out 0;have hfz15_1:=uo BK303.out 1) | (go_at_call 113;(with_reducible refine (u1x.calls k1 ((uq l0 x12_1).f1) t304 _ A11.out).mono ?_);rintro e w' ⟨rfl,⟨nd,rfl⟩⟩;(try first | exact ⟨rfl,_,World.drewN_drewN _ _ _⟩ | exact ⟨rfl,_,Eq.trans (World.drewN_drewN _ _ _) (congrArg (World.drewN _) (Nat.add_assoc _ _ _))⟩)))
                      repeat (go_quiet (first | ((with_reducible refine u2u (N:=6) rfl ?_);refine u2r ?hg (N:=6) ?hd (cs:=#[.string (⟨#[]⟩:ByteArray),.string (⟨#[]⟩:ByteArray)]) (t:=66) ?hr ?_;(case hd => rfl);(case hg => rfl);(case hr => first | (go_simp;done) | (go_simp;rfl));intro gb303 hg w14 hbox hb;have n0_:=Aside0.mk (u1d (by repeat (first | (with_reducible first | exact HB.out | apply ud | apply ub | apply uf) | exact HB.out)) hb);have n1_:=Aside0.mk (hbox);have n2_:=Aside0.mk ((by rw [hg];exact (u1c (by repeat (first | (with_reducible first | exact HB.out | apply ud | apply ub | apply uf) | exact HB.out))):w.heap.size ≤ gb303));have n3_:=Aside0.mk ((by rw [hg];exact (u1c (by repeat (first | (with_reducible first | exact HB.out | apply ud | apply ub | apply uf) | exact HB.out))):w.heap.size ≤ gb303));clear HB;have HB:=n0_;have BK303:=n1_;have GW303:=n2_;have GE303:=n3_;clear n0_ n1_ n2_ n3_;clear hb hbox hg;have hcz15_0:w14.cell? ⟨gb303,0,none⟩ = some (.string (⟨#[]⟩:ByteArray)):=(uj BK303.out 0).trans rfl;have hcz15_1:w14.cell? ⟨gb303,1,none⟩ = some (.string (⟨#[]⟩:ByteArray)):=(uj BK303.out 1).trans rfl;have hfz15_0:=uo BK303.out 0;have hfz15_1:=uo BK303.out 1) | (go_at_call 113;(with_reducible refine (u1x.calls k1 ((uq l0 x12_1).f1) t304 _ A11.out).mono ?_);rintro e w' ⟨rfl,⟨nd,rfl⟩⟩;(try first | exact ⟨rfl,_,World.drewN_drewN _ _ _⟩ | exact ⟨rfl,_,Eq.trans (World.drewN_drewN _ _ _) (congrArg (World.drewN _) (Nat.add_assoc _ _ _))⟩)));try go_wp2_with (first | ((with_reducible refine u2u (N:=6) rfl ?_);refine u2r ?hg (N:=6) ?hd (cs:=#[.string (⟨#[]⟩:ByteArray),.string (⟨#[]⟩:ByteArray)]) (t:=66) ?hr ?_;(case hd => rfl);(case hg => rfl);(case hr => first | (go_simp;done) | (go_simp;rfl));intro gb303 hg w14 hbox hb;have n0_:=Aside0.mk (u1d (by repeat (first | (with_reducible first | exact HB.out | apply ud | apply ub | apply uf) | exact HB.out)) hb);have n1_:=Aside0.mk (hbox);have n2_:=Aside0.mk ((by rw [hg];exact (u1c (by repeat (first | (with_reducible first | exact HB.out | apply ud | apply ub | apply uf) | exact HB.out))):w.heap.size ≤ gb303));have n3_:=Aside0.mk ((by rw [hg];exact (u1c (by repeat (first | (with_reducible first | exact HB.out | apply ud | apply ub | apply uf) | exact HB.out))):w.heap.size ≤ gb303));clear HB;have HB:=n0_;have BK303:=n1_;have GW303:=n2_;have GE303:=n3_;clear n0_ n1_ n2_ n3_;clear hb hbox hg;have hcz15_0:w14.cell? ⟨gb303,0,none⟩ = some (.string (⟨#[]⟩:ByteArray)):=(uj BK303.out 0).trans rfl;have hcz15_1:w14.cell? ⟨gb303,1,none⟩ = some (.string (⟨#[]⟩:ByteArray)):=(uj BK303.out 1).trans rfl;have hfz15_0:=uo BK303.out 0;have hfz15_1:=uo BK303.out 1) | (go_at_call 113;(with_reducible refine (u1x.calls k1 ((uq l0 x12_1).f1) t304 _ A11.out).mono ?_);rintro e w' ⟨rfl,⟨nd,rfl⟩⟩;(try first | exact ⟨rfl,_,World.drewN_drewN _ _ _⟩ | exact ⟨rfl,_,Eq.trans (World.drewN_drewN _ _ _) (congrArg (World.drewN _) (Nat.add_assoc _ _ _))⟩))))
                      go_roundg k1
                      case measure => have:=HK1.out;omega
                      case rel => exact ⟨((x4_1 ++ (⟨#[44]⟩:ByteArray)) ++ ((((uq l0 x12_1).f0) ++ (⟨#[61]⟩:ByteArray)) ++ t304)),(wrap64 (x12_1 + 1)),(by first | rfl | (simp;done) | (simp [*];done)),(by first | rfl | (simp;done) | (simp [*];done)),H',⟨by have:=HK1.out;omega⟩,⟨by repeat (first | (with_reducible first | exact HB.out | apply ud | apply ub | apply uf | refine uz ?_ GE303.out) | exact HB.out)⟩⟩
                    · rw [if_neg c13] at H
                      exact absurd H (by simp)
                  · rw [if_neg c12] at H
                    exact absurd H (by simp)
                · rw [if_neg c10] at H
                  exact absurd H (by simp)
              · rw [if_neg c9] at H
                exact absurd H (by simp)
            · rw [if_neg c8] at H
              have c8b0:decide (0 < x12_1) = false:=decide_eq_false c8
              clear c8
              by_cases c16:((uq l0 x12_1).f0).size + 1 ≤ 9223372036854775807
              · rw [if_pos c16] at H
                have c16b0:=eq_true c16
                have c16b1:decide (((uq l0 x12_1).f0).size + 1 ≤ 9223372036854775807) = true:=decide_eq_true c16
                try have c16b2:(9223372036854775807 < ((uq l0 x12_1).f0).size + 1) = False:=eq_false (Nat.not_lt.2 c16)
                try (have c16b3:=c16b2;simp only [ByteArray.size_append,Base.size1,(show ∀ a_ b_:UInt8,(⟨#[a_,b_]⟩:ByteArray).size = 2 from fun _ _ => rfl)] at c16b3)
                replace H:=Option.bind_eq_some_iff.mp H
                obtain ⟨t305,A170,H⟩:=H
                replace H:(if (((uq l0 x12_1).f0) ++ (⟨#[61]⟩:ByteArray)).size + t305.size ≤ 9223372036854775807 then (if x4_1.size + ((((uq l0 x12_1).f0) ++ (⟨#[61]⟩:ByteArray)) ++ t305).size ≤ 9223372036854775807 then (u1z.l0 k1 (x4_1 ++ ((((uq l0 x12_1).f0) ++ (⟨#[61]⟩:ByteArray)) ++ t305)) l0 (l0.length:Int) (wrap64 (x12_1 + 1))) else (none)) else (none)) = some (r1,r2):=H
                have A17:=Aside0.mk A170
                clear A170
                by_cases c18:(((uq l0 x12_1).f0) ++ (⟨#[61]⟩:ByteArray)).size + t305.size ≤ 9223372036854775807
                · rw [if_pos c18] at H
                  have c18b0:=eq_true c18
                  have c18b1:decide ((((uq l0 x12_1).f0) ++ (⟨#[61]⟩:ByteArray)).size + t305.size ≤ 9223372036854775807) = true:=decide_eq_true c18
                  try have c18b2:(9223372036854775807 < (((uq l0 x12_1).f0) ++ (⟨#[61]⟩:ByteArray)).size + t305.size) = False:=eq_false (Nat.not_lt.2 c18)
                  try (have c18b3:=c18b2;simp only [ByteArray.size_append,Base.size1,(show ∀ a_ b_:UInt8,(⟨#[a_,b_]⟩:ByteArray).size = 2 from fun _ _ => rfl)] at c18b3)
                  by_cases c19:x4_1.size + ((((uq l0 x12_1).f0) ++ (⟨#[61]⟩:ByteArray)) ++ t305).size ≤ 9223372036854775807
                  · rw [if_pos c19] at H
                    have c19b0:=eq_true c19
                    have c19b1:decide (x4_1.size + ((((uq l0 x12_1).f0) ++ (⟨#[61]⟩:ByteArray)) ++ t305).size ≤ 9223372036854775807) = true:=decide_eq_true c19
                    try have c19b2:(9223372036854775807 < x4_1.size + ((((uq l0 x12_1).f0) ++ (⟨#[61]⟩:ByteArray)) ++ t305).size) = False:=eq_false (Nat.not_lt.2 c19)
                    try (have c19b3:=c19b2;simp only [ByteArray.size_append,Base.size1,(show ∀ a_ b_:UInt8,(⟨#[a_,b_]⟩:ByteArray).size = 2 from fun _ _ => rfl)] at c19b3)
                    have H':=Aside0.mk H
                    clear H
                    have p302:0 ≤ (x12_1:Int):=of_decide_eq_true (by first | (with_reducible assumption) | assumption)
                    have q302:x12_1 < (l0.length:Int):=of_decide_eq_true (by first | (with_reducible assumption) | assumption)
                    obtain ⟨ad302,e302,hx302_0,hx302_1⟩:=at_T66 HR0.out x12_1 p302 q302
                    cases e302
                    replace hx302_0:=(HB.out.cell (World.block_lt_of_cell? w _ hx302_0)).trans hx302_0
                    replace hx302_1:=(HB.out.cell (World.block_lt_of_cell? w _ hx302_1)).trans hx302_1
                    replace p302:=eq_true p302
                    replace q302:=eq_true q302
                    go_wp2_with (first | ((with_reducible refine u2u (N:=6) rfl ?_);refine u2r ?hg (N:=6) ?hd (cs:=#[.string (⟨#[]⟩:ByteArray),.string (⟨#[]⟩:ByteArray)]) (t:=66) ?hr ?_;(case hd => rfl);(case hg => rfl);(case hr => first | (go_simp;done) | (go_simp;rfl));intro gb303 hg w20 hbox hb;have n0_:=Aside0.mk (u1d (by repeat (first | (with_reducible first | exact HB.out | apply ud | apply ub | apply uf) | exact HB.out)) hb);have n1_:=Aside0.mk (hbox);have n2_:=Aside0.mk ((by rw [hg];exact (u1c (by repeat (first | (with_reducible first | exact HB.out | apply ud | apply ub | apply uf) | exact HB.out))):w.heap.size ≤ gb303));have n3_:=Aside0.mk ((by rw [hg];exact (u1c (by repeat (first | (with_reducible first | exact HB.out | apply ud | apply ub | apply uf) | exact HB.out))):w.heap.size ≤ gb303));clear HB;have HB:=n0_;have BK303:=n1_;have GW303:=n2_;have GE303:=n3_;clear n0_ n1_ n2_ n3_;clear hb hbox hg;have hcz21_0:w20.cell? ⟨gb303,0,none⟩ = some (.string (⟨#[]⟩:ByteArray)):=(uj BK303.out 0).trans rfl;have hcz21_1:w20.cell? ⟨gb303,1,none⟩ = some (.string (⟨#[]⟩:ByteArray)):=(uj BK303.out 1).trans rfl;have hfz21_0:=uo BK303.out 0;have hfz21_1:=uo BK303.out 1) | (go_at_call 113;(with_reducible refine (u1x.calls k1 ((uq l0 x12_1).f1) t305 _ A17.out).mono ?_);rintro e w' ⟨rfl,⟨nd,rfl⟩⟩;(try first | exact ⟨rfl,_,World.drewN_drewN _ _ _⟩ | exact ⟨rfl,_,Eq.trans (World.drewN_drewN _ _ _) (congrArg (World.drewN _) (Nat.add_assoc _ _ _))⟩)))
                    repeat (go_quiet (first | ((with_reducible refine u2u (N:=6) rfl ?_);refine u2r ?hg (N:=6) ?hd (cs:=#[.string (⟨#[]⟩:ByteArray),.string (⟨#[]⟩:ByteArray)]) (t:=66) ?hr ?_;(case hd => rfl);(case hg => rfl);(case hr => first | (go_simp;done) | (go_simp;rfl));intro gb303 hg w20 hbox hb;have n0_:=Aside0.mk (u1d (by repeat (first | (with_reducible first | exact HB.out | apply ud | apply ub | apply uf) | exact HB.out)) hb);have n1_:=Aside0.mk (hbox);have n2_:=Aside0.mk ((by rw [hg];exact (u1c (by repeat (first | (with_reducible first | exact HB.out | apply ud | apply ub | apply uf) | exact HB.out))):w.heap.size ≤ gb303));have n3_:=Aside0.mk ((by rw [hg];exact (u1c (by repeat (first | (with_reducible first | exact HB.out | apply ud | apply ub | apply uf) | exact HB.out))):w.heap.size ≤ gb303));clear HB;have HB:=n0_;have BK303:=n1_;have GW303:=n2_;have GE303:=n3_;clear n0_ n1_ n2_ n3_;clear hb hbox hg;have hcz21_0:w20.cell? ⟨gb303,0,none⟩ = some (.string (⟨#[]⟩:ByteArray)):=(uj BK303.out 0).trans rfl;have hcz21_1:w20.cell? ⟨gb303,1,none⟩ = some (.string (⟨#[]⟩:ByteArray)):=(uj BK303.out 1).trans rfl;have hfz21_0:=uo BK303.out 0;have hfz21_1:=uo BK303.out 1) | (go_at_call 113;(with_reducible refine (u1x.calls k1 ((uq l0 x12_1).f1) t305 _ A17.out).mono ?_);rintro e w' ⟨rfl,⟨nd,rfl⟩⟩;(try first | exact ⟨rfl,_,World.drewN_drewN _ _ _⟩ | exact ⟨rfl,_,Eq.trans (World.drewN_drewN _ _ _) (congrArg (World.drewN _) (Nat.add_assoc _ _ _))⟩)));try go_wp2_with (first | ((with_reducible refine u2u (N:=6) rfl ?_);refine u2r ?hg (N:=6) ?hd (cs:=#[.string (⟨#[]⟩:ByteArray),.string (⟨#[]⟩:ByteArray)]) (t:=66) ?hr ?_;(case hd => rfl);(case hg => rfl);(case hr => first | (go_simp;done) | (go_simp;rfl));intro gb303 hg w20 hbox hb;have n0_:=Aside0.mk (u1d (by repeat (first | (with_reducible first | exact HB.out | apply ud | apply ub | apply uf) | exact HB.out)) hb);have n1_:=Aside0.mk (hbox);have n2_:=Aside0.mk ((by rw [hg];exact (u1c (by repeat (first | (with_reducible first | exact HB.out | apply ud | apply ub | apply uf) | exact HB.out))):w.heap.size ≤ gb303));have n3_:=Aside0.mk ((by rw [hg];exact (u1c (by repeat (first | (with_reducible first | exact HB.out | apply ud | apply ub | apply uf) | exact HB.out))):w.heap.size ≤ gb303));clear HB;have HB:=n0_;have BK303:=n1_;have GW303:=n2_;have GE303:=n3_;clear n0_ n1_ n2_ n3_;clear hb hbox hg;have hcz21_0:w20.cell? ⟨gb303,0,none⟩ = some (.string (⟨#[]⟩:ByteArray)):=(uj BK303.out 0).trans rfl;have hcz21_1:w20.cell? ⟨gb303,1,none⟩ = some (.string (⟨#[]⟩:ByteArray)):=(uj BK303.out 1).trans rfl;have hfz21_0:=uo BK303.out 0;have hfz21_1:=uo BK303.out 1) | (go_at_call 113;(with_reducible refine (u1x.calls k1 ((uq l0 x12_1).f1) t305 _ A17.out).mono ?_);rintro e w' ⟨rfl,⟨nd,rfl⟩⟩;(try first | exact ⟨rfl,_,World.drewN_drewN _ _ _⟩ | exact ⟨rfl,_,Eq.trans (World.drewN_drewN _ _ _) (congrArg (World.drewN _) (Nat.add_assoc _ _ _))⟩))))
                    go_roundg k1
                    case measure => have:=HK1.out;omega
                    case rel => exact ⟨(x4_1 ++ ((((uq l0 x12_1).f0) ++ (⟨#[61]⟩:ByteArray)) ++ t305)),(wrap64 (x12_1 + 1)),(by first | rfl | (simp;done) | (simp [*];done)),(by first | rfl | (simp;done) | (simp [*];done)),H',⟨by have:=HK1.out;omega⟩,⟨by repeat (first | (with_reducible first | exact HB.out | apply ud | apply ub | apply uf | refine uz ?_ GE303.out) | exact HB.out)⟩⟩
                  · rw [if_neg c19] at H
                    exact absurd H (by simp)
                · rw [if_neg c18] at H
                  exact absurd H (by simp)
              · rw [if_neg c16] at H
                exact absurd H (by simp)
          · rw [if_neg c7] at H
            exact absurd H (by simp)
        · rw [if_neg c6] at H
          exact absurd H (by simp)
      · rw [if_neg c5] at H
        have c5b0:decide (x12_1 < (l0.length:Int)) = false:=decide_eq_false c5
        clear c5
        by_cases c22:1 + x4_1.size ≤ 9223372036854775807
        · rw [if_pos c22] at H
          have c22b0:=eq_true c22
          have c22b1:decide (1 + x4_1.size ≤ 9223372036854775807) = true:=decide_eq_true c22
          try have c22b2:(9223372036854775807 < 1 + x4_1.size) = False:=eq_false (Nat.not_lt.2 c22)
          try (have c22b3:=c22b2;simp only [ByteArray.size_append,Base.size1,(show ∀ a_ b_:UInt8,(⟨#[a_,b_]⟩:ByteArray).size = 2 from fun _ _ => rfl)] at c22b3)
          by_cases c23:((⟨#[123]⟩:ByteArray) ++ x4_1).size + 1 ≤ 9223372036854775807
          · rw [if_pos c23] at H
            have c23b0:=eq_true c23
            have c23b1:decide (((⟨#[123]⟩:ByteArray) ++ x4_1).size + 1 ≤ 9223372036854775807) = true:=decide_eq_true c23
            try have c23b2:(9223372036854775807 < ((⟨#[123]⟩:ByteArray) ++ x4_1).size + 1) = False:=eq_false (Nat.not_lt.2 c23)
            try (have c23b3:=c23b2;simp only [ByteArray.size_append,Base.size1,(show ∀ a_ b_:UInt8,(⟨#[a_,b_]⟩:ByteArray).size = 2 from fun _ _ => rfl)] at c23b3)
            simp only [Option.some.injEq,Prod.mk.injEq] at H
            obtain ⟨rfl,rfl⟩:=H
            go_wp2
            repeat (go_quiet (fail);try go_wp2)
            go_ret2
            exact ⟨by first | rfl | (simp [u2c,u2b] <;> rfl) | (simp [*,u2c,u2b] <;> rfl),by repeat (first | (with_reducible first | exact HB.out | apply ud | apply ub | apply uf) | exact HB.out)⟩
          · rw [if_neg c23] at H
            exact absurd H (by simp)
        · rw [if_neg c22] at H
          exact absurd H (by simp)
 · replace c3:=Bool.eq_false_iff.mpr c3
   subst c3
   have H1:(some ((⟨#[]⟩:ByteArray),1)) = some (r1,r2):=by rw [if_neg (show ¬ (false = true) by decide)] at H;exact H
   clear H
   have H:=H1
   clear H1
   simp only [Option.some.injEq,Prod.mk.injEq] at H
   obtain ⟨rfl,rfl⟩:=H
   go_enter Tryz.func72,Tryz.ntmps72
   go_wp2_with (first | (go_at_call 40;(with_reducible refine (ur.calls k _ _ l0 false _ ?side1 ?side2 A2.out).mono ?_);(case side1 => repeat (first | exact HR0.out | (with_reducible refine Kd.C_alloc ?_ _) | (with_reducible refine Kd.C_drewN ?_ _) | (with_reducible refine Kd.C_drew ?_)));(case side2 => exact HC0.out);rintro e w24 ⟨rfl,hb⟩;have n0_:=Aside0.mk (u1d (by repeat (first | (with_reducible first | exact HB.out | apply ud | apply ub | apply uf) | exact HB.out)) hb);clear HB;have HB:=n0_;clear n0_;(try clear hb);(try clear hb2);(try clear hk);(try clear hi)))
   repeat (go_quiet (first | (go_at_call 40;(with_reducible refine (ur.calls k _ _ l0 false _ ?side1 ?side2 A2.out).mono ?_);(case side1 => repeat (first | exact HR0.out | (with_reducible refine Kd.C_alloc ?_ _) | (with_reducible refine Kd.C_drewN ?_ _) | (with_reducible refine Kd.C_drew ?_)));(case side2 => exact HC0.out);rintro e w24 ⟨rfl,hb⟩;have n0_:=Aside0.mk (u1d (by repeat (first | (with_reducible first | exact HB.out | apply ud | apply ub | apply uf) | exact HB.out)) hb);clear HB;have HB:=n0_;clear n0_;(try clear hb);(try clear hb2);(try clear hk);(try clear hi)));try go_wp2_with (first | (go_at_call 40;(with_reducible refine (ur.calls k _ _ l0 false _ ?side1 ?side2 A2.out).mono ?_);(case side1 => repeat (first | exact HR0.out | (with_reducible refine Kd.C_alloc ?_ _) | (with_reducible refine Kd.C_drewN ?_ _) | (with_reducible refine Kd.C_drew ?_)));(case side2 => exact HC0.out);rintro e w24 ⟨rfl,hb⟩;have n0_:=Aside0.mk (u1d (by repeat (first | (with_reducible first | exact HB.out | apply ud | apply ub | apply uf) | exact HB.out)) hb);clear HB;have HB:=n0_;clear n0_;(try clear hb);(try clear hb2);(try clear hk);(try clear hi))))
   go_ret2
   exact ⟨by first | rfl | (simp [u2c,u2b] <;> rfl) | (simp [*,u2c,u2b] <;> rfl),by repeat (first | (with_reducible first | exact HB.out | apply ud | apply ub | apply uf) | exact HB.out)⟩
end Go.Proofs.YtmcpeifhapekoaaGreatDoor.PAll
namespace Go.Proofs.YtmcpeifhapekoaaGreatDoor.Laws
open Go.RowKit Go.Proofs.YtmcpeifhapekoaaGreatDoor.PAll Go.Proofs.YtmcpeifhapekoaaGreatDoorW.PrintWords Go.Proofs.YtmcpeifhapekoaaGreatDoorW.PrintLast
set_option linter.unusedVariables false
set_option linter.unusedSimpArgs false
def tailOf (i:Nat) (r:List (List UInt8)):List UInt8:=if i = 0 then Lib.join r [44] else Lib.joinTail [44] r
theorem rtext_l0 (l:List S66) (hl:l.length ≤ 8) (hok:∀ x ∈ l,Base.nameB x.f0 = true ∧ Base.valueB x.f1 = true):∀ (r:List S66) (i:Nat) (acc:ByteArray),l.drop i = r → i ≤ l.length → acc.size ≤ 108 * i →
 Ev (fun k => u1z.l0 k acc l (l.length:Int) (i:Int)) (Base.ofL (123 :: (acc.data.toList ++ tailOf i (r.map pieceL)) ++ [125]),0):=by
 intro r
 induction r with
 | nil =>
   intro i acc h hil ha
   have hi:l.length ≤ i:=List.drop_eq_nil_iff.1 h
   have e0:tailOf i (([]:List S66).map pieceL) = []:=by
    unfold tailOf
    split
    · rfl
    · rfl
   rw [e0]
   have e:Base.ofL (123 :: (acc.data.toList ++ []) ++ [125]) = ((⟨#[123]⟩:ByteArray) ++ acc) ++ (⟨#[125]⟩:ByteArray):=Base.ext_data (by
    rw [Base.ofL_data,Base.append_data,Base.append_data]
    simp)
   rw [e]
   refine Ev.step (f:=fun _ => some (((⟨#[123]⟩:ByteArray) ++ acc) ++ (⟨#[125]⟩:ByteArray),(0:Int))) (fun k => ?_) (Ev.now _)
   have hsz:((⟨#[123]⟩:ByteArray) ++ acc).size = 1 + acc.size:=by
    rw [Base.size_list,Base.append_data,List.length_append,← Base.size_list acc]
    rfl
   simp only [u1z.l0]
   rw [if_neg (by omega),if_pos (by omega),if_pos (by rw [hsz];omega)]
 | cons x r ih =>
   intro i acc h hil ha
   obtain ⟨hx,hi,hr⟩:=rd_drop l i x r h
   have hw:wrap64 ((i:Int) + 1) = ((i + 1:Nat):Int):=wrap_up i (by omega)
   have hmem:x ∈ l:=List.mem_of_mem_drop (by rw [h];simp)
   have hn:=nameB_size (hok x hmem).1
   have hv:=valueB_size (hok x hmem).2
   have hq:=quoteS_size x.f1
   have hqe:=rquote_ev x.f1 (by omega)
   have hps:(pieceS x).size ≤ 107:=by
    rw [Base.size_list,pieceS_data]
    exact piece_le (hok x hmem).1 (hok x hmem).2
   have hsz:(x.f0 ++ (⟨#[61]⟩:ByteArray)).size = x.f0.size + 1:=by
    rw [Base.size_list,Base.append_data,List.length_append,← Base.size_list]
    rfl
   by_cases h0:i = 0
   · subst h0
     have ih2:=ih 1 (acc ++ pieceS x) hr (by omega) (by
      rw [Base.size_list,Base.append_data,List.length_append,← Base.size_list,← Base.size_list]
      omega)
     have e:123 :: (acc.data.toList ++ tailOf 0 ((x :: r).map pieceL)) ++ [125] = 123 :: ((acc ++ pieceS x).data.toList ++ tailOf 1 (r.map pieceL)) ++ [125]:=by
      rw [Base.append_data,pieceS_data]
      simp only [tailOf,List.map_cons,if_true]
      rw [Lib.join_cons,if_neg (by omega)]
      simp
     rw [e]
     refine Ev.step (f:=fun k => (u1x.f k x.f1).bind fun t234 => (if (x.f0 ++ (⟨#[61]⟩:ByteArray)).size + t234.size ≤ 9223372036854775807 then (if acc.size + ((x.f0 ++ (⟨#[61]⟩:ByteArray)) ++ t234).size ≤ 9223372036854775807 then (u1z.l0 k (acc ++ ((x.f0 ++ (⟨#[61]⟩:ByteArray)) ++ t234)) l (l.length:Int) (wrap64 (((0:Nat):Int) + 1))) else (none)) else (none))) (fun k => ?_) (Ev.bind hqe ?_)
     · simp only [u1z.l0]
       rw [if_pos (by omega),if_pos (by omega),if_pos (by omega),hx,if_neg (by omega),if_pos (by omega)]
     · refine Ev.congr (fun k => ?_) ih2
       rw [hw]
       show (if (x.f0 ++ (⟨#[61]⟩:ByteArray)).size + (Base.quoteS x.f1).size ≤ 9223372036854775807 then (if acc.size + (pieceS x).size ≤ 9223372036854775807 then _ else none) else none) = _
       rw [if_pos (by rw [hsz];omega),if_pos (by omega)]
       rfl
   · have ih2:=ih (i + 1) ((acc ++ (⟨#[44]⟩:ByteArray)) ++ pieceS x) hr (by omega) (by
      rw [Base.size_list,Base.append_data,Base.append_data,List.length_append,List.length_append,← Base.size_list,← Base.size_list,← Base.size_list]
      have:(⟨#[44]⟩:ByteArray).size = 1:=rfl
      omega)
     have hsz2:(acc ++ (⟨#[44]⟩:ByteArray)).size = acc.size + 1:=by
      rw [Base.size_list,Base.append_data,List.length_append,← Base.size_list]
      rfl
     have e:123 :: (acc.data.toList ++ tailOf i ((x :: r).map pieceL)) ++ [125] = 123 :: (((acc ++ (⟨#[44]⟩:ByteArray)) ++ pieceS x).data.toList ++ tailOf (i + 1) (r.map pieceL)) ++ [125]:=by
      rw [Base.append_data,Base.append_data,pieceS_data]
      simp only [tailOf,List.map_cons]
      rw [if_neg h0,if_neg (by omega)]
      simp [Lib.joinTail]
     rw [e]
     refine Ev.step (f:=fun k => (u1x.f k x.f1).bind fun t233 => (if (x.f0 ++ (⟨#[61]⟩:ByteArray)).size + t233.size ≤ 9223372036854775807 then (if (acc ++ (⟨#[44]⟩:ByteArray)).size + ((x.f0 ++ (⟨#[61]⟩:ByteArray)) ++ t233).size ≤ 9223372036854775807 then (u1z.l0 k ((acc ++ (⟨#[44]⟩:ByteArray)) ++ ((x.f0 ++ (⟨#[61]⟩:ByteArray)) ++ t233)) l (l.length:Int) (wrap64 ((i:Int) + 1))) else (none)) else (none))) (fun k => ?_) (Ev.bind hqe ?_)
     · simp only [u1z.l0]
       rw [if_pos (by omega),if_pos (by omega),if_pos (by omega),hx,if_pos (by omega),if_pos (by omega),if_pos (by omega)]
     · refine Ev.congr (fun k => ?_) ih2
       rw [hw]
       show (if (x.f0 ++ (⟨#[61]⟩:ByteArray)).size + (Base.quoteS x.f1).size ≤ 9223372036854775807 then (if (acc ++ (⟨#[44]⟩:ByteArray)).size + (pieceS x).size ≤ 9223372036854775807 then _ else none) else none) = _
       rw [if_pos (by rw [hsz];omega),if_pos (by rw [hsz2];omega)]
       rfl
theorem rtext_ev (l:List S66) (hs:∀ y ∈ l,y.f0.size ≤ maxLen ∧ y.f1.size ≤ maxLen):Ev (fun k => u1z.f k l) (if canB l = true then (Base.ofL (textL l),0) else ((⟨#[]⟩:ByteArray),1)):=by
 refine Ev.bind (rcan_ev l hs) ?_
 cases hc:canB l with
 | false => exact Ev.congr (fun k => by simp) (Ev.now _)
 | true =>
   have h:=hc
   simp only [canB,Bool.and_eq_true,decide_eq_true_eq] at h
   have h2:=rtext_l0 l h.1.2 (okFrom_mem l [] h.2) l 0 ⟨#[]⟩ rfl (by omega) (by decide)
   have e:123 :: ((⟨#[]⟩:ByteArray).data.toList ++ tailOf 0 (l.map pieceL)) ++ [125] = textL l:=rfl
   rw [e] at h2
   exact Ev.congr (fun k => by rw [if_pos rfl];rfl) h2
end Go.Proofs.YtmcpeifhapekoaaGreatDoor.Laws
namespace Go.Proofs.YtmcpeifhapekoaaGreatDoor.PAll
open Go.RowKit Go.Proofs.YtmcpeifhapekoaaGreatDoorW.PrintWords Go.Proofs.YtmcpeifhapekoaaGreatDoorW.PrintLast Go.Proofs.YtmcpeifhapekoaaGreatDoorW.PrintMore
attribute [local go_sem] max2_int min2_int max_two min_two max_three min_three max_four min_four
set_option linter.unusedVariables false
set_option linter.unusedSimpArgs false
def uh.f:Option Int:=none
theorem uh.ta_nil (w:World):(Instr.typeAssert Value.nilIface 20 83 true).run Tryz.prog w = .ok (.tuple #[.agg #[.int .i64 0],.bool false]) w:=by kernel_rfl
theorem uh.ta_hit (c:Int) (w:World):(Instr.typeAssert (Value.iface 83 (.agg #[.int .i64 c])) 20 83 true).run Tryz.prog w = .ok (.tuple #[.agg #[.int .i64 c],.bool true]) w:=by kernel_rfl
set_option maxRecDepth 100000 in
theorem uh.catch_idle (p q:Addr) (w:World) :
 CallsD Tryz.prog 44 #[.pointer (some p),.pointer (some q)] .returning w fun e u' w' => e = .returned (.tuple #[]) ∧ u' = .returning ∧ w' = w.alloc (.cells #[.int .i64 0] 83):=by
 have h1:=uh.ta_nil
 refine callsD_of_wpS Tryz.func44 rfl fun c₀ cs hu => ?_
 apply wpS_seq
 apply wpS_region
 simp [wpOpsS,go_sem,recoverD,hu,Tryz.ntmps44,Exit.thenS,h1,Array.replicate]
 refine wpS_of_wp ?_
 go_wp2
 cases c₀
 simp_all [bodyPostS,results,Tryz.results44]
structure uh.Cleared (w w':World) (b q:Nat) (c:Int):Prop where
 said:w'.heap[b]? = some (.cells #[.slice none 0 0,.int .i64 0,.int .u64 0,.bool false,.string ⟨#[]⟩,.string ⟨#[]⟩,.string ⟨#[]⟩] 55 (0,0))
 code:w'.heap[q]? = some (.cells #[.int .i64 c] 26 (0,0))
 rest:∀ B,B ≤ w.heap.size → B ≤ b → B ≤ q → Below B w w'
theorem uh.look7 {W:World} {b t:Nat} {v0 v1 v2 v3 v4 v5 v6:Value} (h:W.heap[b]? = some (.cells #[v0,v1,v2,v3,v4,v5,v6] t (0,0))):(W.cell? ⟨b,0,none⟩ = some v0 ∧ W.cell? ⟨b,1,none⟩ = some v1 ∧ W.cell? ⟨b,2,none⟩ = some v2 ∧ W.cell? ⟨b,3,none⟩ = some v3 ∧ W.cell? ⟨b,4,none⟩ = some v4 ∧ W.cell? ⟨b,5,none⟩ = some v5 ∧ W.cell? ⟨b,6,none⟩ = some v6) ∧ (∀ i,W.frozen? ⟨b,i,none⟩ = false):=by
 have h0:=uj h 0
 have h1:=uj h 1
 have h2:=uj h 2
 have h3:=uj h 3
 have h4:=uj h 4
 have h5:=uj h 5
 have h6:=uj h 6
 simp only [List.size_toArray,List.length_cons,List.length_nil,List.getElem?_toArray,List.getElem?_cons_zero,List.getElem?_cons_succ] at h0 h1 h2 h3 h4 h5 h6
 exact ⟨⟨h0,h1,h2,h3,h4,h5,h6⟩,fun i => uo h i⟩
theorem uh.look1 {W:World} {b t:Nat} {v:Value} (h:W.heap[b]? = some (.cells #[v] t (0,0))):W.cell? ⟨b,0,none⟩ = some v ∧ W.frozen? ⟨b,0,none⟩ = false:=by
 have h0:=uj h 0
 simp only [List.size_toArray,List.length_cons,List.length_nil,List.getElem?_toArray,List.getElem?_cons_zero,List.getElem?_cons_succ] at h0
 exact ⟨h0,uo h 0⟩
theorem uh.set7 {W:World} {b t:Nat} {v0 v1 v2 v3 v4 v5 v6:Value} (h:W.heap[b]? = some (.cells #[v0,v1,v2,v3,v4,v5,v6] t (0,0))) (u0 u1 u2 u3 u4 u5 u6:Value):(((((((W.setCell ⟨b,0,none⟩ u0).setCell ⟨b,1,none⟩ u1).setCell ⟨b,2,none⟩ u2).setCell ⟨b,3,none⟩ u3).setCell ⟨b,4,none⟩ u4).setCell ⟨b,5,none⟩ u5).setCell ⟨b,6,none⟩ u6).heap[b]? = some (.cells #[u0,u1,u2,u3,u4,u5,u6] t (0,0)):=by
 have h0:=blk_set h 0 u0
 have h1:=blk_set h0 1 u1
 have h2:=blk_set h1 2 u2
 have h3:=blk_set h2 3 u3
 have h4:=blk_set h3 4 u4
 have h5:=blk_set h4 5 u5
 have h6:=blk_set h5 6 u6
 simp only [List.setIfInBounds_toArray,List.set_cons_zero,List.set_cons_succ] at h6
 exact h6
theorem uh.below7 {w W:World} {B b:Nat} (h:Below B w W) (hb:B ≤ b) (u0 u1 u2 u3 u4 u5 u6:Value):Below B w (((((((W.setCell ⟨b,0,none⟩ u0).setCell ⟨b,1,none⟩ u1).setCell ⟨b,2,none⟩ u2).setCell ⟨b,3,none⟩ u3).setCell ⟨b,4,none⟩ u4).setCell ⟨b,5,none⟩ u5).setCell ⟨b,6,none⟩ u6):=by
 have h0:=h.setCell (p:=⟨b,0,none⟩) hb u0
 have h1:=h0.setCell (p:=⟨b,1,none⟩) hb u1
 have h2:=h1.setCell (p:=⟨b,2,none⟩) hb u2
 have h3:=h2.setCell (p:=⟨b,3,none⟩) hb u3
 have h4:=h3.setCell (p:=⟨b,4,none⟩) hb u4
 have h5:=h4.setCell (p:=⟨b,5,none⟩) hb u5
 exact h5.setCell (p:=⟨b,6,none⟩) hb u6
theorem uh.far7 {W:World} {b k:Nat} {o:Obj} (h:W.heap[k]? = some o) (hk:k ≠ b) (u0 u1 u2 u3 u4 u5 u6:Value):(((((((W.setCell ⟨b,0,none⟩ u0).setCell ⟨b,1,none⟩ u1).setCell ⟨b,2,none⟩ u2).setCell ⟨b,3,none⟩ u3).setCell ⟨b,4,none⟩ u4).setCell ⟨b,5,none⟩ u5).setCell ⟨b,6,none⟩ u6).heap[k]? = some o:=by
 rw [Below.heap_setCell _ ⟨b,6,none⟩ _ k hk,Below.heap_setCell _ ⟨b,5,none⟩ _ k hk,Below.heap_setCell _ ⟨b,4,none⟩ _ k hk,Below.heap_setCell _ ⟨b,3,none⟩ _ k hk,Below.heap_setCell _ ⟨b,2,none⟩ _ k hk,Below.heap_setCell _ ⟨b,1,none⟩ _ k hk,Below.heap_setCell _ ⟨b,0,none⟩ _ k hk,h]
theorem uh.same7 (W:World) {b k:Nat} (hk:k ≠ b) (u0 u1 u2 u3 u4 u5 u6:Value):(((((((W.setCell ⟨b,0,none⟩ u0).setCell ⟨b,1,none⟩ u1).setCell ⟨b,2,none⟩ u2).setCell ⟨b,3,none⟩ u3).setCell ⟨b,4,none⟩ u4).setCell ⟨b,5,none⟩ u5).setCell ⟨b,6,none⟩ u6).heap[k]? = W.heap[k]? := by
 rw [Below.heap_setCell _ ⟨b,6,none⟩ _ k hk,Below.heap_setCell _ ⟨b,5,none⟩ _ k hk,Below.heap_setCell _ ⟨b,4,none⟩ _ k hk,Below.heap_setCell _ ⟨b,3,none⟩ _ k hk,Below.heap_setCell _ ⟨b,2,none⟩ _ k hk,Below.heap_setCell _ ⟨b,1,none⟩ _ k hk,Below.heap_setCell _ ⟨b,0,none⟩ _ k hk]
theorem uh.cleared {w Wx:World} {b q:Nat} {v0 v1 v2 v3 v4 v5 v6 v7:Value} (hW:Below w.heap.size w Wx) (hbq:¬ b = q) (hb:Wx.heap[b]? = some (.cells #[v0,v1,v2,v3,v4,v5,v6] 55 (0,0))) (hq:Wx.heap[q]? = some (.cells #[v7] 26 (0,0))) (h1:b < w.heap.size) (h2:q < w.heap.size) (c:Int) :
 uh.Cleared w (((((((((Wx.setCell ⟨b,0,none⟩ (.slice none 0 0)).setCell ⟨b,1,none⟩ (.int .i64 0)).setCell ⟨b,2,none⟩ (.int .u64 0)).setCell ⟨b,3,none⟩ (.bool false)).setCell ⟨b,4,none⟩ (.string ⟨#[]⟩)).setCell ⟨b,5,none⟩ (.string ⟨#[]⟩)).setCell ⟨b,6,none⟩ (.string ⟨#[]⟩)).setCell ⟨q,0,none⟩ (.int .i64 c)).drew) b q c:=by
 have s7:=uh.set7 hb (.slice none 0 0) (.int .i64 0) (.int .u64 0) (.bool false) (.string ⟨#[]⟩) (.string ⟨#[]⟩) (.string ⟨#[]⟩)
 have f7:=uh.far7 hq (fun e => hbq e.symm) (.slice none 0 0) (.int .i64 0) (.int .u64 0) (.bool false) (.string ⟨#[]⟩) (.string ⟨#[]⟩) (.string ⟨#[]⟩)
 have b7:=fun B (hB:B ≤ w.heap.size) (hb2:B ≤ b) => uh.below7 (hW.mono hB) hb2 (.slice none 0 0) (.int .i64 0) (.int .u64 0) (.bool false) (.string ⟨#[]⟩) (.string ⟨#[]⟩) (.string ⟨#[]⟩)
 generalize ((((((Wx.setCell ⟨b,0,none⟩ (.slice none 0 0)).setCell ⟨b,1,none⟩ (.int .i64 0)).setCell ⟨b,2,none⟩ (.int .u64 0)).setCell ⟨b,3,none⟩ (.bool false)).setCell ⟨b,4,none⟩ (.string ⟨#[]⟩)).setCell ⟨b,5,none⟩ (.string ⟨#[]⟩)).setCell ⟨b,6,none⟩ (.string ⟨#[]⟩) = W7 at s7 f7 b7 ⊢
 have q1:=blk_set f7 0 (.int .i64 c)
 simp only [List.setIfInBounds_toArray,List.set_cons_zero] at q1
 exact ⟨(Below.heap_setCell W7 ⟨q,0,none⟩ (.int .i64 c) b hbq).trans s7,q1,fun B hB hb2 hq2 => uf ((b7 B hB hb2).setCell (p:=⟨q,0,none⟩) hq2 _)⟩
set_option maxRecDepth 100000 in
set_option maxHeartbeats 2000000 in
theorem uh.catch_fault (b q:Nat) (hbq:¬ b = q) (v0 v1 v2 v3 v4 v5 v6 v7:Value) (c:Int) (older:List PanicEntry) (w:World) (hb:w.heap[b]? = some (.cells #[v0,v1,v2,v3,v4,v5,v6] 55 (0,0))) (hq:w.heap[q]? = some (.cells #[v7] 26 (0,0))) :
 CallsD Tryz.prog 44 #[.pointer (some ⟨b,0,none⟩),.pointer (some ⟨q,0,none⟩)] (.panicking ({ v:=.iface 83 (.agg #[.int .i64 c]),recovered:=false } :: older)) w fun e u' w' => e = .returned (.tuple #[]) ∧ u' = .panicking ({ v:=.iface 83 (.agg #[.int .i64 c]),recovered:=true } :: older) ∧ uh.Cleared w w' b q c:=by
 have h1:=uh.ta_hit
 have hb2:=ua.new_old hb (.cells #[.int .i64 c] 83)
 have hq2:=ua.new_old hq (.cells #[.int .i64 c] 83)
 have HB:=Aside0.mk hb2
 have HQ:=Aside0.mk hq2
 have L1:=Aside0.mk (u3a hb)
 have L2:=Aside0.mk (u3a hq)
 obtain ⟨⟨a0,a1,a2,a3,a4,a5,a6⟩,fa⟩:=uh.look7 hb2
 obtain ⟨d0,fd⟩:=uh.look1 hq2
 have n1:¬ q = b:=fun e => hbq e.symm
 clear hb hq hb2 hq2
 refine callsD_of_wpS Tryz.func44 rfl fun c₀ cs hu => ?_
 apply wpS_seq
 apply wpS_region
 simp [wpOpsS,go_sem,recoverD,hu,Tryz.ntmps44,Exit.thenS,h1,Array.replicate]
 refine wpS_of_wp ?_
 go_wp2_with fail
 have x0:=(uh.look1 (ua.new_at w (.cells #[.int .i64 c] 83))).1
 have hW:Aside0 (Below w.heap.size w (w.alloc (.cells #[.int .i64 c] 83))):=⟨ud (Below.refl _ _) _⟩
 have m1:¬ w.heap.size = b:=by have:=L1.out;omega
 have m2:¬ w.heap.size = q:=by have:=L2.out;omega
 have m3:¬ b = w.heap.size:=fun e => m1 e.symm
 have m4:¬ q = w.heap.size:=fun e => m2 e.symm
 generalize w.alloc (.cells #[.int .i64 c] 83) = Wx at *
 generalize w.heap.size = zz at x0 m1 m2 m3 m4 ⊢
 have mixed:Tryz.prog.follows .mixedOrders = true:=by kernel_rfl
 go_big_region_o
 have HC:=Aside0.mk (uh.cleared hW.out hbq HB.out HQ.out L1.out L2.out c)
 clear HB HQ hW fa fd a0 a1 a2 a3 a4 a5 a6 d0 L1 L2
 change bodyPostS _ _ _ _ _ _ _ _ _
 cases c₀
 simp_all [bodyPostS,results,Tryz.results44]
 exact HC.out
def uh.Out (W:World) (o:Option Tx.Rw × Tx.Me × Int) (e:Ending) (W':World):Prop:=∃ v:Value,e = .returned (.tuple #[.agg #[v,.int .i64 (match o.1 with | none => 0 | some r => r.f1),.int .u64 (match o.1 with | none => 0 | some r => r.f2),.bool o.1.isSome,.string o.2.1.1,.string o.2.1.2.1,.string o.2.1.2.2],.int .i64 o.2.2]) ∧ Kd.R k66 66 W' W.heap.size (fun _ => True) v (match o.1 with | none => [] | some r => r.f0) ∧ Below W.heap.size W W'
theorem uh.out_fault {W W':World} {c:Int} {o:Option Tx.Rw × Tx.Me × Int} (ho:o = (none,Tx.me0,c)) (hb:Below W.heap.size W W'):uh.Out W o (.returned (.tuple #[.agg #[.slice none 0 0,.int .i64 0,.int .u64 0,.bool false,.string ⟨#[]⟩,.string ⟨#[]⟩,.string ⟨#[]⟩],.int .i64 c])) W':=by
 subst ho
 exact ⟨_,rfl,Kd.R_nil _ _ _ _ _,hb⟩
structure uh.Pre (W w:World):Prop where
 said:w.heap[W.heap.size]? = some (.cells #[.slice none 0 0,.int .i64 0,.int .u64 0,.bool false,.string ⟨#[]⟩,.string ⟨#[]⟩,.string ⟨#[]⟩] 55 (0,0))
 code:w.heap[W.heap.size + 1]? = some (.cells #[.int .i64 0] 26 (0,0))
 below:Below W.heap.size W w
theorem uh.pre_start (W:World) (o:Obj):uh.Pre W (((W.alloc (.cells #[.slice none 0 0,.int .i64 0,.int .u64 0,.bool false,.string ⟨#[]⟩,.string ⟨#[]⟩,.string ⟨#[]⟩] 55)).alloc (.cells #[.int .i64 0] 26)).alloc o):=by
 have h1:=ua.new_at W (.cells #[.slice none 0 0,.int .i64 0,.int .u64 0,.bool false,.string ⟨#[]⟩,.string ⟨#[]⟩,.string ⟨#[]⟩] 55)
 have h2:=ua.new_at (W.alloc (.cells #[.slice none 0 0,.int .i64 0,.int .u64 0,.bool false,.string ⟨#[]⟩,.string ⟨#[]⟩,.string ⟨#[]⟩] 55)) (.cells #[.int .i64 0] 26)
 rw [World.size_alloc] at h2
 exact ⟨ua.new_old (ua.new_old h1 _) _,ua.new_old h2 _,ud (ud (ud (Below.refl _ _) _) _) _⟩
def uh.mk2 (W:World):World:=(W.alloc (.cells #[.slice none 0 0,.int .i64 0,.int .u64 0,.bool false,.string ⟨#[]⟩,.string ⟨#[]⟩,.string ⟨#[]⟩] 55)).alloc (.cells #[.int .i64 0] 26)
theorem uh.mk2_size (W:World):(uh.mk2 W).heap.size = W.heap.size + 1 + 1:=by
 unfold uh.mk2
 rw [World.size_alloc,World.size_alloc]
theorem uh.st_start (W:World) (s:List UInt8):ua.St (uh.mk2 W) (((W.alloc (.cells #[.slice none 0 0,.int .i64 0,.int .u64 0,.bool false,.string ⟨#[]⟩,.string ⟨#[]⟩,.string ⟨#[]⟩] 55)).alloc (.cells #[.int .i64 0] 26)).alloc (.cells #[.string (Base.ofL s)] 87)) (W.heap.size + 1 + 1) s:=by
 have h2:=ua.new_at (uh.mk2 W) (.cells #[.string (Base.ofL s)] 87)
 rw [uh.mk2_size] at h2
 exact ⟨ud (Below.refl _ _) _,by rw [uh.mk2_size];exact Nat.le_refl _,h2⟩
theorem uh.pre_of {W w:World} (h:Below (uh.mk2 W).heap.size (uh.mk2 W) w):uh.Pre W w:=by
 have h1:=ua.new_at W (.cells #[.slice none 0 0,.int .i64 0,.int .u64 0,.bool false,.string ⟨#[]⟩,.string ⟨#[]⟩,.string ⟨#[]⟩] 55)
 have h2:=ua.new_at (W.alloc (.cells #[.slice none 0 0,.int .i64 0,.int .u64 0,.bool false,.string ⟨#[]⟩,.string ⟨#[]⟩,.string ⟨#[]⟩] 55)) (.cells #[.int .i64 0] 26)
 rw [World.size_alloc] at h2
 exact ⟨ua.below_at h (ua.new_old h1 _),ua.below_at h h2,u1d (ud (ud (Below.refl _ _) _) _) (h.mono (by rw [uh.mk2_size,World.size_alloc,World.size_alloc];exact Nat.le_refl _))⟩
theorem uh.Pre.keep {W w w':World} (h:uh.Pre W w) (hb:Below W.heap.size W w') (hk:u1v w w' (W.heap.size + 1 + 1) none):uh.Pre W w' :=
 ⟨ua.kept_at hk (by omega) h.said,ua.kept_at hk (by omega) h.code,hb⟩
theorem uh.Pre.drew {W w:World} (h:uh.Pre W w) (n:Nat):uh.Pre W (w.drewN n):=⟨h.said,h.code,ub h.below n⟩
structure uh.Fin (W V w:World) (u0 u1 u2 u3 u4 u5 u6:Value):Prop where
 said:w.heap[W.heap.size]? = some (.cells #[u0,u1,u2,u3,u4,u5,u6] 55 (0,0))
 code:w.heap[W.heap.size + 1]? = some (.cells #[.int .i64 0] 26 (0,0))
 below:Below W.heap.size W w
 far:∀ k,k ≠ W.heap.size → k ≠ W.heap.size + 1 → w.heap[k]? = V.heap[k]?
theorem uh.fin7 {W V:World} {v0 v1 v2 v3 v4 v5 v6 v7:Value} (hs:V.heap[W.heap.size]? = some (.cells #[v0,v1,v2,v3,v4,v5,v6] 55 (0,0))) (hc:V.heap[W.heap.size + 1]? = some (.cells #[v7] 26 (0,0))) (hb:Below W.heap.size W V) (u0 u1 u2 u3 u4 u5 u6:Value) :
 uh.Fin W V ((((((((V.setCell ⟨W.heap.size,0,none⟩ u0).setCell ⟨W.heap.size,1,none⟩ u1).setCell ⟨W.heap.size,2,none⟩ u2).setCell ⟨W.heap.size,3,none⟩ u3).setCell ⟨W.heap.size,4,none⟩ u4).setCell ⟨W.heap.size,5,none⟩ u5).setCell ⟨W.heap.size,6,none⟩ u6).setCell ⟨W.heap.size + 1,0,none⟩ (.int .i64 0)) u0 u1 u2 u3 u4 u5 u6:=by
 have s7:=uh.set7 hs u0 u1 u2 u3 u4 u5 u6
 have f7:=uh.far7 hc (show W.heap.size + 1 ≠ W.heap.size by omega) u0 u1 u2 u3 u4 u5 u6
 have b7:=uh.below7 hb (Nat.le_refl _) u0 u1 u2 u3 u4 u5 u6
 have k7:=fun k (hk:k ≠ W.heap.size) => uh.same7 V hk u0 u1 u2 u3 u4 u5 u6
 generalize ((((((V.setCell ⟨W.heap.size,0,none⟩ u0).setCell ⟨W.heap.size,1,none⟩ u1).setCell ⟨W.heap.size,2,none⟩ u2).setCell ⟨W.heap.size,3,none⟩ u3).setCell ⟨W.heap.size,4,none⟩ u4).setCell ⟨W.heap.size,5,none⟩ u5).setCell ⟨W.heap.size,6,none⟩ u6 = W7 at s7 f7 b7 k7 ⊢
 have q1:=blk_set f7 0 (.int .i64 0)
 simp only [List.setIfInBounds_toArray,List.set_cons_zero] at q1
 exact ⟨(Below.heap_setCell W7 ⟨W.heap.size + 1,0,none⟩ (.int .i64 0) W.heap.size (by show W.heap.size ≠ W.heap.size + 1;omega)).trans s7,q1,b7.setCell (p:=⟨W.heap.size + 1,0,none⟩) (by show W.heap.size ≤ W.heap.size + 1;omega) _,fun k h1 h2 => (Below.heap_setCell W7 ⟨W.heap.size + 1,0,none⟩ (.int .i64 0) k h2).trans (k7 k h1)⟩
theorem uh.out_meta {W W':World} {m:Tx.Me} {o:Option Tx.Rw × Tx.Me × Int} (ho:o = (none,m,0)) (hb:Below W.heap.size W W'):uh.Out W o (.returned (.tuple #[.agg #[.slice none 0 0,.int .i64 0,.int .u64 0,.bool false,.string m.1,.string m.2.1,.string m.2.2],.int .i64 0])) W':=by
 subst ho
 exact ⟨_,rfl,Kd.R_nil _ _ _ _ _,hb⟩
theorem uh.out_row {W W':World} {r:Tx.Rw} {o:Option Tx.Rw × Tx.Me × Int} (ho:o = (some r,Tx.me0,0)) {v:Value} (hr:Kd.R k66 66 W' W.heap.size (fun _ => True) v r.f0) (hb:Below W.heap.size W W'):uh.Out W o (.returned (.tuple #[.agg #[v,.int .i64 r.f1,.int .u64 r.f2,.bool true,.string ⟨#[]⟩,.string ⟨#[]⟩,.string ⟨#[]⟩],.int .i64 0])) W':=by
 subst ho
 exact ⟨v,rfl,hr,hb⟩
theorem uh.rm_no (w0 W:World) (g:Nat) (s:List UInt8) (hl:s.length ≤ 1000) (hr:Tx.remarkP s = none) (h:ua.St w0 W g s):Calls Tryz.prog 48 #[.pointer (some ⟨g,0,none⟩)] W fun e W' => e = .panicked (u2q.chain 280) ∧ Below w0.heap.size w0 W' :=
 (ul.calls w0 W g s hl h).mono fun e W' ho => by rw [hr] at ho;exact ho
theorem uh.rm_ok (w0 W:World) (g:Nat) (s:List UInt8) (hl:s.length ≤ 1000) (m:Tx.Me) (hr:Tx.remarkP s = some m) (h:ua.St w0 W g s):Calls Tryz.prog 48 #[.pointer (some ⟨g,0,none⟩)] W fun e W' => e = .returned (.agg #[.string m.1,.string m.2.1,.string m.2.2]) ∧ Below w0.heap.size w0 W' :=
 (ul.calls w0 W g s hl h).mono fun e W' ho => by rw [hr] at ho;exact ⟨ho.1,ho.2.1⟩
theorem uh.ib_at (s:List UInt8):∃ z:Int,decide (0 ≤ z) = s.contains 10 ∧ ∀ w:World,Calls Tryz.prog 46 #[.string (Base.ofL s),.int .u8 10] w fun e w' => e = .returned (.int .i64 z) ∧ w' = w:=by
 refine ⟨Lib.indexByte s 10,(Lib.contains_iff_indexByte s 10).symm,fun w => ?_⟩
 have h:=strings_IndexByte.calls (Base.ofL s) 10 w
 rw [Base.ofL_data] at h
 exact h
theorem uh.dw_nil (p:UInt8 → Bool):∀ l:List UInt8,l.dropWhile p = [] ↔ ∀ x ∈ l,p x = true
 | [] => by simp
 | c :: l => by
   rw [List.dropWhile_cons]
   by_cases h:p c = true
   · rw [if_pos h,uh.dw_nil p l]
     simp [h]
   · rw [if_neg h]
     simp [h]
theorem uh.dw_head (p:UInt8 → Bool):∀ (l:List UInt8) (y:UInt8) (r:List UInt8),l.dropWhile p = y :: r → p y = false
 | [],y,r,h => by cases h
 | c :: l,y,r,h => by
   rw [List.dropWhile_cons] at h
   by_cases hc:p c = true
   · rw [if_pos hc] at h
     exact uh.dw_head p l y r h
   · rw [if_neg hc] at h
     obtain ⟨rfl,_⟩:=List.cons.inj h
     simpa using hc
theorem uh.trim_nil (s:List UInt8):(Lib.trimS s [32,9] = []) = (s.all Tx.blankC = true):=by
 have hp:∀ c:UInt8,([32,9]:List UInt8).contains c = Tx.blankC c:=fun c => by
  unfold Tx.blankC
  rw [Bool.eq_iff_iff]
  simp
 have hf:(fun c => ([32,9]:List UInt8).contains c) = Tx.blankC:=funext hp
 unfold Lib.trimS Lib.trimLeftS Lib.trimRightS
 rw [hf]
 apply propext
 rw [uh.dw_nil,List.all_eq_true]
 constructor
 · intro h x hx
   cases he:s.reverse.dropWhile Tx.blankC with
   | nil => exact (uh.dw_nil _ _).1 he x (List.mem_reverse.2 hx)
   | cons y r =>
     have h1:Tx.blankC y = true:=h y (by rw [he];simp)
     have h2:=uh.dw_head Tx.blankC s.reverse y r he
     rw [h1] at h2
     cases h2
 · intro h x hx
   have h1:x ∈ s.reverse:=(List.dropWhile_sublist _).subset (List.mem_reverse.1 hx)
   exact h x (List.mem_reverse.1 h1)
theorem uh.after_fault {W w w':World} {c:Int} (h:uh.Pre W w) (hC:uh.Cleared w w' W.heap.size (W.heap.size + 1) c):Below W.heap.size W w' :=
 below_weaken h.below (Nat.le_refl _) (hC.rest W.heap.size h.below.size (Nat.le_refl _) (by omega))
set_option maxRecDepth 100000 in
set_option maxHeartbeats 2000000 in
theorem uh.too_long (can:List Tx.Lb → Bool) (W:World) (s:List UInt8) (now:Int) (hm:s.length ≤ 4611686018427387904) (hl:s.length > 1000) :
 Calls Tryz.prog 18 #[.string (Base.ofL s),.int .i64 now] W fun e W' => uh.Out W (Tx.readP can s now) e W':=by
 have hmf:∀ (fn:Fn) (first cap:Array Value) (w:World),(Instr.makeFunc fn first cap).run Tryz.prog w = .ok (.func fn first cap) w:=fun _ _ _ _ => rfl
 have hsz:(Base.ofL s).size = s.length:=(Tx.cut_ofL s 0 (by omega)).2.2
 have HE:Aside0 (Tx.readP can s now = (none,Tx.me0,4)):=⟨by unfold Tx.readP;rw [if_pos hl]⟩
 have hd2:(1000:Int) < (s.length:Int):=by omega
 go_enter_defers Tryz.func18,Tryz.ntmps18
 go_wp2_with (go_at_call 45;(with_reducible refine (u2q.calls 4 _).mono ?_);rintro e W1 ⟨rfl,rfl⟩)
 refine leaves_cons (f:=44) (args:=#[.pointer (some ⟨W.heap.size,0,none⟩),.pointer (some ⟨W.heap.size + 1,0,none⟩)]) (by simp) (by simp [go_sem]) ?_
 refine (uh.catch_fault W.heap.size (W.heap.size + 1) (by omega) _ _ _ _ _ _ _ _ 4 [] _ (uh.pre_start W _).said (uh.pre_start W _).code).mono ?_
 rintro e u' w'' ⟨rfl,rfl,hC⟩
 have HBF:=Aside0.mk (uh.after_fault (uh.pre_start W _) hC)
 obtain ⟨⟨a0,a1,a2,a3,a4,a5,a6⟩,fa⟩:=uh.look7 hC.said
 obtain ⟨d0,fd⟩:=uh.look1 hC.code
 clear hC
 simp [Leaves,settle,results,Tryz.results18,go_sem,a0,a1,a2,a3,a4,a5,a6,d0]
 exact uh.out_fault HE.out HBF.out
set_option maxRecDepth 100000 in
set_option maxHeartbeats 2000000 in
theorem uh.lines (can:List Tx.Lb → Bool) (W:World) (s:List UInt8) (now:Int) (hl:s.length ≤ 1000) (hn:s.contains 10 = true) :
 Calls Tryz.prog 18 #[.string (Base.ofL s),.int .i64 now] W fun e W' => uh.Out W (Tx.readP can s now) e W':=by
 have hmf:∀ (fn:Fn) (first cap:Array Value) (w:World),(Instr.makeFunc fn first cap).run Tryz.prog w = .ok (.func fn first cap) w:=fun _ _ _ _ => rfl
 have hsz:(Base.ofL s).size = s.length:=(Tx.cut_ofL s 0 (by omega)).2.2
 have HE:Aside0 (Tx.readP can s now = (none,Tx.me0,280)):=⟨by unfold Tx.readP;rw [if_neg (by omega),if_pos hn]⟩
 obtain ⟨z,hz,hzc⟩:=uh.ib_at s
 have HZ:=Aside0.mk hzc
 rw [hn] at hz
 have hd2:¬ (1000:Int) < (s.length:Int):=by omega
 have hz0:0 ≤ z:=of_decide_eq_true hz
 clear hn hzc
 go_enter_defers Tryz.func18,Tryz.ntmps18
 go_wp2_with (first
  | (go_at_call 46;(with_reducible refine (HZ.out _).mono ?_);rintro e W1 ⟨rfl,rfl⟩)
  | (go_at_call 45;(with_reducible refine (u2q.calls 280 _).mono ?_);rintro e W1 ⟨rfl,rfl⟩))
 refine leaves_cons (f:=44) (args:=#[.pointer (some ⟨W.heap.size,0,none⟩),.pointer (some ⟨W.heap.size + 1,0,none⟩)]) (by simp) (by simp [go_sem]) ?_
 refine (uh.catch_fault W.heap.size (W.heap.size + 1) (by omega) _ _ _ _ _ _ _ _ 280 [] _ (uh.pre_start W _).said (uh.pre_start W _).code).mono ?_
 rintro e u' w'' ⟨rfl,rfl,hC⟩
 have HBF:=Aside0.mk (uh.after_fault (uh.pre_start W _) hC)
 obtain ⟨⟨a0,a1,a2,a3,a4,a5,a6⟩,fa⟩:=uh.look7 hC.said
 obtain ⟨d0,fd⟩:=uh.look1 hC.code
 clear hC
 simp [Leaves,settle,results,Tryz.results18,go_sem,a0,a1,a2,a3,a4,a5,a6,d0]
 exact uh.out_fault HE.out HBF.out
set_option maxRecDepth 100000 in
set_option maxHeartbeats 4000000 in
theorem uh.remark (can:List Tx.Lb → Bool) (W:World) (s:List UInt8) (now:Int) (hl:s.length ≤ 1000) (hn:s.contains 10 = false) (r:List UInt8) (hs:s = 35 :: r) :
 Calls Tryz.prog 18 #[.string (Base.ofL s),.int .i64 now] W fun e W' => uh.Out W (Tx.readP can s now) e W':=by
 have hmf:∀ (fn:Fn) (first cap:Array Value) (w:World),(Instr.makeFunc fn first cap).run Tryz.prog w = .ok (.func fn first cap) w:=fun _ _ _ _ => rfl
 have hsz:(Base.ofL s).size = s.length:=(Tx.cut_ofL s 0 (by omega)).2.2
 have HV:Aside0 (Tx.readP can s now = match Tx.remarkP s with | none => (none,Tx.me0,280) | some m => (none,m,0)):=⟨by unfold Tx.readP;rw [if_neg (by omega),hn,if_neg (by decide)];subst hs;rfl⟩
 obtain ⟨z,hz,hzc⟩:=uh.ib_at s
 have HZ:=Aside0.mk hzc
 rw [hn] at hz
 have hd2:¬ (1000:Int) < (s.length:Int):=by omega
 have hz0:¬ 0 ≤ z:=of_decide_eq_false hz
 have HPK:Aside0 (ua.pk s = 35):=⟨by rw [hs];rfl⟩
 generalize hoo:Tx.readP can s now = o at HV ⊢
 clear hn hzc hoo hs
 cases hr:Tx.remarkP s with
 | none =>
   have HR:=Aside0.mk hr
   have HE:Aside0 (o = (none,Tx.me0,280)):=⟨by rw [HV.out,hr]⟩
   clear hr HV
   go_enter_defers Tryz.func18,Tryz.ntmps18
   go_wp2_with (first
    | (go_at_call 46;(with_reducible refine (HZ.out _).mono ?_);rintro e W1 ⟨rfl,rfl⟩)
    | (go_at_call 47;(with_reducible refine (ux.peek_at (uh.mk2 W) _ (W.heap.size + 1 + 1) s 35 HPK.out (by exact uh.st_start W s)).mono ?_);rintro e W2 ⟨rfl,⟨nd,rfl⟩⟩)
    | (go_at_call 48;(with_reducible refine (uh.rm_no (uh.mk2 W) _ (W.heap.size + 1 + 1) s hl HR.out (by exact (uh.st_start W s).drew nd)).mono ?_);rintro e W3 ⟨rfl,hb3⟩;have HPF:=Aside0.mk (uh.pre_of hb3);clear hb3))
   refine leaves_cons (f:=44) (args:=#[.pointer (some ⟨W.heap.size,0,none⟩),.pointer (some ⟨W.heap.size + 1,0,none⟩)]) (by simp) (by simp [go_sem]) ?_
   refine (uh.catch_fault W.heap.size (W.heap.size + 1) (by omega) _ _ _ _ _ _ _ _ 280 [] _ HPF.out.said HPF.out.code).mono ?_
   rintro e u' w'' ⟨rfl,rfl,hC⟩
   have HBF:=Aside0.mk (uh.after_fault HPF.out hC)
   obtain ⟨⟨a0,a1,a2,a3,a4,a5,a6⟩,fa⟩:=uh.look7 hC.said
   obtain ⟨d0,fd⟩:=uh.look1 hC.code
   clear hC
   simp [Leaves,settle,results,Tryz.results18,go_sem,a0,a1,a2,a3,a4,a5,a6,d0]
   exact uh.out_fault HE.out HBF.out
 | some m =>
   have HR:=Aside0.mk hr
   have HE:Aside0 (o = (none,m,0)):=⟨by rw [HV.out,hr]⟩
   clear hr HV
   go_enter_defers Tryz.func18,Tryz.ntmps18
   go_wp2_with (first
    | (go_at_call 46;(with_reducible refine (HZ.out _).mono ?_);rintro e W1 ⟨rfl,rfl⟩)
    | (go_at_call 47;(with_reducible refine (ux.peek_at (uh.mk2 W) _ (W.heap.size + 1 + 1) s 35 HPK.out (by exact uh.st_start W s)).mono ?_);rintro e W2 ⟨rfl,⟨nd,rfl⟩⟩)
    | (go_at_call 48;(with_reducible refine (uh.rm_ok (uh.mk2 W) _ (W.heap.size + 1 + 1) s hl m HR.out (by exact (uh.st_start W s).drew nd)).mono ?_);rintro e W3 ⟨rfl,hb3⟩;have HPF:=Aside0.mk (uh.pre_of hb3);obtain ⟨⟨a0,a1,a2,a3,a4,a5,a6⟩,fa⟩:=uh.look7 HPF.out.said;obtain ⟨d0,fd⟩:=uh.look1 HPF.out.code;clear hb3))
   have hV1:=blk_set (blk_set (blk_set HPF.out.said 4 (.string m.1)) 5 (.string m.2.1)) 6 (.string m.2.2)
   simp only [List.setIfInBounds_toArray,List.set_cons_zero,List.set_cons_succ] at hV1
   have hV2:(((W3.setCell ⟨W.heap.size,4,none⟩ (.string m.1)).setCell ⟨W.heap.size,5,none⟩ (.string m.2.1)).setCell ⟨W.heap.size,6,none⟩ (.string m.2.2)).heap[W.heap.size + 1]? = some (.cells #[.int .i64 0] 26 (0,0)):=by
    rw [Below.heap_setCell _ ⟨W.heap.size,6,none⟩ _ _ (show W.heap.size + 1 ≠ W.heap.size by omega),Below.heap_setCell _ ⟨W.heap.size,5,none⟩ _ _ (show W.heap.size + 1 ≠ W.heap.size by omega),Below.heap_setCell _ ⟨W.heap.size,4,none⟩ _ _ (show W.heap.size + 1 ≠ W.heap.size by omega),HPF.out.code]
   have hV3:=((HPF.out.below.setCell (p:=⟨W.heap.size,4,none⟩) (Nat.le_refl _) (.string m.1)).setCell (p:=⟨W.heap.size,5,none⟩) (Nat.le_refl _) (.string m.2.1)).setCell (p:=⟨W.heap.size,6,none⟩) (Nat.le_refl _) (.string m.2.2)
   clear a0 a1 a2 a3 a4 a5 a6 fa d0 fd
   have HF:=uh.fin7 (V:=(((W3.setCell ⟨W.heap.size,4,none⟩ (.string m.1)).setCell ⟨W.heap.size,5,none⟩ (.string m.2.1)).setCell ⟨W.heap.size,6,none⟩ (.string m.2.2))) hV1 hV2 hV3 (.slice none 0 0) (.int .i64 0) (.int .u64 0) (.bool false) (.string m.1) (.string m.2.1) (.string m.2.2)
   generalize (((((((((((W3.setCell ⟨W.heap.size,4,none⟩ (.string m.1)).setCell ⟨W.heap.size,5,none⟩ (.string m.2.1)).setCell ⟨W.heap.size,6,none⟩ (.string m.2.2)).setCell ⟨W.heap.size,0,none⟩ (.slice none 0 0)).setCell ⟨W.heap.size,1,none⟩ (.int .i64 0)).setCell ⟨W.heap.size,2,none⟩ (.int .u64 0)).setCell ⟨W.heap.size,3,none⟩ (.bool false)).setCell ⟨W.heap.size,4,none⟩ (.string m.1)).setCell ⟨W.heap.size,5,none⟩ (.string m.2.1)).setCell ⟨W.heap.size,6,none⟩ (.string m.2.2)).setCell ⟨W.heap.size + 1,0,none⟩ (.int .i64 0)) = Wz at HF ⊢
   have hs9:=ua.new_old HF.said (.cells #[.int .i64 0] 83)
   have hc9:=ua.new_old HF.code (.cells #[.int .i64 0] 83)
   have HBF:=Aside0.mk (u1d HF.below (ud (Below.refl Wz.heap.size Wz) (.cells #[.int .i64 0] 83)))
   clear HF
   obtain ⟨⟨p0,p1,p2,p3,p4,p5,p6⟩,fp⟩:=uh.look7 hs9
   obtain ⟨q0,fq⟩:=uh.look1 hc9
   clear hs9 hc9
   refine leaves_cons (f:=44) (args:=#[.pointer (some ⟨W.heap.size,0,none⟩),.pointer (some ⟨W.heap.size + 1,0,none⟩)]) (by simp) (by simp [go_sem]) ?_
   refine (uh.catch_idle _ _ _).mono ?_
   rintro e u' w'' ⟨rfl,rfl,rfl⟩
   simp [Leaves,settle,results,Tryz.results18,go_sem,p0,p1,p2,p3,p4,p5,p6,q0]
   exact uh.out_meta HE.out HBF.out
theorem uh.trim_at (s:List UInt8) (hl:s.length ≤ 1000) (W:World):Calls Tryz.prog 49 #[.string (Base.ofL s),.string (⟨#[32,9]⟩:ByteArray)] W fun e W' => e = .returned (.string (Base.ofL (Lib.trimS s [32,9]))) ∧ Below W.heap.size W W':=by
 have h:=Go.Proofs.Tryz.strings_Trim (Base.ofL s) ⟨#[32,9]⟩ W (by rw [(Tx.cut_ofL s 0 (by omega)).2.2];omega) (by decide) (Go.Proofs.ascii_of_all (by decide))
 rw [Base.ofL_data] at h
 exact h
theorem uh.read_blank (can:List Tx.Lb → Bool) (s:List UInt8) (now:Int) (hl:s.length ≤ 1000) (hn:s.contains 10 = false) (hs:∀ r,s ≠ 35 :: r):Tx.readP can s now = if s.all Tx.blankC = true then ((none,Tx.me0,0):Option Tx.Rw × Tx.Me × Int) else match Tx.sampleP can s now with | none => (none,Tx.me0,280) | some r => (some r,Tx.me0,0):=by
 unfold Tx.readP
 rw [if_neg (by omega),hn,if_neg (by decide)]
 split
 · exact absurd rfl (hs _)
 · rfl
set_option maxRecDepth 100000 in
set_option maxHeartbeats 4000000 in
theorem uh.blank (can:List Tx.Lb → Bool) (W:World) (s:List UInt8) (now:Int) (hl:s.length ≤ 1000) (hn:s.contains 10 = false) (hs:∀ r,s ≠ 35 :: r) (ha:s.all Tx.blankC = true) :
 Calls Tryz.prog 18 #[.string (Base.ofL s),.int .i64 now] W fun e W' => uh.Out W (Tx.readP can s now) e W':=by
 have HE:Aside0 (Tx.readP can s now = (none,Tx.me0,0)):=⟨by rw [uh.read_blank can s now hl hn hs,if_pos ha]⟩
 generalize hoo:Tx.readP can s now = o at HE ⊢
 have hmf:∀ (fn:Fn) (first cap:Array Value) (w:World),(Instr.makeFunc fn first cap).run Tryz.prog w = .ok (.func fn first cap) w:=fun _ _ _ _ => rfl
 have hsz:(Base.ofL s).size = s.length:=(Tx.cut_ofL s 0 (by omega)).2.2
 obtain ⟨z,hz,hzc⟩:=uh.ib_at s
 have HZ:=Aside0.mk hzc
 rw [hn] at hz
 have hd2:¬ (1000:Int) < (s.length:Int):=by omega
 have hz0:¬ 0 ≤ z:=of_decide_eq_false hz
 obtain ⟨y,hy⟩:∃ y,ua.pk s = y:=⟨_,rfl⟩
 have HPK:=Aside0.mk hy
 have hyb:(y == 35) = false:=beq_eq_false_iff_ne.2 (by rw [← hy];exact uk.pk_ne s 35 (by decide) hs)
 obtain ⟨_,tw,twn⟩:=u1o.txt (Lib.trimS s [32,9])
 obtain ⟨e1,e2⟩:=twn ((uh.trim_nil s).mpr ha)
 clear hn hzc hoo hs ha tw twn hy
 go_enter_defers Tryz.func18,Tryz.ntmps18
 go_wp2_with (first
  | (go_at_call 46;(with_reducible refine (HZ.out _).mono ?_);rintro e W1 ⟨rfl,rfl⟩)
  | (go_at_call 47;(with_reducible refine (ux.peek_at (uh.mk2 W) _ (W.heap.size + 1 + 1) s y HPK.out (by exact uh.st_start W s)).mono ?_);rintro e W2 ⟨rfl,⟨nd,rfl⟩⟩)
  | (go_at_call 49;(with_reducible refine (uh.trim_at s (by omega) _).mono ?_);rintro e W3 ⟨rfl,hb3⟩;have HS3:=Aside0.mk (((uh.st_start W s).drew nd).more hb3);clear hb3;have HPF:=Aside0.mk (uh.pre_of HS3.out.below);obtain ⟨⟨a0,a1,a2,a3,a4,a5,a6⟩,fa⟩:=uh.look7 HPF.out.said;obtain ⟨d0,fd⟩:=uh.look1 HPF.out.code))
 clear a0 a1 a2 a3 a4 a5 a6 fa d0 fd
 have hV1:=HPF.out.said
 have hV2:=HPF.out.code
 have hV3:=HPF.out.below
 have HF:=uh.fin7 (V:=W3) hV1 hV2 hV3 (.slice none 0 0) (.int .i64 0) (.int .u64 0) (.bool false) (.string ⟨#[]⟩) (.string ⟨#[]⟩) (.string ⟨#[]⟩)
 generalize ((((((((W3.setCell ⟨W.heap.size,0,none⟩ (.slice none 0 0)).setCell ⟨W.heap.size,1,none⟩ (.int .i64 0)).setCell ⟨W.heap.size,2,none⟩ (.int .u64 0)).setCell ⟨W.heap.size,3,none⟩ (.bool false)).setCell ⟨W.heap.size,4,none⟩ (.string ⟨#[]⟩)).setCell ⟨W.heap.size,5,none⟩ (.string ⟨#[]⟩)).setCell ⟨W.heap.size,6,none⟩ (.string ⟨#[]⟩)).setCell ⟨W.heap.size + 1,0,none⟩ (.int .i64 0)) = Wz at HF ⊢
 have hs9:=ua.new_old HF.said (.cells #[.int .i64 0] 83)
 have hc9:=ua.new_old HF.code (.cells #[.int .i64 0] 83)
 have HBF:=Aside0.mk (u1d HF.below (ud (Below.refl Wz.heap.size Wz) (.cells #[.int .i64 0] 83)))
 clear HF
 obtain ⟨⟨p0,p1,p2,p3,p4,p5,p6⟩,fp⟩:=uh.look7 hs9
 obtain ⟨q0,fq⟩:=uh.look1 hc9
 clear hs9 hc9
 refine leaves_cons (f:=44) (args:=#[.pointer (some ⟨W.heap.size,0,none⟩),.pointer (some ⟨W.heap.size + 1,0,none⟩)]) (by simp) (by simp [go_sem]) ?_
 refine (uh.catch_idle _ _ _).mono ?_
 rintro e u' w'' ⟨rfl,rfl,rfl⟩
 simp [Leaves,settle,results,Tryz.results18,go_sem,p0,p1,p2,p3,p4,p5,p6,q0]
 exact uh.out_fault HE.out HBF.out
theorem uh.sa_no (can:List Tx.Lb → Bool) (hcan:∀ l:List Tx.Lb,l.length ≤ 10 → ∃ k,u1w.f k l = some (can l)) (w0 W:World) (g:Nat) (s:List UInt8) (now:Int) (hl:s.length ≤ 1000) (hr:Tx.sampleP can s now = none) (h:ua.St w0 W g s):Calls Tryz.prog 50 #[.pointer (some ⟨g,0,none⟩),.int .i64 now] W fun e W' => e = .panicked (u2q.chain 280) ∧ Below w0.heap.size w0 W' :=
 (uc.calls can hcan w0 W g s now hl h).mono fun e W' ho => by rw [hr] at ho;exact ho
theorem uh.sa_ok (can:List Tx.Lb → Bool) (hcan:∀ l:List Tx.Lb,l.length ≤ 10 → ∃ k,u1w.f k l = some (can l)) (w0 W:World) (g:Nat) (s:List UInt8) (now:Int) (hl:s.length ≤ 1000) (r:Tx.Rw) (hr:Tx.sampleP can s now = some r) (h:ua.St w0 W g s):Calls Tryz.prog 50 #[.pointer (some ⟨g,0,none⟩),.int .i64 now] W fun e W' => ∃ v:Value,e = .returned (.agg #[v,.int .i64 r.f1,.int .u64 r.f2]) ∧ Kd.R k66 66 W' w0.heap.size (fun _ => True) v r.f0 ∧ Below w0.heap.size w0 W' :=
 (uc.calls can hcan w0 W g s now hl h).mono fun e W' ho => by
   rw [hr] at ho
   obtain ⟨v,he,h1,h2,_⟩:=ho
   exact ⟨v,he,Kd.R_lower (Kd.R_mono h1 (fun _ _ => trivial)) h.below.size,h2⟩
set_option maxRecDepth 100000 in
set_option maxHeartbeats 4000000 in
theorem uh.row (can:List Tx.Lb → Bool) (hcan:∀ l:List Tx.Lb,l.length ≤ 10 → ∃ k,u1w.f k l = some (can l)) (W:World) (s:List UInt8) (now:Int) (hl:s.length ≤ 1000) (hn:s.contains 10 = false) (hs:∀ r,s ≠ 35 :: r) (ha:¬ s.all Tx.blankC = true) :
 Calls Tryz.prog 18 #[.string (Base.ofL s),.int .i64 now] W fun e W' => uh.Out W (Tx.readP can s now) e W':=by
 have HV:Aside0 (Tx.readP can s now = match Tx.sampleP can s now with | none => (none,Tx.me0,280) | some r => (some r,Tx.me0,0)):=⟨by rw [uh.read_blank can s now hl hn hs,if_neg ha]⟩
 generalize hoo:Tx.readP can s now = o at HV ⊢
 have HCN:=Aside0.mk hcan
 have hmf:∀ (fn:Fn) (first cap:Array Value) (w:World),(Instr.makeFunc fn first cap).run Tryz.prog w = .ok (.func fn first cap) w:=fun _ _ _ _ => rfl
 have hsz:(Base.ofL s).size = s.length:=(Tx.cut_ofL s 0 (by omega)).2.2
 obtain ⟨z,hz,hzc⟩:=uh.ib_at s
 have HZ:=Aside0.mk hzc
 rw [hn] at hz
 have hd2:¬ (1000:Int) < (s.length:Int):=by omega
 have hz0:¬ 0 ≤ z:=of_decide_eq_false hz
 obtain ⟨y,hy⟩:∃ y,ua.pk s = y:=⟨_,rfl⟩
 have HPK:=Aside0.mk hy
 have hyb:(y == 35) = false:=beq_eq_false_iff_ne.2 (by rw [← hy];exact uk.pk_ne s 35 (by decide) hs)
 obtain ⟨_,tw,twn⟩:=u1o.txt (Lib.trimS s [32,9])
 obtain ⟨e1,e2⟩:=tw (fun e => ha ((uh.trim_nil s).mp e))
 clear hn hzc hoo hs ha tw twn hy hcan
 cases hr:Tx.sampleP can s now with
 | none =>
   have HR:=Aside0.mk hr
   have HE:Aside0 (o = (none,Tx.me0,280)):=⟨by rw [HV.out,hr]⟩
   clear hr HV
   go_enter_defers Tryz.func18,Tryz.ntmps18
   go_wp2_with (first
    | (go_at_call 46;(with_reducible refine (HZ.out _).mono ?_);rintro e W1 ⟨rfl,rfl⟩)
    | (go_at_call 47;(with_reducible refine (ux.peek_at (uh.mk2 W) _ (W.heap.size + 1 + 1) s y HPK.out (by exact uh.st_start W s)).mono ?_);rintro e W2 ⟨rfl,⟨nd,rfl⟩⟩)
    | (go_at_call 49;(with_reducible refine (uh.trim_at s (by omega) _).mono ?_);rintro e W3 ⟨rfl,hb3⟩;have HS3:=Aside0.mk (((uh.st_start W s).drew nd).more hb3);clear hb3)
    | (go_at_call 50;(with_reducible refine (uh.sa_no can HCN.out (uh.mk2 W) _ (W.heap.size + 1 + 1) s now hl HR.out (by exact HS3.out)).mono ?_);rintro e W4 ⟨rfl,hb4⟩;have HPF:=Aside0.mk (uh.pre_of hb4);clear hb4))
   refine leaves_cons (f:=44) (args:=#[.pointer (some ⟨W.heap.size,0,none⟩),.pointer (some ⟨W.heap.size + 1,0,none⟩)]) (by simp) (by simp [go_sem]) ?_
   refine (uh.catch_fault W.heap.size (W.heap.size + 1) (by omega) _ _ _ _ _ _ _ _ 280 [] _ HPF.out.said HPF.out.code).mono ?_
   rintro e u' w'' ⟨rfl,rfl,hC⟩
   have HBF:=Aside0.mk (uh.after_fault HPF.out hC)
   obtain ⟨⟨a0,a1,a2,a3,a4,a5,a6⟩,fa⟩:=uh.look7 hC.said
   obtain ⟨d0,fd⟩:=uh.look1 hC.code
   clear hC
   simp [Leaves,settle,results,Tryz.results18,go_sem,a0,a1,a2,a3,a4,a5,a6,d0]
   exact uh.out_fault HE.out HBF.out
 | some r =>
   have HR:=Aside0.mk hr
   have HE:Aside0 (o = (some r,Tx.me0,0)):=⟨by rw [HV.out,hr]⟩
   clear hr HV
   go_enter_defers Tryz.func18,Tryz.ntmps18
   go_wp2_with (first
    | (go_at_call 46;(with_reducible refine (HZ.out _).mono ?_);rintro e W1 ⟨rfl,rfl⟩)
    | (go_at_call 47;(with_reducible refine (ux.peek_at (uh.mk2 W) _ (W.heap.size + 1 + 1) s y HPK.out (by exact uh.st_start W s)).mono ?_);rintro e W2 ⟨rfl,⟨nd,rfl⟩⟩)
    | (go_at_call 49;(with_reducible refine (uh.trim_at s (by omega) _).mono ?_);rintro e W3 ⟨rfl,hb3⟩;have HS3:=Aside0.mk (((uh.st_start W s).drew nd).more hb3);clear hb3)
    | (go_at_call 50;(with_reducible refine (uh.sa_ok can HCN.out (uh.mk2 W) _ (W.heap.size + 1 + 1) s now hl r HR.out (by exact HS3.out)).mono ?_);rintro e W4 ⟨v,rfl,hr4,hb4⟩;have HR4:=Aside0.mk hr4;have HPF:=Aside0.mk (uh.pre_of hb4);obtain ⟨A,c,ev⟩:=Kd.R_slice hr4;subst ev;obtain ⟨⟨a0,a1,a2,a3,a4,a5,a6⟩,fa⟩:=uh.look7 HPF.out.said;obtain ⟨d0,fd⟩:=uh.look1 HPF.out.code;clear hb4 hr4))
   have hV1:=blk_set (blk_set (blk_set (blk_set HPF.out.said 0 (.slice A r.f0.length c)) 1 (.int .i64 r.f1)) 2 (.int .u64 r.f2)) 3 (.bool true)
   simp only [List.setIfInBounds_toArray,List.set_cons_zero,List.set_cons_succ] at hV1
   have hVF:∀ k,k ≠ W.heap.size → ((((W4.setCell ⟨W.heap.size,0,none⟩ (.slice A r.f0.length c)).setCell ⟨W.heap.size,1,none⟩ (.int .i64 r.f1)).setCell ⟨W.heap.size,2,none⟩ (.int .u64 r.f2)).setCell ⟨W.heap.size,3,none⟩ (.bool true)).heap[k]? = W4.heap[k]? := fun k hk => by
    rw [Below.heap_setCell _ ⟨W.heap.size,3,none⟩ _ k hk,Below.heap_setCell _ ⟨W.heap.size,2,none⟩ _ k hk,Below.heap_setCell _ ⟨W.heap.size,1,none⟩ _ k hk,Below.heap_setCell _ ⟨W.heap.size,0,none⟩ _ k hk]
   have hV2:=(hVF (W.heap.size + 1) (by omega)).trans HPF.out.code
   have hV3:=(((HPF.out.below.setCell (p:=⟨W.heap.size,0,none⟩) (Nat.le_refl _) (.slice A r.f0.length c)).setCell (p:=⟨W.heap.size,1,none⟩) (Nat.le_refl _) (.int .i64 r.f1)).setCell (p:=⟨W.heap.size,2,none⟩) (Nat.le_refl _) (.int .u64 r.f2)).setCell (p:=⟨W.heap.size,3,none⟩) (Nat.le_refl _) (.bool true)
   clear a0 a1 a2 a3 a4 a5 a6 fa d0 fd
   have HF:=uh.fin7 (V:=((((W4.setCell ⟨W.heap.size,0,none⟩ (.slice A r.f0.length c)).setCell ⟨W.heap.size,1,none⟩ (.int .i64 r.f1)).setCell ⟨W.heap.size,2,none⟩ (.int .u64 r.f2)).setCell ⟨W.heap.size,3,none⟩ (.bool true))) hV1 hV2 hV3 (.slice A r.f0.length c) (.int .i64 r.f1) (.int .u64 r.f2) (.bool true) (.string ⟨#[]⟩) (.string ⟨#[]⟩) (.string ⟨#[]⟩)
   generalize ((((((((((((W4.setCell ⟨W.heap.size,0,none⟩ (.slice A r.f0.length c)).setCell ⟨W.heap.size,1,none⟩ (.int .i64 r.f1)).setCell ⟨W.heap.size,2,none⟩ (.int .u64 r.f2)).setCell ⟨W.heap.size,3,none⟩ (.bool true)).setCell ⟨W.heap.size,0,none⟩ (.slice A r.f0.length c)).setCell ⟨W.heap.size,1,none⟩ (.int .i64 r.f1)).setCell ⟨W.heap.size,2,none⟩ (.int .u64 r.f2)).setCell ⟨W.heap.size,3,none⟩ (.bool true)).setCell ⟨W.heap.size,4,none⟩ (.string ⟨#[]⟩)).setCell ⟨W.heap.size,5,none⟩ (.string ⟨#[]⟩)).setCell ⟨W.heap.size,6,none⟩ (.string ⟨#[]⟩)).setCell ⟨W.heap.size + 1,0,none⟩ (.int .i64 0)) = Wz at HF ⊢
   have hs9:=ua.new_old HF.said (.cells #[.int .i64 0] 83)
   have hc9:=ua.new_old HF.code (.cells #[.int .i64 0] 83)
   have HBF:=Aside0.mk (u1d HF.below (ud (Below.refl Wz.heap.size Wz) (.cells #[.int .i64 0] 83)))
   have HRF:=Aside0.mk (Kd.R_alloc (Kd.R_lower (Kd.R_mono (Kd.R_step (Kd.R_bound HR4.out) (fun k hk _ => (HF.far k (by have h8:=hk.2.1;rw [uh.mk2_size] at h8;omega) (by have h8:=hk.2.1;rw [uh.mk2_size] at h8;omega)).trans (hVF k (by have h8:=hk.2.1;rw [uh.mk2_size] at h8;omega)))) (fun _ _ => trivial)) (show W.heap.size ≤ (uh.mk2 W).heap.size by rw [uh.mk2_size];omega)) (.cells #[.int .i64 0] 83))
   clear HF
   obtain ⟨⟨p0,p1,p2,p3,p4,p5,p6⟩,fp⟩:=uh.look7 hs9
   obtain ⟨q0,fq⟩:=uh.look1 hc9
   clear hs9 hc9
   refine leaves_cons (f:=44) (args:=#[.pointer (some ⟨W.heap.size,0,none⟩),.pointer (some ⟨W.heap.size + 1,0,none⟩)]) (by simp) (by simp [go_sem]) ?_
   refine (uh.catch_idle _ _ _).mono ?_
   rintro e u' w'' ⟨rfl,rfl,rfl⟩
   simp [Leaves,settle,results,Tryz.results18,go_sem,p0,p1,p2,p3,p4,p5,p6,q0]
   exact uh.out_row HE.out HRF.out HBF.out
theorem uh.calls (can:List Tx.Lb → Bool) (hcan:∀ l:List Tx.Lb,l.length ≤ 10 → ∃ k,u1w.f k l = some (can l)) (W:World) (s:List UInt8) (now:Int) (hm:s.length ≤ 4611686018427387904) :
 Calls Tryz.prog 18 #[.string (Base.ofL s),.int .i64 now] W fun e W' => uh.Out W (Tx.readP can s now) e W':=by
 by_cases hl:s.length > 1000
 · exact uh.too_long can W s now hm hl
 · have hl2:s.length ≤ 1000:=by omega
   cases hn:s.contains 10 with
   | true => exact uh.lines can W s now hl2 hn
   | false =>
     by_cases hs:∃ r,s = 35 :: r
     · obtain ⟨r,hr⟩:=hs
       exact uh.remark can W s now hl2 hn r hr
     · have hs2:∀ r,s ≠ 35 :: r:=fun r e => hs ⟨r,e⟩
       by_cases ha:s.all Tx.blankC = true
       · exact uh.blank can W s now hl2 hn hs2 ha
       · exact uh.row can hcan W s now hl2 hn hs2 ha
def u2j.lab (o:Option Tx.Rw × Tx.Me × Int):List Tx.Lb:=match o.1 with | none => [] | some r => r.f0
def u2j.tim (o:Option Tx.Rw × Tx.Me × Int):Int:=match o.1 with | none => 0 | some r => r.f1
def u2j.val (o:Option Tx.Rw × Tx.Me × Int):Int:=match o.1 with | none => 0 | some r => r.f2
def u2j.Out (W:World) (o:Option Tx.Rw × Tx.Me × Int) (e:Ending) (W':World):Prop:=∃ v:Value,e = .returned (.tuple #[.agg #[v,.int .i64 (u2j.tim o),.int .u64 (u2j.val o)],.bool o.1.isSome,.agg #[.int .i64 o.2.2,.int .i64 0]]) ∧ Kd.R k66 66 W' W.heap.size (fun _ => True) v (u2j.lab o) ∧ Below W.heap.size W W'
def u2j.f (a0:ByteArray) (a1:Int):Option (List Tx.Lb × Int × Int × Bool × Int × Int):=if a0.size ≤ 4611686018427387904 then some (u2j.lab (Tx.readP Laws.canB a0.data.toList a1),u2j.tim (Tx.readP Laws.canB a0.data.toList a1),u2j.val (Tx.readP Laws.canB a0.data.toList a1),(Tx.readP Laws.canB a0.data.toList a1).1.isSome,(Tx.readP Laws.canB a0.data.toList a1).2.2,0) else none
theorem u2j.read_at (can:List Tx.Lb → Bool) (hcan:∀ l:List Tx.Lb,l.length ≤ 10 → ∃ k,u1w.f k l = some (can l)) (W:World) (s:List UInt8) (now:Int) (hm:s.length ≤ 4611686018427387904) (L:List Tx.Lb) (T N C:Int) (B:Bool) (a b c:ByteArray) (hL:u2j.lab (Tx.readP can s now) = L) (hT:u2j.tim (Tx.readP can s now) = T) (hN:u2j.val (Tx.readP can s now) = N) (hB:(Tx.readP can s now).1.isSome = B) (hM:(Tx.readP can s now).2.1 = (a,b,c)) (hC:(Tx.readP can s now).2.2 = C) :
 Calls Tryz.prog 18 #[.string (Base.ofL s),.int .i64 now] W fun e W' => ∃ v:Value,e = .returned (.tuple #[.agg #[v,.int .i64 T,.int .u64 N,.bool B,.string a,.string b,.string c],.int .i64 C]) ∧ Kd.R k66 66 W' W.heap.size (fun _ => True) v L ∧ Below W.heap.size W W':=by
 refine (uh.calls can hcan W s now hm).mono fun e W' h => ?_
 obtain ⟨v,he,h1,h2⟩:=h
 subst hL hT hN hB hC
 have ha:(Tx.readP can s now).2.1.1 = a:=by rw [hM]
 have hb:(Tx.readP can s now).2.1.2.1 = b:=by rw [hM]
 have hc:(Tx.readP can s now).2.1.2.2 = c:=by rw [hM]
 rw [ha,hb,hc] at he
 exact ⟨v,he,h1,h2⟩
set_option maxRecDepth 100000 in
set_option maxHeartbeats 4000000 in
theorem u2j.walk (can:List Tx.Lb → Bool) (hcan:∀ l:List Tx.Lb,l.length ≤ 10 → ∃ k,u1w.f k l = some (can l)) (W:World) (s:List UInt8) (now:Int) (hm:s.length ≤ 4611686018427387904) :
 Calls Tryz.prog 27 #[.string (Base.ofL s),.int .i64 now] W fun e W' => u2j.Out W (Tx.readP can s now) e W':=by
 unfold u2j.Out
 obtain ⟨L,hL⟩:∃ L,u2j.lab (Tx.readP can s now) = L:=⟨_,rfl⟩
 obtain ⟨T,hT⟩:∃ T,u2j.tim (Tx.readP can s now) = T:=⟨_,rfl⟩
 obtain ⟨N,hN⟩:∃ N,u2j.val (Tx.readP can s now) = N:=⟨_,rfl⟩
 obtain ⟨B,hB⟩:∃ B,(Tx.readP can s now).1.isSome = B:=⟨_,rfl⟩
 obtain ⟨C,hC⟩:∃ C,(Tx.readP can s now).2.2 = C:=⟨_,rfl⟩
 obtain ⟨a,b,c,hM⟩:∃ a b c,(Tx.readP can s now).2.1 = (a,b,c):=⟨_,_,_,rfl⟩
 rw [hL,hT,hN,hB,hC]
 have HRD:=Aside0.mk (fun W => u2j.read_at can hcan W s now hm L T N C B a b c hL hT hN hB hM hC)
 clear hL hT hN hB hC hM hcan
 have hx1:=ua.new_old (ua.new_at W (.cells #[.slice none 0 0,.int .i64 0,.int .u64 0] 53)) (.cells #[.int .i64 0,.int .i64 0] 28)
 have hx2:=ua.new_at (W.alloc (.cells #[.slice none 0 0,.int .i64 0,.int .u64 0] 53)) (.cells #[.int .i64 0,.int .i64 0] 28)
 rw [World.size_alloc] at hx2
 have HX1:=Aside0.mk hx1
 have HX2:=Aside0.mk hx2
 clear hx1 hx2
 go_enter Tryz.func27,Tryz.ntmps27
 go_wp2_with (go_at_call 18;(with_reducible refine (HRD.out _).mono ?_);rintro e W3 ⟨v,rfl,hr3,hb3⟩;have HR3:=Aside0.mk hr3;have HB3:=Aside0.mk (u1d (ud (ud (Below.refl W.heap.size W) _) _) hb3);have X1:=Aside0.mk (ua.below_at hb3 HX1.out);have X2:=Aside0.mk (ua.below_at hb3 HX2.out);obtain ⟨A,cc,ev⟩:=Kd.R_slice hr3;subst ev;clear hr3 hb3)
 have y7:=ua.new_at W3 (.cells #[.slice A L.length cc,.int .i64 T,.int .u64 N,.bool B,.string a,.string b,.string c] 55)
 have y1:=ua.new_old X1.out (.cells #[.slice A L.length cc,.int .i64 T,.int .u64 N,.bool B,.string a,.string b,.string c] 55)
 have y2:=ua.new_old X2.out (.cells #[.slice A L.length cc,.int .i64 T,.int .u64 N,.bool B,.string a,.string b,.string c] 55)
 have HRA:=Aside0.mk (Kd.R_alloc HR3.out (.cells #[.slice A L.length cc,.int .i64 T,.int .u64 N,.bool B,.string a,.string b,.string c] 55))
 have HBA:=Aside0.mk (ud HB3.out (.cells #[.slice A L.length cc,.int .i64 T,.int .u64 N,.bool B,.string a,.string b,.string c] 55))
 have l1:=u3a X1.out
 have l2:=u3a X2.out
 have m1:¬ W3.heap.size = W.heap.size:=by omega
 have m2:¬ W3.heap.size = W.heap.size + 1:=by omega
 have m3:¬ W.heap.size = W3.heap.size:=by omega
 have m4:¬ W.heap.size + 1 = W3.heap.size:=by omega
 have m5:¬ W.heap.size + 1 = W.heap.size:=by omega
 have m6:¬ W.heap.size = W.heap.size + 1:=by omega
 have Y1:=Aside0.mk y1
 have Y2:=Aside0.mk y2
 obtain ⟨⟨a0,a1,a2,a3,a4,a5,a6⟩,fa⟩:=uh.look7 y7
 obtain ⟨⟨b0,b1,b2⟩,b3,b4,b5⟩:=uc.look3 y1
 obtain ⟨c0,c1,c2,c3⟩:=ua.look2 y2
 clear y7 y1 y2 l1 l2 HR3 HB3 X1 X2 HX1 HX2
 generalize W3.alloc (.cells #[.slice A L.length cc,.int .i64 T,.int .u64 N,.bool B,.string a,.string b,.string c] 55) = W4 at *
 generalize W3.heap.size = zz at *
 have mixed:Tryz.prog.follows .mixedOrders = true:=by kernel_rfl
 go_big_region_o
 all_goals go_wp2
 refine bodyPost_ret (v:=.tuple #[.agg #[.slice A L.length cc,.int .i64 T,.int .u64 N],.bool B,.agg #[.int .i64 C,.int .i64 0]]) (by simp [results,Tryz.results27,go_sem,b0,b1,b2,c0,c1,m5,m6]) rfl ⟨.slice A L.length cc,rfl,?_,?_⟩
 · refine Kd.R_drew (Kd.R_lower (Kd.R_mono (Kd.R_step (Kd.R_bound HRA.out) (fun k hk _ => ?_)) (fun _ _ => trivial)) (by rw [World.size_alloc,World.size_alloc];omega))
   have h8:=hk.2.1
   rw [World.size_alloc,World.size_alloc] at h8
   rw [Below.heap_setCell _ ⟨W.heap.size + 1,1,none⟩ _ k (show k ≠ W.heap.size + 1 by omega),Below.heap_setCell _ ⟨W.heap.size + 1,0,none⟩ _ k (show k ≠ W.heap.size + 1 by omega),Below.heap_setCell _ ⟨W.heap.size,2,none⟩ _ k (show k ≠ W.heap.size by omega),Below.heap_setCell _ ⟨W.heap.size,1,none⟩ _ k (show k ≠ W.heap.size by omega),Below.heap_setCell _ ⟨W.heap.size,0,none⟩ _ k (show k ≠ W.heap.size by omega)]
 · have h1:=HBA.out.setCell (p:=⟨W.heap.size,0,none⟩) (Nat.le_refl _) (.slice A L.length cc)
   have h2:=h1.setCell (p:=⟨W.heap.size,1,none⟩) (Nat.le_refl _) (.int .i64 T)
   have h3:=h2.setCell (p:=⟨W.heap.size,2,none⟩) (Nat.le_refl _) (.int .u64 N)
   have h4:=h3.setCell (p:=⟨W.heap.size + 1,0,none⟩) (by show W.heap.size ≤ W.heap.size + 1;omega) (.int .i64 C)
   exact uf (h4.setCell (p:=⟨W.heap.size + 1,1,none⟩) (by show W.heap.size ≤ W.heap.size + 1;omega) (.int .i64 0))
theorem u2j.calls (a0:ByteArray) (a1:Int) (r1:List Tx.Lb) (r2 r3:Int) (r4:Bool) (r5 r6:Int) (w:World) (h:u2j.f a0 a1 = some (r1,r2,r3,r4,r5,r6)) :
 Calls Tryz.prog 27 #[.string a0,.int .i64 a1] w fun e w' => ∃ v:Value,e = .returned (.tuple #[.agg #[v,.int .i64 r2,.int .u64 r3],.bool r4,.agg #[.int .i64 r5,.int .i64 r6]]) ∧ Kd.R k66 66 w' w.heap.size (fun _ => True) v r1 ∧ Below w.heap.size w w':=by
 unfold u2j.f at h
 split at h
 · rename_i hm
   cases Option.some.inj h
   have e:a0 = Base.ofL a0.data.toList:=Base.ext_data (Base.ofL_data _).symm
   have hl:a0.data.toList.length ≤ 4611686018427387904:=by rw [← Base.size_list];exact hm
   have h1:=u2j.walk Laws.canB (fun l _ => (Laws.can_ev l).rounds) w a0.data.toList a1 hl
   rw [← e] at h1
   exact h1
 · cases h
def u2s.f  : Option (Bool):=(u2j.f (⟨#[117,112,123,106,111,98,61,34,120,34,125,32,48,120,49,102,32,55]⟩:ByteArray) 0).bind fun bt255 => (if bt255.2.2.2.1 = true then (if bt255.2.2.2.2.1 = 0 then (if bt255.2.2.1 = 31 then (if bt255.2.1 = 7 then (some ((bt255.1.length:Int) == 2)) else (some false)) else (some false)) else (some false)) else (some false))
set_option maxHeartbeats 8000000 in
set_option maxRecDepth 100000 in
theorem u2s.calls  (r:Bool) (w:World) (h:u2s.f  = some r) :
 Calls Tryz.prog 12 #[] w fun e w' => e = .returned (.bool r) ∧ Below w.heap.size w w':=by
 have hu53:=Tryz.underlying53
 have hu28:=Tryz.underlying28
 have HB:=Aside0.mk (Below.refl w.heap.size w)
 have H:((u2j.f (⟨#[117,112,123,106,111,98,61,34,120,34,125,32,48,120,49,102,32,55]⟩:ByteArray) 0).bind fun bt255 => (if bt255.2.2.2.1 = true then (if bt255.2.2.2.2.1 = 0 then (if bt255.2.2.1 = 31 then (if bt255.2.1 = 7 then (some ((bt255.1.length:Int) == 2)) else (some false)) else (some false)) else (some false)) else (some false))) = some r:=h
 clear h
 replace H:=Option.bind_eq_some_iff.mp H
 obtain ⟨⟨t255,t258,t259,t260,t261,t262⟩,A10,H⟩:=H
 replace H:(if t260 = true then (if t261 = 0 then (if t259 = 31 then (if t258 = 7 then (some ((t255.length:Int) == 2)) else (some false)) else (some false)) else (some false)) else (some false)) = some r:=H
 have A1:=Aside0.mk A10
 clear A10
 by_cases c2:t260 = true
 · subst c2
   have H1:(if t261 = 0 then (if t259 = 31 then (if t258 = 7 then (some ((t255.length:Int) == 2)) else (some false)) else (some false)) else (some false)) = some r:=by rw [if_pos rfl] at H;exact H
   clear H
   have H:=H1
   clear H1
   by_cases c3:t261 = 0
   · rw [if_pos c3] at H
     have c3b0:(t261 == 0) = true:=beq_iff_eq.mpr c3
     have c3b1:(t261 != 0) = false:=bne_eq_false_iff_eq.mpr c3
     clear c3
     by_cases c4:t259 = 31
     · rw [if_pos c4] at H
       have c4b0:(t259 == 31) = true:=beq_iff_eq.mpr c4
       have c4b1:(t259 != 31) = false:=bne_eq_false_iff_eq.mpr c4
       clear c4
       by_cases c5:t258 = 7
       · rw [if_pos c5] at H
         have c5b0:(t258 == 7) = true:=beq_iff_eq.mpr c5
         have c5b1:(t258 != 7) = false:=bne_eq_false_iff_eq.mpr c5
         clear c5
         obtain rfl:=Option.some.inj H
         go_enter Tryz.func12,Tryz.ntmps12
         go_wp2_with (first | ((with_reducible refine u3d (f:=27) rfl ?_);refine goesL_ (some 5) rfl rfl Tryz.func27 (by kernel_rfl) rfl #[.string (⟨#[117,112,123,106,111,98,61,34,120,34,125,32,48,120,49,102,32,55]⟩:ByteArray),.int .i64 0] rfl (by (try simp only [List.map_toArray,List.map_cons,List.map_nil]);first | done | rfl | (simp only [List.length_drop,List.length_take];rfl)) ?_;(with_reducible refine (u2j.calls (⟨#[117,112,123,106,111,98,61,34,120,34,125,32,48,120,49,102,32,55]⟩:ByteArray) 0 t255 t258 t259 true t261 t262 _ A1.out).mono ?_);rintro e w6 ⟨v256,rfl,ho0,hb⟩;refine ⟨_,rfl,?_⟩;have n0_:=Aside0.mk (Kd.R_lower ho0 (u1c (by repeat (first | (with_reducible first | exact HB.out | apply ud | apply ub | apply uf) | exact HB.out))));have n1_:=Aside0.mk (u1d (by repeat (first | (with_reducible first | exact HB.out | apply ud | apply ub | apply uf) | exact HB.out)) hb);clear HB;have HO257:=n0_;have HB:=n1_;clear n0_ n1_;(try clear hb);(try clear hb2);(try clear hk);(try clear hi);(try clear ho0)) | ((with_reducible refine u2u (N:=1) rfl ?_);(try (refine u3o (by rfl) ?_;dsimp only));refine u2r ?hg (N:=1) ?hd (cs:=#[.slice none 0 0,.int .i64 0,.int .u64 0]) (t:=53) ?hr ?_;(case hd => rfl);(case hg => rfl);(case hr => first | (go_simp;done) | (go_simp;rfl));intro gb263 hg w7 hbox hb;have n0_:=Aside0.mk (Kd.R_below (by (with_reducible repeat (first | apply Kd.R_alloc | apply Kd.R_drewN | apply Kd.R_drew));exact HO257.out) hb);have n1_:=Aside0.mk (u1d (by repeat (first | (with_reducible first | exact HB.out | apply ud | apply ub | apply uf) | exact HB.out)) hb);have n2_:=Aside0.mk (hbox);have n3_:=Aside0.mk ((by rw [hg];exact (u1c (by repeat (first | (with_reducible first | exact HB.out | apply ud | apply ub | apply uf) | exact HB.out))):w.heap.size ≤ gb263));have n4_:=Aside0.mk ((by rw [hg];exact (u1c (by repeat (first | (with_reducible first | exact HB.out | apply ud | apply ub | apply uf) | exact HB.out))):w.heap.size ≤ gb263));clear HO257;clear HB;have HO257:=n0_;have HB:=n1_;have BK263:=n2_;have GW263:=n3_;have GE263:=n4_;clear n0_ n1_ n2_ n3_ n4_;clear hb hbox hg) | ((with_reducible refine u2u (N:=3) rfl ?_);(try (refine u3o (by rfl) ?_;dsimp only));refine u2r ?hg (N:=3) ?hd (cs:=#[.int .i64 0,.int .i64 0]) (t:=28) ?hr ?_;(case hd => rfl);(case hg => rfl);(case hr => first | (go_simp;done) | (go_simp;rfl));intro gb264 hg w8 hbox hb;have n0_:=Aside0.mk (Kd.R_below (by (with_reducible repeat (first | apply Kd.R_alloc | apply Kd.R_drewN | apply Kd.R_drew));exact HO257.out) hb);have n1_:=Aside0.mk (u2d (g:=gb263) (o:=.cells #[.slice none 0 0,.int .i64 0,.int .u64 0] 53 (0,0)) (by (with_reducible repeat (first | refine uu ?_ _ | refine uy ?_ | refine us ?_ _));exact BK263.out) hb);have n2_:=Aside0.mk (u1d (by repeat (first | (with_reducible first | exact HB.out | apply ud | apply ub | apply uf | refine uz ?_ GE263.out) | exact HB.out)) hb);have n3_:=Aside0.mk (hbox);have n4_:=Aside0.mk ((by rw [hg];exact (u1c (by repeat (first | (with_reducible first | exact HB.out | apply ud | apply ub | apply uf | refine uz ?_ GE263.out) | exact HB.out))):w.heap.size ≤ gb264));have n5_:=Aside0.mk ((by rw [hg];exact (u1c (by repeat (first | (with_reducible first | exact HB.out | apply ud | apply ub | apply uf | refine uz ?_ GE263.out) | exact HB.out))):w.heap.size ≤ gb264));have n6_:=Aside0.mk ((by rw [hg];exact Nat.ne_of_lt (u3a (g:=gb263) (o:=.cells #[.slice none 0 0,.int .i64 0,.int .u64 0] 53 (0,0)) (by (with_reducible repeat (first | refine uu ?_ _ | refine uy ?_ | refine us ?_ _));exact BK263.out)):gb263 ≠ gb264));have n7_:=Aside0.mk ((by rw [hg];exact Nat.ne_of_gt (u3a (g:=gb263) (o:=.cells #[.slice none 0 0,.int .i64 0,.int .u64 0] 53 (0,0)) (by (with_reducible repeat (first | refine uu ?_ _ | refine uy ?_ | refine us ?_ _));exact BK263.out)):gb264 ≠ gb263));clear HO257;clear BK263;clear HB;have HO257:=n0_;have BK263:=n1_;have HB:=n2_;have BK264:=n3_;have GW264:=n4_;have GE264:=n5_;have NB263_264:=n6_;have NB264_263:=n7_;clear n0_ n1_ n2_ n3_ n4_ n5_ n6_ n7_;clear hb hbox hg;obtain ⟨Ao9,co9,eo9⟩:=Kd.R_slice HO257.out;subst eo9;have hnb10:=NB263_264.out;have hnc10:=NB264_263.out;have hcz11_0:w8.cell? ⟨gb263,0,none⟩ = some (.slice none 0 0):=(uj BK263.out 0).trans rfl;have hcz11_1:w8.cell? ⟨gb263,1,none⟩ = some (.int .i64 0):=(uj BK263.out 1).trans rfl;have hcz11_2:w8.cell? ⟨gb263,2,none⟩ = some (.int .u64 0):=(uj BK263.out 2).trans rfl;have hfz11_0:=uo BK263.out 0;have hfz11_1:=uo BK263.out 1;have hfz11_2:=uo BK263.out 2;have hcz12_0:w8.cell? ⟨gb264,0,none⟩ = some (.int .i64 0):=(uj BK264.out 0).trans rfl;have hcz12_1:w8.cell? ⟨gb264,1,none⟩ = some (.int .i64 0):=(uj BK264.out 1).trans rfl;have hfz12_0:=uo BK264.out 0;have hfz12_1:=uo BK264.out 1))
         go_ret
         exact ⟨by first | rfl | (simp [u2c,u2b] <;> rfl) | (simp [*,u2c,u2b] <;> rfl),by repeat (first | (with_reducible first | exact HB.out | apply ud | apply ub | apply uf | refine uz ?_ GE263.out | refine uz ?_ GE264.out) | exact HB.out)⟩
       · rw [if_neg c5] at H
         have c5b0:(t258 == 7) = false:=beq_eq_false_iff_ne.mpr c5
         have c5b1:(t258 != 7) = true:=bne_iff_ne.mpr c5
         obtain rfl:=Option.some.inj H
         go_enter Tryz.func12,Tryz.ntmps12
         go_wp2_with (first | ((with_reducible refine u3d (f:=27) rfl ?_);refine goesL_ (some 5) rfl rfl Tryz.func27 (by kernel_rfl) rfl #[.string (⟨#[117,112,123,106,111,98,61,34,120,34,125,32,48,120,49,102,32,55]⟩:ByteArray),.int .i64 0] rfl (by (try simp only [List.map_toArray,List.map_cons,List.map_nil]);first | done | rfl | (simp only [List.length_drop,List.length_take];rfl)) ?_;(with_reducible refine (u2j.calls (⟨#[117,112,123,106,111,98,61,34,120,34,125,32,48,120,49,102,32,55]⟩:ByteArray) 0 t255 t258 t259 true t261 t262 _ A1.out).mono ?_);rintro e w13 ⟨v256,rfl,ho0,hb⟩;refine ⟨_,rfl,?_⟩;have n0_:=Aside0.mk (Kd.R_lower ho0 (u1c (by repeat (first | (with_reducible first | exact HB.out | apply ud | apply ub | apply uf) | exact HB.out))));have n1_:=Aside0.mk (u1d (by repeat (first | (with_reducible first | exact HB.out | apply ud | apply ub | apply uf) | exact HB.out)) hb);clear HB;have HO257:=n0_;have HB:=n1_;clear n0_ n1_;(try clear hb);(try clear hb2);(try clear hk);(try clear hi);(try clear ho0)) | ((with_reducible refine u2u (N:=1) rfl ?_);(try (refine u3o (by rfl) ?_;dsimp only));refine u2r ?hg (N:=1) ?hd (cs:=#[.slice none 0 0,.int .i64 0,.int .u64 0]) (t:=53) ?hr ?_;(case hd => rfl);(case hg => rfl);(case hr => first | (go_simp;done) | (go_simp;rfl));intro gb263 hg w14 hbox hb;have n0_:=Aside0.mk (Kd.R_below (by (with_reducible repeat (first | apply Kd.R_alloc | apply Kd.R_drewN | apply Kd.R_drew));exact HO257.out) hb);have n1_:=Aside0.mk (u1d (by repeat (first | (with_reducible first | exact HB.out | apply ud | apply ub | apply uf) | exact HB.out)) hb);have n2_:=Aside0.mk (hbox);have n3_:=Aside0.mk ((by rw [hg];exact (u1c (by repeat (first | (with_reducible first | exact HB.out | apply ud | apply ub | apply uf) | exact HB.out))):w.heap.size ≤ gb263));have n4_:=Aside0.mk ((by rw [hg];exact (u1c (by repeat (first | (with_reducible first | exact HB.out | apply ud | apply ub | apply uf) | exact HB.out))):w.heap.size ≤ gb263));clear HO257;clear HB;have HO257:=n0_;have HB:=n1_;have BK263:=n2_;have GW263:=n3_;have GE263:=n4_;clear n0_ n1_ n2_ n3_ n4_;clear hb hbox hg) | ((with_reducible refine u2u (N:=3) rfl ?_);(try (refine u3o (by rfl) ?_;dsimp only));refine u2r ?hg (N:=3) ?hd (cs:=#[.int .i64 0,.int .i64 0]) (t:=28) ?hr ?_;(case hd => rfl);(case hg => rfl);(case hr => first | (go_simp;done) | (go_simp;rfl));intro gb264 hg w15 hbox hb;have n0_:=Aside0.mk (Kd.R_below (by (with_reducible repeat (first | apply Kd.R_alloc | apply Kd.R_drewN | apply Kd.R_drew));exact HO257.out) hb);have n1_:=Aside0.mk (u2d (g:=gb263) (o:=.cells #[.slice none 0 0,.int .i64 0,.int .u64 0] 53 (0,0)) (by (with_reducible repeat (first | refine uu ?_ _ | refine uy ?_ | refine us ?_ _));exact BK263.out) hb);have n2_:=Aside0.mk (u1d (by repeat (first | (with_reducible first | exact HB.out | apply ud | apply ub | apply uf | refine uz ?_ GE263.out) | exact HB.out)) hb);have n3_:=Aside0.mk (hbox);have n4_:=Aside0.mk ((by rw [hg];exact (u1c (by repeat (first | (with_reducible first | exact HB.out | apply ud | apply ub | apply uf | refine uz ?_ GE263.out) | exact HB.out))):w.heap.size ≤ gb264));have n5_:=Aside0.mk ((by rw [hg];exact (u1c (by repeat (first | (with_reducible first | exact HB.out | apply ud | apply ub | apply uf | refine uz ?_ GE263.out) | exact HB.out))):w.heap.size ≤ gb264));have n6_:=Aside0.mk ((by rw [hg];exact Nat.ne_of_lt (u3a (g:=gb263) (o:=.cells #[.slice none 0 0,.int .i64 0,.int .u64 0] 53 (0,0)) (by (with_reducible repeat (first | refine uu ?_ _ | refine uy ?_ | refine us ?_ _));exact BK263.out)):gb263 ≠ gb264));have n7_:=Aside0.mk ((by rw [hg];exact Nat.ne_of_gt (u3a (g:=gb263) (o:=.cells #[.slice none 0 0,.int .i64 0,.int .u64 0] 53 (0,0)) (by (with_reducible repeat (first | refine uu ?_ _ | refine uy ?_ | refine us ?_ _));exact BK263.out)):gb264 ≠ gb263));clear HO257;clear BK263;clear HB;have HO257:=n0_;have BK263:=n1_;have HB:=n2_;have BK264:=n3_;have GW264:=n4_;have GE264:=n5_;have NB263_264:=n6_;have NB264_263:=n7_;clear n0_ n1_ n2_ n3_ n4_ n5_ n6_ n7_;clear hb hbox hg;obtain ⟨Ao16,co16,eo16⟩:=Kd.R_slice HO257.out;subst eo16;have hnb17:=NB263_264.out;have hnc17:=NB264_263.out;have hcz18_0:w15.cell? ⟨gb263,0,none⟩ = some (.slice none 0 0):=(uj BK263.out 0).trans rfl;have hcz18_1:w15.cell? ⟨gb263,1,none⟩ = some (.int .i64 0):=(uj BK263.out 1).trans rfl;have hcz18_2:w15.cell? ⟨gb263,2,none⟩ = some (.int .u64 0):=(uj BK263.out 2).trans rfl;have hfz18_0:=uo BK263.out 0;have hfz18_1:=uo BK263.out 1;have hfz18_2:=uo BK263.out 2;have hcz19_0:w15.cell? ⟨gb264,0,none⟩ = some (.int .i64 0):=(uj BK264.out 0).trans rfl;have hcz19_1:w15.cell? ⟨gb264,1,none⟩ = some (.int .i64 0):=(uj BK264.out 1).trans rfl;have hfz19_0:=uo BK264.out 0;have hfz19_1:=uo BK264.out 1))
         go_ret
         exact ⟨by first | rfl | (simp [u2c,u2b] <;> rfl) | (simp [*,u2c,u2b] <;> rfl),by repeat (first | (with_reducible first | exact HB.out | apply ud | apply ub | apply uf | refine uz ?_ GE263.out | refine uz ?_ GE264.out) | exact HB.out)⟩
     · rw [if_neg c4] at H
       have c4b0:(t259 == 31) = false:=beq_eq_false_iff_ne.mpr c4
       have c4b1:(t259 != 31) = true:=bne_iff_ne.mpr c4
       obtain rfl:=Option.some.inj H
       go_enter Tryz.func12,Tryz.ntmps12
       go_wp2_with (first | ((with_reducible refine u3d (f:=27) rfl ?_);refine goesL_ (some 5) rfl rfl Tryz.func27 (by kernel_rfl) rfl #[.string (⟨#[117,112,123,106,111,98,61,34,120,34,125,32,48,120,49,102,32,55]⟩:ByteArray),.int .i64 0] rfl (by (try simp only [List.map_toArray,List.map_cons,List.map_nil]);first | done | rfl | (simp only [List.length_drop,List.length_take];rfl)) ?_;(with_reducible refine (u2j.calls (⟨#[117,112,123,106,111,98,61,34,120,34,125,32,48,120,49,102,32,55]⟩:ByteArray) 0 t255 t258 t259 true t261 t262 _ A1.out).mono ?_);rintro e w20 ⟨v256,rfl,ho0,hb⟩;refine ⟨_,rfl,?_⟩;have n0_:=Aside0.mk (Kd.R_lower ho0 (u1c (by repeat (first | (with_reducible first | exact HB.out | apply ud | apply ub | apply uf) | exact HB.out))));have n1_:=Aside0.mk (u1d (by repeat (first | (with_reducible first | exact HB.out | apply ud | apply ub | apply uf) | exact HB.out)) hb);clear HB;have HO257:=n0_;have HB:=n1_;clear n0_ n1_;(try clear hb);(try clear hb2);(try clear hk);(try clear hi);(try clear ho0)) | ((with_reducible refine u2u (N:=1) rfl ?_);(try (refine u3o (by rfl) ?_;dsimp only));refine u2r ?hg (N:=1) ?hd (cs:=#[.slice none 0 0,.int .i64 0,.int .u64 0]) (t:=53) ?hr ?_;(case hd => rfl);(case hg => rfl);(case hr => first | (go_simp;done) | (go_simp;rfl));intro gb263 hg w21 hbox hb;have n0_:=Aside0.mk (Kd.R_below (by (with_reducible repeat (first | apply Kd.R_alloc | apply Kd.R_drewN | apply Kd.R_drew));exact HO257.out) hb);have n1_:=Aside0.mk (u1d (by repeat (first | (with_reducible first | exact HB.out | apply ud | apply ub | apply uf) | exact HB.out)) hb);have n2_:=Aside0.mk (hbox);have n3_:=Aside0.mk ((by rw [hg];exact (u1c (by repeat (first | (with_reducible first | exact HB.out | apply ud | apply ub | apply uf) | exact HB.out))):w.heap.size ≤ gb263));have n4_:=Aside0.mk ((by rw [hg];exact (u1c (by repeat (first | (with_reducible first | exact HB.out | apply ud | apply ub | apply uf) | exact HB.out))):w.heap.size ≤ gb263));clear HO257;clear HB;have HO257:=n0_;have HB:=n1_;have BK263:=n2_;have GW263:=n3_;have GE263:=n4_;clear n0_ n1_ n2_ n3_ n4_;clear hb hbox hg) | ((with_reducible refine u2u (N:=3) rfl ?_);(try (refine u3o (by rfl) ?_;dsimp only));refine u2r ?hg (N:=3) ?hd (cs:=#[.int .i64 0,.int .i64 0]) (t:=28) ?hr ?_;(case hd => rfl);(case hg => rfl);(case hr => first | (go_simp;done) | (go_simp;rfl));intro gb264 hg w22 hbox hb;have n0_:=Aside0.mk (Kd.R_below (by (with_reducible repeat (first | apply Kd.R_alloc | apply Kd.R_drewN | apply Kd.R_drew));exact HO257.out) hb);have n1_:=Aside0.mk (u2d (g:=gb263) (o:=.cells #[.slice none 0 0,.int .i64 0,.int .u64 0] 53 (0,0)) (by (with_reducible repeat (first | refine uu ?_ _ | refine uy ?_ | refine us ?_ _));exact BK263.out) hb);have n2_:=Aside0.mk (u1d (by repeat (first | (with_reducible first | exact HB.out | apply ud | apply ub | apply uf | refine uz ?_ GE263.out) | exact HB.out)) hb);have n3_:=Aside0.mk (hbox);have n4_:=Aside0.mk ((by rw [hg];exact (u1c (by repeat (first | (with_reducible first | exact HB.out | apply ud | apply ub | apply uf | refine uz ?_ GE263.out) | exact HB.out))):w.heap.size ≤ gb264));have n5_:=Aside0.mk ((by rw [hg];exact (u1c (by repeat (first | (with_reducible first | exact HB.out | apply ud | apply ub | apply uf | refine uz ?_ GE263.out) | exact HB.out))):w.heap.size ≤ gb264));have n6_:=Aside0.mk ((by rw [hg];exact Nat.ne_of_lt (u3a (g:=gb263) (o:=.cells #[.slice none 0 0,.int .i64 0,.int .u64 0] 53 (0,0)) (by (with_reducible repeat (first | refine uu ?_ _ | refine uy ?_ | refine us ?_ _));exact BK263.out)):gb263 ≠ gb264));have n7_:=Aside0.mk ((by rw [hg];exact Nat.ne_of_gt (u3a (g:=gb263) (o:=.cells #[.slice none 0 0,.int .i64 0,.int .u64 0] 53 (0,0)) (by (with_reducible repeat (first | refine uu ?_ _ | refine uy ?_ | refine us ?_ _));exact BK263.out)):gb264 ≠ gb263));clear HO257;clear BK263;clear HB;have HO257:=n0_;have BK263:=n1_;have HB:=n2_;have BK264:=n3_;have GW264:=n4_;have GE264:=n5_;have NB263_264:=n6_;have NB264_263:=n7_;clear n0_ n1_ n2_ n3_ n4_ n5_ n6_ n7_;clear hb hbox hg;obtain ⟨Ao23,co23,eo23⟩:=Kd.R_slice HO257.out;subst eo23;have hnb24:=NB263_264.out;have hnc24:=NB264_263.out;have hcz25_0:w22.cell? ⟨gb263,0,none⟩ = some (.slice none 0 0):=(uj BK263.out 0).trans rfl;have hcz25_1:w22.cell? ⟨gb263,1,none⟩ = some (.int .i64 0):=(uj BK263.out 1).trans rfl;have hcz25_2:w22.cell? ⟨gb263,2,none⟩ = some (.int .u64 0):=(uj BK263.out 2).trans rfl;have hfz25_0:=uo BK263.out 0;have hfz25_1:=uo BK263.out 1;have hfz25_2:=uo BK263.out 2;have hcz26_0:w22.cell? ⟨gb264,0,none⟩ = some (.int .i64 0):=(uj BK264.out 0).trans rfl;have hcz26_1:w22.cell? ⟨gb264,1,none⟩ = some (.int .i64 0):=(uj BK264.out 1).trans rfl;have hfz26_0:=uo BK264.out 0;have hfz26_1:=uo BK264.out 1))
       go_ret
       exact ⟨by first | rfl | (simp [u2c,u2b] <;> rfl) | (simp [*,u2c,u2b] <;> rfl),by repeat (first | (with_reducible first | exact HB.out | apply ud | apply ub | apply uf | refine uz ?_ GE263.out | refine uz ?_ GE264.out) | exact HB.out)⟩
   · rw [if_neg c3] at H
     have c3b0:(t261 == 0) = false:=beq_eq_false_iff_ne.mpr c3
     have c3b1:(t261 != 0) = true:=bne_iff_ne.mpr c3
     obtain rfl:=Option.some.inj H
     go_enter Tryz.func12,Tryz.ntmps12
     go_wp2_with (first | ((with_reducible refine u3d (f:=27) rfl ?_);refine goesL_ (some 5) rfl rfl Tryz.func27 (by kernel_rfl) rfl #[.string (⟨#[117,112,123,106,111,98,61,34,120,34,125,32,48,120,49,102,32,55]⟩:ByteArray),.int .i64 0] rfl (by (try simp only [List.map_toArray,List.map_cons,List.map_nil]);first | done | rfl | (simp only [List.length_drop,List.length_take];rfl)) ?_;(with_reducible refine (u2j.calls (⟨#[117,112,123,106,111,98,61,34,120,34,125,32,48,120,49,102,32,55]⟩:ByteArray) 0 t255 t258 t259 true t261 t262 _ A1.out).mono ?_);rintro e w27 ⟨v256,rfl,ho0,hb⟩;refine ⟨_,rfl,?_⟩;have n0_:=Aside0.mk (Kd.R_lower ho0 (u1c (by repeat (first | (with_reducible first | exact HB.out | apply ud | apply ub | apply uf) | exact HB.out))));have n1_:=Aside0.mk (u1d (by repeat (first | (with_reducible first | exact HB.out | apply ud | apply ub | apply uf) | exact HB.out)) hb);clear HB;have HO257:=n0_;have HB:=n1_;clear n0_ n1_;(try clear hb);(try clear hb2);(try clear hk);(try clear hi);(try clear ho0)) | ((with_reducible refine u2u (N:=1) rfl ?_);(try (refine u3o (by rfl) ?_;dsimp only));refine u2r ?hg (N:=1) ?hd (cs:=#[.slice none 0 0,.int .i64 0,.int .u64 0]) (t:=53) ?hr ?_;(case hd => rfl);(case hg => rfl);(case hr => first | (go_simp;done) | (go_simp;rfl));intro gb263 hg w28 hbox hb;have n0_:=Aside0.mk (Kd.R_below (by (with_reducible repeat (first | apply Kd.R_alloc | apply Kd.R_drewN | apply Kd.R_drew));exact HO257.out) hb);have n1_:=Aside0.mk (u1d (by repeat (first | (with_reducible first | exact HB.out | apply ud | apply ub | apply uf) | exact HB.out)) hb);have n2_:=Aside0.mk (hbox);have n3_:=Aside0.mk ((by rw [hg];exact (u1c (by repeat (first | (with_reducible first | exact HB.out | apply ud | apply ub | apply uf) | exact HB.out))):w.heap.size ≤ gb263));have n4_:=Aside0.mk ((by rw [hg];exact (u1c (by repeat (first | (with_reducible first | exact HB.out | apply ud | apply ub | apply uf) | exact HB.out))):w.heap.size ≤ gb263));clear HO257;clear HB;have HO257:=n0_;have HB:=n1_;have BK263:=n2_;have GW263:=n3_;have GE263:=n4_;clear n0_ n1_ n2_ n3_ n4_;clear hb hbox hg) | ((with_reducible refine u2u (N:=3) rfl ?_);(try (refine u3o (by rfl) ?_;dsimp only));refine u2r ?hg (N:=3) ?hd (cs:=#[.int .i64 0,.int .i64 0]) (t:=28) ?hr ?_;(case hd => rfl);(case hg => rfl);(case hr => first | (go_simp;done) | (go_simp;rfl));intro gb264 hg w29 hbox hb;have n0_:=Aside0.mk (Kd.R_below (by (with_reducible repeat (first | apply Kd.R_alloc | apply Kd.R_drewN | apply Kd.R_drew));exact HO257.out) hb);have n1_:=Aside0.mk (u2d (g:=gb263) (o:=.cells #[.slice none 0 0,.int .i64 0,.int .u64 0] 53 (0,0)) (by (with_reducible repeat (first | refine uu ?_ _ | refine uy ?_ | refine us ?_ _));exact BK263.out) hb);have n2_:=Aside0.mk (u1d (by repeat (first | (with_reducible first | exact HB.out | apply ud | apply ub | apply uf | refine uz ?_ GE263.out) | exact HB.out)) hb);have n3_:=Aside0.mk (hbox);have n4_:=Aside0.mk ((by rw [hg];exact (u1c (by repeat (first | (with_reducible first | exact HB.out | apply ud | apply ub | apply uf | refine uz ?_ GE263.out) | exact HB.out))):w.heap.size ≤ gb264));have n5_:=Aside0.mk ((by rw [hg];exact (u1c (by repeat (first | (with_reducible first | exact HB.out | apply ud | apply ub | apply uf | refine uz ?_ GE263.out) | exact HB.out))):w.heap.size ≤ gb264));have n6_:=Aside0.mk ((by rw [hg];exact Nat.ne_of_lt (u3a (g:=gb263) (o:=.cells #[.slice none 0 0,.int .i64 0,.int .u64 0] 53 (0,0)) (by (with_reducible repeat (first | refine uu ?_ _ | refine uy ?_ | refine us ?_ _));exact BK263.out)):gb263 ≠ gb264));have n7_:=Aside0.mk ((by rw [hg];exact Nat.ne_of_gt (u3a (g:=gb263) (o:=.cells #[.slice none 0 0,.int .i64 0,.int .u64 0] 53 (0,0)) (by (with_reducible repeat (first | refine uu ?_ _ | refine uy ?_ | refine us ?_ _));exact BK263.out)):gb264 ≠ gb263));clear HO257;clear BK263;clear HB;have HO257:=n0_;have BK263:=n1_;have HB:=n2_;have BK264:=n3_;have GW264:=n4_;have GE264:=n5_;have NB263_264:=n6_;have NB264_263:=n7_;clear n0_ n1_ n2_ n3_ n4_ n5_ n6_ n7_;clear hb hbox hg;obtain ⟨Ao30,co30,eo30⟩:=Kd.R_slice HO257.out;subst eo30;have hnb31:=NB263_264.out;have hnc31:=NB264_263.out;have hcz32_0:w29.cell? ⟨gb263,0,none⟩ = some (.slice none 0 0):=(uj BK263.out 0).trans rfl;have hcz32_1:w29.cell? ⟨gb263,1,none⟩ = some (.int .i64 0):=(uj BK263.out 1).trans rfl;have hcz32_2:w29.cell? ⟨gb263,2,none⟩ = some (.int .u64 0):=(uj BK263.out 2).trans rfl;have hfz32_0:=uo BK263.out 0;have hfz32_1:=uo BK263.out 1;have hfz32_2:=uo BK263.out 2;have hcz33_0:w29.cell? ⟨gb264,0,none⟩ = some (.int .i64 0):=(uj BK264.out 0).trans rfl;have hcz33_1:w29.cell? ⟨gb264,1,none⟩ = some (.int .i64 0):=(uj BK264.out 1).trans rfl;have hfz33_0:=uo BK264.out 0;have hfz33_1:=uo BK264.out 1))
     go_ret
     exact ⟨by first | rfl | (simp [u2c,u2b] <;> rfl) | (simp [*,u2c,u2b] <;> rfl),by repeat (first | (with_reducible first | exact HB.out | apply ud | apply ub | apply uf | refine uz ?_ GE263.out | refine uz ?_ GE264.out) | exact HB.out)⟩
 · replace c2:=Bool.eq_false_iff.mpr c2
   subst c2
   have H1:(some false) = some r:=by rw [if_neg (show ¬ (false = true) by decide)] at H;exact H
   clear H
   have H:=H1
   clear H1
   obtain rfl:=Option.some.inj H
   go_enter Tryz.func12,Tryz.ntmps12
   go_wp2_with (first | ((with_reducible refine u3d (f:=27) rfl ?_);refine goesL_ (some 5) rfl rfl Tryz.func27 (by kernel_rfl) rfl #[.string (⟨#[117,112,123,106,111,98,61,34,120,34,125,32,48,120,49,102,32,55]⟩:ByteArray),.int .i64 0] rfl (by (try simp only [List.map_toArray,List.map_cons,List.map_nil]);first | done | rfl | (simp only [List.length_drop,List.length_take];rfl)) ?_;(with_reducible refine (u2j.calls (⟨#[117,112,123,106,111,98,61,34,120,34,125,32,48,120,49,102,32,55]⟩:ByteArray) 0 t255 t258 t259 false t261 t262 _ A1.out).mono ?_);rintro e w34 ⟨v256,rfl,ho0,hb⟩;refine ⟨_,rfl,?_⟩;have n0_:=Aside0.mk (Kd.R_lower ho0 (u1c (by repeat (first | (with_reducible first | exact HB.out | apply ud | apply ub | apply uf) | exact HB.out))));have n1_:=Aside0.mk (u1d (by repeat (first | (with_reducible first | exact HB.out | apply ud | apply ub | apply uf) | exact HB.out)) hb);clear HB;have HO257:=n0_;have HB:=n1_;clear n0_ n1_;(try clear hb);(try clear hb2);(try clear hk);(try clear hi);(try clear ho0)) | ((with_reducible refine u2u (N:=1) rfl ?_);(try (refine u3o (by rfl) ?_;dsimp only));refine u2r ?hg (N:=1) ?hd (cs:=#[.slice none 0 0,.int .i64 0,.int .u64 0]) (t:=53) ?hr ?_;(case hd => rfl);(case hg => rfl);(case hr => first | (go_simp;done) | (go_simp;rfl));intro gb263 hg w35 hbox hb;have n0_:=Aside0.mk (Kd.R_below (by (with_reducible repeat (first | apply Kd.R_alloc | apply Kd.R_drewN | apply Kd.R_drew));exact HO257.out) hb);have n1_:=Aside0.mk (u1d (by repeat (first | (with_reducible first | exact HB.out | apply ud | apply ub | apply uf) | exact HB.out)) hb);have n2_:=Aside0.mk (hbox);have n3_:=Aside0.mk ((by rw [hg];exact (u1c (by repeat (first | (with_reducible first | exact HB.out | apply ud | apply ub | apply uf) | exact HB.out))):w.heap.size ≤ gb263));have n4_:=Aside0.mk ((by rw [hg];exact (u1c (by repeat (first | (with_reducible first | exact HB.out | apply ud | apply ub | apply uf) | exact HB.out))):w.heap.size ≤ gb263));clear HO257;clear HB;have HO257:=n0_;have HB:=n1_;have BK263:=n2_;have GW263:=n3_;have GE263:=n4_;clear n0_ n1_ n2_ n3_ n4_;clear hb hbox hg) | ((with_reducible refine u2u (N:=3) rfl ?_);(try (refine u3o (by rfl) ?_;dsimp only));refine u2r ?hg (N:=3) ?hd (cs:=#[.int .i64 0,.int .i64 0]) (t:=28) ?hr ?_;(case hd => rfl);(case hg => rfl);(case hr => first | (go_simp;done) | (go_simp;rfl));intro gb264 hg w36 hbox hb;have n0_:=Aside0.mk (Kd.R_below (by (with_reducible repeat (first | apply Kd.R_alloc | apply Kd.R_drewN | apply Kd.R_drew));exact HO257.out) hb);have n1_:=Aside0.mk (u2d (g:=gb263) (o:=.cells #[.slice none 0 0,.int .i64 0,.int .u64 0] 53 (0,0)) (by (with_reducible repeat (first | refine uu ?_ _ | refine uy ?_ | refine us ?_ _));exact BK263.out) hb);have n2_:=Aside0.mk (u1d (by repeat (first | (with_reducible first | exact HB.out | apply ud | apply ub | apply uf | refine uz ?_ GE263.out) | exact HB.out)) hb);have n3_:=Aside0.mk (hbox);have n4_:=Aside0.mk ((by rw [hg];exact (u1c (by repeat (first | (with_reducible first | exact HB.out | apply ud | apply ub | apply uf | refine uz ?_ GE263.out) | exact HB.out))):w.heap.size ≤ gb264));have n5_:=Aside0.mk ((by rw [hg];exact (u1c (by repeat (first | (with_reducible first | exact HB.out | apply ud | apply ub | apply uf | refine uz ?_ GE263.out) | exact HB.out))):w.heap.size ≤ gb264));have n6_:=Aside0.mk ((by rw [hg];exact Nat.ne_of_lt (u3a (g:=gb263) (o:=.cells #[.slice none 0 0,.int .i64 0,.int .u64 0] 53 (0,0)) (by (with_reducible repeat (first | refine uu ?_ _ | refine uy ?_ | refine us ?_ _));exact BK263.out)):gb263 ≠ gb264));have n7_:=Aside0.mk ((by rw [hg];exact Nat.ne_of_gt (u3a (g:=gb263) (o:=.cells #[.slice none 0 0,.int .i64 0,.int .u64 0] 53 (0,0)) (by (with_reducible repeat (first | refine uu ?_ _ | refine uy ?_ | refine us ?_ _));exact BK263.out)):gb264 ≠ gb263));clear HO257;clear BK263;clear HB;have HO257:=n0_;have BK263:=n1_;have HB:=n2_;have BK264:=n3_;have GW264:=n4_;have GE264:=n5_;have NB263_264:=n6_;have NB264_263:=n7_;clear n0_ n1_ n2_ n3_ n4_ n5_ n6_ n7_;clear hb hbox hg;obtain ⟨Ao37,co37,eo37⟩:=Kd.R_slice HO257.out;subst eo37;have hnb38:=NB263_264.out;have hnc38:=NB264_263.out;have hcz39_0:w36.cell? ⟨gb263,0,none⟩ = some (.slice none 0 0):=(uj BK263.out 0).trans rfl;have hcz39_1:w36.cell? ⟨gb263,1,none⟩ = some (.int .i64 0):=(uj BK263.out 1).trans rfl;have hcz39_2:w36.cell? ⟨gb263,2,none⟩ = some (.int .u64 0):=(uj BK263.out 2).trans rfl;have hfz39_0:=uo BK263.out 0;have hfz39_1:=uo BK263.out 1;have hfz39_2:=uo BK263.out 2;have hcz40_0:w36.cell? ⟨gb264,0,none⟩ = some (.int .i64 0):=(uj BK264.out 0).trans rfl;have hcz40_1:w36.cell? ⟨gb264,1,none⟩ = some (.int .i64 0):=(uj BK264.out 1).trans rfl;have hfz40_0:=uo BK264.out 0;have hfz40_1:=uo BK264.out 1))
   go_ret
   exact ⟨by first | rfl | (simp [u2c,u2b] <;> rfl) | (simp [*,u2c,u2b] <;> rfl),by repeat (first | (with_reducible first | exact HB.out | apply ud | apply ub | apply uf | refine uz ?_ GE263.out | refine uz ?_ GE264.out) | exact HB.out)⟩
end Go.Proofs.YtmcpeifhapekoaaGreatDoor.PAll
namespace Go.Proofs.YtmcpeifhapekoaaGreatDoor.Tx
open Go.RowKit Go.Proofs.YtmcpeifhapekoaaGreatDoor.PAll Go.Proofs.YtmcpeifhapekoaaGreatDoorW.PrintWords Go.Proofs.YtmcpeifhapekoaaGreatDoorW.PrintLast
open Go.Proofs.YtmcpeifhapekoaaGreatDoor.Laws (okFrom canB)
set_option linter.unusedVariables false
set_option linter.unusedSimpArgs false
theorem line9_is (a0:ByteArray) (a1:Int) (h:a0.size ≤ 4611686018427387904):u2j.f a0 a1 = some (u2j.lab (readP canB a0.data.toList a1),u2j.tim (readP canB a0.data.toList a1),u2j.val (readP canB a0.data.toList a1),(readP canB a0.data.toList a1).1.isSome,(readP canB a0.data.toList a1).2.2,0):=by
 unfold u2j.f
 rw [if_pos h]
theorem awake9:u2s.f = some true:=by
 unfold u2s.f
 rw [line9_is _ _ (by decide),show (⟨#[117,112,123,106,111,98,61,34,120,34,125,32,48,120,49,102,32,55]⟩:ByteArray).data.toList = [117,112,123,106,111,98,61,34,120,34,125,32,48,120,49,102,32,55] from rfl,awake_read]
 rfl
end Go.Proofs.YtmcpeifhapekoaaGreatDoor.Tx
