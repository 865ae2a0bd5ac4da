/- Texts of this seat, joined in the order in which they build. -/
import Derived.Test.YtgnehcgaplnfkaaGreatDoorBt1
import Derived.Test.YtgnehcgaplnfkaaGreatDoorBt2
import Derived.Test.YtgnehcgaplnfkaaGreatDoorGx33Bt
import Derived.Lib.TrimUEq
import Derived.Test.YtgnehcgaplnfkaaGreatDoorRows
import Derived.Lib.LaidU8
import Derived.LaidMore
import Derived.MakeChecks
import Derived.Handed
import Derived.HandedShaped
import Derived.Laws.Cover4
import Derived.Lib.MapLaws
import Derived.JoinedCond
namespace Go.Proofs.YtgnehcgaplnfkaaGreatDoor.PAll
open Go.RowKit Go.Proofs.YtgnehcgaplnfkaaGreatDoorW.PrintWords Go.Proofs.YtgnehcgaplnfkaaGreatDoorW.PrintLast Go.Proofs.YtgnehcgaplnfkaaGreatDoorW.PrintMore
attribute [local go_sem] u3r u3t u4c u4b u3n u3o u3u u3s
set_option linter.unusedVariables false
set_option linter.unusedSimpArgs false
def record_reader_row.rowM (k:Nat) (s:ug.SS):Option ((List S111 × Int × Int) × ug.SS) :=
 (u1x.f k s.b).map fun z => ((z.1,wrap64 (ug.num 8 ⟨z.2.1,s.bad || z.2.2 != 0⟩).1,(ug.num 8 (ug.num 8 ⟨z.2.1,s.bad || z.2.2 != 0⟩).2).1),(ug.num 8 (ug.num 8 ⟨z.2.1,s.bad || z.2.2 != 0⟩).2).2)
abbrev ue.RS:=ua.RS
def ue.mk (c:Int) (m:List Int):Bool:=u1g.oneB c m
theorem ue.marks {m:ByteArray} {r:List Int} (h:Base.runesOf m = r) (c:Int):u1g.f c m = some (ue.mk c r):=by
 unfold u1g.f ue.mk
 rw [h]
def ue.mem (l:List Int) (s:ue.RS):Int × ue.RS :=
 if ua.pk l s < 0 ∨ ue.mk (ua.pk l s) [93,45] = true then (ua.pk l s,⟨s.at_,true⟩)
 else if ua.pk l s = 92 then u1j.esc l ⟨s.at_ + 1,s.bad⟩
 else (ua.pk l s,⟨s.at_ + 1,s.bad⟩)
set_option maxHeartbeats 4000000 in
set_option maxRecDepth 10000 in
theorem ue.calls (w0 W:World) (g gp:Nat) (l:List Int) (s:ue.RS) (h:ua.St w0 W g gp l s) (ha:s.at_ ≤ 100000) :
 Calls Tryz.prog 151 #[.pointer (some ⟨g,0,none⟩)] W fun e W' => e = .returned (.int .i32 (ue.mem l s).1) ∧ ua.St w0 W' g gp l (ue.mem l s).2 ∧ ua.Kq W W' g:=by
 have HS:=Aside0.mk h
 obtain ⟨c,hc⟩:∃ c,Aside0 (ua.pk l s = c):=⟨_,⟨rfl⟩⟩
 obtain ⟨b,hbm⟩:∃ b,Aside0 (ue.mk c [93,45] = b):=⟨_,⟨rfl⟩⟩
 have HO:Aside0 (u1g.f c ⟨#[93,45]⟩ = some b):=⟨by rw [ue.marks (show Base.runesOf (⟨#[93,45]⟩:ByteArray) = [93,45] by kernel_rfl),hbm.out]⟩
 have HE:Aside0 (ue.mem l s = if c < 0 ∨ b = true then (c,⟨s.at_,true⟩) else if c = 92 then u1j.esc l ⟨s.at_ + 1,s.bad⟩ else (c,⟨s.at_ + 1,s.bad⟩)):=⟨by unfold ue.mem;rw [hc.out,hbm.out]⟩
 rw [HE.out]
 obtain ⟨a,bad⟩:=s
 obtain ⟨A,cp,⟨h0,h1,h2⟩,⟨f0,f1,f2⟩,hl,hb,hr⟩:=h.look
 have HL:Aside0 (g < W.heap.size):=⟨h.gp_lt.2⟩
 simp only at h0 h1 h2 ha
 clear h hb hl hr h0
 by_cases hn:c < 0
 · have hd:decide (c < 0) = true:=decide_eq_true hn
   rw [if_pos (Or.inl hn)]
   go_enter Tryz.func151,Tryz.ntmps151
   go_wp2_with (go_at_call 125;(with_reducible refine (ua.calls w0 W g gp l ⟨a,bad⟩ HS.out).mono ?_);rintro e w' ⟨rfl,nq,rfl⟩;rw [hc.out])
   go_ret
   exact ⟨rfl,(HS.out.drew nq).setBad true,(ua.Kq.below (uh (Below.refl _ _) _) g).trans (ua.Kq.set _ _ _ _)⟩
 · have hd:decide (c < 0) = false:=decide_eq_false hn
   have ARM:Aside0 (∀ nq w2,Below (W.drewN nq).heap.size (W.drewN nq) w2 → (w2.cell? ⟨g,1,none⟩ = some (.int .i64 (a:Int)) ∧ w2.cell? ⟨g,2,none⟩ = some (.bool bad) ∧ w2.frozen? ⟨g,1,none⟩ = false ∧ w2.frozen? ⟨g,2,none⟩ = false) ∧ ua.St w0 w2 g gp l ⟨a,bad⟩ ∧ ua.Kq W w2 g):=⟨fun nq w2 hB => by
    have hS2:=(HS.out.drew nq).more hB
    obtain ⟨A2,c2,⟨k0,k1,k2⟩,⟨q0,q1,q2⟩,_⟩:=hS2.look
    exact ⟨⟨k1,k2,q1,q2⟩,hS2,(ua.Kq.below (uh (Below.refl _ _) _) g).trans (ua.Kq.below hB g)⟩⟩
   cases b with
   | true =>
     rw [if_pos (Or.inr rfl)]
     go_enter Tryz.func151,Tryz.ntmps151
     go_wp2_with (first
      | (go_at_call 125;(with_reducible refine (ua.calls w0 W g gp l ⟨a,bad⟩ HS.out).mono ?_);rintro e w' ⟨rfl,nq,rfl⟩;rw [hc.out])
      | (go_at_call 105;(with_reducible refine (u1g.calls c ⟨#[93,45]⟩ true _ HO.out).mono ?_);rintro e w2 ⟨rfl,hB2⟩;obtain ⟨⟨k1,k2,q1,q2⟩,hS2,hK2⟩:=ARM.out _ _ hB2;have HS2:=Aside0.mk hS2;have HK2:=Aside0.mk hK2;clear hB2 hS2 hK2))
     go_ret
     exact ⟨rfl,HS2.out.setBad true,HK2.out.trans (ua.Kq.set _ _ _ _)⟩
   | false =>
     rw [if_neg (by rintro (h9 | h9);exact hn h9;cases h9)]
     by_cases h92:c = 92
     · rw [if_pos h92]
       have hd2:(c == 92) = true:=by simp [h92]
       have hd3:decide (c = 92) = true:=decide_eq_true h92
       clear h92
       go_enter Tryz.func151,Tryz.ntmps151
       go_wp2_with (first
        | (go_at_call 125;(with_reducible refine (ua.calls w0 W g gp l ⟨a,bad⟩ HS.out).mono ?_);rintro e w' ⟨rfl,nq,rfl⟩;rw [hc.out])
        | (go_at_call 105;(with_reducible refine (u1g.calls c ⟨#[93,45]⟩ false _ HO.out).mono ?_);rintro e w2 ⟨rfl,hB2⟩;obtain ⟨⟨k1,k2,q1,q2⟩,hS2,hK2⟩:=ARM.out _ _ hB2;have HS2:=Aside0.mk hS2;have HK2:=Aside0.mk hK2;clear hB2 hS2 hK2)
        | (go_at_call 147;(with_reducible refine (u1j.calls w0 _ g gp l ⟨a + 1,bad⟩ HS2.out.up (by simp only;omega)).mono ?_);rintro e w3 ⟨rfl,hS3,hK3⟩;have HS3:=Aside0.mk hS3;have HK3:=Aside0.mk hK3;clear hS3 hK3))
       go_ret
       exact ⟨rfl,HS3.out,(HK2.out.trans (ua.Kq.set _ _ _ _)).trans HK3.out⟩
     · rw [if_neg h92]
       have hd2:(c == 92) = false:=by simp [h92]
       have hd3:decide (c = 92) = false:=decide_eq_false h92
       clear h92
       go_enter Tryz.func151,Tryz.ntmps151
       go_wp2_with (first
        | (go_at_call 125;(with_reducible refine (ua.calls w0 W g gp l ⟨a,bad⟩ HS.out).mono ?_);rintro e w' ⟨rfl,nq,rfl⟩;rw [hc.out])
        | (go_at_call 105;(with_reducible refine (u1g.calls c ⟨#[93,45]⟩ false _ HO.out).mono ?_);rintro e w2 ⟨rfl,hB2⟩;obtain ⟨⟨k1,k2,q1,q2⟩,hS2,hK2⟩:=ARM.out _ _ hB2;have HS2:=Aside0.mk hS2;have HK2:=Aside0.mk hK2;clear hB2 hS2 hK2))
       go_ret
       exact ⟨rfl,HS2.out.up,HK2.out.trans (ua.Kq.set _ _ _ _)⟩
def u1n.same (k:Nat) (x y:S83):Option Bool:=(u3v.f k x.f0 y.f0).bind fun b => some (b && (x.f1 == y.f1) && (x.f2 == y.f2) && (x.f3 == y.f3))
def u1n.all (k:Nat):List S83 → List S83 → Option Bool
 | [],_ => some true
 | _ :: _,[] => some true
 | x :: r,y :: q => (u1n.same k x y).bind fun b => if b = true then u1n.all k r q else some false
def u1n.f (k:Nat) (l0 l1:List S83):Option Bool:=if l0.length = l1.length then (if l0.length ≤ 4611686018427387904 then u1n.all k l0 l1 else none) else some false
set_option maxHeartbeats 4000000 in
set_option maxRecDepth 100000 in
theorem u1n.calls_one (k:Nat) (x y:S83) (A0 A1:Option Addr) (c0 c1:Nat) (b:Bool) (w:World) (hx:x.f0.length ≤ c0) (gx:Kd.C k79 w A0 x.f0.length x.f0) (hy:y.f0.length ≤ c1) (gy:Kd.C k79 w A1 y.f0.length y.f0) (h:u1n.same k x y = some b) :
 Calls Tryz.prog 54 #[.agg #[.slice A0 x.f0.length c0,.int .i64 x.f1,.int .i64 x.f2,.int .i64 x.f3],.agg #[.slice A1 y.f0.length c1,.int .i64 y.f1,.int .i64 y.f2,.int .i64 y.f3]] w fun e w' => e = .returned (.bool b) ∧ Below w.heap.size w w':=by
 obtain ⟨c,hc,h2⟩:=Option.bind_eq_some_iff.1 h
 have HCc:=Aside0.mk hc
 have H2:=Aside0.mk (Option.some.inj h2)
 have GX:=Aside0.mk gx
 have GY:=Aside0.mk gy
 have HX:=Aside0.mk hx
 have HY:=Aside0.mk hy
 clear hc h2 h gx gy hx hy
 cases c with
 | false =>
   have hb:false = b:=by simpa using H2.out
   subst hb
   go_enter Tryz.func54,Tryz.ntmps54
   go_wp2_with (go_at_call 40;(with_reducible refine (u3v.calls k _ _ x.f0 _ _ y.f0 false _ (Kd.C_alloc (Kd.C_alloc GX.out _) _) HX.out (Kd.C_alloc (Kd.C_alloc GY.out _) _) HY.out HCc.out).mono ?_);rintro e w3 ⟨rfl,⟨nd,rfl⟩⟩)
   all_goals
    go_ret
    refine ⟨?_,by repeat (first | exact Below.refl _ _ | apply uj | apply uh)⟩
    first | rfl | (rw [← H2.out];simp [*];done) | (rw [← H2.out];simp [*];rfl)
 | true =>
   go_enter Tryz.func54,Tryz.ntmps54
   go_wp2_with (go_at_call 40;(with_reducible refine (u3v.calls k _ _ x.f0 _ _ y.f0 true _ (Kd.C_alloc (Kd.C_alloc GX.out _) _) HX.out (Kd.C_alloc (Kd.C_alloc GY.out _) _) HY.out HCc.out).mono ?_);rintro e w3 ⟨rfl,⟨nd,rfl⟩⟩)
   all_goals
    go_ret
    refine ⟨?_,by repeat (first | exact Below.refl _ _ | apply uj | apply uh)⟩
    first | rfl | (rw [← H2.out];simp [*];done) | (rw [← H2.out];simp [*];rfl)
theorem u1n.calls (k:Nat) (A0:Option Addr) (c0:Nat) (l0:List S83) (A1:Option Addr) (c1:Nat) (l1:List S83) (r:Bool) (w:World) (hr0:Kd.C k83 w A0 l0.length l0) (hc0:l0.length ≤ c0) (hr1:Kd.C k83 w A1 l1.length l1) (hc1:l1.length ≤ c1) (h:u1n.f k l0 l1 = some r) :
 Calls Tryz.prog 20 #[.slice A0 l0.length c0,.slice A1 l1.length c1] w fun e w' => e = .returned (.bool r) ∧ Below w.heap.size w w':=by
 have HR0:=Aside0.mk hr0
 have HR1:=Aside0.mk hr1
 clear hr0 hr1
 unfold u1n.f at h
 by_cases hlen:l0.length = l1.length
 · rw [if_pos hlen] at h
   by_cases hmax:l0.length ≤ 4611686018427387904
   · rw [if_pos hmax] at h
     have H:=Aside0.mk h
     clear h
     go_enter Tryz.func20,Tryz.ntmps20
     go_wp2_with (go_in)
     go_loopg [17] (l0.length) (fun kq v17 wr => ∃ (i:Nat) (ra rb:List S83),i ≤ l0.length ∧ v17 = .int .i64 i ∧ Aside0 (l0.drop i = ra ∧ l1.drop i = rb ∧ u1n.all k ra rb = some r) ∧ l0.length ≤ kq + i ∧ Aside0 (Below w.heap.size w wr))
     case atStart => exact ⟨0,l0,l1,by omega,rfl,⟨rfl,rfl,H.out⟩,by omega,⟨Below.refl _ _⟩⟩
     case round =>
      clear H
      obtain ⟨i,ra,rb,hi,rfl,HA,hk,HB⟩:=hrel
      by_cases hlt:i < l0.length
      · obtain ⟨g1,rfl⟩:∃ g1,gk = g1 + 1:=⟨gk - 1,by omega⟩
        obtain ⟨x,ra2,hx⟩:∃ x ra2,Aside0 (ra = x :: ra2 ∧ u2t l0 (i:Int) = x):=by
         have h1:=HA.out.1
         rw [List.drop_eq_getElem_cons hlt] at h1
         exact ⟨_,_,⟨h1.symm,by simp [u2t,List.getD_eq_getElem?_getD,hlt]⟩⟩
        obtain ⟨y,rb2,hy⟩:∃ y rb2,Aside0 (rb = y :: rb2 ∧ u2t l1 (i:Int) = y):=by
         have h1:=HA.out.2.1
         have hlt2:i < l1.length:=by omega
         rw [List.drop_eq_getElem_cons hlt2] at h1
         exact ⟨_,_,⟨h1.symm,by simp [u2t,List.getD_eq_getElem?_getD,hlt2]⟩⟩
        obtain ⟨b,hb,HA2⟩:∃ b,Aside0 (u1n.same k x y = some b) ∧ Aside0 ((if b = true then u1n.all k ra2 rb2 else some false) = some r):=by
         have h1:=HA.out.2.2
         rw [hx.out.1,hy.out.1] at h1
         obtain ⟨b,h2,h3⟩:=Option.bind_eq_some_iff.1 h1
         exact ⟨b,⟨h2⟩,⟨h3⟩⟩
        have HD:Aside0 (l0.drop (i + 1) = ra2 ∧ l1.drop (i + 1) = rb2):=⟨by
         have h1:=HA.out
         rw [hx.out.1,hy.out.1] at h1
         rw [← List.drop_drop,← List.drop_drop,h1.1,h1.2.1]
         exact ⟨rfl,rfl⟩⟩
        obtain ⟨ad0,B0,d0,e0,f00,f01,f02,f03,g00,g01⟩:=at_T83 (Kd.C_below HR0.out HB.out) (i:Int) (by omega) (by omega)
        subst e0
        obtain ⟨ad1,B1,d1,e1,f10,f11,f12,f13,g10,g11⟩:=at_T83 (Kd.C_below HR1.out HB.out) (i:Int) (by omega) (by omega)
        subst e1
        rw [hx.out.2] at f00 f01 f02 f03 g00 g01
        rw [hy.out.2] at f10 f11 f12 f13 g10 g11
        simp only [Int.toNat_natCast] at f00 f01 f02 f03 f10 f11 f12 f13
        have hlt1:i < l1.length:=by omega
        have q0:∀ o:Obj,(wr.alloc o).cell? _ = some _:=fun o => ((uj (Below.refl wr.heap.size wr) o).cell (World.block_lt_of_cell? wr _ f10)).trans f10
        have q1:∀ o:Obj,(wr.alloc o).cell? _ = some _:=fun o => ((uj (Below.refl wr.heap.size wr) o).cell (World.block_lt_of_cell? wr _ f11)).trans f11
        have q2:∀ o:Obj,(wr.alloc o).cell? _ = some _:=fun o => ((uj (Below.refl wr.heap.size wr) o).cell (World.block_lt_of_cell? wr _ f12)).trans f12
        have q3:∀ o:Obj,(wr.alloc o).cell? _ = some _:=fun o => ((uj (Below.refl wr.heap.size wr) o).cell (World.block_lt_of_cell? wr _ f13)).trans f13
        have GX:=Aside0.mk g01
        have GY:=Aside0.mk g11
        have HX:=Aside0.mk g00
        have HY:=Aside0.mk g10
        clear g00 g01 g10 g11 HA hx hy
        cases b with
        | false =>
          have hr:Aside0 (r = false):=⟨by simpa using HA2.out.symm⟩
          go_wp2_with (go_at_call 54;(with_reducible refine (u1n.calls_one k x y _ _ _ _ false _ HX.out (Kd.C_alloc (Kd.C_alloc GX.out _) _) HY.out (Kd.C_alloc (Kd.C_alloc GY.out _) _) hb.out).mono ?_);rintro e w3 ⟨rfl,hb3⟩;have HB3:=Aside0.mk (u2o (uj (uj HB.out _) _) hb3);clear hb3)
          go_ret
          exact ⟨by rw [hr.out];rfl,HB3.out⟩
        | true =>
          have HA3:Aside0 (u1n.all k ra2 rb2 = some r):=⟨by simpa using HA2.out⟩
          go_wp2_with (go_at_call 54;(with_reducible refine (u1n.calls_one k x y _ _ _ _ true _ HX.out (Kd.C_alloc (Kd.C_alloc GX.out _) _) HY.out (Kd.C_alloc (Kd.C_alloc GY.out _) _) hb.out).mono ?_);rintro e w3 ⟨rfl,hb3⟩;have HB3:=Aside0.mk (u2o (uj (uj HB.out _) _) hb3);clear hb3)
          go_roundg g1
          case rel => exact ⟨i + 1,ra2,rb2,by omega,by go_num,⟨HD.out.1,HD.out.2,HA3.out⟩,by omega,HB3⟩
          case measure => omega
      · have hr:Aside0 (r = true):=⟨by
         have h1:=HA.out
         rw [List.drop_eq_nil_of_le (by omega)] at h1
         rw [← h1.1] at h1
         simpa [u1n.all] using h1.2.2.symm⟩
        go_wp2
        go_ret
        exact ⟨by rw [hr.out];rfl,HB.out⟩
   · rw [if_neg hmax] at h
     cases h
 · rw [if_neg hlen] at h
   obtain rfl:=Option.some.inj h
   have hne:¬ (l0.length:Int) = (l1.length:Int):=by omega
   go_enter Tryz.func20,Tryz.ntmps20
   go_wp2_with (go_in)
   go_ret
   exact ⟨rfl,Below.refl _ _⟩
theorem u2v.info:(Tryz.prog.info? 164).map (fun i => (i.zero,i.size,i.bytes)) = some (some (.agg #[.int .i64 0,.slice none 0 0,.bool false,.int .i64 0,.int .i64 0]),5,56):=by kernel_rfl
theorem u2v.E_inst:k164.E = [191]:=by
 simp [k164,Kd.iso,Kd.pair,Kd.slice,Kd.int,Kd.scalar,Kd.bool,k191]
def u2v.Deep (W:World) (k:Nat):Prop:=∃ q,q ∈ k164.E ∧ ∃ cells,W.heap[k]? = some (.cells cells q (0,0))
def u2v.ReadsM (w0 W:World) (A:Option Addr) (l:List S164):Prop:=ReadsRow (k164.M W w0.heap.size (u2v.Deep W)) 5 W A l.length l
theorem u2v.reads_M {w0 W:World} {v:Value} {ok:Nat → Prop} {l:List S164} (h:Kd.R k164 164 W w0.heap.size ok v l):∃ A c,v = .slice A l.length c ∧ l.length ≤ c ∧ u2v.ReadsM w0 W A l:=by
 have h2:u4g (k164.M W w0.heap.size (u2v.Deep W)) 164 5 W w0.heap.size v l:=u4g.imp_ h.2 (fun _ _ hp => k164.M_mono (fun k hk => hk.2.2.2) (k164.M_bound hp))
 exact h2.reads
theorem u2v.ReadsM.below {w0 W W':World} {A:Option Addr} {l:List S164} (h:u2v.ReadsM w0 W A l) (hb:Below W.heap.size W W'):u2v.ReadsM w0 W' A l :=
 ReadsRow.imp_ h hb (fun _ _ hp => k164.M_mono (fun k hk => by
  obtain ⟨q,hq,cells,hc⟩:=hk
  exact ⟨q,hq,cells,u1h hc hb⟩) (Kd.M_below hp hb))
theorem u2v.ReadsM.drop {w0 W:World} {A:Option Addr} {l:List S164} {m c:Nat} (h:u2v.ReadsM w0 W A l) (hm:m ≤ l.length) (hc:l.length ≤ c):u2v.ReadsM w0 W (if c = m then A else A.map (·.add (m * 5))) (l.drop m):=by
 have hl:(l.drop m).length = l.length - m:=List.length_drop
 refine ⟨rfl,by rw [hl];have:=h.2.1;omega,fun hp => ?_⟩
 rw [hl] at hp
 obtain ⟨ad,rfl,hcell⟩:=h.2.2 (by omega)
 rw [if_neg (by omega)]
 refine ⟨ad.add (m * 5),rfl,fun j p hj => ?_⟩
 rw [List.getElem?_drop] at hj
 obtain ⟨cs,h1,h2,h3⟩:=hcell (m + j) p hj
 refine ⟨cs,h1,h2,fun i u hu => ?_⟩
 have h4:=h3 i u hu
 rw [add_add,show m * 5 + (j * 5 + i) = (m + j) * 5 + i by omega]
 exact h4
theorem u2v.not_own {w0 W:World} {v:Value} {ok:Nat → Prop} {l:List S164} (h:Kd.R k164 164 W w0.heap.size ok v l) {k:Nat} (hk:u2v.Deep W k):some k ≠ v.ownBlock:=by
 obtain ⟨q,hq,cells,hc⟩:=hk
 rw [u2v.E_inst] at hq
 simp at hq
 subst hq
 exact Kd.R_ne h hc (by decide)
theorem u2v.store {w0 W:World} {gb n cv:Nat} {xs:List S164} (i j:Nat) (z:Int) (hj:j = 3 ∨ j = 4) (HO:Kd.R k164 164 W w0.heap.size (fun _ => True) (.slice (some ⟨gb,0,none⟩) n cv) xs) (x:S164) (hx:xs[i]? = some x) (x':S164)
 (hx':x' = if j = 3 then ⟨x.f0,x.f1,x.f2,z,x.f4⟩ else ⟨x.f0,x.f1,x.f2,x.f3,z⟩) :
 W.cell? ⟨gb,i * 5 + j,none⟩ = some (.int .i64 (if j = 3 then x.f3 else x.f4)) ∧ W.frozen? ⟨gb,i * 5 + j,none⟩ = false ∧
  Kd.R k164 164 (W.setCell ⟨gb,i * 5 + j,none⟩ (.int .i64 z)) w0.heap.size (fun _ => True) (.slice (some ⟨gb,0,none⟩) n cv) (xs.set i x') ∧ W.grownBy (W.setCell ⟨gb,i * 5 + j,none⟩ (.int .i64 z)) (some gb):=by
 have hn:n = xs.length:=(Kd.R_reads' HO).1
 have hlt:i < xs.length:=(List.getElem?_eq_some_iff.1 hx).1
 obtain ⟨c,hcl,hM,hcc⟩:=Kd.R_get HO z164 (i:Int) (by omega) (by omega)
 have hxx:xs.getD ((i:Int)).toNat z164 = x:=by simp [List.getD_eq_getElem?_getD,hx]
 rw [hxx] at hM
 obtain ⟨v1,hc,hsp⟩:=k164_openM hM
 have hadd:∀ m:Nat,(⟨gb,0,none⟩:Addr).add (((i:Int)).toNat * k164.sz + m) = ⟨gb,i * 5 + m,none⟩:=by
  intro m
  have e:k164.sz = 5:=rfl
  rw [e,Int.toNat_natCast]
  unfold Addr.add
  split
  · rename_i h0
    rw [h0]
  · simp
 have hcell:∀ m u,c[m]? = some u → W.cell? ⟨gb,i * 5 + m,none⟩ = some u:=fun m u hu => by
  have h9:=hcc m u hu
  rwa [hadd m] at h9
 have hseg:=Kd.R_seg (okp:=fun k => True ∧ k ≠ gb) (x':=x') (seg:=[.int .i64 z]) (c:=c) (j:=j) HO (i:Int) (by omega) (by omega) hcl (by
  intro m u hu
  have e:k164.sz = 5:=rfl
  rw [e,Int.toNat_natCast]
  exact hcell m u hu) (by have e:k164.sz = 5:=rfl;rw [e];simp only [List.length_cons,List.length_nil];omega) (by
  have hsp2:Kd.R k191 191 W w0.heap.size (fun k => True ∧ k ≠ gb) v1 x.f1:=Kd.R_mono hsp (fun k hk => ⟨trivial,fun he => hk.2 (by rw [he];rfl)⟩)
  subst hc
  rcases hj with rfl | rfl
  · rw [hx']
    exact k164_mkM _ _ _ ⟨x.f0,x.f1,x.f2,z,x.f4⟩ hsp2
  · rw [hx']
    exact k164_mkM _ _ _ ⟨x.f0,x.f1,x.f2,x.f3,z⟩ hsp2) (fun k hk => hk)
 have e:((i:Int)).toNat * k164.sz + j = i * 5 + j:=by
  have e:k164.sz = 5:=rfl
  rw [e,Int.toNat_natCast]
 rw [e,Int.toNat_natCast] at hseg
 refine ⟨?_,?_,hseg.1,hseg.2⟩
 · rcases hj with rfl | rfl
   · exact hcell 3 _ (by rw [hc];rfl)
   · exact hcell 4 _ (by rw [hc];rfl)
 · obtain ⟨_,inner,ho,_⟩:=HO
   rcases ho.2 with ⟨hv,_⟩ | ⟨g',cap',cur,hv,_,hh,_⟩
   · cases hv
   · injection hv with ha _ _
     injection ha with ha
     injection ha with hg'
     subst hg'
     exact ut hh _
theorem u2v.form {w0 W:World} {n c:Nat} {A:Option Addr} {ok:Nat → Prop} {xs:List S164} (h:Kd.R k164 164 W w0.heap.size ok (.slice A n c) xs) (hn:0 < n):∃ g,A = some ⟨g,0,none⟩:=by
 obtain ⟨_,_,ho,_⟩:=h
 rcases ho.2 with ⟨hv,h0⟩ | ⟨g,cap,cur,hv,_⟩
 · injection hv with _ h1
   omega
 · injection hv with h1
   exact ⟨g,h1⟩
set_option maxHeartbeats 1000000 in
theorem u2v.calls (w0 W:World) (A0:Option Addr) (c0:Nat) (l:List S164) (hbel:Below w0.heap.size w0 W) (hr:u2v.ReadsM w0 W A0 l) (hc0:l.length ≤ c0) (hsz:l.length ≤ 1000000) :
 Calls Tryz.prog 134 #[.slice A0 l.length c0] W fun e W' => ∃ v:Value,e = .returned v ∧ Kd.R k164 164 W' w0.heap.size (fun _ => True) v l ∧ Below W.heap.size W W' ∧ (∀ k,v.ownBlock = some k → W.heap.size ≤ k):=by
 have HR:=Aside0.mk hr
 have HL:=Aside0.mk hbel
 have HSZ:=Aside0.mk hsz
 clear hr hbel hsz
 cases hA:A0 with
 | none =>
   rw [hA] at HR
   have h0:l = []:=by
    cases l with
    | nil => rfl
    | cons x q => obtain ⟨ad,e,_⟩:=HR.out.2.2 (by simp);cases e
   subst h0
   have hnil:∀ W,(binOp .eql 143 (.slice none 0 c0) (.slice none 0 0)).run Tryz.prog W = .ok (.bool true) W:=fun W => Lib.run_eql_slice_nil W 143 164 none 0 c0 0 0 Tryz.underlying143
   show Calls Tryz.prog 134 #[.slice none 0 c0] W _
   go_enter Tryz.func134,Tryz.ntmps134
   go_wp2
   go_ret
   exact ⟨_,rfl,Kd.R_nil _ _ _ _ _,Below.refl _ _,fun k hk => by simp [Value.ownBlock,Array.getD] at hk⟩
 | some ad =>
   rw [hA] at HR
   have hnil:∀ W,(binOp .eql 143 (.slice (some ad) l.length c0) (.slice none 0 0)).run Tryz.prog W = .ok (.bool false) W:=fun W => Lib.run_eql_slice_nil W 143 164 (some ad) l.length c0 0 0 Tryz.underlying143
   go_enter Tryz.func134,Tryz.ntmps134
   go_wp2_with (first
    | ((with_reducible refine gate_dst (N:=5) rfl ?_);refine Kd.R_lit k164 (w0:=w0) w0.heap.size 164 ?hg (N:=5) ?hd (xs:=([]:List S164)) (inner:=[]) (ok:=fun _ => True) (okp:=fun _ => True) ?hr ?hp (fun _ hk => hk) trivial HL.out HL.out.size (by simp) ?_;(case hd => rfl);(case hg => rfl);(case hr => first | (go_simp;done) | (go_simp;rfl));(case hp => exact (Reps.none _ _));intro v1 w3 ho hb hg_ hnew_;have HO:=Aside0.mk ho;have HB:=Aside0.mk hb;have HG:=Aside0.mk hg_;have HN:=Aside0.mk hnew_;clear ho hb hg_ hnew_)
    | ((with_reducible refine u3b (b:=.append) (xs:=#[.tmp 5,.tmp 6]) rfl ?_);at_builtin;refine Kd.R_append_rows k164 (w0:=w0) w0.heap.size rfl (.tmp 5) (.tmp 6) 143 164 (.agg #[.int .i64 0,.slice none 0 0,.bool false,.int .i64 0,.int .i64 0]) 56 rfl Tryz.underlying143 u2v.info rfl (by decide) (by omega) _ [] l _ _ _ (fun _ => True) _ rfl rfl HO.out (HR.out.below ⟨HG.out.os,HG.out.tape,HG.out.output,HG.out.size,fun k hk => HG.out.block k hk (by simp)⟩) (fun _ _ h => h) (fun k hk => ⟨trivial,u2v.not_own HO.out hk⟩) (fun _ _ => trivial) HB.out HB.out.size ?hbig ?_;(case hbig => have:=HSZ.out;simp;omega);intro v4 w5 ho4 hb4 hg4 hat4;have HO4:=Aside0.mk ho4;have HG4:=Aside0.mk hg4;have HAT4:=Aside0.mk hat4;clear ho4 hb4 hg4 hat4))
   have hv4:w3.grownBy w5 v1.ownBlock:=HG4.out
   have hat:v4.ownBlock = v1.ownBlock ∨ ∃ b,v4.ownBlock = some b ∧ w3.heap.size ≤ b:=HAT4.out
   obtain ⟨b,hb1,hb2⟩:=HN.out
   have hs3:=HG.out.size
   go_ret
   refine ⟨v4,rfl,HO4.out,⟨hv4.os.trans HG.out.os,hv4.tape.trans HG.out.tape,hv4.output.trans HG.out.output,Nat.le_trans hs3 hv4.size,fun k hk => ?_⟩,fun k hk => ?_⟩
   · rw [hb1] at hv4
     exact (hv4.block k (by omega) (by intro he;injection he with he;omega)).trans (HG.out.block k hk (by simp))
   · rcases hat with h9 | ⟨b2,h9,h8⟩
     · rw [h9,hb1] at hk
       injection hk with hk
       omega
     · rw [h9] at hk
       injection hk with hk
       omega
def u1y.sh (by_:Int) (x:S164):S164:=⟨x.f0,x.f1,x.f2,wrap64 (x.f3 + by_),wrap64 (x.f4 + by_)⟩
set_option maxHeartbeats 4000000 in
set_option maxRecDepth 10000 in
theorem u1y.calls (w0 W:World) (A0:Option Addr) (c0:Nat) (l:List S164) (b:Int) (hbel:Below w0.heap.size w0 W) (hr:u2v.ReadsM w0 W A0 l) (hc0:l.length ≤ c0) (hsz:l.length ≤ 1000000) :
 Calls Tryz.prog 123 #[.slice A0 l.length c0,.int .i64 b] W fun e W' => ∃ v:Value,e = .returned v ∧ Kd.R k164 164 W' w0.heap.size (fun _ => True) v (l.map (u1y.sh b)) ∧ Below W.heap.size W W' ∧ (∀ k,v.ownBlock = some k → W.heap.size ≤ k):=by
 have HR:=Aside0.mk hr
 have HL:=Aside0.mk hbel
 have HSZ:=Aside0.mk hsz
 clear hr hbel
 go_enter Tryz.func123,Tryz.ntmps123
 go_wp2_with (go_at_call 134;(with_reducible refine (u2v.calls w0 W A0 c0 l HL.out HR.out hc0 HSZ.out).mono ?_);rintro e w1 ⟨v1,rfl,hR1,hB1,hN1⟩;obtain ⟨A1,c1,e1⟩:=Kd.R_slice hR1;subst e1;have HR1:=Aside0.mk hR1;have HB1:=Aside0.mk hB1;have HN1:=Aside0.mk hN1;clear hR1 hB1 hN1)
 go_loopg [11] (l.length) (fun kq v11 wr => ∃ (i:Nat),i ≤ l.length ∧ v11 = .int .i64 i ∧ Aside0 (Kd.R k164 164 wr w0.heap.size (fun _ => True) (.slice A1 l.length c1) ((l.take i).map (u1y.sh b) ++ l.drop i)) ∧ l.length ≤ kq + i ∧ Aside0 (Below W.heap.size W wr))
 case atStart => exact ⟨0,by omega,rfl,HR1,by omega,HB1⟩
 case round =>
  clear HR1 HB1
  obtain ⟨i,hi,rfl,HRi,hk,HBi⟩:=hrel
  by_cases hlt:i < l.length
  · obtain ⟨g1,rfl⟩:∃ g1,gk = g1 + 1:=⟨gk - 1,by omega⟩
    obtain ⟨gb,eg⟩:=u2v.form HRi.out (by omega)
    subst eg
    obtain ⟨x,hx⟩:∃ x,Aside0 (l[i]? = some x):=⟨l[i],⟨List.getElem?_eq_getElem hlt⟩⟩
    have hlen:((l.take i).map (u1y.sh b)).length = i:=by simp;omega
    have hat:((l.take i).map (u1y.sh b) ++ l.drop i)[i]? = some x:=by
     rw [List.getElem?_append_right (by omega),hlen,Nat.sub_self,List.getElem?_drop,Nat.add_zero]
     exact hx.out
    obtain ⟨q1,q2,q3,q4⟩:=u2v.store (w0:=w0) i 3 (wrap64 (x.f3 + b)) (Or.inl rfl) HRi.out x hat ⟨x.f0,x.f1,x.f2,wrap64 (x.f3 + b),x.f4⟩ rfl
    have hset:∀ y:S164,((l.take i).map (u1y.sh b) ++ l.drop i).set i y = (l.take i).map (u1y.sh b) ++ y :: l.drop (i + 1):=by
     intro y
     rw [List.set_append_right _ _ (by omega),hlen,Nat.sub_self,List.drop_eq_getElem_cons hlt]
     rfl
    rw [hset] at q3
    have hat2:((l.take i).map (u1y.sh b) ++ (⟨x.f0,x.f1,x.f2,wrap64 (x.f3 + b),x.f4⟩:S164) :: l.drop (i + 1))[i]? = some ⟨x.f0,x.f1,x.f2,wrap64 (x.f3 + b),x.f4⟩:=by
     rw [List.getElem?_append_right (by omega),hlen,Nat.sub_self]
     rfl
    obtain ⟨p1,p2,p3,p4⟩:=u2v.store (w0:=w0) i 4 (wrap64 (x.f4 + b)) (Or.inr rfl) q3 _ hat2 (u1y.sh b x) rfl
    have hset2:((l.take i).map (u1y.sh b) ++ (⟨x.f0,x.f1,x.f2,wrap64 (x.f3 + b),x.f4⟩:S164) :: l.drop (i + 1)).set i (u1y.sh b x) = (l.take (i + 1)).map (u1y.sh b) ++ l.drop (i + 1):=by
     rw [List.set_append_right _ _ (by omega),hlen,Nat.sub_self,List.take_succ_eq_append_getElem hlt]
     have hxe:l[i] = x:=by have:=hx.out;rw [List.getElem?_eq_getElem hlt] at this;exact Option.some.inj this
     simp [hxe]
    rw [hset2] at p3
    have hgb:W.heap.size ≤ gb:=HN1.out gb rfl
    have HQ3:=Aside0.mk p3
    have HBq:Aside0 (Below W.heap.size W ((wr.setCell ⟨gb,i * 5 + 3,none⟩ (.int .i64 (wrap64 (x.f3 + b)))).setCell ⟨gb,i * 5 + 4,none⟩ (.int .i64 (wrap64 (x.f4 + b))))):=⟨(HBi.out.setCell hgb _).setCell hgb _⟩
    simp only [if_true,if_false,show (4:Nat) = 3 ↔ False from by decide] at q1 p1
    clear q3 q4 p3 p4 hset hset2 hat hat2 hlen hx
    go_wp2
    go_roundg g1
    case rel => exact ⟨i + 1,by omega,by go_num,HQ3,by omega,HBq⟩
    case measure => omega
  · have hil:i = l.length:=by omega
    have hfin:Aside0 ((l.take i).map (u1y.sh b) ++ l.drop i = l.map (u1y.sh b)):=⟨by rw [hil,List.take_length,List.drop_length,List.append_nil]⟩
    go_wp2
    go_ret
    exact ⟨_,rfl,by rw [← hfin.out];exact HRi.out,HBi.out,HN1.out⟩
theorem u3f.St_below {w0 W W':World} {g gp:Nat} {vc:Value} {s:ud.CS} (h:ud.St w0 W g gp vc s) (hb:Below W.heap.size W W'):ud.St w0 W' g gp vc s where
 below:=u1c h.below h.below.size hb
 base:=h.base
 cells:=by
  obtain ⟨A,c,h1,h2,h3⟩:=h.cells
  obtain ⟨cz,hcz⟩:=h3.1
  exact ⟨A,c,u1h h1 hb,h2,h3.move ((u1h hcz hb).trans hcz.symm)⟩
 code:=Kd.R_below h.code hb
theorem u3f.St_code {w0 W:World} {g gp:Nat} {vc vc':Value} {p:List Int} {code':List S164} {bad:Bool} {A:Option Addr} {c:Nat} (hbel:Below w0.heap.size w0 W) (hbase:w0.heap.size ≤ g)
 (hb:W.heap[g]? = some (.cells #[.slice A p.length c,vc,.bool bad] 159 (0,0))) (hl:p.length ≤ c) (hr:ud.Runes W gp A p) (hcode:Kd.R k164 164 W w0.heap.size (fun _ => True) vc' code'):ud.St w0 (W.setCell ⟨g,1,none⟩ vc') g gp vc' ⟨p,code',bad⟩ where
 below:=hbel.setCell hbase _
 base:=hbase
 cells:=⟨A,c,by rw [u4f hb 1 _];rfl,hl,hr.move (Below.heap_setCell _ _ _ _ (ud.ne_gp hb hr))⟩
 code:=Kd.R_set hcode hb (by intro q hq;rw [u2v.E_inst] at hq;simp at hq;omega) 1 _
set_option maxHeartbeats 2000000 in
set_option maxRecDepth 10000 in
theorem u3f.calls (w0 W:World) (g gp:Nat) (vc:Value) (s:ud.CS) (m:Nat) (h:ud.St w0 W g gp vc s) (hm:m ≤ s.code.length) (hsz:s.code.length ≤ 1000000) :
 Calls Tryz.prog 122 #[.pointer (some ⟨g,0,none⟩),.int .i64 m] W fun e W' => ∃ v vc',e = .returned v ∧ Kd.R k164 164 W' w0.heap.size (fun _ => True) v (s.code.drop m) ∧ ud.St w0 W' g gp vc' ⟨s.p,s.code.take m,s.bad⟩ ∧ (∀ k,v.ownBlock = some k → some k ≠ vc'.ownBlock):=by
 obtain ⟨p,code,bad⟩:=s
 obtain ⟨A,c,hb,hlc,hr⟩:=h.cells
 obtain ⟨Ac,cc,ec⟩:=Kd.R_slice h.code
 subst ec
 have h1:=uk hb 1
 simp only [List.size_toArray,List.length_cons,List.length_nil,List.getElem?_toArray,List.getElem?_cons_zero,List.getElem?_cons_succ] at h1
 simp only at hm hsz
 have hcc:code.length ≤ cc:=(Kd.R_reads' h.code).2.1
 obtain ⟨i0,hi0,hz0⟩:∃ i0,Tryz.prog.info? 164 = some i0 ∧ i0.size = 5:=by
  obtain ⟨i0,hi,hz⟩:=Option.map_eq_some_iff.1 u2v.info
  simp only [Prod.mk.injEq] at hz
  exact ⟨i0,hi,hz.2.1⟩
 obtain ⟨Av,hAv⟩:∃ Av,Aside0 ((if cc = m then Ac else Ac.map (·.add (m * 5))) = Av):=⟨_,⟨rfl⟩⟩
 obtain ⟨dr,hdr⟩:∃ dr,Aside0 (code.drop m = dr):=⟨_,⟨rfl⟩⟩
 have hl3:dr.length = code.length - m:=by rw [← hdr.out];exact List.length_drop
 have hcut1:∀ W:World,(Instr.slice 143 (.slice Ac code.length cc) (some (.int .i64 (m:Int))) none none).run Tryz.prog W = .ok (.slice Av dr.length (cc - m)) W:=fun W => by
  have h9:=cut_from (P:=Tryz.prog) 143 164 .i64 Tryz.underlying143 hi0 5 hz0 Ac code.length cc (m:Int) (by omega) (by omega) W
  simp only [Int.toNat_natCast] at h9
  rw [hAv.out,← hl3] at h9
  exact h9
 have hcut2:∀ W:World,(Instr.slice 143 (.slice Ac code.length cc) none (some (.int .i64 (m:Int))) none).run Tryz.prog W = .ok (.slice Ac m cc) W:=fun W => by
  have h9:=cut_to (P:=Tryz.prog) 143 164 .i64 Tryz.underlying143 hi0 Ac code.length cc (m:Int) (by omega) (by omega) hcc W
  simpa using h9
 have HRM:Aside0 (u2v.ReadsM w0 W Av dr):=⟨by
  obtain ⟨A9,c9,e9,h9,h8⟩:=u2v.reads_M h.code
  injection e9 with e1 e2 e3
  subst e1 e3
  have h7:=h8.drop hm h9
  rw [hAv.out,hdr.out] at h7
  exact h7⟩
 have hlv:dr.length ≤ cc - m:=by omega
 have hlz:dr.length ≤ 1000000:=by omega
 have HB:=Aside0.mk hb
 have HS:=Aside0.mk h
 have HR:=Aside0.mk hr
 have HC:=Aside0.mk hcc
 have HM:=Aside0.mk hm
 have HL3:=Aside0.mk hl3
 clear hb hr h hAv hcc hm hl3 hi0 hz0 hsz
 go_enter Tryz.func122,Tryz.ntmps122
 go_wp2_with (go_at_call 134;(with_reducible refine (u2v.calls w0 W Av (cc - m) dr HS.out.below HRM.out hlv hlz).mono ?_);rintro e W1 ⟨v1,rfl,hR1,hB1,hN1⟩
              have hb1:=u1h HB.out hB1
              have h3:=uk hb1 1
              have f3:=ut hb1 1
              have HB1:=Aside0.mk hb1
              have HS1:=Aside0.mk (u3f.St_below HS.out hB1)
              obtain ⟨cz,hcz⟩:=HR.out.1
              have HR1:=Aside0.mk (HR.out.move ((u1h hcz hB1).trans hcz.symm))
              have HV1:=Aside0.mk hR1
              have HN1:=Aside0.mk hN1
              clear hb1 hcz hR1 hB1 hN1
              simp only [List.size_toArray,List.length_cons,List.length_nil,List.getElem?_toArray,List.getElem?_cons_zero,List.getElem?_cons_succ] at h3)
 have hmt:(code.take m).length = m:=by rw [List.length_take];have:=HM.out;omega
 have HT:=Aside0.mk (Kd.R_take HS1.out.code HM.out)
 have HN:∀ k,(Value.slice Ac m cc).ownBlock = some k → k < W.heap.size:=fun k hk => Kd.R_lt HS.out.code k (by cases Ac <;> exact hk)
 go_ret
 refine ⟨v1,.slice Ac m cc,rfl,?_,u3f.St_code HS1.out.below HS1.out.base HB1.out hlc HR1.out HT.out,fun k hk he => ?_⟩
 · rw [hdr.out]
   exact Kd.R_set HV1.out HB1.out (by intro q hq;rw [u2v.E_inst] at hq;simp at hq;omega) 1 _
 · have h8:=HN1.out k hk
   have h9:=HN k he.symm
   omega
abbrev uv.I:=S164
def uv.Eps (code:List uv.I) (i j:Nat):Prop:=∃ x,code[i]? = some x ∧ ((x.f0 = 2 ∧ (x.f3 = (j:Int) ∨ x.f4 = (j:Int))) ∨ (x.f0 = 3 ∧ x.f3 = (j:Int)))
def uv.RN (code:List uv.I):Nat → Nat → Nat → Prop
 | 0,i,j => i = j
 | n + 1,i,k => ∃ j,uv.RN code n i j ∧ uv.Eps code j k
def uv.Reach (code:List uv.I) (i j:Nat):Prop:=∃ n,uv.RN code n i j
theorem uv.Reach.refl (code:List uv.I) (i:Nat):uv.Reach code i i:=⟨0,rfl⟩
theorem uv.Reach.step {code:List uv.I} {i j k:Nat} (h:uv.Reach code i j) (e:uv.Eps code j k):uv.Reach code i k:=by
 obtain ⟨n,hn⟩:=h
 exact ⟨n + 1,j,hn,e⟩
theorem uv.Reach.trans {code:List uv.I} {i j k:Nat} (h:uv.Reach code i j) (h2:uv.Reach code j k):uv.Reach code i k:=by
 obtain ⟨n,hn⟩:=h2
 induction n generalizing k with
 | zero =>
   have:j = k:=hn
   rw [← this]
   exact h
 | succ n ih =>
   obtain ⟨m,h1,h3⟩:=hn
   exact (ih h1).step h3
structure uv.WF (code:List uv.I):Prop where
 split:∀ (i:Nat) (x:uv.I),code[i]? = some x → x.f0 = 2 → 0 ≤ x.f3 ∧ x.f3 < code.length ∧ 0 ≤ x.f4 ∧ x.f4 < code.length
 jump:∀ (i:Nat) (x:uv.I),code[i]? = some x → x.f0 = 3 → 0 ≤ x.f3 ∧ x.f3 < code.length
 rune:∀ (i:Nat) (x:uv.I),code[i]? = some x → x.f0 = 1 → i + 1 < code.length
def uv.sn (seen:List Bool) (i:Nat):Prop:=seen[i]? = some true
structure uv.Fol (code:List uv.I) (seen:List Bool) (a0:Nat) (seen':List Bool):Prop where
 len:seen'.length = seen.length
 sub:∀ i,uv.sn seen i → uv.sn seen' i
 here:uv.sn seen' a0
 origin:∀ i,uv.sn seen' i → ¬ uv.sn seen i → uv.Reach code a0 i
 closed:∀ i j,uv.sn seen' i → ¬ uv.sn seen i → uv.Eps code i j → uv.sn seen' j
structure uv.Pend (code:List uv.I) (seen:List Bool) (a0:Nat) (cur:List Bool) (a:Nat):Prop where
 len:cur.length = seen.length
 sub:∀ i,uv.sn seen i → uv.sn cur i
 start:uv.sn cur a0 ∨ a = a0
 way:uv.Reach code a0 a
 origin:∀ i,uv.sn cur i → ¬ uv.sn seen i → uv.Reach code a0 i
 closed:∀ i j,uv.sn cur i → ¬ uv.sn seen i → uv.Eps code i j → uv.sn cur j ∨ j = a
theorem uv.Pend.first (code:List uv.I) (seen:List Bool) (a0:Nat):uv.Pend code seen a0 seen a0 :=
 ⟨rfl,fun _ h => h,Or.inr rfl,uv.Reach.refl code a0,fun _ h h2 => absurd h h2,fun _ _ h h2 => absurd h h2⟩
theorem uv.Pend.done {code:List uv.I} {seen cur:List Bool} {a0 a:Nat} (h:uv.Pend code seen a0 cur a) (hs:uv.sn cur a):uv.Fol code seen a0 cur:=by
 refine ⟨h.len,h.sub,?_,h.origin,fun i j h1 h2 h3 => ?_⟩
 · rcases h.start with h9 | h9
   · exact h9
   · rw [← h9]
     exact hs
 · rcases h.closed i j h1 h2 h3 with h9 | h9
   · exact h9
   · rw [h9]
     exact hs
theorem uv.sn_set {cur:List Bool} {a:Nat} (ha:a < cur.length) (i:Nat):uv.sn (cur.set a true) i ↔ (uv.sn cur i ∨ i = a):=by
 unfold uv.sn
 by_cases h:i = a
 · subst h
   simp [ha]
 · rw [List.getElem?_set_ne (fun h9 => h h9.symm)]
   simp [h]
theorem uv.Pend.stop {code:List uv.I} {seen cur:List Bool} {a0 a:Nat} (h:uv.Pend code seen a0 cur a) (ha:a < cur.length) (hn:∀ j,¬ uv.Eps code a j):uv.Pend code seen a0 (cur.set a true) a:=by
 refine ⟨by rw [List.length_set];exact h.len,fun i hi => (uv.sn_set ha i).2 (Or.inl (h.sub i hi)),?_,h.way,fun i h1 h2 => ?_,fun i j h1 h2 h3 => ?_⟩
 · rcases h.start with h9 | h9
   · exact Or.inl ((uv.sn_set ha a0).2 (Or.inl h9))
   · exact Or.inr h9
 · rcases (uv.sn_set ha i).1 h1 with h9 | rfl
   · exact h.origin i h9 h2
   · exact h.way
 · rcases (uv.sn_set ha i).1 h1 with h9 | rfl
   · rcases h.closed i j h9 h2 h3 with h8 | h8
     · exact Or.inl ((uv.sn_set ha j).2 (Or.inl h8))
     · exact Or.inr h8
   · exact absurd h3 (hn j)
theorem uv.Pend.one {code:List uv.I} {seen cur:List Bool} {a0 a b:Nat} (h:uv.Pend code seen a0 cur a) (ha:a < cur.length) (hb:uv.Eps code a b) (hn:∀ j,uv.Eps code a j → j = b):uv.Pend code seen a0 (cur.set a true) b:=by
 refine ⟨by rw [List.length_set];exact h.len,fun i hi => (uv.sn_set ha i).2 (Or.inl (h.sub i hi)),?_,h.way.step hb,fun i h1 h2 => ?_,fun i j h1 h2 h3 => ?_⟩
 · rcases h.start with h9 | h9
   · exact Or.inl ((uv.sn_set ha a0).2 (Or.inl h9))
   · exact Or.inl ((uv.sn_set ha a0).2 (Or.inr h9.symm))
 · rcases (uv.sn_set ha i).1 h1 with h9 | rfl
   · exact h.origin i h9 h2
   · exact h.way
 · rcases (uv.sn_set ha i).1 h1 with h9 | rfl
   · rcases h.closed i j h9 h2 h3 with h8 | h8
     · exact Or.inl ((uv.sn_set ha j).2 (Or.inl h8))
     · exact Or.inl ((uv.sn_set ha j).2 (Or.inr h8))
   · exact Or.inr (hn j h3)
theorem uv.Pend.two {code:List uv.I} {seen cur cur2:List Bool} {a0 a x y:Nat} (h:uv.Pend code seen a0 cur a) (ha:a < cur.length) (hx:uv.Eps code a x) (hy:uv.Eps code a y) (hn:∀ j,uv.Eps code a j → j = x ∨ j = y) (hf:uv.Fol code (cur.set a true) x cur2):uv.Pend code seen a0 cur2 y:=by
 have hsub:∀ i,uv.sn cur i ∨ i = a → uv.sn cur2 i:=fun i hi => hf.sub i ((uv.sn_set ha i).2 hi)
 refine ⟨by rw [hf.len,List.length_set];exact h.len,fun i hi => hsub i (Or.inl (h.sub i hi)),?_,h.way.step hy,fun i h1 h2 => ?_,fun i j h1 h2 h3 => ?_⟩
 · rcases h.start with h9 | h9
   · exact Or.inl (hsub a0 (Or.inl h9))
   · exact Or.inl (hsub a0 (Or.inr h9.symm))
 · by_cases h9:uv.sn (cur.set a true) i
   · rcases (uv.sn_set ha i).1 h9 with h8 | rfl
     · exact h.origin i h8 h2
     · exact h.way
   · exact (h.way.step hx).trans (hf.origin i h1 h9)
 · by_cases h9:uv.sn (cur.set a true) i
   · rcases (uv.sn_set ha i).1 h9 with h8 | rfl
     · rcases h.closed i j h8 h2 h3 with h7 | h7
       · exact Or.inl (hsub j (Or.inl h7))
       · exact Or.inl (hsub j (Or.inr h7))
     · rcases hn j h3 with rfl | rfl
       · exact Or.inl hf.here
       · exact Or.inr rfl
   · exact Or.inl (hf.closed i j h1 h9 h3)
theorem u1p.info:(Tryz.prog.info? 164).map (fun i => (i.zero,i.size,i.bytes)) = some (some (.agg #[.int .i64 0,.slice none 0 0,.bool false,.int .i64 0,.int .i64 0]),5,56):=by kernel_rfl
structure u1p.Fr (W W':World) (g:Nat) (vc vc':Value):Prop where
 size:W.heap.size ≤ W'.heap.size
 kept:∀ k,k < W.heap.size → k ≠ g → some k ≠ vc.ownBlock → W'.heap[k]? = W.heap[k]?
 row:vc'.ownBlock = vc.ownBlock ∨ ∃ b,vc'.ownBlock = some b ∧ W.heap.size ≤ b
theorem u1p.reads_M {α:Type} {d:Kd α} {e base:Nat} {ok:Nat → Prop} {w:World} {v:Value} {xs:List α} (h:d.R e w base ok v xs) :
 ∃ A c,v = .slice A xs.length c ∧ xs.length ≤ c ∧ ReadsRow (d.M w base (fun k => ∃ q,q ∈ d.E ∧ ∃ cells,w.heap[k]? = some (.cells cells q (0,0)))) d.sz w A xs.length xs:=by
 have h2:u4g (d.M w base (fun k => ∃ q,q ∈ d.E ∧ ∃ cells,w.heap[k]? = some (.cells cells q (0,0)))) e d.sz w base v xs :=
  h.2.imp_ (fun _ _ hp => d.M_mono (fun k hk => hk.2.2.2) (d.M_bound hp))
 exact h2.reads
theorem u1p.E_inst:k164.E = [191]:=by
 simp [k164,Kd.iso,Kd.pair,Kd.slice,Kd.int,Kd.scalar,Kd.bool,k191]
set_option maxHeartbeats 2000000 in
set_option maxRecDepth 10000 in
theorem u1p.calls (w0 W:World) (g gp:Nat) (vc vl:Value) (s:ud.CS) (l:List S164) (h:ud.St w0 W g gp vc s) (hl:Kd.R k164 164 W w0.heap.size (fun _ => True) vl l) (hsz:s.code.length + l.length ≤ 1000000) :
 Calls Tryz.prog 103 #[.pointer (some ⟨g,0,none⟩),vl] W fun e W' => e = .returned (.tuple #[]) ∧ ∃ vc',ud.St w0 W' g gp vc' ⟨s.p,s.code ++ l,s.bad⟩ ∧ u1p.Fr W W' g vc vc':=by
 obtain ⟨p,code,bad⟩:=s
 obtain ⟨A,c,hb,hlc,hr⟩:=h.cells
 have h1:=uk hb 1
 have f1:=ut hb 1
 simp only [List.size_toArray,List.length_cons,List.length_nil,List.getElem?_toArray,List.getElem?_cons_zero,List.getElem?_cons_succ] at h1
 obtain ⟨Al,cl,el,hcl,hrl⟩:=u1p.reads_M hl
 subst el
 have HB:=Aside0.mk hb
 have HS:=Aside0.mk h
 have HR:=Aside0.mk hr
 have HL:=Aside0.mk hrl
 have HSZ:=Aside0.mk hsz
 clear hb hr h hl hrl hsz
 go_enter Tryz.func103,Tryz.ntmps103
 go_wp2_with ((with_reducible refine u3b (b:=.append) (xs:=#[.tmp 8,.tmp 9]) rfl ?_);at_builtin;refine Kd.R_append_rows k164 (w0:=w0) w0.heap.size rfl (.tmp 8) (.tmp 9) 143 164 (.agg #[.int .i64 0,.slice none 0 0,.bool false,.int .i64 0,.int .i64 0]) 56 rfl Tryz.underlying143 u1p.info rfl (by decide) (by omega) _ code l _ _ _ (fun _ => True) _ rfl rfl HS.out.code HL.out (fun _ _ h => h) ?hokp (fun _ _ => trivial) HS.out.below HS.out.below.size ?hbig ?_;(case hbig => have:=HSZ.out;simp only at this;omega);(case hokp => intro k hk;refine ⟨trivial,fun he => ?_⟩;obtain ⟨q,hq,cells,hc⟩:=hk;rw [u1p.E_inst] at hq;simp at hq;subst hq;exact Kd.R_ne HS.out.code hc (by decide) he.symm.symm);intro v1 W1 hR1 hB1 hg1 hat1
              have hg:W.grownBy W1 vc.ownBlock:=hg1
              have hat:v1.ownBlock = vc.ownBlock ∨ ∃ b,v1.ownBlock = some b ∧ W.heap.size ≤ b:=hat1
              have hb1:=blk_grown HB.out hg (Kd.R_ne HS.out.code HB.out (by decide))
              have h3:=uk hb1 1
              have f3:=ut hb1 1
              obtain ⟨cz,hcz⟩:=HR.out.1
              have hgp:W1.heap[gp]? = W.heap[gp]? := (blk_grown hcz hg (Kd.R_ne HS.out.code hcz (by decide))).trans hcz.symm
              obtain ⟨A1,c1,e1⟩:=Kd.R_slice hR1
              subst e1
              have HB1:=Aside0.mk hb1
              have HG:=Aside0.mk hg
              have HAT:=Aside0.mk hat
              have HGP:=Aside0.mk hgp
              have HR1:=Aside0.mk hR1
              have HBL:=Aside0.mk hB1
              clear hg1 hat1 hg hat hb1 hcz hgp hR1 hB1
              simp only [List.size_toArray,List.length_cons,List.length_nil,List.getElem?_toArray,List.getElem?_cons_zero,List.getElem?_cons_succ] at h3)
 go_end0
 refine ⟨rfl,.slice A1 (code ++ l).length c1,⟨HBL.out.setCell HS.out.base _,HS.out.base,⟨A,c,?_,hlc,?_⟩,?_⟩,⟨?_,?_,HAT.out⟩⟩
 · rw [u4f HB1.out 1 _]
   simp
 · exact HR.out.move ((Below.heap_setCell _ _ _ _ (ud.ne_gp HB.out HR.out)).trans HGP.out)
 · exact Kd.R_set HR1.out HB1.out (by intro q hq;rw [u1p.E_inst] at hq;simp at hq;omega) 1 _
 · have:=HG.out.size
   simpa [World.setCell] using this
 · intro k hk h1 h2
   exact (Below.heap_setCell _ _ _ _ h1).trans (HG.out.block k hk h2)
theorem u1p.one {w0 W:World} {vs:Value} {op x y:Int} {no:Bool} {l:List S191} (hbel:Below w0.heap.size w0 W) (hs:Kd.R k191 191 W w0.heap.size (fun _ => True) vs l) :
 Kd.R k164 164 (W.alloc (.cells #[.int .i64 op,vs,.bool no,.int .i64 x,.int .i64 y] 164)) w0.heap.size (fun _ => True) (.slice (some ⟨W.heap.size,0,none⟩) 1 1) [⟨op,l,no,x,y⟩]:=by
 have hbl:Below W.heap.size W (W.alloc (.cells #[.int .i64 op,vs,.bool no,.int .i64 x,.int .i64 y] 164)):=uj (Below.refl _ _) _
 have hs2:Kd.R k191 191 (W.alloc (.cells #[.int .i64 op,vs,.bool no,.int .i64 x,.int .i64 y] 164)) w0.heap.size (fun k => True ∧ some k ≠ (Value.slice (some ⟨W.heap.size,0,none⟩) 1 1).ownBlock) vs l :=
  Kd.R_mono (Kd.R_below (Kd.R_mono (Kd.R_bound hs) (fun k hk => hk.2.2.1)) hbl) (fun k hk => ⟨trivial,fun he => by
   have h3:k = W.heap.size:=by simpa [Value.ownBlock] using he
   omega⟩)
 refine ⟨fun _ _ => trivial,[.int .i64 op,vs,.bool no,.int .i64 x,.int .i64 y],?_,?_⟩
 · exact World.ownsRow_lit (base:=w0.heap.size) (e:=164) (size:=5) W #[.int .i64 op,vs,.bool no,.int .i64 x,.int .i64 y] 1 hbel.size (by decide) rfl
 · refine ⟨rfl,fun j q hj => ?_⟩
   cases j with
   | zero =>
     simp only [List.getElem?_cons_zero,Option.some.injEq] at hj
     subst hj
     exact k164_mkM _ _ _ ⟨op,l,no,x,y⟩ hs2
   | succ j => simp at hj
theorem u1p.put1a {w0 W:World} {g gp:Nat} {vc vs:Value} {s:ud.CS} {op x y:Int} {no:Bool} {l:List S191} {a:Nat} (ha:a = W.heap.size) (h:ud.St w0 W g gp vc s) (hs:Kd.R k191 191 W w0.heap.size (fun _ => True) vs l) (hsz:s.code.length + 1 ≤ 1000000) :
 Calls Tryz.prog 103 #[.pointer (some ⟨g,0,none⟩),.slice (some ⟨a,0,none⟩) 1 1] (W.alloc (.cells #[.int .i64 op,vs,.bool no,.int .i64 x,.int .i64 y] 164)) fun e W' => e = .returned (.tuple #[]) ∧ ∃ vc',ud.St w0 W' g gp vc' ⟨s.p,s.code ++ [⟨op,l,no,x,y⟩],s.bad⟩ ∧ u1p.Fr W W' g vc vc':=by
 subst ha
 have hbl:Below W.heap.size W (W.alloc (.cells #[.int .i64 op,vs,.bool no,.int .i64 x,.int .i64 y] 164)):=uj (Below.refl _ _) _
 have hst:ud.St w0 (W.alloc (.cells #[.int .i64 op,vs,.bool no,.int .i64 x,.int .i64 y] 164)) g gp vc s:=by
  obtain ⟨A,c,h1,h2,h3⟩:=h.cells
  obtain ⟨cz,hcz⟩:=h3.1
  exact ⟨u1c h.below h.below.size hbl,h.base,⟨A,c,u1h h1 hbl,h2,h3.move ((u1h hcz hbl).trans hcz.symm)⟩,Kd.R_below h.code hbl⟩
 refine (u1p.calls w0 _ g gp vc (.slice (some ⟨W.heap.size,0,none⟩) 1 1) s [⟨op,l,no,x,y⟩] hst (u1p.one h.below hs) hsz).mono ?_
 rintro e W' ⟨rfl,vc',h1,h2⟩
 refine ⟨rfl,vc',h1,⟨Nat.le_trans hbl.size h2.size,fun k hk h3 h4 => (h2.kept k (Nat.lt_of_lt_of_le hk hbl.size) h3 h4).trans (hbl.block k hk),?_⟩⟩
 rcases h2.row with h9 | ⟨b,h9,h8⟩
 · exact Or.inl h9
 · exact Or.inr ⟨b,h9,Nat.le_trans hbl.size h8⟩
theorem u1p.put1 {w0 W:World} {g gp:Nat} {vc vs:Value} {s:ud.CS} {op x y:Int} {no:Bool} {l:List S191} (h:ud.St w0 W g gp vc s) (hs:Kd.R k191 191 W w0.heap.size (fun _ => True) vs l) (hsz:s.code.length + 1 ≤ 1000000) :
 Calls Tryz.prog 103 #[.pointer (some ⟨g,0,none⟩),.slice (some ⟨W.heap.size,0,none⟩) 1 1] (W.alloc (.cells #[.int .i64 op,vs,.bool no,.int .i64 x,.int .i64 y] 164)) fun e W' => e = .returned (.tuple #[]) ∧ ∃ vc',ud.St w0 W' g gp vc' ⟨s.p,s.code ++ [⟨op,l,no,x,y⟩],s.bad⟩ ∧ u1p.Fr W W' g vc vc':=u1p.put1a rfl h hs hsz
theorem u1p.span1 {w0 W:World} {a:Nat} {lo hi:Int} (ha:a = W.heap.size) (hbel:Below w0.heap.size w0 W) :
 Kd.R k191 191 (W.alloc (.cells #[.int .i32 lo,.int .i32 hi] 191)) w0.heap.size (fun _ => True) (.slice (some ⟨a,0,none⟩) 1 1) [⟨lo,hi⟩]:=by
 subst ha
 refine ⟨fun _ _ => trivial,[.int .i32 lo,.int .i32 hi],?_,?_⟩
 · exact World.ownsRow_lit (base:=w0.heap.size) (e:=191) (size:=2) W #[.int .i32 lo,.int .i32 hi] 1 hbel.size (by decide) rfl
 · refine ⟨rfl,fun j q hj => ?_⟩
   cases j with
   | zero =>
     simp only [List.getElem?_cons_zero,Option.some.injEq] at hj
     subst hj
     exact k191_mkM _ _ _ ⟨lo,hi⟩
   | succ j => simp at hj
abbrev u1d.SS:=ug.SS
def u1d.mat (s:u1d.SS):S79 × u1d.SS:=(⟨(ul.byt s).1,(u1a.txt (ul.byt s).2).1,(u1a.txt (u1a.txt (ul.byt s).2).2).1⟩,(u1a.txt (u1a.txt (ul.byt s).2).2).2)
theorem u1d.mat_range {s:u1d.SS} (h256:∀ y ∈ s.b,0 ≤ y ∧ y < 256):(∀ y ∈ (u1d.mat s).2.b,0 ≤ y ∧ y < 256) ∧ (u1d.mat s).2.b.length ≤ s.b.length:=by
 obtain ⟨_,a1,a2⟩:=ul.byt_range h256
 obtain ⟨b1,b2⟩:=u1a.txt_range a1
 obtain ⟨c1,c2⟩:=u1a.txt_range b1
 exact ⟨c1,Nat.le_trans c2 (Nat.le_trans b2 a2)⟩
set_option maxHeartbeats 4000000 in
set_option maxRecDepth 10000 in
theorem u1d.calls (w0 W:World) (g:Nat) (M:Nat → Prop) (s:u1d.SS) (h:ul.St w0 W g M s) (h256:∀ y ∈ s.b,0 ≤ y ∧ y < 256) :
 Calls Tryz.prog 58 #[.agg #[.pointer (some ⟨g,0,none⟩)]] W fun e W' => e = .returned (.agg #[.int .i64 (u1d.mat s).1.f0,.string (u1d.mat s).1.f1,.string (u1d.mat s).1.f2]) ∧ ul.St w0 W' g M (u1d.mat s).2 ∧ u3e W W' g none:=by
 obtain ⟨_,a1,a2⟩:=ul.byt_range h256
 obtain ⟨b1,b2⟩:=u1a.txt_range a1
 obtain ⟨x1,s1,hn1⟩:∃ x1 s1,ul.byt s = (x1,s1):=⟨_,_,rfl⟩
 obtain ⟨x2,s2,hn2⟩:∃ x2 s2,u1a.txt s1 = (x2,s2):=⟨_,_,rfl⟩
 obtain ⟨x3,s3,hn3⟩:∃ x3 s3,u1a.txt s2 = (x3,s3):=⟨_,_,rfl⟩
 have HE:Aside0 (u1d.mat s = (⟨x1,x2,x3⟩,s3)):=⟨by unfold u1d.mat;simp only [hn1,hn2,hn3]⟩
 rw [HE.out]
 simp only [hn1] at a1 b1
 simp only [hn2] at b1
 have HM1:=Aside0.mk hn1
 have HM2:=Aside0.mk hn2
 have HM3:=Aside0.mk hn3
 have HA1:=Aside0.mk a1
 have HA2:=Aside0.mk b1
 have HA0:=Aside0.mk h256
 have HLT:=Aside0.mk h.lt
 have HS:=Aside0.mk (h.mono (M':=fun k => M k ∧ k < W.heap.size) (fun k9 h9 hk9 => ⟨hk9,h9⟩) (fun k9 hk9 => h.far _ hk9.1))
 have HFR:Aside0 (∀ k,M k → k ≠ g):=⟨h.far⟩
 clear h hn1 hn2 hn3 a1 a2 b1 b2 h256
 obtain ⟨W2,hW2⟩:∃ W2,Aside0 ((W.alloc (.cells #[.pointer (some ⟨g,0,none⟩)] 106)).alloc (.cells #[.int .i64 0,.string ⟨#[]⟩,.string ⟨#[]⟩] 79) = W2):=⟨_,⟨rfl⟩⟩
 have HBL:Aside0 (Below W.heap.size W W2.drew):=⟨by rw [← hW2.out];exact uu (uj (uj (Below.refl _ _) _) _)⟩
 have HX:Aside0 (W2.drew.heap[W.heap.size]? = some (.cells #[.pointer (some ⟨g,0,none⟩)] 106 (0,0))):=⟨by rw [← hW2.out];exact u1h (u1h (u3l W (.cells #[.pointer (some ⟨g,0,none⟩)] 106)) (uj (Below.refl _ _) _)) (uu (Below.refl _ _))⟩
 have HY:Aside0 (W2.drew.heap[W.heap.size + 1]? = some (.cells #[.int .i64 0,.string ⟨#[]⟩,.string ⟨#[]⟩] 79 (0,0))):=⟨by have h9:=u3l (W.alloc (.cells #[.pointer (some ⟨g,0,none⟩)] 106)) (.cells #[.int .i64 0,.string ⟨#[]⟩,.string ⟨#[]⟩] 79);simp only [World.size_alloc] at h9;rw [← hW2.out];exact u1h h9 (uu (Below.refl _ _))⟩
 have HS2:=Aside0.mk (HS.out.more HBL.out)
 have hc0:=uk HX.out 0
 simp only [List.size_toArray,List.length_cons,List.length_nil,List.getElem?_toArray,List.getElem?_cons_zero,List.getElem?_cons_succ] at hc0
 have HC0:=Aside0.mk hc0
 clear hc0
 go_enter Tryz.func58,Tryz.ntmps58
 go_wp2
 rw [hW2.out]
 refine startO_ (n:=11) (S:=fun w' => w'.cell? ⟨W.heap.size,0,none⟩ = some (.pointer (some ⟨g,0,none⟩))) (ds:=[10]) [(0,3),(3,6),(6,9),(1,4),(4,7),(7,10),(2,0),(5,0),(8,0),(9,12),(10,0)] (by kernel_rfl) rfl HC0.out (fun hHeld => ?_)
 iterate 3 (refine hd_ (v:=?_) (a':=?_) rfl rfl (by kernel_rfl) (Or.inl ⟨by kernel_rfl,?_⟩) ?_ ?_;rotate_left;(intro w';go_simp;with_reducible rfl);rotate_left;(simp only [Act.put,List.setIfInBounds_toArray,List.set_cons_zero,List.set_cons_succ,i64_w,i32_w];rfl))
 iterate 3 (refine hdS_ (v:=?_) (a':=?_) rfl rfl (by kernel_rfl) (Or.inl ⟨by kernel_rfl,?_⟩) hHeld ?_ ?_;rotate_left;(rintro w' hS';go_simp;(try with_reducible rfl));rotate_left;(simp only [Act.put,List.setIfInBounds_toArray,List.set_cons_zero,List.set_cons_succ,i64_w,i32_w];rfl))
 refine oneO_ (N:=some 5) rfl rfl (by kernel_rfl) (by decide) (fun K hK => ?_)
 refine goes_ Tryz.func57 (by kernel_rfl) rfl #[.pointer (some ⟨g,0,none⟩)] (by rfl) rfl rfl (by (try simp only [List.map_toArray,List.map_cons,List.map_nil]);first | done | rfl) ?_
 refine (ul.calls w0 _ g _ _ HS2.out HA0.out).mono ?_
 rintro e W3 ⟨rfl,hS3,hK3⟩
 rw [HM1.out] at hS3 ⊢
 refine ⟨_,rfl,?_⟩
 have HS3:=Aside0.mk hS3
 have HK3:Aside0 (u3e W2.drew W3 g none):=⟨hK3⟩
 have hc3:W3.cell? ⟨W.heap.size,0,none⟩ = some (.pointer (some ⟨g,0,none⟩)):=(uk ((HK3.out.2 _ (u3c HX.out) (by have:=HLT.out;omega) (by simp)).trans HX.out) 0).trans rfl
 have HC3:=Aside0.mk hc3
 clear hS3 hK3 hc3
 refine hK.out (Act.put _ (some 5) (.int .i64 x1)) _ HC3.out (fun hNext => ?_)
 simp only [Act.put,List.setIfInBounds_toArray,List.set_cons_zero,List.set_cons_succ,i64_w,i32_w]
 clear hK hHeld K
 have hHeld:=hNext
 clear hNext
 refine oneO_ (N:=some 8) rfl rfl (by kernel_rfl) (by decide) (fun K hK => ?_)
 refine goes_ Tryz.func81 (by kernel_rfl) rfl #[.pointer (some ⟨g,0,none⟩)] (by rfl) rfl rfl (by (try simp only [List.map_toArray,List.map_cons,List.map_nil]);first | done | rfl) ?_
 refine (u1a.calls w0 _ g _ _ HS3.out HA1.out).mono ?_
 rintro e W4 ⟨rfl,hS4,hK4⟩
 rw [HM2.out] at hS4 ⊢
 refine ⟨_,rfl,?_⟩
 have HS4:=Aside0.mk hS4
 have HK4:Aside0 (u3e W2.drew W4 g none):=⟨HK3.out.trans hK4 (Or.inl rfl)⟩
 have hc4:W4.cell? ⟨W.heap.size,0,none⟩ = some (.pointer (some ⟨g,0,none⟩)):=(uk ((HK4.out.2 _ (u3c HX.out) (by have:=HLT.out;omega) (by simp)).trans HX.out) 0).trans rfl
 have HC4:=Aside0.mk hc4
 clear hS4 hK4 hc4
 refine hK.out (Act.put _ (some 8) (.string x2)) _ HC4.out (fun hNext => ?_)
 simp only [Act.put,List.setIfInBounds_toArray,List.set_cons_zero,List.set_cons_succ,i64_w,i32_w]
 clear hK hHeld K
 have hHeld:=hNext
 clear hNext
 refine oneO_ (N:=some 11) rfl rfl (by kernel_rfl) (by decide) (fun K hK => ?_)
 refine goes_ Tryz.func81 (by kernel_rfl) rfl #[.pointer (some ⟨g,0,none⟩)] (by rfl) rfl rfl (by (try simp only [List.map_toArray,List.map_cons,List.map_nil]);first | done | rfl) ?_
 refine (u1a.calls w0 _ g _ _ HS4.out HA2.out).mono ?_
 rintro e W5 ⟨rfl,hS5,hK5⟩
 rw [HM3.out] at hS5 ⊢
 refine ⟨_,rfl,?_⟩
 have HS5:=Aside0.mk hS5
 have HK5:Aside0 (u3e W2.drew W5 g none):=⟨HK4.out.trans hK5 (Or.inl rfl)⟩
 have hc5:W5.cell? ⟨W.heap.size,0,none⟩ = some (.pointer (some ⟨g,0,none⟩)):=(uk ((HK5.out.2 _ (u3c HX.out) (by have:=HLT.out;omega) (by simp)).trans HX.out) 0).trans rfl
 have HC5:=Aside0.mk hc5
 clear hS5 hK5 hc5
 refine hK.out (Act.put _ (some 11) (.string x3)) _ HC5.out (fun hNext => ?_)
 simp only [Act.put,List.setIfInBounds_toArray,List.set_cons_zero,List.set_cons_succ,i64_w,i32_w]
 clear hK hHeld K
 have hHeld:=hNext
 clear hNext
 (refine hd_ (v:=?_) (a':=?_) rfl rfl (by kernel_rfl) (Or.inl ⟨by kernel_rfl,?_⟩) ?_ ?_;rotate_left;(intro w';go_simp;with_reducible rfl);rotate_left;(simp only [Act.put,List.setIfInBounds_toArray,List.set_cons_zero,List.set_cons_succ,i64_w,i32_w];rfl))
 refine lastO_ (N:=none) rfl rfl (by kernel_rfl) (by decide) (fun K hK => ?_)
 have HY5:Aside0 (W5.heap[W.heap.size + 1]? = some (.cells #[.int .i64 0,.string ⟨#[]⟩,.string ⟨#[]⟩] 79 (0,0))):=⟨(HK5.out.2 _ (u3c HY.out) (by have:=HLT.out;omega) (by simp)).trans HY.out⟩
 have a0:=uk HY5.out 0
 have a1:=uk HY5.out 1
 have a2:=uk HY5.out 2
 have b0:=ut HY5.out 0
 have b1:=ut HY5.out 1
 have b2:=ut HY5.out 2
 simp only [List.size_toArray,List.length_cons,List.length_nil,List.getElem?_toArray,List.getElem?_cons_zero,List.getElem?_cons_succ] at a0 a1 a2
 refine skip_ (w1:=(((W5.setCell ⟨W.heap.size + 1,0,none⟩ (.int .i64 x1)).setCell ⟨W.heap.size + 1,1,none⟩ (.string x2)).setCell ⟨W.heap.size + 1,2,none⟩ (.string x3))) (by rfl) rfl ?_ ?_
 · go_simp
   (try rfl)
 refine hK.out _ _ ?_
 clear hK K
 refine doneO_ (by kernel_rfl) ?_
 try go_wp2
 refine bodyPost_ret (v:=.agg #[.int .i64 x1,.string x2,.string x3]) (by simp [results,Tryz.results58,go_sem,a0,a1,a2]) rfl ?_
 have hlt2:=u3c HX.out
 have hst:=HK5.out.1
 have hgl:=HLT.out
 have hkeep:∀ k9,k9 ≠ W.heap.size + 1 → (((W5.setCell ⟨W.heap.size + 1,0,none⟩ (.int .i64 x1)).setCell ⟨W.heap.size + 1,1,none⟩ (.string x2)).setCell ⟨W.heap.size + 1,2,none⟩ (.string x3)).heap[k9]? = W5.heap[k9]? := fun k9 hk9 => by rw [Below.heap_setCell _ _ _ _ hk9,Below.heap_setCell _ _ _ _ hk9,Below.heap_setCell _ _ _ _ hk9]
 refine ⟨rfl,(HS5.out.move ?_ (hkeep g (by omega)) (fun k9 hk9 _ => hkeep k9 (by have:=hk9.2;omega))).mono (fun k9 _ hk9 => hk9.1) HFR.out,⟨?_,fun k9 h9 hg9 _ => ?_⟩⟩
 · have hb:w0.heap.size ≤ W.heap.size + 1:=by have:=HS.out.below.size;omega
   exact ((HS5.out.below.setCell (p:=⟨W.heap.size + 1,0,none⟩) hb _).setCell (p:=⟨W.heap.size + 1,1,none⟩) hb _).setCell (p:=⟨W.heap.size + 1,2,none⟩) hb _
 · simp only [World.setCell,Array.size_modify]
   omega
 · exact (hkeep k9 (by omega)).trans ((HK5.out.2 k9 (by omega) hg9 (by simp)).trans (HBL.out.block k9 h9))
def u2h.l0:Nat → List (S48) → List (S48) → Int → Int → Option (Bool)
 | 0,_,_,_,_ => none
 | k + 1,x0,x5,x6,x7 => if x7 < x6 then (if 0 ≤ x7 then (if x7 < (x5.length:Int) then (if (((u3y x5 x7).f0).size:Int) < 1 then (some false) else (if (((u3y x5 x7).f0).size:Int) > 24 then (some false) else (if ((u3y x5 x7).f1) < 0 then (some false) else (if ((u3y x5 x7).f1) > 2147483647 then (some false) else (u2h.l0 k x0 x5 x6 (wrap64 (x7 + 1))))))) else (none)) else (none)) else (some (decide ((x0.length:Int) ≤ 10000)))
def u2h.f (k:Nat) (l0:List (S48)):Option (Bool):=u2h.l0 k l0 l0 (l0.length:Int) 0
set_option maxHeartbeats 8000000 in
set_option maxRecDepth 100000 in
theorem u2h.calls (k:Nat) (A0:Option Addr) (c0:Nat) (l0:List (S48)) (r:Bool) (w:World) (hr0:Kd.C k48 w A0 l0.length l0) (hc0:l0.length ≤ c0) (h:u2h.f k l0 = some r) :
 Calls Tryz.prog 45 #[.slice A0 l0.length c0] w fun e w' => e = .returned (.bool r) ∧ Below w.heap.size w w':=by
 have hu48:=Tryz.underlying48
 have HR0:=Aside0.mk hr0
 have HC0:=Aside0.mk hc0
 clear hr0 hc0
 have HB:=Aside0.mk (Below.refl w.heap.size w)
 have H:(u2h.l0 k l0 l0 (l0.length:Int) 0) = some r:=h
 clear h
 have H':=Aside0.mk H
 clear H
 go_enter Tryz.func45,Tryz.ntmps45
 go_wp2
 go_loopg [7] k (fun kq v7 w' => ∃ (x7_1:Int),v7 = .int .i64 x7_1 ∧ Aside0 (u2h.l0 kq l0 l0 (l0.length:Int) x7_1 = some r) ∧ Aside0 (kq ≤ k) ∧ Aside0 (Below w.heap.size w w'))
 case atStart => exact ⟨(0),(by first | rfl | (simp;done) | (simp [*];done)),H',⟨Nat.le_refl _⟩,⟨by repeat (first | (with_reducible first | exact HB.out | apply uj | apply uh | apply uu) | exact HB.out)⟩⟩
 case round =>
  clear H'
  obtain ⟨x7_1,rfl,HA,HK1,HB⟩:=hrel
  cases gk with
  | zero => exact absurd HA.out (by simp [u2h.l0])
  | succ k1 =>
    have H:=HA.out
    clear HA
    simp only [u2h.l0] at H
    by_cases c2:x7_1 < (l0.length:Int)
    · rw [if_pos c2] at H
      have c2b0:decide (x7_1 < (l0.length:Int)) = true:=decide_eq_true c2
      clear c2
      by_cases c3:0 ≤ x7_1
      · rw [if_pos c3] at H
        have c3b0:decide (0 ≤ x7_1) = true:=decide_eq_true c3
        clear c3
        by_cases c4:x7_1 < (l0.length:Int)
        · rw [if_pos c4] at H
          have c4b0:decide (x7_1 < (l0.length:Int)) = true:=decide_eq_true c4
          clear c4
          by_cases c5:(((u3y l0 x7_1).f0).size:Int) < 1
          · rw [if_pos c5] at H
            have c5b0:decide ((((u3y l0 x7_1).f0).size:Int) < 1) = true:=decide_eq_true c5
            have c5b1:decide (((u3y l0 x7_1).f0).size < 1) = true:=decide_eq_true (by omega)
            clear c5
            obtain rfl:=Option.some.inj H
            have p162:0 ≤ (x7_1:Int):=of_decide_eq_true (by first | (with_reducible assumption) | assumption)
            have q162:x7_1 < (l0.length:Int):=of_decide_eq_true (by first | (with_reducible assumption) | assumption)
            obtain ⟨ad162,e162,hx162_0,hx162_1⟩:=at_T48 HR0.out x7_1 p162 q162
            cases e162
            replace hx162_0:=(HB.out.cell (World.block_lt_of_cell? w _ hx162_0)).trans hx162_0
            replace hx162_1:=(HB.out.cell (World.block_lt_of_cell? w _ hx162_1)).trans hx162_1
            replace p162:=eq_true p162
            replace q162:=eq_true q162
            go_wp2_with (first | ((with_reducible refine gate_dst (N:=4) rfl ?_);(try (refine gate_guard (by rfl) ?_;dsimp only));refine box_event ?hg (N:=4) ?hd (cs:=#[.string (⟨#[]⟩:ByteArray),.int .i64 0]) (t:=48) ?hr ?_;(case hd => rfl);(case hg => rfl);(case hr => first | (go_simp;done) | (go_simp;rfl));intro gb163 hg w6 hbox hb;have n0_:=Aside0.mk (u2o (by repeat (first | (with_reducible first | exact HB.out | apply uj | apply uh | apply uu) | exact HB.out)) hb);have n1_:=Aside0.mk (hbox);have n2_:=Aside0.mk ((by rw [hg];exact (u2k (by repeat (first | (with_reducible first | exact HB.out | apply uj | apply uh | apply uu) | exact HB.out))):w.heap.size ≤ gb163));have n3_:=Aside0.mk ((by rw [hg];exact (u2k (by repeat (first | (with_reducible first | exact HB.out | apply uj | apply uh | apply uu) | exact HB.out))):w.heap.size ≤ gb163));clear HB;have HB:=n0_;have BK163:=n1_;have GW163:=n2_;have GE163:=n3_;clear n0_ n1_ n2_ n3_;clear hb hbox hg;have hcz7_0:w6.cell? ⟨gb163,0,none⟩ = some (.string (⟨#[]⟩:ByteArray)):=(uk BK163.out 0).trans rfl;have hcz7_1:w6.cell? ⟨gb163,1,none⟩ = some (.int .i64 0):=(uk BK163.out 1).trans rfl;have hfz7_0:=ut BK163.out 0;have hfz7_1:=ut BK163.out 1))
            go_ret
            exact ⟨by first | rfl | (simp [u2x,u2w] <;> rfl) | (simp [*,u2x,u2w] <;> rfl),by repeat (first | (with_reducible first | exact HB.out | apply uj | apply uh | apply uu | refine u2r ?_ GE163.out) | exact HB.out)⟩
          · rw [if_neg c5] at H
            have c5b0:decide ((((u3y l0 x7_1).f0).size:Int) < 1) = false:=decide_eq_false c5
            have c5b1:decide (((u3y l0 x7_1).f0).size < 1) = false:=decide_eq_false (by omega)
            clear c5
            by_cases c8:(((u3y l0 x7_1).f0).size:Int) > 24
            · rw [if_pos c8] at H
              have c8b0:decide (24 < (((u3y l0 x7_1).f0).size:Int)) = true:=decide_eq_true c8
              have c8b1:decide (24 < ((u3y l0 x7_1).f0).size) = true:=decide_eq_true (by omega)
              clear c8
              obtain rfl:=Option.some.inj H
              have p162:0 ≤ (x7_1:Int):=of_decide_eq_true (by first | (with_reducible assumption) | assumption)
              have q162:x7_1 < (l0.length:Int):=of_decide_eq_true (by first | (with_reducible assumption) | assumption)
              obtain ⟨ad162,e162,hx162_0,hx162_1⟩:=at_T48 HR0.out x7_1 p162 q162
              cases e162
              replace hx162_0:=(HB.out.cell (World.block_lt_of_cell? w _ hx162_0)).trans hx162_0
              replace hx162_1:=(HB.out.cell (World.block_lt_of_cell? w _ hx162_1)).trans hx162_1
              replace p162:=eq_true p162
              replace q162:=eq_true q162
              go_wp2_with (first | ((with_reducible refine gate_dst (N:=4) rfl ?_);(try (refine gate_guard (by rfl) ?_;dsimp only));refine box_event ?hg (N:=4) ?hd (cs:=#[.string (⟨#[]⟩:ByteArray),.int .i64 0]) (t:=48) ?hr ?_;(case hd => rfl);(case hg => rfl);(case hr => first | (go_simp;done) | (go_simp;rfl));intro gb163 hg w9 hbox hb;have n0_:=Aside0.mk (u2o (by repeat (first | (with_reducible first | exact HB.out | apply uj | apply uh | apply uu) | exact HB.out)) hb);have n1_:=Aside0.mk (hbox);have n2_:=Aside0.mk ((by rw [hg];exact (u2k (by repeat (first | (with_reducible first | exact HB.out | apply uj | apply uh | apply uu) | exact HB.out))):w.heap.size ≤ gb163));have n3_:=Aside0.mk ((by rw [hg];exact (u2k (by repeat (first | (with_reducible first | exact HB.out | apply uj | apply uh | apply uu) | exact HB.out))):w.heap.size ≤ gb163));clear HB;have HB:=n0_;have BK163:=n1_;have GW163:=n2_;have GE163:=n3_;clear n0_ n1_ n2_ n3_;clear hb hbox hg;have hcz10_0:w9.cell? ⟨gb163,0,none⟩ = some (.string (⟨#[]⟩:ByteArray)):=(uk BK163.out 0).trans rfl;have hcz10_1:w9.cell? ⟨gb163,1,none⟩ = some (.int .i64 0):=(uk BK163.out 1).trans rfl;have hfz10_0:=ut BK163.out 0;have hfz10_1:=ut BK163.out 1))
              go_ret
              exact ⟨by first | rfl | (simp [u2x,u2w] <;> rfl) | (simp [*,u2x,u2w] <;> rfl),by repeat (first | (with_reducible first | exact HB.out | apply uj | apply uh | apply uu | refine u2r ?_ GE163.out) | exact HB.out)⟩
            · rw [if_neg c8] at H
              have c8b0:decide (24 < (((u3y l0 x7_1).f0).size:Int)) = false:=decide_eq_false c8
              have c8b1:decide (24 < ((u3y l0 x7_1).f0).size) = false:=decide_eq_false (by omega)
              clear c8
              by_cases c11:((u3y l0 x7_1).f1) < 0
              · rw [if_pos c11] at H
                have c11b0:decide (((u3y l0 x7_1).f1) < 0) = true:=decide_eq_true c11
                clear c11
                obtain rfl:=Option.some.inj H
                have p162:0 ≤ (x7_1:Int):=of_decide_eq_true (by first | (with_reducible assumption) | assumption)
                have q162:x7_1 < (l0.length:Int):=of_decide_eq_true (by first | (with_reducible assumption) | assumption)
                obtain ⟨ad162,e162,hx162_0,hx162_1⟩:=at_T48 HR0.out x7_1 p162 q162
                cases e162
                replace hx162_0:=(HB.out.cell (World.block_lt_of_cell? w _ hx162_0)).trans hx162_0
                replace hx162_1:=(HB.out.cell (World.block_lt_of_cell? w _ hx162_1)).trans hx162_1
                replace p162:=eq_true p162
                replace q162:=eq_true q162
                go_wp2_with (first | ((with_reducible refine gate_dst (N:=4) rfl ?_);(try (refine gate_guard (by rfl) ?_;dsimp only));refine box_event ?hg (N:=4) ?hd (cs:=#[.string (⟨#[]⟩:ByteArray),.int .i64 0]) (t:=48) ?hr ?_;(case hd => rfl);(case hg => rfl);(case hr => first | (go_simp;done) | (go_simp;rfl));intro gb163 hg w12 hbox hb;have n0_:=Aside0.mk (u2o (by repeat (first | (with_reducible first | exact HB.out | apply uj | apply uh | apply uu) | exact HB.out)) hb);have n1_:=Aside0.mk (hbox);have n2_:=Aside0.mk ((by rw [hg];exact (u2k (by repeat (first | (with_reducible first | exact HB.out | apply uj | apply uh | apply uu) | exact HB.out))):w.heap.size ≤ gb163));have n3_:=Aside0.mk ((by rw [hg];exact (u2k (by repeat (first | (with_reducible first | exact HB.out | apply uj | apply uh | apply uu) | exact HB.out))):w.heap.size ≤ gb163));clear HB;have HB:=n0_;have BK163:=n1_;have GW163:=n2_;have GE163:=n3_;clear n0_ n1_ n2_ n3_;clear hb hbox hg;have hcz13_0:w12.cell? ⟨gb163,0,none⟩ = some (.string (⟨#[]⟩:ByteArray)):=(uk BK163.out 0).trans rfl;have hcz13_1:w12.cell? ⟨gb163,1,none⟩ = some (.int .i64 0):=(uk BK163.out 1).trans rfl;have hfz13_0:=ut BK163.out 0;have hfz13_1:=ut BK163.out 1))
                go_ret
                exact ⟨by first | rfl | (simp [u2x,u2w] <;> rfl) | (simp [*,u2x,u2w] <;> rfl),by repeat (first | (with_reducible first | exact HB.out | apply uj | apply uh | apply uu | refine u2r ?_ GE163.out) | exact HB.out)⟩
              · rw [if_neg c11] at H
                have c11b0:decide (((u3y l0 x7_1).f1) < 0) = false:=decide_eq_false c11
                clear c11
                by_cases c14:((u3y l0 x7_1).f1) > 2147483647
                · rw [if_pos c14] at H
                  have c14b0:decide (2147483647 < ((u3y l0 x7_1).f1)) = true:=decide_eq_true c14
                  clear c14
                  obtain rfl:=Option.some.inj H
                  have p162:0 ≤ (x7_1:Int):=of_decide_eq_true (by first | (with_reducible assumption) | assumption)
                  have q162:x7_1 < (l0.length:Int):=of_decide_eq_true (by first | (with_reducible assumption) | assumption)
                  obtain ⟨ad162,e162,hx162_0,hx162_1⟩:=at_T48 HR0.out x7_1 p162 q162
                  cases e162
                  replace hx162_0:=(HB.out.cell (World.block_lt_of_cell? w _ hx162_0)).trans hx162_0
                  replace hx162_1:=(HB.out.cell (World.block_lt_of_cell? w _ hx162_1)).trans hx162_1
                  replace p162:=eq_true p162
                  replace q162:=eq_true q162
                  go_wp2_with (first | ((with_reducible refine gate_dst (N:=4) rfl ?_);(try (refine gate_guard (by rfl) ?_;dsimp only));refine box_event ?hg (N:=4) ?hd (cs:=#[.string (⟨#[]⟩:ByteArray),.int .i64 0]) (t:=48) ?hr ?_;(case hd => rfl);(case hg => rfl);(case hr => first | (go_simp;done) | (go_simp;rfl));intro gb163 hg w15 hbox hb;have n0_:=Aside0.mk (u2o (by repeat (first | (with_reducible first | exact HB.out | apply uj | apply uh | apply uu) | exact HB.out)) hb);have n1_:=Aside0.mk (hbox);have n2_:=Aside0.mk ((by rw [hg];exact (u2k (by repeat (first | (with_reducible first | exact HB.out | apply uj | apply uh | apply uu) | exact HB.out))):w.heap.size ≤ gb163));have n3_:=Aside0.mk ((by rw [hg];exact (u2k (by repeat (first | (with_reducible first | exact HB.out | apply uj | apply uh | apply uu) | exact HB.out))):w.heap.size ≤ gb163));clear HB;have HB:=n0_;have BK163:=n1_;have GW163:=n2_;have GE163:=n3_;clear n0_ n1_ n2_ n3_;clear hb hbox hg;have hcz16_0:w15.cell? ⟨gb163,0,none⟩ = some (.string (⟨#[]⟩:ByteArray)):=(uk BK163.out 0).trans rfl;have hcz16_1:w15.cell? ⟨gb163,1,none⟩ = some (.int .i64 0):=(uk BK163.out 1).trans rfl;have hfz16_0:=ut BK163.out 0;have hfz16_1:=ut BK163.out 1))
                  go_ret
                  exact ⟨by first | rfl | (simp [u2x,u2w] <;> rfl) | (simp [*,u2x,u2w] <;> rfl),by repeat (first | (with_reducible first | exact HB.out | apply uj | apply uh | apply uu | refine u2r ?_ GE163.out) | exact HB.out)⟩
                · rw [if_neg c14] at H
                  have c14b0:decide (2147483647 < ((u3y l0 x7_1).f1)) = false:=decide_eq_false c14
                  clear c14
                  have H':=Aside0.mk H
                  clear H
                  have p162:0 ≤ (x7_1:Int):=of_decide_eq_true (by first | (with_reducible assumption) | assumption)
                  have q162:x7_1 < (l0.length:Int):=of_decide_eq_true (by first | (with_reducible assumption) | assumption)
                  obtain ⟨ad162,e162,hx162_0,hx162_1⟩:=at_T48 HR0.out x7_1 p162 q162
                  cases e162
                  replace hx162_0:=(HB.out.cell (World.block_lt_of_cell? w _ hx162_0)).trans hx162_0
                  replace hx162_1:=(HB.out.cell (World.block_lt_of_cell? w _ hx162_1)).trans hx162_1
                  replace p162:=eq_true p162
                  replace q162:=eq_true q162
                  go_wp2_with (first | ((with_reducible refine gate_dst (N:=4) rfl ?_);(try (refine gate_guard (by rfl) ?_;dsimp only));refine box_event ?hg (N:=4) ?hd (cs:=#[.string (⟨#[]⟩:ByteArray),.int .i64 0]) (t:=48) ?hr ?_;(case hd => rfl);(case hg => rfl);(case hr => first | (go_simp;done) | (go_simp;rfl));intro gb163 hg w17 hbox hb;have n0_:=Aside0.mk (u2o (by repeat (first | (with_reducible first | exact HB.out | apply uj | apply uh | apply uu) | exact HB.out)) hb);have n1_:=Aside0.mk (hbox);have n2_:=Aside0.mk ((by rw [hg];exact (u2k (by repeat (first | (with_reducible first | exact HB.out | apply uj | apply uh | apply uu) | exact HB.out))):w.heap.size ≤ gb163));have n3_:=Aside0.mk ((by rw [hg];exact (u2k (by repeat (first | (with_reducible first | exact HB.out | apply uj | apply uh | apply uu) | exact HB.out))):w.heap.size ≤ gb163));clear HB;have HB:=n0_;have BK163:=n1_;have GW163:=n2_;have GE163:=n3_;clear n0_ n1_ n2_ n3_;clear hb hbox hg;have hcz18_0:w17.cell? ⟨gb163,0,none⟩ = some (.string (⟨#[]⟩:ByteArray)):=(uk BK163.out 0).trans rfl;have hcz18_1:w17.cell? ⟨gb163,1,none⟩ = some (.int .i64 0):=(uk BK163.out 1).trans rfl;have hfz18_0:=ut BK163.out 0;have hfz18_1:=ut BK163.out 1))
                  go_roundg k1
                  case measure => have:=HK1.out;omega
                  case rel => exact ⟨(wrap64 (x7_1 + 1)),(by first | rfl | (simp;done) | (simp [*];done)),H',⟨by have:=HK1.out;omega⟩,⟨by repeat (first | (with_reducible first | exact HB.out | apply uj | apply uh | apply uu | refine u2r ?_ GE163.out) | exact HB.out)⟩⟩
        · rw [if_neg c4] at H
          exact absurd H (by simp)
      · rw [if_neg c3] at H
        exact absurd H (by simp)
    · rw [if_neg c2] at H
      have c2b0:decide (x7_1 < (l0.length:Int)) = false:=decide_eq_false c2
      clear c2
      obtain rfl:=Option.some.inj H
      go_wp2
      go_ret
      exact ⟨by first | rfl | (simp [u2x,u2w] <;> rfl) | (simp [*,u2x,u2w] <;> rfl),by repeat (first | (with_reducible first | exact HB.out | apply uj | apply uh | apply uu) | exact HB.out)⟩
def strings_ToValidUTF8.f:Option Int:=none
def strings_ToValidUTF8.Gd (w:World):Prop:=Lib.Utf8Tabs 1 2 w ∧ ∃ m,w.cell? ⟨0,0,none⟩ = some (.int .i64 m)
theorem strings_ToValidUTF8.Gd.tabs {w:World} (h:strings_ToValidUTF8.Gd w):Lib.Utf8Tabs 1 2 w:=h.1
theorem strings_ToValidUTF8.Gd.cell {w:World} (h:strings_ToValidUTF8.Gd w):∃ m,w.cell? ⟨0,0,none⟩ = some (.int .i64 m):=h.2
theorem strings_ToValidUTF8.Gd.below {w w':World} (h:strings_ToValidUTF8.Gd w) (hb:Below w.heap.size w w'):strings_ToValidUTF8.Gd w':=by
 refine ⟨Go.Proofs.Utf8Tabs_below h.1 hb,?_⟩
 obtain ⟨m,hm⟩:=h.2
 refine ⟨m,?_⟩
 have h0:0 < w.heap.size:=by
  rcases Nat.eq_zero_or_pos w.heap.size with h9 | h9
  · simp [World.cell?,Array.getElem?_eq_none (show w.heap.size ≤ 0 by omega)] at hm
  · exact h9
 have h1:=hb.block 0 h0
 simpa [World.cell?,h1] using hm
def strings_ToValidUTF8.badFrom (s:ByteArray):Nat → Nat → Bool
 | 0,_ => false
 | f + 1,pos => if pos < s.size then decide (Utf8.decode s pos = (65533,1)) || strings_ToValidUTF8.badFrom s f (pos + (Utf8.decode s pos).2) else false
def strings_ToValidUTF8.badW (s:ByteArray):Bool:=strings_ToValidUTF8.badFrom s s.size 0
def strings_ToValidUTF8.Has (l:List UInt8):Prop:=∃ a b,l = a ++ [239,191,189] ++ b
theorem strings_ToValidUTF8.Has.more {l:List UInt8} (h:strings_ToValidUTF8.Has l) (r:List UInt8):strings_ToValidUTF8.Has (l ++ r):=by
 obtain ⟨a,b,rfl⟩:=h
 exact ⟨a,b ++ r,by simp⟩
theorem strings_ToValidUTF8.width_le (s:ByteArray) (pos:Nat) (h:pos < s.size):pos + (Utf8.decode s pos).2 ≤ s.size:=by
 have h1:(s.data.toList.drop pos).length = s.size - pos:=by rw [List.length_drop,data_length]
 have h2:=Lib.decodeL_le (s.data.toList.drop pos) (by intro h9;rw [h9] at h1;simp at h1;omega)
 rw [Lib.decodeL_drop] at h2
 omega
def strings_ToValidUTF8.BF (b:Nat) (acc:List UInt8) (w:World):Prop:=Lib.BuilderAtF 178 5 b b (.pointer (some ⟨b,0,none⟩)) (Lib.byteCells acc) w
theorem strings_ToValidUTF8.BF.below {b:Nat} {acc:List UInt8} {w w':World} (h:strings_ToValidUTF8.BF b acc w) (hb:Below w.heap.size w w'):strings_ToValidUTF8.BF b acc w':=by
 obtain ⟨hB,v,hk,ho,hne⟩:=h
 refine ⟨hB,v,u1h hk hb,⟨ho.1,?_⟩,hne⟩
 rcases ho.2 with h9 | ⟨g,cap,cur,fz,h1,h2,h3,h4⟩
 · exact Or.inl h9
 · refine Or.inr ⟨g,cap,cur,fz,h1,h2,?_,h4⟩
   have hlt:g < w.heap.size:=by
    rcases Nat.lt_or_ge g w.heap.size with h' | h'
    · exact h'
    · simp [Array.getElem?_eq_none h'] at h3
   rw [hb.block g hlt]
   exact h3
theorem strings_ToValidUTF8.BF.is {b:Nat} {acc:List UInt8} {w:World} (h:strings_ToValidUTF8.BF b acc w):Lib.IsBuilderF 178 5 b b (Lib.byteCells acc) w:=Or.inr h
theorem strings_ToValidUTF8.BF.cap {b:Nat} {acc:List UInt8} {w:World} {v:Value} (h:strings_ToValidUTF8.BF b acc w) (hc:w.cell? ⟨b,1,none⟩ = some v) (hp:0 < v.capOf):∃ A c,w.cell? ⟨b,1,none⟩ = some (.slice A acc.length c) ∧ 0 < c:=by
 obtain ⟨hB,v1,hk,ho,hne⟩:=h
 have h8:w.cell? ⟨b,1,none⟩ = some v1:=by rw [Lib.cell_of_heap hk];rfl
 rw [h8] at hc
 injection hc with hc
 subst hc
 rcases ho.2 with ⟨h1,h2⟩ | ⟨g,cap,cur,fz,h1,h2,h3,h4⟩
 · subst h1
   exact absurd hp (by decide)
 · refine ⟨some ⟨g,0,none⟩,cap,?_,?_⟩
   · rw [h8,h1,Lib.byteCells_length]
   · rw [h1] at hp
     exact hp
theorem strings_ToValidUTF8.wstr (w:World) (b:Nat) (acc:List UInt8) (s:ByteArray) (h:strings_ToValidUTF8.BF b acc w) (hlen:acc.length + s.size ≤ 100000) (hbw:b ≤ w.heap.size) :
 Calls Tryz.prog 114 #[.pointer (some ⟨b,0,none⟩),.string s] w fun e w' => e = .returned (.tuple #[.int .i64 s.size,.nilIface]) ∧ strings_ToValidUTF8.BF b (acc ++ s.data.toList) w' ∧ Below b w w' ∧ ∀ v0,w.cell? ⟨b,1,none⟩ = some v0 → ∃ v1,w'.cell? ⟨b,1,none⟩ = some v1 ∧ v0.capOf ≤ v1.capOf:=by
 refine (Tryz.Builder_WriteString_kc b b (Lib.byteCells acc) s w (Or.inr h) (by rw [Lib.byteCells_length];omega) hbw).mono ?_
 rintro e w' ⟨rfl,⟨h1,h2,_⟩,h3⟩
 refine ⟨rfl,?_,h2,h3⟩
 unfold strings_ToValidUTF8.BF
 rw [Lib.byteCells_append]
 exact h1
theorem strings_ToValidUTF8.wbyte (w:World) (b:Nat) (acc:List UInt8) (c:UInt8) (h:strings_ToValidUTF8.BF b acc w) (hlen:acc.length + 1 ≤ 100000) (hbw:b ≤ w.heap.size) :
 Calls Tryz.prog 116 #[.pointer (some ⟨b,0,none⟩),.int .u8 c.toNat] w fun e w' => e = .returned .nilIface ∧ strings_ToValidUTF8.BF b (acc ++ [c]) w' ∧ Below b w w':=by
 refine (Tryz.Builder_WriteByte_k b b (Lib.byteCells acc) c.toNat w (Or.inr h) (by rw [Lib.byteCells_length];omega) hbw).mono ?_
 rintro e w' ⟨rfl,h1,h2,_⟩
 refine ⟨rfl,?_,h2⟩
 unfold strings_ToValidUTF8.BF
 rw [Lib.byteCells_append]
 exact h1
set_option maxHeartbeats 4000000 in
set_option maxRecDepth 10000 in
theorem strings_ToValidUTF8.calls (w:World) (s:ByteArray) (hG:strings_ToValidUTF8.Gd w) (hsz:s.size ≤ 1000) :
 Calls Tryz.prog 101 #[.string s,.string ⟨#[239,191,189]⟩] w fun e w' => ∃ r,e = .returned (.string r) ∧ Below w.heap.size w w' ∧ r.size ≤ 100000 ∧ (strings_ToValidUTF8.badW s = true → strings_ToValidUTF8.Has r.data.toList) ∧ (strings_ToValidUTF8.badW s = false → r = s):=by
 obtain ⟨Wb,hWb⟩:∃ Wb,Aside0 (w.alloc (.cells #[.pointer none,.slice none 0 0] 178) = Wb):=⟨_,⟨rfl⟩⟩
 have hbk:Aside0 (Wb.heap[w.heap.size]? = some (.cells #[.pointer none,.slice none 0 0] 178 (0,0))):=⟨by rw [← hWb.out];exact u3l _ _⟩
 have hbb:Aside0 (Below w.heap.size w Wb):=⟨by rw [← hWb.out];exact uj (Below.refl _ _) _⟩
 have hsb:Aside0 (Wb.heap.size = w.heap.size + 1):=⟨by rw [← hWb.out];simp⟩
 have HG:=Aside0.mk hG
 have HREP:Aside0 ((⟨#[239,191,189]⟩:ByteArray).size = 3):=⟨rfl⟩
 clear hG
 go_enter Tryz.func101,Tryz.ntmps101
 go_wp2
 rw [hWb.out]
 go_loopw [0] (fun v0 wr => ∃ (pos fuel:Nat),v0 = .string s ∧ wr.heap[w.heap.size + 1]? = some (.stringIter s pos) ∧ Aside0 (Below Wb.heap.size Wb wr) ∧ Aside0 (strings_ToValidUTF8.badFrom s fuel pos = strings_ToValidUTF8.badW s) ∧ s.size ≤ fuel + pos)
  (fun v0 wr => s.size - wr.iterPos (w.heap.size + 1))
 case atStart =>
  refine ⟨0,s.size,rfl,?_,⟨?_⟩,⟨rfl⟩,by omega⟩
  · have:=World.iter_heap Wb s 0
    rw [hsb.out] at this
    simpa using this
  · exact (Below.refl _ Wb).alloc (Nat.le_refl _) _
 case round =>
  obtain ⟨pos,fuel,rfl,hit,hbw,HE,hfu⟩:=hrel
  have hbk2:Aside0 (wr.heap[w.heap.size]? = some (.cells #[.pointer none,.slice none 0 0] 178 (0,0))):=⟨u1h hbk.out hbw.out⟩
  have hbw3:Aside0 (Below w.heap.size w wr):=⟨u1c hbb.out hbb.out.size hbw.out⟩
  have cb1:wr.cell? ⟨w.heap.size,1,none⟩ = some (.slice none 0 0):=by
   have h9:=uk hbk2.out 1
   simpa using h9
  by_cases hp:pos < s.size
  · have hnx:∀ ty,(Instr.next (.pointer (some ⟨w.heap.size + 1,0,none⟩)) true ty).run Tryz.prog wr = _:=fun ty => Lib.run_next_any_at wr (w.heap.size + 1) s pos ty hit hp
    have hwd:=Base.width_pos s pos hp
    have hd1:=decode_le s pos
    have hit2:=Lib.iterAt_heap wr (w.heap.size + 1) s pos (pos + (Utf8.decode s pos).2) hit
    have hbw2:=Lib.below_iterAt hbw.out (k:=w.heap.size + 1) (by rw [hsb.out];omega) s (pos + (Utf8.decode s pos).2)
    obtain ⟨f,rfl⟩:∃ f,fuel = f + 1:=⟨fuel - 1,by omega⟩
    have hst:strings_ToValidUTF8.badFrom s (f + 1) pos = (decide (Utf8.decode s pos = (65533,1)) || strings_ToValidUTF8.badFrom s f (pos + (Utf8.decode s pos).2)):=by
     conv => lhs;unfold strings_ToValidUTF8.badFrom
     rw [if_pos hp]
    rw [hst] at HE
    clear hst
    by_cases h4:(Utf8.decode s pos).1 = 65533
    · have hb4:(((Utf8.decode s pos).1:Int) == 65533) = true:=by simp;omega
      have hb5:(((Utf8.decode s pos).1:Int) != 65533) = false:=by simp;omega
      obtain ⟨Wi,hWi⟩:∃ Wi,Aside0 (wr.iterAt (w.heap.size + 1) s (pos + (Utf8.decode s pos).2) = Wi):=⟨_,⟨rfl⟩⟩
      rw [hWi.out] at hit2 hbw2
      have HIT:=Aside0.mk hit2
      have hwi:Aside0 (Below w.heap.size w Wi):=⟨u1c hbb.out hbb.out.size hbw2⟩
      have hgi:Aside0 (strings_ToValidUTF8.Gd Wi):=⟨HG.out.below hwi.out⟩
      have HBW2:=Aside0.mk hbw2
      have HDG:Aside0 (Lib.decodeGo (s.extract pos s.size) = Utf8.decode s pos):=⟨Lib.decodeGo_extract s pos hp⟩
      clear hbw2 hit2
      by_cases hw1:(Utf8.decode s pos).2 = 1
      · have hw2:(((Utf8.decode s pos).2:Int) == 1) = true:=by simp;omega
        have hbad:Aside0 (strings_ToValidUTF8.badW s = true):=⟨by
         rw [← HE.out,show Utf8.decode s pos = (65533,1) from Prod.ext h4 hw1]
         rfl⟩
        obtain ⟨t,ht⟩:∃ t,Aside0 (s.extract pos s.size = t):=⟨_,⟨rfl⟩⟩
        have HTZ:Aside0 (t.size = s.size - pos):=⟨by rw [← ht.out];simp⟩
        have htl:t.size ≤ 1000:=by have:=HTZ.out;omega
        have ht0:Aside0 (Utf8.decode t 0 = (65533,1)):=⟨by
         have h9:=HDG.out
         rw [ht.out] at h9
         unfold Lib.decodeGo at h9
         rw [if_neg (by have:=HTZ.out;omega)] at h9
         rw [h9]
         exact Prod.ext h4 hw1⟩
        clear hw1
        have hnum:Aside0 (((s.size + 3:Nat):Int) = (s.size:Int) + 3):=⟨by omega⟩
        go_wp2_with (first
         | (go_at_call 112;rw [hWi.out];(with_reducible refine (Tryz.utf8_DecodeRuneInString (s.extract pos s.size) Wi hgi.out.tabs).mono ?_);rintro e W1 ⟨rfl,hB1⟩;rw [HDG.out]
            have hbw1:Aside0 (Below w.heap.size w W1):=⟨u1c hwi.out hwi.out.size hB1⟩
            have hbk1:Aside0 (W1.heap[w.heap.size]? = some (.cells #[.pointer none,.slice none 0 0] 178 (0,0))):=⟨u1h (u1h hbk.out HBW2.out) hB1⟩
            clear hB1)
         | (go_at_call 113
            have hGr:=Tryz.Builder_Grow_fresh_cap w.heap.size w.heap.size (s.size + 3) W1 (Nat.le_refl _) hbk1.out hbw1.out.size (by omega)
            rw [hnum.out] at hGr
            (with_reducible refine hGr.mono ?_)
            clear hGr
            rintro e W2 ⟨rfl,⟨hA2,hB2⟩,p2,cap2,hc2,hn2⟩
            have hbw4:Aside0 (Below w.heap.size w W2):=⟨hbw1.out.trans hB2⟩
            have hbf2:Aside0 (strings_ToValidUTF8.BF w.heap.size [] W2):=⟨Lib.BuilderAtF.of hA2⟩
            have hcap2:Aside0 (W2.cell? ⟨w.heap.size,1,none⟩ = some (.slice p2 0 cap2) ∧ 0 < cap2):=⟨hc2,by omega⟩
            clear hA2 hB2 hc2 hn2)
         | (go_at_call 114;(with_reducible refine (strings_ToValidUTF8.wstr W2 w.heap.size [] (s.extract 0 pos) hbf2.out (by simp;omega) hbw4.out.size).mono ?_);rintro e W3 ⟨rfl,hF3,hB3,hc3⟩
            obtain ⟨v3,hv3,hle3⟩:=hc3 _ hcap2.out.1
            obtain ⟨A3,c3,hcell3,hpos3⟩:=hF3.cap hv3 (Nat.lt_of_lt_of_le hcap2.out.2 hle3)
            have hbw5:Aside0 (Below w.heap.size w W3):=⟨hbw4.out.trans hB3⟩
            have hbf3:=Aside0.mk hF3
            have hcz:((c3:Int) == 0) = false:=by simp;omega
            clear hv3 hle3 hc3 hF3 hB3)
         | (go_at_call 115;(with_reducible refine (Tryz.Builder_Cap_cell w.heap.size A3 _ c3 W3 hcell3).mono ?_);rintro e W4 ⟨rfl,hW4⟩;rw [hW4,ht.out]))
        go_loopg [10,11] t.size (fun kq v10 v11 wq => ∃ (i:Nat) (iv:Bool) (acc:List UInt8),v10 = .bool iv ∧ v11 = .int .i64 i ∧ i ≤ t.size ∧ Aside0 (strings_ToValidUTF8.BF w.heap.size acc wq) ∧ Aside0 (Below w.heap.size w wq) ∧ Aside0 ((i = 0 ∧ iv = false ∧ 0 < t.size) ∨ strings_ToValidUTF8.Has acc) ∧ t.size ≤ kq + i ∧ acc.length + 3 * (t.size - i) ≤ 5000)
        case atStart => exact ⟨0,false,_,rfl,rfl,by omega,hbf3,hbw5,⟨Or.inl ⟨rfl,rfl,by have:=HTZ.out;omega⟩⟩,by omega,by have:=HTZ.out;simp;omega⟩
        case round =>
         obtain ⟨i,iv,acc,rfl,rfl,hi,hbf,hbw6,hhas,hk,hlen⟩:=hrel
         clear h4 hb4 hb5 hw2 hcz hcell3 hpos3 cb1 hnx hit hfu hwd hd1
         by_cases hlt:i < t.size
         · obtain ⟨g1,rfl⟩:∃ g1,gk = g1 + 1:=⟨gk - 1,by omega⟩
           by_cases h128:(t[i]'hlt).toNat < 128
           · have hci:decide (((t[i]'hlt).toNat:Int) < 128) = true:=by simp;omega
             have hH:Aside0 (strings_ToValidUTF8.Has acc):=⟨by
              rcases hhas.out with ⟨h1,_,h3⟩ | h9
              · exfalso
                subst h1
                have h2:=decode_ascii t 0 h3 h128
                rw [ht0.out] at h2
                injection h2 with h2 _
                omega
              · exact h9⟩
             go_wp2_with (go_at_call 116;(with_reducible refine (strings_ToValidUTF8.wbyte wr w.heap.size acc (t[i]'hlt) hbf.out (by omega) hbw6.out.size).mono ?_);rintro e W5 ⟨rfl,hF5,hB5⟩;have HF5:=Aside0.mk hF5;have HB5:=Aside0.mk hB5;clear hF5 hB5)
             go_roundg g1
             case rel => exact ⟨i + 1,false,acc ++ [t[i]'hlt],rfl,by go_num,by omega,HF5,⟨hbw6.out.trans HB5.out⟩,⟨Or.inr (hH.out.more _)⟩,by omega,by simp only [List.length_append,List.length_cons,List.length_nil];omega⟩
             case measure => omega
           · have hci:decide (((t[i]'hlt).toNat:Int) < 128) = false:=by simp;omega
             have HGr:Aside0 (strings_ToValidUTF8.Gd wr):=⟨HG.out.below hbw6.out⟩
             have HD:Aside0 (Lib.decodeGo (t.extract i t.size) = Utf8.decode t i):=⟨Lib.decodeGo_extract t i hlt⟩
             have hwd:=Base.width_pos t i hlt
             have hwl:=strings_ToValidUTF8.width_le t i hlt
             obtain ⟨x,hx⟩:∃ x,Aside0 (Utf8.decode t i = x):=⟨_,⟨rfl⟩⟩
             rw [hx.out] at HD hwd hwl
             obtain ⟨ru,wd⟩:=x
             simp only at hwd hwl
             by_cases hw1:wd = 1
             · subst hw1
               cases iv with
               | false =>
                 go_wp2_with (first
                  | (go_at_call 112;(with_reducible refine (Tryz.utf8_DecodeRuneInString (t.extract i t.size) wr HGr.out.tabs).mono ?_);rintro e W4 ⟨rfl,hB4⟩;rw [HD.out];have HB4:=Aside0.mk hB4;clear hB4)
                  | (go_at_call 114;(with_reducible refine (strings_ToValidUTF8.wstr W4 w.heap.size acc ⟨#[239,191,189]⟩ (hbf.out.below HB4.out) (by rw [HREP.out];omega) (Nat.le_trans hbw6.out.size HB4.out.size)).mono ?_);rintro e W5 ⟨rfl,hF5,hB5,_⟩
                     have HF5:=Aside0.mk hF5
                     have HB5:Aside0 (Below w.heap.size w W5):=⟨(u1c hbw6.out hbw6.out.size HB4.out).trans hB5⟩
                     clear hF5 hB5))
                 go_roundg g1
                 case rel => exact ⟨i + 1,true,acc ++ [239,191,189],rfl,by go_num,by omega,HF5,HB5,⟨Or.inr ⟨acc,[],by simp⟩⟩,by omega,by simp only [List.length_append,List.length_cons,List.length_nil];omega⟩
                 case measure => omega
               | true =>
                 have hH:Aside0 (strings_ToValidUTF8.Has acc):=⟨by
                  rcases hhas.out with ⟨_,h1,_⟩ | h9
                  · cases h1
                  · exact h9⟩
                 go_wp2_with (go_at_call 112;(with_reducible refine (Tryz.utf8_DecodeRuneInString (t.extract i t.size) wr HGr.out.tabs).mono ?_);rintro e W4 ⟨rfl,hB4⟩;rw [HD.out];have HB4:=Aside0.mk hB4;clear hB4)
                 go_roundg g1
                 case rel => exact ⟨i + 1,true,acc,rfl,by go_num,by omega,⟨hbf.out.below HB4.out⟩,⟨u1c hbw6.out hbw6.out.size HB4.out⟩,⟨Or.inr hH.out⟩,by omega,by omega⟩
                 case measure => omega
             · have hw2:((wd:Int) == 1) = false:=by simp;omega
               have hH:Aside0 (strings_ToValidUTF8.Has acc):=⟨by
                rcases hhas.out with ⟨h1,_,h3⟩ | h9
                · exfalso
                  subst h1
                  have h2:=hx.out
                  rw [ht0.out] at h2
                  injection h2 with _ h2
                  exact hw1 h2.symm
                · exact h9⟩
               clear hw1
               have hex:Aside0 ((t.extract i (i + wd)).data.toList.length = wd):=⟨by
                rw [Base.extract_list,List.length_take,List.length_drop,data_length]
                omega⟩
               have hnum2:Aside0 ((t.extract i (i + wd)).size = wd):=⟨by rw [← data_length,hex.out]⟩
               go_wp2_with (first
                | (go_at_call 112;(with_reducible refine (Tryz.utf8_DecodeRuneInString (t.extract i t.size) wr HGr.out.tabs).mono ?_);rintro e W4 ⟨rfl,hB4⟩;rw [HD.out];have HB4:=Aside0.mk hB4;clear hB4)
                | (go_at_call 114;(with_reducible refine (strings_ToValidUTF8.wstr W4 w.heap.size acc (t.extract i (i + wd)) (hbf.out.below HB4.out) (by rw [hnum2.out];omega) (Nat.le_trans hbw6.out.size HB4.out.size)).mono ?_);rintro e W5 ⟨rfl,hF5,hB5,_⟩
                   have HF5:=Aside0.mk hF5
                   have HB5:Aside0 (Below w.heap.size w W5):=⟨(u1c hbw6.out hbw6.out.size HB4.out).trans hB5⟩
                   clear hF5 hB5))
               go_roundg g1
               case rel => exact ⟨i + wd,false,acc ++ (t.extract i (i + wd)).data.toList,rfl,by go_num,by omega,HF5,HB5,⟨Or.inr (hH.out.more _)⟩,by omega,by rw [List.length_append,hex.out];omega⟩
               case measure => omega
         · have hH:Aside0 (strings_ToValidUTF8.Has acc):=⟨by
            rcases hhas.out with ⟨h1,_,h3⟩ | h9
            · exfalso
              omega
            · exact h9⟩
           go_wp2_with (go_at_call 117;(with_reducible refine (Tryz.Builder_String_any_f w.heap.size w.heap.size acc wr hbf.out.is hbw6.out.size).mono ?_);rintro e W5 ⟨rfl,_,hB5⟩;have HB5:=Aside0.mk hB5;clear hB5)
           go_ret
           exact ⟨⟨acc.toArray⟩,rfl,hbw6.out.trans HB5.out,by simp [ByteArray.size];omega,fun _ => hH.out,fun h9 => absurd h9 (by rw [hbad.out];decide)⟩
      · have hw2:(((Utf8.decode s pos).2:Int) == 1) = false:=by simp;omega
        have Hg:Aside0 (decide (Utf8.decode s pos = (65533,1)) = false):=⟨by
         simp only [decide_eq_false_iff_not]
         intro h9
         exact hw1 (by rw [h9])⟩
        clear hw1
        go_wp2_with (go_at_call 112;rw [hWi.out];(with_reducible refine (Tryz.utf8_DecodeRuneInString (s.extract pos s.size) Wi hgi.out.tabs).mono ?_);rintro e W1 ⟨rfl,hB1⟩;rw [HDG.out];have HB1:=Aside0.mk hB1;clear hB1)
        go_roundw
        case rel =>
         refine ⟨pos + (Utf8.decode s pos).2,f,rfl,u1h HIT.out HB1.out,⟨u1c HBW2.out HBW2.out.size HB1.out⟩,⟨?_⟩,by omega⟩
         have h2:=HE.out
         rw [Hg.out,Bool.false_or] at h2
         exact h2
        case measure =>
         have e1:=u1h HIT.out HB1.out
         simp only [World.iterPos,e1,hit]
         omega
    · have hb4:(((Utf8.decode s pos).1:Int) == 65533) = false:=by simp;omega
      have hb5:(((Utf8.decode s pos).1:Int) != 65533) = true:=by simp;omega
      have Hg:Aside0 (decide (Utf8.decode s pos = (65533,1)) = false):=⟨by
       simp only [decide_eq_false_iff_not]
       intro h9
       exact h4 (by rw [h9])⟩
      go_wp2
      go_roundw
      case rel =>
       refine ⟨pos + (Utf8.decode s pos).2,f,rfl,by simpa using hit2,⟨hbw2⟩,⟨?_⟩,by omega⟩
       have h2:=HE.out
       rw [Hg.out,Bool.false_or] at h2
       exact h2
      case measure =>
       simp only [World.iterPos,hit2,hit]
       omega
  · have hnx:∀ ty,(Instr.next (.pointer (some ⟨w.heap.size + 1,0,none⟩)) true ty).run Tryz.prog wr = _:=fun ty => Lib.run_next_end_at wr (w.heap.size + 1) s pos ty hit hp
    have H1:Aside0 (strings_ToValidUTF8.badW s = false):=⟨by
     rw [← HE.out]
     cases fuel with
     | zero => rfl
     | succ f =>
       unfold strings_ToValidUTF8.badFrom
       rw [if_neg hp]⟩
    go_wp2_with (go_at_call 115;(with_reducible refine (Tryz.Builder_Cap_cell w.heap.size none 0 0 wr cb1).mono ?_);rintro e W1 ⟨rfl,hW1⟩;rw [hW1])
    go_ret
    exact ⟨s,rfl,hbw3.out,by omega,fun h9 => absurd h9 (by rw [H1.out];decide),fun _ => rfl⟩
end Go.Proofs.YtgnehcgaplnfkaaGreatDoor.PAll
namespace Go.Proofs.YtgnehcgaplnfkaaGreatDoor.PAll
open Go.RowKit Go.Proofs.YtgnehcgaplnfkaaGreatDoorW.PrintWords Go.Proofs.YtgnehcgaplnfkaaGreatDoorW.PrintLast
set_option linter.unusedVariables false
set_option linter.unusedSimpArgs false
namespace Run
end Run
end Go.Proofs.YtgnehcgaplnfkaaGreatDoor.PAll
namespace Go.Proofs.YtgnehcgaplnfkaaGreatDoor.Opens
open Go.Shelf Go.Lib
theorem u8_extra:U8Extra Tryz.prog Tryz.lays260_ren:=⟨by kernel_rfl,by kernel_rfl,by kernel_rfl,by kernel_rfl,by kernel_rfl,by kernel_rfl,by kernel_rfl⟩
theorem first_data:Rows.laid_unicode_utf8_first = firstData:=by kernel_rfl
theorem accept_data:(Rows.laid_unicode_utf8_acceptRanges:DataW Unit) = acceptData:=by kernel_rfl
theorem gd_of {W:World} {l:List (String × DataW Unit)} (hL:laidMet Tryz.prog l W) (hS:W.ShapedOpen Tryz.prog) (h1:("unicode/utf8.first",Rows.laid_unicode_utf8_first) ∈ l) (h2:("unicode/utf8.acceptRanges",Rows.laid_unicode_utf8_acceptRanges) ∈ l):PAll.strings_ToValidUTF8.Gd W:=by
 have r1:=laidMet.reads hL h1
 have r2:=laidMet.reads hL h2
 rw [first_data] at r1
 rw [accept_data] at r2
 exact ⟨utf8Tabs_of_reads Tryz.lays260 u8_extra r1 r2,Tryz.laysM144.s1_3 W hS⟩
theorem gd_of_row {W:World} {l:List (String × DataW Unit)} (hL:laidMetH Tryz.prog l W) (hp:(l.all fun x => x.2.handleName?.isNone) = true) (hS:W.ShapedOpen Tryz.prog) (h1:("unicode/utf8.first",Rows.laid_unicode_utf8_first) ∈ l) (h2:("unicode/utf8.acceptRanges",Rows.laid_unicode_utf8_acceptRanges) ∈ l):PAll.strings_ToValidUTF8.Gd W :=
 gd_of (by rw [← MakeChecks.laidMetH_plain _ _ _ hp];exact hL) hS h1 h2
end Go.Proofs.YtgnehcgaplnfkaaGreatDoor.Opens
namespace Go.Proofs.YtgnehcgaplnfkaaGreatDoor.PAll
open Go.RowKit Go.Proofs.YtgnehcgaplnfkaaGreatDoorW.PrintWords Go.Proofs.YtgnehcgaplnfkaaGreatDoorW.PrintLast
set_option linter.unusedVariables false
set_option linter.unusedSimpArgs false
namespace Utf
def VR (r:Int):Prop:=∃ c:Nat,r = (c:Int) ∧ c ≤ 1114111 ∧ (c < 55296 ∨ 57344 ≤ c)
theorem vr_decode (s:ByteArray) (pos:Nat):VR ((Utf8.decode s pos).1:Int):=by
 refine ⟨_,rfl,?_⟩
 rw [Lib.decode_N]
 rcases Lib.decodeN_shape (s.data.toList.length - pos) (s.data.toList.getD pos 0).toNat (s.data.toList.getD (pos + 1) 0).toNat (s.data.toList.getD (pos + 2) 0).toNat (s.data.toList.getD (pos + 3) 0).toNat with ⟨c,e⟩ | ⟨c1,c2,c3,cv,e⟩ | ⟨c1,c2,c3,c4,cv,cs,e⟩ | ⟨c1,c2,c3,c4,c5,cv,cw,e⟩ | e
 all_goals (rw [e];dsimp only;omega)
theorem vr_from (s:ByteArray):∀ (f pos:Nat) (r:Int),r ∈ Base.runesFrom s f pos → VR r:=by
 intro f
 induction f with
 | zero => exact fun pos r h => by simp [Base.runesFrom] at h
 | succ f ih =>
   intro pos r h
   by_cases hp:pos < s.size
   · rw [Base.runesFrom_step s f pos hp] at h
     rcases List.mem_cons.1 h with rfl | h
     · exact vr_decode s pos
     · exact ih _ _ h
   · rw [Base.runesFrom_end s _ pos hp] at h
     simp at h
theorem vr_of (s:ByteArray) (r:Int) (h:r ∈ Base.runesOf s):VR r:=vr_from s _ _ r h
theorem bad_step (s:ByteArray) (f pos:Nat) (h:pos < s.size):strings_ToValidUTF8.badFrom s (f + 1) pos = (decide (Utf8.decode s pos = (65533,1)) || strings_ToValidUTF8.badFrom s f (pos + (Utf8.decode s pos).2)):=by
 refine Eq.trans (b:=if pos < s.size then (decide (Utf8.decode s pos = (65533,1)) || strings_ToValidUTF8.badFrom s f (pos + (Utf8.decode s pos).2)) else false) rfl ?_
 rw [if_pos h]
theorem bad_end (s:ByteArray) (f pos:Nat) (h:¬ pos < s.size):strings_ToValidUTF8.badFrom s f pos = false:=by
 cases f with
 | zero => rfl
 | succ f =>
   refine Eq.trans (b:=if pos < s.size then (decide (Utf8.decode s pos = (65533,1)) || strings_ToValidUTF8.badFrom s f (pos + (Utf8.decode s pos).2)) else false) rfl ?_
   rw [if_neg h]
end Utf
end Go.Proofs.YtgnehcgaplnfkaaGreatDoor.PAll
namespace Go.Proofs.YtgnehcgaplnfkaaGreatDoor.Opens
open Go.Deep Go.Proofs.YtgnehcgaplnfkaaGreatDoor.PAll Go.Proofs.YtgnehcgaplnfkaaGreatDoorW.PrintWords Go.Proofs.YtgnehcgaplnfkaaGreatDoorW.PrintLast Go.ChangeShapes
open Go.Proofs.YtgnehcgaplnfkaaGreatDoor.Rows (uptoBulk uptoBulkAll uptoSmall)
set_option linter.unusedVariables false
theorem bulk_pos {H:Type} (d:DataW H):1 ≤ uptoBulk d:=by
 cases d with
 | lit l => cases l <;> simp [uptoBulk]
 | nil => simp [uptoBulk]
 | ptr d => simp [uptoBulk]
 | slice a b => simp [uptoBulk]
 | agg a => simp [uptoBulk]
 | iface t d => simp [uptoBulk]
 | map e => simp [uptoBulk]
 | held h => simp [uptoBulk]
theorem bulk_mem {H:Type}:∀ {l:List (DataW H)} {d:DataW H},d ∈ l → uptoBulk d ≤ uptoBulkAll l
 | a :: l,d,hd => by
   simp only [uptoBulkAll]
   rcases List.mem_cons.1 hd with rfl | hd
   · omega
   · have:=bulk_mem hd
     omega
theorem bulk_len {H:Type}:∀ (l:List (DataW H)),l.length ≤ uptoBulkAll l
 | [] => Nat.zero_le _
 | a :: l => by
   have h1:=bulk_pos a
   have h2:=bulk_len l
   simp only [uptoBulkAll,List.length_cons]
   omega
def OpensU {α:Type} (P:Program) (t:TypeId) (d:Kd α) (Q:α → Prop):Prop :=
 ∀ (H:Type) (enc:TypeId × Value → H) (w:World) (fuel:Nat) (cs:List Value) (x:DataW H × List MemPlace),
   DataW.trod enc P w 0 (fun _ => true) true fuel t cs = some x → uptoBulk x.1 ≤ 1048576 → ∃ v,d.K w v cs ∧ Q v
theorem opensU_string {P:Program} {t:TypeId} (ht:P.underlying t = some .string):OpensU P t Kd.string (fun s => s.size ≤ 1048576):=by
 intro H enc w fuel cs x h hz
 obtain ⟨s,rfl,rfl,hs⟩:=DataW.trod_string ht h
 refine ⟨s,rfl,?_⟩
 simp only [uptoBulk] at hz
 rw [data_length] at hz
 omega
theorem opensU_int {P:Program} {t:TypeId} {k:IntKind} (ht:P.underlying t = some (.int k)):OpensU P t (Kd.int k) (fun n => (Lit.int k n).wf = true):=by
 intro H enc w fuel cs x h _
 obtain ⟨n,rfl,_,hn⟩:=DataW.trod_int ht h
 exact ⟨n,rfl,hn⟩
theorem opensU_iso {α β:Type} {P:Program} {t:TypeId} {d:Kd α} {Q:α → Prop} (f:β → α) (g:α → β) (hg:∀ a,f (g a) = a) (hd:OpensU P t d Q):OpensU P t (Kd.iso d f) (fun x => Q (f x)):=by
 intro H enc w fuel cs x h hz
 obtain ⟨v,h1,h2⟩:=hd H enc w fuel cs x h hz
 exact ⟨g v,by show d.K w (f (g v)) cs;rw [hg];exact h1,by show Q (f (g v));rw [hg];exact h2⟩
def OpensFU {α:Type} (P:Program) (fs:List Field) (o:Nat) (d:Kd α) (Q:α → Prop):Prop :=
 ∀ (H:Type) (enc:TypeId × Value → H) (w:World) (fuel:Nat) (cs:List Value) (ys:List (DataW H × List MemPlace)),
   cs.length = o + d.sz → ys.length = fs.length → (∀ (i:Nat) (f:Field),fs[i]? = some f → DataW.trod enc P w 0 (fun _ => true) true fuel f.type ((cs.drop f.offset).take (P.cellsOf f.type)) = ys[i]?) →
   (∀ y ∈ ys,uptoBulk y.1 ≤ 1048576) → ∃ v,d.K w v (cs.drop o) ∧ Q v
theorem opensFU_one {α:Type} {P:Program} {f:Field} {o:Nat} {d:Kd α} {Q:α → Prop} (hd:OpensU P f.type d Q) (ho:f.offset = o) (hc:P.cellsOf f.type = d.sz):OpensFU P [f] o d Q:=by
 intro H enc w fuel cs ys hl hy h hz
 match ys,hy with
 | [y],_ =>
   have h0:=h 0 f rfl
   simp only [List.getElem?_cons_zero] at h0
   rw [ho,hc,List.take_of_length_le (by rw [List.length_drop];omega)] at h0
   exact hd H enc w fuel _ y h0 (hz y (List.mem_cons_self ..))
theorem opensFU_cons {α β:Type} {P:Program} {f:Field} {fs:List Field} {o:Nat} {d0:Kd α} {d1:Kd β} {Q0:α → Prop} {Q1:β → Prop} (h0:OpensU P f.type d0 Q0) (h1:OpensFU P fs (o + d0.sz) d1 Q1) (ho:f.offset = o) (hc:P.cellsOf f.type = d0.sz) :
 OpensFU P (f :: fs) o (Kd.pair d0 d1) (fun p => Q0 p.1 ∧ Q1 p.2):=by
 intro H enc w fuel cs ys hl hy h hz
 have hsz:(Kd.pair d0 d1).sz = d0.sz + d1.sz:=rfl
 rw [hsz] at hl
 match ys,hy with
 | y :: ys,hy =>
   have g0:=h 0 f rfl
   simp only [List.getElem?_cons_zero] at g0
   rw [ho,hc] at g0
   obtain ⟨v0,k0,q0⟩:=h0 H enc w fuel _ y g0 (hz y (List.mem_cons_self ..))
   obtain ⟨v1,k1,q1⟩:=h1 H enc w fuel cs ys (by omega) (by simpa using hy) (fun i g hg => by
    have:=h (i + 1) g (by simpa using hg)
    simpa using this) (fun z hz2 => hz z (List.mem_cons_of_mem _ hz2))
   refine ⟨(v0,v1),⟨_,_,?_,k0,k1⟩,q0,q1⟩
   rw [← List.drop_drop,List.take_append_drop]
theorem opensU_struct {α:Type} {P:Program} {t:TypeId} {fs:List Field} {d:Kd α} {Q:α → Prop} (ht:P.underlying t = some (.struct fs.toArray)) (h:OpensFU P fs 0 d Q) (hc:P.cellsOf t = d.sz):OpensU P t d Q:=by
 intro H enc w fuel cs x hx hz
 obtain ⟨xs,n,_,rfl,hl,hlen,hf⟩:=DataW.trod_struct ht hx
 have h2:=h H enc w n cs xs (by omega) (by simpa using hlen) (fun i f hi => hf i f (by simpa using hi)) (fun y hy => by
  have h9:=bulk_mem (List.mem_map_of_mem (f:=fun x:DataW H × List MemPlace => x.1) hy)
  simp only [uptoBulk] at hz
  omega)
 simpa using h2
theorem opensU_slice_at {α:Type} [Inhabited α] {P:Program} {t e:TypeId} {d:Kd α} {Q:α → Prop} (hd:OpensU P e d Q) (ht:P.underlying t = some (.slice e)) (hsz:P.cellsOf e = d.sz)
 {H:Type} {enc:TypeId × Value → H} {w:World} {fuel:Nat} {cs:List Value} {x:DataW H × List MemPlace} (h:DataW.trod enc P w 0 (fun _ => true) true fuel t cs = some x) (hz:uptoBulk x.1 ≤ 1048576) :
 ∃ (A:Option Addr) (c:Nat) (xs:List α),cs = [.slice A xs.length c] ∧ xs.length ≤ c ∧ c ≤ maxLen ∧ d.C w A xs.length xs ∧ xs.length ≤ 1048576 ∧ ∀ y ∈ xs,Q y:=by
 rcases open_slice ht h with ⟨rfl,_⟩ | ⟨a,len,cap,m,n,D,Pl,rfl,hb,hl,hm,hme,hx,hel⟩
 · exact ⟨none,0,[],rfl,Nat.le_refl _,Nat.zero_le _,⟨rfl,Nat.zero_le _,fun h => absurd h (by simp)⟩,by simp,fun y hy => by cases hy⟩
 · have hlm:len ≤ m:=by
    rw [hme]
    simp
    exact hl
   subst hx
   simp only [uptoBulk] at hz
   obtain ⟨V,hV⟩:=choose_lt (α:=α) (n:=len) (p:=fun i v => Q v ∧ ∃ cs',w.cells? 0 (a.add (i * P.cellsOf e)) (P.cellsOf e) = some cs' ∧ d.K w v cs') (fun i hi => by
    obtain ⟨cs',h1,h2⟩:=hel i (by omega)
    have h9:=bulk_mem (List.mem_map_of_mem (f:=D) (List.mem_range.2 hi))
    obtain ⟨v,hv,hq⟩:=hd _ _ _ _ _ _ h2 (by simp only;omega)
    exact ⟨v,hq,cs',h1,hv⟩)
   have hlen:((List.range len).map V).length = len:=by simp
   have hbulk:len ≤ 1048576:=by
    have h9:=bulk_len ((List.range len).map D)
    simp only [List.length_map,List.length_range] at h9
    omega
   refine ⟨some a,cap,(List.range len).map V,by rw [hlen],by rw [hlen];exact hl,hm,?_,by rw [hlen];exact hbulk,?_⟩
   · refine ⟨rfl,by rw [hlen];have:maxLen ≤ 9223372036854775807:=by decide
                    omega,fun _ => ⟨a,rfl,fun j p hp => ?_⟩⟩
     have hj:j < len:=by
      have:=(List.getElem?_eq_some_iff.1 hp).1
      omega
     simp [hj] at hp
     subst hp
     obtain ⟨_,cs',h1,h2⟩:=hV j hj
     obtain ⟨_,hl',hc⟩:=World.cells?_some h1
     refine ⟨cs',by rw [hl',hsz],h2,fun i u hu => ?_⟩
     have hi:i < P.cellsOf e:=by
      have:=(List.getElem?_eq_some_iff.1 hu).1
      omega
     have e2:=hc i hi
     rw [hu] at e2
     rw [← e2,← hsz,Go.Deep.add_add]
   · intro y hy
     simp only [List.mem_map,List.mem_range] at hy
     obtain ⟨i,hi,rfl⟩:=hy
     exact (hV i hi).1
theorem opensU_slice {α:Type} [Inhabited α] {P:Program} {t e:TypeId} {d:Kd α} {Q:α → Prop} (n:Nat) (hd:OpensU P e d Q) (ht:P.underlying t = some (.slice e)) (hsz:P.cellsOf e = d.sz) :
 OpensU P t (Kd.slice n d) (fun xs => xs.length ≤ 1048576 ∧ ∀ y ∈ xs,Q y):=by
 intro H enc w fuel cs x h hz
 obtain ⟨A,c,xs,rfl,h1,h2,h3,h4,h5⟩:=opensU_slice_at hd ht hsz h hz
 exact ⟨xs,⟨A,c,rfl,h1,h3⟩,h4,h5⟩
theorem openU_slice_arg {α:Type} [Inhabited α] {P:Program} {t e:TypeId} {d:Kd α} {Q:α → Prop} (hd:OpensU P e d Q) (ht:P.underlying t = some (.slice e)) (hsz:P.cellsOf e = d.sz)
 {H:Type} {enc:TypeId × Value → H} {W w:World} {r:Reach} {b0:Nat} {v:Value} {x:DataW H} {p:List MemPlace} (hz:uptoBulk x ≤ 1048576) (hval:Value.okWide P W r b0 t v) (h:DataW.Trod enc P w 0 (fun _ => true) true t v x p) :
 ∃ (A:Option Addr) (c:Nat) (xs:List α),v = .slice A xs.length c ∧ xs.length ≤ c ∧ c ≤ maxLen ∧ d.C w A xs.length xs ∧ xs.length ≤ 1048576 ∧ ∀ y ∈ xs,Q y:=by
 obtain ⟨a,len,cap,rfl⟩:=Go.WideShapes.okWide_slice ht hval
 obtain ⟨fuel,h⟩:=h
 obtain ⟨A,c,xs,e,h1,h2,h3,h4,h5⟩:=opensU_slice_at hd ht hsz h hz
 injection e with e
 exact ⟨A,c,xs,e,h1,h2,h3,h4,h5⟩
theorem small_two {H:Type} {a b:DataW H} (h:uptoSmall H [a,b] = true):uptoBulk a ≤ 1048576 ∧ uptoBulk b ≤ 1048576:=by
 have h9:uptoBulkAll [a,b] ≤ 1048576:=of_decide_eq_true h
 simp only [uptoBulkAll] at h9
 omega
theorem openU_matcher:OpensU Tryz.prog 79 k79 (fun x => (Lit.int .i64 x.f0).wf = true ∧ x.f1.size ≤ 1048576 ∧ x.f2.size ≤ 1048576) :=
 opensU_iso (d:=Kd.pair (Kd.int .i64) (Kd.pair Kd.string Kd.string)) (fun x:S79 => (x.f0,x.f1,x.f2)) (fun p => ⟨p.1,p.2.1,p.2.2⟩) (fun _ => rfl)
  (opensU_struct Tryz.underlying79 (opensFU_cons (opensU_int Tryz.underlying3) (opensFU_cons (opensU_string Tryz.underlying9) (opensFU_one (opensU_string Tryz.underlying9) rfl (by kernel_rfl)) rfl (by kernel_rfl)) rfl (by kernel_rfl)) (by kernel_rfl))
theorem returns_upto_shaped {f:FuncId} {fn:Func} {H:Type} {enc:TypeId × Value → H} {a:Assume} {C:Checked} {os:Os} {s:OpenSpec} {k:(H:Type) → List (DataW H) → Bool} (hk:s.cond = some k) {F:Stop.Interp} {conds:List PathCond} {apart fresh handsOn again:Bool} {X:World → Array Value → Prop}
 (hX:∀ (w w':World) (args:Array Value),w.heap = w'.heap → X w args → X w' args)
 (own:ownKnob C.prog.godebug = none) (started:os.Started) (noInit:C.prog.inits.idxOf? f = none) (hfn:C.prog.funcs[f]? = some fn)
 (witness:∃ (w:World) (tape:Tape) (i:Input),w.os = os ∧ (w.forCall tape i).Shaped C.prog ∧ i.vars = [] ∧ Input.okWide C.prog (w.forCall tape i) .any w.heap.size f i ∧
   ((s.pre enc C.prog fn conds apart (w.forCall tape i).memory i.args ∧ X (w.forCall tape i).memory i.args) ∧ sizedMet enc C.prog fn s apart (w.forCall tape i).memory i.args) ∧ a.holds C.prog (lone (Frame.enter C.prog f i.args .normal) [] (w.forCall tape i)))
 (contract:∀ (W:World) (base:Nat) (args:Array Value) (ds gs:List (DataW H)) (before:List MemPlace),
   (∀ (j:Nat) t v,fn.params[j]? = some t → args[j]? = some v → Value.okWide C.prog W .any base t v) →
   DataW.Whole enc C.prog fn.params.toList s.vars apart W args.toList ds gs before → k H (ds ++ gs) = true → X W args → W.ShapedOpen C.prog →
   Calls C.prog f args W fun e W' => ∃ v,e = .returned v ∧ (s.at F).post enc C.prog fn apart fresh handsOn again W args v W') :
 ReturnsInHanded a C os f .any (fun w args => (s.pre enc C.prog fn conds apart w args ∧ X w args) ∧ sizedMet enc C.prog fn s apart w args) ((s.at F).post enc C.prog fn apart fresh handsOn again):=by
 refine returnsInHanded_of_calls own started noInit witness ?_
 intro w tape i _ hsh _ hok hpre _
 obtain ⟨_,_,_,fn',hfn',_,_,_,_,hval⟩:=hok
 have e:fn' = fn:=Option.some.inj (hfn'.symm.trans hfn)
 subst e
 obtain ⟨⟨hp,hx⟩,_⟩:=hpre
 obtain ⟨ds,gs,before,hw,_,hkk⟩:=(OpenSpec.pre_some hk conds apart _ _).1 hp
 have hw':=DataW.Whole.of_heap (w':=w.forCall tape i) (by rfl) hw
 refine (contract (w.forCall tape i) w.heap.size i.args ds gs before hval hw' hkk (hX _ _ _ (by rfl) hx) hsh).mono fun e W' ⟨v,he,hp⟩ => ?_
 subst he
 exact ChangeSpec.post_blind hp
theorem witness_upto {H:Type} {enc:TypeId × Value → H} {C:Checked} {os:Os} {f:FuncId} {fn:Func} {s:OpenSpec} {k:(H:Type) → List (DataW H) → Bool} (hk:s.cond = some k) {conds:List PathCond} {apart:Bool} {X:World → Array Value → Prop} (modest:Bool) (w0:World) (args:Array Value) (fuel:Nat) (hos:w0.os = os)
 (hsh:(w0.forCall (fun _ _ => 0) ⟨#[],args,[]⟩).Shaped C.prog)
 (hok:Input.okWideB C.prog (w0.forCall (fun _ _ => 0) ⟨#[],args,[]⟩) f ⟨#[],args,[]⟩ = true)
 {x:List (DataW H) × List (DataW H) × List MemPlace} (hx0:DataW.whole enc C.prog (w0.forCall (fun _ _ => 0) ⟨#[],args,[]⟩).memory fn.params.toList s.vars apart args.toList fuel = some x)
 (hconds:conds.all (PathCond.test C.prog ⟨fn.params.toList,x.1,s.bare.plain.varTypes C.prog,x.2.1⟩) = true) (hkk:k H (x.1 ++ x.2.1) = true)
 (hsz:s.bare.sizedB enc C.prog fn apart (w0.forCall (fun _ _ => 0) ⟨#[],args,[]⟩).memory args fuel = true)
 (hx:X (w0.forCall (fun _ _ => 0) ⟨#[],args,[]⟩).memory args) :
 ∃ (w:World) (tape:Tape) (i:Input),w.os = os ∧ (w.forCall tape i).Shaped C.prog ∧ i.vars = [] ∧ Input.okWide C.prog (w.forCall tape i) .any w.heap.size f i ∧
   ((s.pre enc C.prog fn conds apart (w.forCall tape i).memory i.args ∧ X (w.forCall tape i).memory i.args) ∧ sizedMet enc C.prog fn s apart (w.forCall tape i).memory i.args) ∧ ({ modest:=modest }:Assume).holds C.prog (lone (Frame.enter C.prog f i.args .normal) [] (w.forCall tape i)) :=
 ⟨w0,fun _ _ => 0,⟨#[],args,[]⟩,hos,hsh,(Input.okWide_of_okWideB (base:=0) hok).1,(Input.okWide_of_okWideB hok).2,
   ⟨⟨(OpenSpec.pre_some hk conds apart _ _).2 ⟨x.1,x.2.1,x.2.2,DataW.Whole_of_whole hx0,hconds,hkk⟩,hx⟩,sizedMet_of_sizedB hsz⟩,by
   simp only [Assume.holds]
   exact ⟨by simp,by simp,fun _ => Modest.zero,by simp,by simp⟩⟩
end Go.Proofs.YtgnehcgaplnfkaaGreatDoor.Opens
namespace Go.Proofs.YtgnehcgaplnfkaaGreatDoor.PAll
open Go.RowKit Go.Proofs.YtgnehcgaplnfkaaGreatDoorW.PrintWords Go.Proofs.YtgnehcgaplnfkaaGreatDoorW.PrintLast Go.Proofs.YtgnehcgaplnfkaaGreatDoorW.PrintMore
attribute [local go_sem] u3r u3t u4c u4b u3n u3o u3u u3s
set_option linter.unusedVariables false
set_option linter.unusedSimpArgs false
def u1o.l0:Nat → ByteArray → Int → Option (Bool)
 | 0,_,_ => none
 | k + 1,x0,x3 => if x3 < (x0.size:Int) then (if 0 ≤ x3 then (if (bt x0 x3) ≥ 97 then (if (bt x0 x3) ≤ 122 then (u1o.l0 k x0 (wrap64 (x3 + 1))) else (if (bt x0 x3) ≥ 65 then (if (bt x0 x3) ≤ 90 then (u1o.l0 k x0 (wrap64 (x3 + 1))) else (if ((bt x0 x3) = 95) then (u1o.l0 k x0 (wrap64 (x3 + 1))) else (if x3 = 0 then (some false) else (if (bt x0 x3) < 48 then (some false) else (if (bt x0 x3) > 57 then (some false) else (u1o.l0 k x0 (wrap64 (x3 + 1)))))))) else (if ((bt x0 x3) = 95) then (u1o.l0 k x0 (wrap64 (x3 + 1))) else (if x3 = 0 then (some false) else (if (bt x0 x3) < 48 then (some false) else (if (bt x0 x3) > 57 then (some false) else (u1o.l0 k x0 (wrap64 (x3 + 1))))))))) else (if (bt x0 x3) ≥ 65 then (if (bt x0 x3) ≤ 90 then (u1o.l0 k x0 (wrap64 (x3 + 1))) else (if ((bt x0 x3) = 95) then (u1o.l0 k x0 (wrap64 (x3 + 1))) else (if x3 = 0 then (some false) else (if (bt x0 x3) < 48 then (some false) else (if (bt x0 x3) > 57 then (some false) else (u1o.l0 k x0 (wrap64 (x3 + 1)))))))) else (if ((bt x0 x3) = 95) then (u1o.l0 k x0 (wrap64 (x3 + 1))) else (if x3 = 0 then (some false) else (if (bt x0 x3) < 48 then (some false) else (if (bt x0 x3) > 57 then (some false) else (u1o.l0 k x0 (wrap64 (x3 + 1))))))))) else (none)) else (if (x0.size:Int) ≥ 1 then (some (decide ((x0.size:Int) ≤ 24))) else (some false))
def u1o.f (k:Nat) (a0:ByteArray):Option (Bool):=u1o.l0 k a0 0
set_option maxHeartbeats 8000000 in
set_option maxRecDepth 100000 in
theorem u1o.calls (k:Nat) (a0:ByteArray) (r:Bool) (w:World) (h:u1o.f k a0 = some r) :
 Calls Tryz.prog 69 #[.string a0] w fun e w' => e = .returned (.bool r) ∧ u1w w w':=by
 have H:(u1o.l0 k a0 0) = some r:=h
 clear h
 have H':=Aside0.mk H
 clear H
 go_enter Tryz.func69,Tryz.ntmps69
 go_wp2
 go_loopg [3] k (fun kq v3 w' => ∃ (x3_1:Int),v3 = .int .i64 x3_1 ∧ Aside0 (u1o.l0 kq a0 x3_1 = some r) ∧ Aside0 (kq ≤ k) ∧ u1w w w')
 case atStart => exact ⟨(0),(by first | rfl | (simp;done) | (simp [*];done)),H',⟨Nat.le_refl _⟩,by repeat (first | exact u1w.refl _ | apply u1w.step)⟩
 case round =>
  clear H'
  obtain ⟨x3_1,rfl,HA,HK1,⟨m1,rfl⟩⟩:=hrel
  cases gk with
  | zero => exact absurd HA.out (by simp [u1o.l0])
  | succ k1 =>
    have H:=HA.out
    clear HA
    simp only [u1o.l0] at H
    by_cases c2:x3_1 < (a0.size:Int)
    · rw [if_pos c2] at H
      have c2b0:decide (x3_1 < (a0.size:Int)) = true:=decide_eq_true c2
      clear c2
      by_cases c3:0 ≤ x3_1
      · rw [if_pos c3] at H
        have c3b0:decide (0 ≤ x3_1) = true:=decide_eq_true c3
        clear c3
        by_cases c5:(bt a0 x3_1) ≥ 97
        · rw [if_pos c5] at H
          have c5b0:decide (97 ≤ (bt a0 x3_1)) = true:=decide_eq_true c5
          clear c5
          by_cases c6:(bt a0 x3_1) ≤ 122
          · rw [if_pos c6] at H
            have c6b0:decide ((bt a0 x3_1) ≤ 122) = true:=decide_eq_true c6
            clear c6
            have H':=Aside0.mk H
            clear H
            have p4:0 ≤ (x3_1:Int):=of_decide_eq_true (by first | (with_reducible assumption) | assumption)
            have q4:x3_1 < (a0.size:Int):=of_decide_eq_true (by first | (with_reducible assumption) | assumption)
            have hx4:=bt_at a0 x3_1
            replace p4:=eq_true p4
            replace q4:=eq_true q4
            go_wp2
            go_roundg k1
            case measure => have:=HK1.out;omega
            case rel => exact ⟨(wrap64 (x3_1 + 1)),(by first | rfl | (simp;done) | (simp [*];done)),H',⟨by have:=HK1.out;omega⟩,by repeat (first | exact u1w.refl _ | apply u1w.step)⟩
          · rw [if_neg c6] at H
            have c6b0:decide ((bt a0 x3_1) ≤ 122) = false:=decide_eq_false c6
            clear c6
            by_cases c7:(bt a0 x3_1) ≥ 65
            · rw [if_pos c7] at H
              have c7b0:decide (65 ≤ (bt a0 x3_1)) = true:=decide_eq_true c7
              clear c7
              by_cases c8:(bt a0 x3_1) ≤ 90
              · rw [if_pos c8] at H
                have c8b0:decide ((bt a0 x3_1) ≤ 90) = true:=decide_eq_true c8
                clear c8
                have H':=Aside0.mk H
                clear H
                have p4:0 ≤ (x3_1:Int):=of_decide_eq_true (by first | (with_reducible assumption) | assumption)
                have q4:x3_1 < (a0.size:Int):=of_decide_eq_true (by first | (with_reducible assumption) | assumption)
                have hx4:=bt_at a0 x3_1
                replace p4:=eq_true p4
                replace q4:=eq_true q4
                go_wp2
                go_roundg k1
                case measure => have:=HK1.out;omega
                case rel => exact ⟨(wrap64 (x3_1 + 1)),(by first | rfl | (simp;done) | (simp [*];done)),H',⟨by have:=HK1.out;omega⟩,by repeat (first | exact u1w.refl _ | apply u1w.step)⟩
              · rw [if_neg c8] at H
                have c8b0:decide ((bt a0 x3_1) ≤ 90) = false:=decide_eq_false c8
                clear c8
                by_cases c9:((bt a0 x3_1) = 95)
                · rw [if_pos c9] at H
                  have c9b0:((bt a0 x3_1) == 95) = true:=beq_iff_eq.mpr c9
                  have c9b1:((bt a0 x3_1) != 95) = false:=bne_eq_false_iff_eq.mpr c9
                  clear c9
                  have H':=Aside0.mk H
                  clear H
                  have p4:0 ≤ (x3_1:Int):=of_decide_eq_true (by first | (with_reducible assumption) | assumption)
                  have q4:x3_1 < (a0.size:Int):=of_decide_eq_true (by first | (with_reducible assumption) | assumption)
                  have hx4:=bt_at a0 x3_1
                  replace p4:=eq_true p4
                  replace q4:=eq_true q4
                  go_wp2
                  go_roundg k1
                  case measure => have:=HK1.out;omega
                  case rel => exact ⟨(wrap64 (x3_1 + 1)),(by first | rfl | (simp;done) | (simp [*];done)),H',⟨by have:=HK1.out;omega⟩,by repeat (first | exact u1w.refl _ | apply u1w.step)⟩
                · rw [if_neg c9] at H
                  have c9b0:((bt a0 x3_1) == 95) = false:=beq_eq_false_iff_ne.mpr c9
                  have c9b1:((bt a0 x3_1) != 95) = true:=bne_iff_ne.mpr c9
                  by_cases c10:x3_1 = 0
                  · rw [if_pos c10] at H
                    have c10b0:(x3_1 == 0) = true:=beq_iff_eq.mpr c10
                    have c10b1:(x3_1 != 0) = false:=bne_eq_false_iff_eq.mpr c10
                    clear c10
                    obtain rfl:=Option.some.inj H
                    have p4:0 ≤ (x3_1:Int):=of_decide_eq_true (by first | (with_reducible assumption) | assumption)
                    have q4:x3_1 < (a0.size:Int):=of_decide_eq_true (by first | (with_reducible assumption) | assumption)
                    have hx4:=bt_at a0 x3_1
                    replace p4:=eq_true p4
                    replace q4:=eq_true q4
                    go_wp2
                    go_ret
                    exact ⟨by first | rfl | (simp;done) | (simp [*];done),by repeat (first | exact u1w.refl _ | apply u1w.step)⟩
                  · rw [if_neg c10] at H
                    have c10b0:(x3_1 == 0) = false:=beq_eq_false_iff_ne.mpr c10
                    have c10b1:(x3_1 != 0) = true:=bne_iff_ne.mpr c10
                    by_cases c11:(bt a0 x3_1) < 48
                    · rw [if_pos c11] at H
                      have c11b0:decide ((bt a0 x3_1) < 48) = true:=decide_eq_true c11
                      clear c11
                      obtain rfl:=Option.some.inj H
                      have p4:0 ≤ (x3_1:Int):=of_decide_eq_true (by first | (with_reducible assumption) | assumption)
                      have q4:x3_1 < (a0.size:Int):=of_decide_eq_true (by first | (with_reducible assumption) | assumption)
                      have hx4:=bt_at a0 x3_1
                      replace p4:=eq_true p4
                      replace q4:=eq_true q4
                      go_wp2
                      go_ret
                      exact ⟨by first | rfl | (simp;done) | (simp [*];done),by repeat (first | exact u1w.refl _ | apply u1w.step)⟩
                    · rw [if_neg c11] at H
                      have c11b0:decide ((bt a0 x3_1) < 48) = false:=decide_eq_false c11
                      clear c11
                      by_cases c12:(bt a0 x3_1) > 57
                      · rw [if_pos c12] at H
                        have c12b0:decide (57 < (bt a0 x3_1)) = true:=decide_eq_true c12
                        clear c12
                        obtain rfl:=Option.some.inj H
                        have p4:0 ≤ (x3_1:Int):=of_decide_eq_true (by first | (with_reducible assumption) | assumption)
                        have q4:x3_1 < (a0.size:Int):=of_decide_eq_true (by first | (with_reducible assumption) | assumption)
                        have hx4:=bt_at a0 x3_1
                        replace p4:=eq_true p4
                        replace q4:=eq_true q4
                        go_wp2
                        go_ret
                        exact ⟨by first | rfl | (simp;done) | (simp [*];done),by repeat (first | exact u1w.refl _ | apply u1w.step)⟩
                      · rw [if_neg c12] at H
                        have c12b0:decide (57 < (bt a0 x3_1)) = false:=decide_eq_false c12
                        clear c12
                        have H':=Aside0.mk H
                        clear H
                        have p4:0 ≤ (x3_1:Int):=of_decide_eq_true (by first | (with_reducible assumption) | assumption)
                        have q4:x3_1 < (a0.size:Int):=of_decide_eq_true (by first | (with_reducible assumption) | assumption)
                        have hx4:=bt_at a0 x3_1
                        replace p4:=eq_true p4
                        replace q4:=eq_true q4
                        go_wp2
                        go_roundg k1
                        case measure => have:=HK1.out;omega
                        case rel => exact ⟨(wrap64 (x3_1 + 1)),(by first | rfl | (simp;done) | (simp [*];done)),H',⟨by have:=HK1.out;omega⟩,by repeat (first | exact u1w.refl _ | apply u1w.step)⟩
            · rw [if_neg c7] at H
              have c7b0:decide (65 ≤ (bt a0 x3_1)) = false:=decide_eq_false c7
              clear c7
              by_cases c13:((bt a0 x3_1) = 95)
              · rw [if_pos c13] at H
                have c13b0:((bt a0 x3_1) == 95) = true:=beq_iff_eq.mpr c13
                have c13b1:((bt a0 x3_1) != 95) = false:=bne_eq_false_iff_eq.mpr c13
                clear c13
                have H':=Aside0.mk H
                clear H
                have p4:0 ≤ (x3_1:Int):=of_decide_eq_true (by first | (with_reducible assumption) | assumption)
                have q4:x3_1 < (a0.size:Int):=of_decide_eq_true (by first | (with_reducible assumption) | assumption)
                have hx4:=bt_at a0 x3_1
                replace p4:=eq_true p4
                replace q4:=eq_true q4
                go_wp2
                go_roundg k1
                case measure => have:=HK1.out;omega
                case rel => exact ⟨(wrap64 (x3_1 + 1)),(by first | rfl | (simp;done) | (simp [*];done)),H',⟨by have:=HK1.out;omega⟩,by repeat (first | exact u1w.refl _ | apply u1w.step)⟩
              · rw [if_neg c13] at H
                have c13b0:((bt a0 x3_1) == 95) = false:=beq_eq_false_iff_ne.mpr c13
                have c13b1:((bt a0 x3_1) != 95) = true:=bne_iff_ne.mpr c13
                by_cases c14:x3_1 = 0
                · rw [if_pos c14] at H
                  have c14b0:(x3_1 == 0) = true:=beq_iff_eq.mpr c14
                  have c14b1:(x3_1 != 0) = false:=bne_eq_false_iff_eq.mpr c14
                  clear c14
                  obtain rfl:=Option.some.inj H
                  have p4:0 ≤ (x3_1:Int):=of_decide_eq_true (by first | (with_reducible assumption) | assumption)
                  have q4:x3_1 < (a0.size:Int):=of_decide_eq_true (by first | (with_reducible assumption) | assumption)
                  have hx4:=bt_at a0 x3_1
                  replace p4:=eq_true p4
                  replace q4:=eq_true q4
                  go_wp2
                  go_ret
                  exact ⟨by first | rfl | (simp;done) | (simp [*];done),by repeat (first | exact u1w.refl _ | apply u1w.step)⟩
                · rw [if_neg c14] at H
                  have c14b0:(x3_1 == 0) = false:=beq_eq_false_iff_ne.mpr c14
                  have c14b1:(x3_1 != 0) = true:=bne_iff_ne.mpr c14
                  by_cases c15:(bt a0 x3_1) < 48
                  · rw [if_pos c15] at H
                    have c15b0:decide ((bt a0 x3_1) < 48) = true:=decide_eq_true c15
                    clear c15
                    obtain rfl:=Option.some.inj H
                    have p4:0 ≤ (x3_1:Int):=of_decide_eq_true (by first | (with_reducible assumption) | assumption)
                    have q4:x3_1 < (a0.size:Int):=of_decide_eq_true (by first | (with_reducible assumption) | assumption)
                    have hx4:=bt_at a0 x3_1
                    replace p4:=eq_true p4
                    replace q4:=eq_true q4
                    go_wp2
                    go_ret
                    exact ⟨by first | rfl | (simp;done) | (simp [*];done),by repeat (first | exact u1w.refl _ | apply u1w.step)⟩
                  · rw [if_neg c15] at H
                    have c15b0:decide ((bt a0 x3_1) < 48) = false:=decide_eq_false c15
                    clear c15
                    by_cases c16:(bt a0 x3_1) > 57
                    · rw [if_pos c16] at H
                      have c16b0:decide (57 < (bt a0 x3_1)) = true:=decide_eq_true c16
                      clear c16
                      obtain rfl:=Option.some.inj H
                      have p4:0 ≤ (x3_1:Int):=of_decide_eq_true (by first | (with_reducible assumption) | assumption)
                      have q4:x3_1 < (a0.size:Int):=of_decide_eq_true (by first | (with_reducible assumption) | assumption)
                      have hx4:=bt_at a0 x3_1
                      replace p4:=eq_true p4
                      replace q4:=eq_true q4
                      go_wp2
                      go_ret
                      exact ⟨by first | rfl | (simp;done) | (simp [*];done),by repeat (first | exact u1w.refl _ | apply u1w.step)⟩
                    · rw [if_neg c16] at H
                      have c16b0:decide (57 < (bt a0 x3_1)) = false:=decide_eq_false c16
                      clear c16
                      have H':=Aside0.mk H
                      clear H
                      have p4:0 ≤ (x3_1:Int):=of_decide_eq_true (by first | (with_reducible assumption) | assumption)
                      have q4:x3_1 < (a0.size:Int):=of_decide_eq_true (by first | (with_reducible assumption) | assumption)
                      have hx4:=bt_at a0 x3_1
                      replace p4:=eq_true p4
                      replace q4:=eq_true q4
                      go_wp2
                      go_roundg k1
                      case measure => have:=HK1.out;omega
                      case rel => exact ⟨(wrap64 (x3_1 + 1)),(by first | rfl | (simp;done) | (simp [*];done)),H',⟨by have:=HK1.out;omega⟩,by repeat (first | exact u1w.refl _ | apply u1w.step)⟩
        · rw [if_neg c5] at H
          have c5b0:decide (97 ≤ (bt a0 x3_1)) = false:=decide_eq_false c5
          clear c5
          by_cases c17:(bt a0 x3_1) ≥ 65
          · rw [if_pos c17] at H
            have c17b0:decide (65 ≤ (bt a0 x3_1)) = true:=decide_eq_true c17
            clear c17
            by_cases c18:(bt a0 x3_1) ≤ 90
            · rw [if_pos c18] at H
              have c18b0:decide ((bt a0 x3_1) ≤ 90) = true:=decide_eq_true c18
              clear c18
              have H':=Aside0.mk H
              clear H
              have p4:0 ≤ (x3_1:Int):=of_decide_eq_true (by first | (with_reducible assumption) | assumption)
              have q4:x3_1 < (a0.size:Int):=of_decide_eq_true (by first | (with_reducible assumption) | assumption)
              have hx4:=bt_at a0 x3_1
              replace p4:=eq_true p4
              replace q4:=eq_true q4
              go_wp2
              go_roundg k1
              case measure => have:=HK1.out;omega
              case rel => exact ⟨(wrap64 (x3_1 + 1)),(by first | rfl | (simp;done) | (simp [*];done)),H',⟨by have:=HK1.out;omega⟩,by repeat (first | exact u1w.refl _ | apply u1w.step)⟩
            · rw [if_neg c18] at H
              have c18b0:decide ((bt a0 x3_1) ≤ 90) = false:=decide_eq_false c18
              clear c18
              by_cases c19:((bt a0 x3_1) = 95)
              · rw [if_pos c19] at H
                have c19b0:((bt a0 x3_1) == 95) = true:=beq_iff_eq.mpr c19
                have c19b1:((bt a0 x3_1) != 95) = false:=bne_eq_false_iff_eq.mpr c19
                clear c19
                have H':=Aside0.mk H
                clear H
                have p4:0 ≤ (x3_1:Int):=of_decide_eq_true (by first | (with_reducible assumption) | assumption)
                have q4:x3_1 < (a0.size:Int):=of_decide_eq_true (by first | (with_reducible assumption) | assumption)
                have hx4:=bt_at a0 x3_1
                replace p4:=eq_true p4
                replace q4:=eq_true q4
                go_wp2
                go_roundg k1
                case measure => have:=HK1.out;omega
                case rel => exact ⟨(wrap64 (x3_1 + 1)),(by first | rfl | (simp;done) | (simp [*];done)),H',⟨by have:=HK1.out;omega⟩,by repeat (first | exact u1w.refl _ | apply u1w.step)⟩
              · rw [if_neg c19] at H
                have c19b0:((bt a0 x3_1) == 95) = false:=beq_eq_false_iff_ne.mpr c19
                have c19b1:((bt a0 x3_1) != 95) = true:=bne_iff_ne.mpr c19
                by_cases c20:x3_1 = 0
                · rw [if_pos c20] at H
                  have c20b0:(x3_1 == 0) = true:=beq_iff_eq.mpr c20
                  have c20b1:(x3_1 != 0) = false:=bne_eq_false_iff_eq.mpr c20
                  clear c20
                  obtain rfl:=Option.some.inj H
                  have p4:0 ≤ (x3_1:Int):=of_decide_eq_true (by first | (with_reducible assumption) | assumption)
                  have q4:x3_1 < (a0.size:Int):=of_decide_eq_true (by first | (with_reducible assumption) | assumption)
                  have hx4:=bt_at a0 x3_1
                  replace p4:=eq_true p4
                  replace q4:=eq_true q4
                  go_wp2
                  go_ret
                  exact ⟨by first | rfl | (simp;done) | (simp [*];done),by repeat (first | exact u1w.refl _ | apply u1w.step)⟩
                · rw [if_neg c20] at H
                  have c20b0:(x3_1 == 0) = false:=beq_eq_false_iff_ne.mpr c20
                  have c20b1:(x3_1 != 0) = true:=bne_iff_ne.mpr c20
                  by_cases c21:(bt a0 x3_1) < 48
                  · rw [if_pos c21] at H
                    have c21b0:decide ((bt a0 x3_1) < 48) = true:=decide_eq_true c21
                    clear c21
                    obtain rfl:=Option.some.inj H
                    have p4:0 ≤ (x3_1:Int):=of_decide_eq_true (by first | (with_reducible assumption) | assumption)
                    have q4:x3_1 < (a0.size:Int):=of_decide_eq_true (by first | (with_reducible assumption) | assumption)
                    have hx4:=bt_at a0 x3_1
                    replace p4:=eq_true p4
                    replace q4:=eq_true q4
                    go_wp2
                    go_ret
                    exact ⟨by first | rfl | (simp;done) | (simp [*];done),by repeat (first | exact u1w.refl _ | apply u1w.step)⟩
                  · rw [if_neg c21] at H
                    have c21b0:decide ((bt a0 x3_1) < 48) = false:=decide_eq_false c21
                    clear c21
                    by_cases c22:(bt a0 x3_1) > 57
                    · rw [if_pos c22] at H
                      have c22b0:decide (57 < (bt a0 x3_1)) = true:=decide_eq_true c22
                      clear c22
                      obtain rfl:=Option.some.inj H
                      have p4:0 ≤ (x3_1:Int):=of_decide_eq_true (by first | (with_reducible assumption) | assumption)
                      have q4:x3_1 < (a0.size:Int):=of_decide_eq_true (by first | (with_reducible assumption) | assumption)
                      have hx4:=bt_at a0 x3_1
                      replace p4:=eq_true p4
                      replace q4:=eq_true q4
                      go_wp2
                      go_ret
                      exact ⟨by first | rfl | (simp;done) | (simp [*];done),by repeat (first | exact u1w.refl _ | apply u1w.step)⟩
                    · rw [if_neg c22] at H
                      have c22b0:decide (57 < (bt a0 x3_1)) = false:=decide_eq_false c22
                      clear c22
                      have H':=Aside0.mk H
                      clear H
                      have p4:0 ≤ (x3_1:Int):=of_decide_eq_true (by first | (with_reducible assumption) | assumption)
                      have q4:x3_1 < (a0.size:Int):=of_decide_eq_true (by first | (with_reducible assumption) | assumption)
                      have hx4:=bt_at a0 x3_1
                      replace p4:=eq_true p4
                      replace q4:=eq_true q4
                      go_wp2
                      go_roundg k1
                      case measure => have:=HK1.out;omega
                      case rel => exact ⟨(wrap64 (x3_1 + 1)),(by first | rfl | (simp;done) | (simp [*];done)),H',⟨by have:=HK1.out;omega⟩,by repeat (first | exact u1w.refl _ | apply u1w.step)⟩
          · rw [if_neg c17] at H
            have c17b0:decide (65 ≤ (bt a0 x3_1)) = false:=decide_eq_false c17
            clear c17
            by_cases c23:((bt a0 x3_1) = 95)
            · rw [if_pos c23] at H
              have c23b0:((bt a0 x3_1) == 95) = true:=beq_iff_eq.mpr c23
              have c23b1:((bt a0 x3_1) != 95) = false:=bne_eq_false_iff_eq.mpr c23
              clear c23
              have H':=Aside0.mk H
              clear H
              have p4:0 ≤ (x3_1:Int):=of_decide_eq_true (by first | (with_reducible assumption) | assumption)
              have q4:x3_1 < (a0.size:Int):=of_decide_eq_true (by first | (with_reducible assumption) | assumption)
              have hx4:=bt_at a0 x3_1
              replace p4:=eq_true p4
              replace q4:=eq_true q4
              go_wp2
              go_roundg k1
              case measure => have:=HK1.out;omega
              case rel => exact ⟨(wrap64 (x3_1 + 1)),(by first | rfl | (simp;done) | (simp [*];done)),H',⟨by have:=HK1.out;omega⟩,by repeat (first | exact u1w.refl _ | apply u1w.step)⟩
            · rw [if_neg c23] at H
              have c23b0:((bt a0 x3_1) == 95) = false:=beq_eq_false_iff_ne.mpr c23
              have c23b1:((bt a0 x3_1) != 95) = true:=bne_iff_ne.mpr c23
              by_cases c24:x3_1 = 0
              · rw [if_pos c24] at H
                have c24b0:(x3_1 == 0) = true:=beq_iff_eq.mpr c24
                have c24b1:(x3_1 != 0) = false:=bne_eq_false_iff_eq.mpr c24
                clear c24
                obtain rfl:=Option.some.inj H
                have p4:0 ≤ (x3_1:Int):=of_decide_eq_true (by first | (with_reducible assumption) | assumption)
                have q4:x3_1 < (a0.size:Int):=of_decide_eq_true (by first | (with_reducible assumption) | assumption)
                have hx4:=bt_at a0 x3_1
                replace p4:=eq_true p4
                replace q4:=eq_true q4
                go_wp2
                go_ret
                exact ⟨by first | rfl | (simp;done) | (simp [*];done),by repeat (first | exact u1w.refl _ | apply u1w.step)⟩
              · rw [if_neg c24] at H
                have c24b0:(x3_1 == 0) = false:=beq_eq_false_iff_ne.mpr c24
                have c24b1:(x3_1 != 0) = true:=bne_iff_ne.mpr c24
                by_cases c25:(bt a0 x3_1) < 48
                · rw [if_pos c25] at H
                  have c25b0:decide ((bt a0 x3_1) < 48) = true:=decide_eq_true c25
                  clear c25
                  obtain rfl:=Option.some.inj H
                  have p4:0 ≤ (x3_1:Int):=of_decide_eq_true (by first | (with_reducible assumption) | assumption)
                  have q4:x3_1 < (a0.size:Int):=of_decide_eq_true (by first | (with_reducible assumption) | assumption)
                  have hx4:=bt_at a0 x3_1
                  replace p4:=eq_true p4
                  replace q4:=eq_true q4
                  go_wp2
                  go_ret
                  exact ⟨by first | rfl | (simp;done) | (simp [*];done),by repeat (first | exact u1w.refl _ | apply u1w.step)⟩
                · rw [if_neg c25] at H
                  have c25b0:decide ((bt a0 x3_1) < 48) = false:=decide_eq_false c25
                  clear c25
                  by_cases c26:(bt a0 x3_1) > 57
                  · rw [if_pos c26] at H
                    have c26b0:decide (57 < (bt a0 x3_1)) = true:=decide_eq_true c26
                    clear c26
                    obtain rfl:=Option.some.inj H
                    have p4:0 ≤ (x3_1:Int):=of_decide_eq_true (by first | (with_reducible assumption) | assumption)
                    have q4:x3_1 < (a0.size:Int):=of_decide_eq_true (by first | (with_reducible assumption) | assumption)
                    have hx4:=bt_at a0 x3_1
                    replace p4:=eq_true p4
                    replace q4:=eq_true q4
                    go_wp2
                    go_ret
                    exact ⟨by first | rfl | (simp;done) | (simp [*];done),by repeat (first | exact u1w.refl _ | apply u1w.step)⟩
                  · rw [if_neg c26] at H
                    have c26b0:decide (57 < (bt a0 x3_1)) = false:=decide_eq_false c26
                    clear c26
                    have H':=Aside0.mk H
                    clear H
                    have p4:0 ≤ (x3_1:Int):=of_decide_eq_true (by first | (with_reducible assumption) | assumption)
                    have q4:x3_1 < (a0.size:Int):=of_decide_eq_true (by first | (with_reducible assumption) | assumption)
                    have hx4:=bt_at a0 x3_1
                    replace p4:=eq_true p4
                    replace q4:=eq_true q4
                    go_wp2
                    go_roundg k1
                    case measure => have:=HK1.out;omega
                    case rel => exact ⟨(wrap64 (x3_1 + 1)),(by first | rfl | (simp;done) | (simp [*];done)),H',⟨by have:=HK1.out;omega⟩,by repeat (first | exact u1w.refl _ | apply u1w.step)⟩
      · rw [if_neg c3] at H
        exact absurd H (by simp)
    · rw [if_neg c2] at H
      have c2b0:decide (x3_1 < (a0.size:Int)) = false:=decide_eq_false c2
      clear c2
      by_cases c27:(a0.size:Int) ≥ 1
      · rw [if_pos c27] at H
        have c27b0:decide (1 ≤ (a0.size:Int)) = true:=decide_eq_true c27
        have c27b1:decide (1 ≤ a0.size) = true:=decide_eq_true (by omega)
        clear c27
        obtain rfl:=Option.some.inj H
        go_wp2
        go_ret
        exact ⟨by first | rfl | (simp;done) | (simp [*];done),by repeat (first | exact u1w.refl _ | apply u1w.step)⟩
      · rw [if_neg c27] at H
        have c27b0:decide (1 ≤ (a0.size:Int)) = false:=decide_eq_false c27
        have c27b1:decide (1 ≤ a0.size) = false:=decide_eq_false (by omega)
        clear c27
        obtain rfl:=Option.some.inj H
        go_wp2
        go_ret
        exact ⟨by first | rfl | (simp;done) | (simp [*];done),by repeat (first | exact u1w.refl _ | apply u1w.step)⟩
end Go.Proofs.YtgnehcgaplnfkaaGreatDoor.PAll
