/- Texts of this seat, joined in the order in which they build. -/
import Derived.Test.YtgnehcgaplnfkaaGreatDoorBv1
import Derived.Test.YtgnehcgaplnfkaaGreatDoorGx55Bv
import Derived.Test.YtgnehcgaplnfkaaGreatDoorBv2
import Derived.Test.YtgnehcgaplnfkaaGreatDoorBv5
import Derived.Test.YtgnehcgaplnfkaaGreatDoorBv3
import Derived.Lib.IndexLaws
import Derived.Test.YtgnehcgaplnfkaaGreatDoorBv4
namespace Go.Proofs.YtgnehcgaplnfkaaGreatDoor.PAll
open Go.RowKit Go.Proofs.YtgnehcgaplnfkaaGreatDoorW.PrintWords Go.Proofs.YtgnehcgaplnfkaaGreatDoorW.PrintLast Go.Proofs.YtgnehcgaplnfkaaGreatDoorW.PrintMore
attribute [local go_sem] u3o u3n u3x u3w u3j u3i u3p u3q
set_option linter.unusedVariables false
set_option linter.unusedSimpArgs false
def u2e.okB (p:ByteArray):Bool:=!uw.early p && uw.okN (Base.runesOf p)
def u2e.f (a0:ByteArray):Option Int:=if a0.size ≤ 35184372088830 then some (if u2e.okB a0 = true then 0 else 5) else none
set_option maxHeartbeats 4000000 in
theorem u2e.calls (p:ByteArray) (r:Int) (w:World) (h:u2e.f p = some r):Calls Tryz.prog 90 #[.string p] w fun e w' => e = .returned (.int .i64 r) ∧ Below w.heap.size w w':=by
 unfold u2e.f at h
 by_cases hs:p.size ≤ 35184372088830
 · rw [if_pos hs] at h
   obtain rfl:=Option.some.inj h
   clear h
   cases he:uw.early p with
   | true =>
     have HE:=Aside0.mk he
     rw [show u2e.okB p = false by unfold u2e.okB;rw [he];rfl,if_neg (by decide)]
     clear he
     go_enter Tryz.func90,Tryz.ntmps90
     go_wp2_with (go_at_call 97;(with_reducible refine (uw.early_calls p w hs HE.out).mono ?_);rintro e W1 ⟨rfl,hB1⟩;unfold uw.zn;have HB1:=Aside0.mk hB1;clear hB1)
     go_ret
     refine ⟨rfl,?_⟩
     repeat (first | exact HB1.out.alloc HB1.out.size _ | (refine Below.setCell ?_ HB1.out.size _))
   | false =>
     have HE:=Aside0.mk he
     obtain ⟨b,hb⟩:∃ b,Aside0 (uw.okN (Base.runesOf p) = b):=⟨_,⟨rfl⟩⟩
     rw [show u2e.okB p = b by unfold u2e.okB;rw [he,hb.out];rfl]
     clear he
     cases b with
     | true =>
       rw [if_pos rfl]
       go_enter Tryz.func90,Tryz.ntmps90
       go_wp2_with (go_at_call 97;(with_reducible refine (uw.full_calls p w HE.out).mono ?_);rintro e W1 ⟨⟨_,rfl,xk,xA,xn,xc,xb,xo,xB,xm,xd,rfl⟩,hB1⟩;rw [hb.out];have HB1:=Aside0.mk hB1;clear hB1)
       go_ret
       refine ⟨rfl,?_⟩
       repeat (first | exact HB1.out.alloc HB1.out.size _ | (refine Below.setCell ?_ HB1.out.size _))
     | false =>
       rw [if_neg (by decide)]
       go_enter Tryz.func90,Tryz.ntmps90
       go_wp2_with (go_at_call 97;(with_reducible refine (uw.full_calls p w HE.out).mono ?_);rintro e W1 ⟨⟨_,rfl,xk,xA,xn,xc,xb,xo,xB,xm,xd,rfl⟩,hB1⟩;rw [hb.out];have HB1:=Aside0.mk hB1;clear hB1)
       go_ret
       refine ⟨rfl,?_⟩
       repeat (first | exact HB1.out.alloc HB1.out.size _ | (refine Below.setCell ?_ HB1.out.size _))
 · rw [if_neg hs] at h
   cases h
abbrev u1m.Mt:=S79
def u1m.okB (x:u1m.Mt):Bool:=u2w.canB x.f0 x.f1 x.f2
def u1m.RetA (P:Prop) (e:Ending):Prop:=∃ i:Int,e = .returned (.int .i64 i) ∧ (0 ≤ i ↔ P)
def u1m.CanB (l:List u1m.Mt):Bool:=decide (l.length ≤ 6) && l.all u1m.okB
theorem u1m.elem {w:World} {A:Option Addr} {l:List u1m.Mt} (h:Kd.C k79 w A l.length l) (x:Nat) (hx:x < l.length) :
 ∃ ad,A = some ad ∧ w.cell? (ad.add (x * 3)) = some (.int .i64 (u1w l x).f0) ∧ w.cell? ⟨(ad.add (x * 3)).block,(ad.add (x * 3)).off + 1,none⟩ = some (.string (u1w l x).f1) ∧ w.cell? ⟨(ad.add (x * 3)).block,(ad.add (x * 3)).off + 2,none⟩ = some (.string (u1w l x).f2):=by
 obtain ⟨ad,e,hc0,hc1,hc2⟩:=at_T79 h (x:Int) (by omega) (by omega)
 exact ⟨ad,e,by simpa using hc0,by simpa using hc1,by simpa using hc2⟩
theorem u1m.rd_get (l:List u1m.Mt) (x:Nat) (hx:x < l.length):u1w l (x:Int) = l[x]'hx:=by simp [u1w,hx]
theorem u1m.test (x:u1m.Mt) (w:World) (hG:strings_ToValidUTF8.Gd w) :
 Calls Tryz.prog 67 #[.agg #[.int .i64 x.f0,.string x.f1,.string x.f2]] w fun e w' => e = .returned (.bool (!u1m.okB x)) ∧ Below w.heap.size w w':=by
 obtain ⟨Wa,hWa⟩:∃ Wa,Aside0 (w.alloc (.cells #[.int .i64 x.f0,.string x.f1,.string x.f2] 79) = Wa):=⟨_,⟨rfl⟩⟩
 have hbl:Below w.heap.size w Wa:=by rw [← hWa.out];exact uj (Below.refl _ _) _
 have HB:=Aside0.mk hbl
 have HG:=Aside0.mk (hG.below hbl)
 obtain ⟨b,hb⟩:∃ b,Aside0 (u1m.okB x = b):=⟨_,⟨rfl⟩⟩
 have HC:Aside0 (u2w.canB x.f0 x.f1 x.f2 = b):=⟨hb.out⟩
 rw [hb.out]
 clear hbl hG
 go_enter Tryz.func67,Tryz.ntmps67
 go_wp2_with (first
  | (go_at_call 68;rw [hWa.out];(with_reducible refine (u2w.calls Wa x.f0 x.f1 x.f2 HG.out).mono ?_);rintro e W1 ⟨rfl,hB1⟩;rw [HC.out];have HB1:=Aside0.mk hB1;clear hB1))
 go_ret
 exact ⟨rfl,u1c HB.out HB.out.size HB1.out⟩
set_option maxHeartbeats 1000000 in
theorem u1m.index (A:Option Addr) (c:Nat) (l:List u1m.Mt) (w:World) (hr:Kd.C k79 w A l.length l) (hm:l.length ≤ 9223372036854775807) (hG:strings_ToValidUTF8.Gd w) :
 Calls Tryz.prog 87 #[.slice A l.length c,.func (.func 67) #[] #[]] w fun e w' =>
  u1m.RetA (l.all u1m.okB = false) e ∧ Below w.heap.size w w':=by
 have HR:=Aside0.mk hr
 have HG:=Aside0.mk hG
 clear hr hG
 go_enter Tryz.func87,Tryz.ntmps87
 go_wp2
 go_loopg [8] (l.length) (fun kq v8 wr => ∃ (x:Nat),x ≤ l.length ∧ v8 = .int .i64 x ∧ Aside0 (∀ j (hj:j < l.length),j < x → u1m.okB (l[j]'hj) = true) ∧ l.length ≤ kq + x ∧ Below w.heap.size w wr)
 case atStart => exact ⟨0,by omega,rfl,⟨fun j _ hj => absurd hj (by omega)⟩,by omega,Below.refl _ _⟩
 case round =>
  obtain ⟨x,hx,rfl,HN,hk,hB⟩:=hrel
  have HB:=Aside0.mk hB
  clear hB
  by_cases hlt:x < l.length
  · obtain ⟨ad,e,hc0,hc1,hc2⟩:=u1m.elem (Kd.C_below HR.out HB.out) x hlt
    subst e
    have HGr:=Aside0.mk (HG.out.below HB.out)
    have HRD:=Aside0.mk (u1m.rd_get l x hlt)
    obtain ⟨y,hy⟩:∃ y,Aside0 (u1w l (x:Int) = y):=⟨_,⟨rfl⟩⟩
    rw [hy.out] at hc0 hc1 hc2 HRD
    cases hb:u1m.okB y with
    | false =>
      have HBF:=Aside0.mk hb
      clear hb
      go_wp2_with (go_at_call 67;(with_reducible refine (u1m.test y _ HGr.out).mono ?_);rintro e W1 ⟨rfl,hb1⟩;rw [HBF.out];have HB1:=Aside0.mk hb1;clear hb1)
      go_ret
      refine ⟨⟨x,rfl,⟨fun _ => ?_,fun _ => by omega⟩⟩,HB.out.trans (HB1.out.mono HB.out.size)⟩
      rw [List.all_eq_false]
      exact ⟨y,by rw [HRD.out];exact List.getElem_mem hlt,by simp [HBF.out]⟩
    | true =>
      have HBF:=Aside0.mk hb
      clear hb
      obtain ⟨g1,rfl⟩:∃ g1,gk = g1 + 1:=⟨gk - 1,by omega⟩
      go_wp2_with (go_at_call 67;(with_reducible refine (u1m.test y _ HGr.out).mono ?_);rintro e W1 ⟨rfl,hb1⟩;rw [HBF.out];have HB1:=Aside0.mk hb1;clear hb1)
      go_roundg g1
      case rel =>
       refine ⟨x + 1,by omega,by go_num,⟨fun j hj hjx => ?_⟩,by omega,HB.out.trans (HB1.out.mono HB.out.size)⟩
       rcases Nat.lt_or_ge j x with h9 | h9
       · exact HN.out j hj h9
       · have:j = x:=by omega
         subst this
         rw [← HRD.out]
         exact HBF.out
      case measure => omega
  · go_wp2
    go_ret
    refine ⟨⟨-1,rfl,⟨fun h => absurd h (by decide),fun h => ?_⟩⟩,HB.out⟩
    exfalso
    rw [List.all_eq_false] at h
    obtain ⟨y,hy,h2⟩:=h
    obtain ⟨j,hj,rfl⟩:=List.getElem_of_mem hy
    exact h2 (HN.out j hj (by omega))
theorem u1m.contains (A:Option Addr) (c:Nat) (l:List u1m.Mt) (w:World) (hr:Kd.C k79 w A l.length l) (hG:strings_ToValidUTF8.Gd w) :
 Calls Tryz.prog 66 #[.slice A l.length c,.func (.func 67) #[] #[]] w fun e w' => e = .returned (.bool (!l.all u1m.okB)) ∧ Below w.heap.size w w':=by
 have hm:=hr.2.1
 go_enter Tryz.func66,Tryz.ntmps66
 go_wp2_with (go_at_call 87;refine (u1m.index _ _ _ _ hr hm hG).mono ?_;rintro e W1 ⟨⟨i,rfl,hi⟩,hb1⟩;have HI:=Aside0.mk hi;clear hi)
 go_ret
 have hd:decide (0 ≤ i) = !l.all u1m.okB:=by
  cases hl:l.all u1m.okB with
  | false => exact decide_eq_true (HI.out.2 hl)
  | true => exact decide_eq_false (fun h => (by have h9:=HI.out.1 h;rw [hl] at h9;cases h9))
 exact ⟨by rw [← hd];rfl,hb1⟩
theorem u1m.calls (A:Option Addr) (c:Nat) (l:List u1m.Mt) (w:World) (hr:Kd.C k79 w A l.length l) (hc:l.length ≤ c) (hG:strings_ToValidUTF8.Gd w) :
 Calls Tryz.prog 36 #[.slice A l.length c] w fun e w' => e = .returned (.bool (u1m.CanB l)) ∧ Below w.heap.size w w':=by
 have HR:=Aside0.mk hr
 have HG:=Aside0.mk hG
 clear hr hG
 by_cases h6:l.length ≤ 6
 · have hd:decide ((l.length:Int) ≤ 6) = true:=decide_eq_true (by omega)
   have HV:Aside0 (u1m.CanB l = l.all u1m.okB):=⟨by unfold u1m.CanB;rw [decide_eq_true h6];rfl⟩
   rw [HV.out]
   obtain ⟨b,hb⟩:∃ b,Aside0 (l.all u1m.okB = b):=⟨_,⟨rfl⟩⟩
   rw [hb.out]
   go_enter Tryz.func36,Tryz.ntmps36
   go_wp2_with (go_at_call 66;refine (u1m.contains A c l w HR.out HG.out).mono ?_;rintro e W1 ⟨rfl,hb1⟩;rw [hb.out])
   go_ret
   exact ⟨by simp,hb1⟩
 · have hd:decide ((l.length:Int) ≤ 6) = false:=decide_eq_false (by omega)
   have HV:Aside0 (u1m.CanB l = false):=⟨by unfold u1m.CanB;rw [decide_eq_false h6];rfl⟩
   rw [HV.out]
   go_enter Tryz.func36,Tryz.ntmps36
   go_wp2
   go_ret
   exact ⟨rfl,Below.refl _ _⟩
-- in the form of the print
def u1m.f (l0:List u1m.Mt):Option Bool:=some (u1m.CanB l0)
theorem u1m.callsP (A0:Option Addr) (c0:Nat) (l0:List u1m.Mt) (r:Bool) (w:World) (hr0:Kd.C k79 w A0 l0.length l0) (hc0:l0.length ≤ c0) (hG:strings_ToValidUTF8.Gd w) (h:u1m.f l0 = some r) :
 Calls Tryz.prog 36 #[.slice A0 l0.length c0] w fun e w' => e = .returned (.bool r) ∧ Below w.heap.size w w':=by
 obtain rfl:=Option.some.inj h
 exact u1m.calls A0 c0 l0 w hr0 hc0 hG
theorem uy.infoM:(Tryz.prog.info? 79).map (fun i => (i.zero,i.size,i.bytes)) = some (some (.agg #[.int .i64 0,.string ⟨#[]⟩,.string ⟨#[]⟩]),3,40):=by kernel_rfl
abbrev uy.SS:=ue.SS
abbrev uy.Mt:=S79
def uy.mats:Nat → uy.SS → List uy.Mt → List uy.Mt × uy.SS
 | 0,s,l => (l,s)
 | n + 1,s,l => uy.mats n (u1l.mat s).2 (l ++ [(u1l.mat s).1])
def uy.out (z:List uy.Mt × uy.SS):List uy.Mt × List Int × Int:=if z.2.bad = true then ([],[],3) else if u1m.CanB z.1 = false then ([],[],5) else (z.1,z.2.b,0)
def uy.dec (l0:List Int):List uy.Mt × List Int × Int:=uy.out (uy.mats (ul.byt ⟨l0,false⟩).1.toNat (ul.byt ⟨l0,false⟩).2 [])
set_option maxHeartbeats 8000000 in
set_option maxRecDepth 10000 in
theorem uy.calls (A0:Option Addr) (c0:Nat) (l0:List Int) (w:World) (hr0:Kd.C (Kd.int .u8) w A0 l0.length l0) (hc0:l0.length ≤ c0) (hl:l0.length ≤ 140737488355328) (h256:∀ y ∈ l0,0 ≤ y ∧ y < 256) (hG:strings_ToValidUTF8.Gd w) :
 Calls Tryz.prog 24 #[.slice A0 l0.length c0] w fun e w' => ∃ v0_ v1_:Value,e = .returned (.tuple #[v0_,v1_,.int .i64 (uy.dec l0).2.2]) ∧ Kd.R k79 79 w' w.heap.size (fun _ => True) v0_ (uy.dec l0).1 ∧ Kd.R (Kd.int .u8) 5 w' w.heap.size (fun _ => True) v1_ (uy.dec l0).2.1 ∧ Below w.heap.size w w':=by
 obtain ⟨⟨hn0,hn1⟩,hb2,hb3⟩:=ul.byt_range (s:=⟨l0,false⟩) h256
 obtain ⟨⟨n,s0⟩,hby⟩:∃ z:Int × uy.SS,ul.byt ⟨l0,false⟩ = z:=⟨_,rfl⟩
 obtain ⟨fin,hfin⟩:∃ fin,Aside0 (uy.dec l0 = fin):=⟨_,⟨rfl⟩⟩
 have HF:Aside0 (uy.out (uy.mats n.toNat s0 []) = fin):=⟨by have h9:=hfin.out;unfold uy.dec at h9;rw [hby] at h9;exact h9⟩
 rw [hfin.out]
 rw [hby] at hn0 hn1 hb2 hb3
 simp only at hn0 hn1 hb2 hb3
 obtain ⟨m,rfl⟩:∃ m:Nat,n = (m:Int):=⟨n.toNat,by omega⟩
 simp only [Int.toNat_natCast] at HF
 have HBY:=Aside0.mk hby
 have HB0:=Aside0.mk h256
 have HB2:=Aside0.mk hb2
 have HB3:Aside0 (s0.b.length ≤ 140737488355328):=⟨Nat.le_trans hb3 hl⟩
 have HM:Aside0 (m < 256):=⟨by omega⟩
 have HC:=Aside0.mk hc0
 obtain ⟨W2,hW2⟩:∃ W2,Aside0 ((w.alloc (.cells #[.slice A0 l0.length c0,.bool false] 104)).alloc (.cells #[.pointer (some ⟨w.heap.size,0,none⟩)] 106) = W2):=⟨_,⟨rfl⟩⟩
 have hbl:Below w.heap.size w W2:=by rw [← hW2.out];exact uj (uj (Below.refl _ _) _) _
 have hx:W2.heap[w.heap.size]? = some (.cells #[.slice A0 l0.length c0,.bool false] 104 (0,0)):=by
  rw [← hW2.out]
  exact u1a (u3d w _) (uj (Below.refl _ _) _)
 have hy:W2.heap[w.heap.size + 1]? = some (.cells #[.pointer (some ⟨w.heap.size,0,none⟩)] 106 (0,0)):=by
  have h9:=u3d (w.alloc (.cells #[.slice A0 l0.length c0,.bool false] 104)) (.cells #[.pointer (some ⟨w.heap.size,0,none⟩)] 106)
  simp only [World.size_alloc] at h9
  rw [← hW2.out]
  exact h9
 have hS:ul.St w W2 w.heap.size (fun k => k < w.heap.size) ⟨l0,false⟩:=⟨hbl,Nat.le_refl _,fun k hk => by omega,A0,c0,hx,hc0,Kd.F_below (Kd.C_F (Kd.heap_int .u8) hr0) hbl⟩
 have HW:=Aside0.mk hbl
 have HX:=Aside0.mk hx
 have HY:=Aside0.mk hy
 have HS:=Aside0.mk hS
 have HG:=Aside0.mk hG
 clear hr0 hc0 hl h256 hb2 hb3 hn0 hn1 hby hbl hx hy hS hG hfin
 go_enter Tryz.func24,Tryz.ntmps24
 go_wp2_with (go_at_call 57;rw [hW2.out];(with_reducible refine (ul.calls w W2 w.heap.size (fun k => k < w.heap.size) ⟨l0,false⟩ HS.out HB0.out).mono ?_);rintro e W1 ⟨rfl,hS1,hK1⟩;rw [HBY.out] at hS1 ⊢;have HS1:=Aside0.mk hS1;have HK1:=Aside0.mk hK1;clear hS1 hK1)
 have hy1:W1.heap[w.heap.size + 1]? = some (.cells #[.pointer (some ⟨w.heap.size,0,none⟩)] 106 (0,0)):=(HK1.out.2 _ (u2m HY.out) (by omega) (by simp)).trans HY.out
 have HY1:=Aside0.mk hy1
 clear hy1
 go_loopg [6,14] m (fun kq v6 v14 wr => ∃ (x:Nat) (s:uy.SS) (l:List uy.Mt),x ≤ m ∧ v14 = .int .i64 x ∧ Aside0 (uy.out (uy.mats (m - x) s l) = fin) ∧ Aside0 (l.length = x) ∧ Aside0 (∀ y ∈ s.b,0 ≤ y ∧ y < 256) ∧ Aside0 (s.b.length ≤ 140737488355328) ∧ Aside0 (Kd.R k79 79 wr w.heap.size (fun k => k ≠ w.heap.size ∧ k ≠ w.heap.size + 1) v6 l) ∧ Aside0 (ul.St w wr w.heap.size (fun k => k < w.heap.size) s) ∧ Aside0 (wr.heap[w.heap.size + 1]? = some (.cells #[.pointer (some ⟨w.heap.size,0,none⟩)] 106 (0,0))) ∧ m ≤ kq + x)
 case atStart => exact ⟨0,s0,[],by omega,rfl,HF,⟨rfl⟩,HB2,HB3,⟨Kd.R_nil _ _ _ _ _⟩,HS1,HY1,by omega⟩
 case round =>
  obtain ⟨x,s,l,hxm,rfl,HN,HLN,HB,HBL,HR,HST,HYr,hk⟩:=hrel
  obtain ⟨A6,c6,e6⟩:=Kd.R_slice HR.out
  subst e6
  have c0:=uk HYr.out 0
  simp only [List.size_toArray,List.length_cons,List.length_nil,List.getElem?_toArray,List.getElem?_cons_zero,List.getElem?_cons_succ] at c0
  by_cases hlt:x < m
  · obtain ⟨g1,rfl⟩:∃ g1,gk = g1 + 1:=⟨gk - 1,by omega⟩
    obtain ⟨⟨zk,za,zb⟩,s',hmat⟩:∃ z s',u1l.mat s = (z,s'):=⟨_,_,rfl⟩
    have HMT:=Aside0.mk hmat
    have hrg:=u1l.mat_range HB.out
    rw [hmat] at hrg
    have HRG:=Aside0.mk hrg
    clear hmat hrg
    go_wp2_with (first
     | (go_at_call 58;(with_reducible refine (u1l.calls w _ w.heap.size (fun k => k < w.heap.size) s HST.out HB.out).mono ?_);rintro e w3 ⟨rfl,hS3,hK3⟩;rw [HMT.out] at hS3 ⊢;have HS3:=Aside0.mk hS3;have HK3:=Aside0.mk hK3;have HR3:=Aside0.mk (Kd.R_keep HR.out hK3 (fun k hk => hk.1));clear hS3 hK3)
     | ((with_reducible refine u2z (b:=.append) (xs:=#[.tmp 16,.tmp 19]) rfl ?_);(try (refine gate_guard (by rfl) ?_;dsimp only));at_builtin;refine Kd.R_append k79 (w0:=w) w.heap.size rfl (.tmp 16) (.tmp 19) 24 79 (.agg #[.int .i64 0,.string ⟨#[]⟩,.string ⟨#[]⟩]) 40 rfl Tryz.underlying24 uy.infoM rfl (by decide) (by decide) _ l (⟨zk,za,zb⟩:uy.Mt) [.int .i64 zk,.string za,.string zb] (fun k => k ≠ w.heap.size ∧ k ≠ w.heap.size + 1) (fun _ => False) rfl rfl (k79_mkM _ _ _ (⟨zk,za,zb⟩:uy.Mt)) (fun _ hk => hk.elim) ?hfr HR3.out HS3.out.below HS3.out.below.size ?hbig ?_;(case hfr => have h7:=HK3.out.1;have h8:=u2m HYr.out;intro k hk;omega);(case hbig => have:=HLN.out;have:=HM.out;omega);intro v6n w5 ho5 hb5 hg5 hat5;have HR5:=Aside0.mk ho5;have HB5:=Aside0.mk hb5;have HG5:=Aside0.mk hg5;clear ho5 hb5 hg5 hat5))
    go_roundg g1
    case rel =>
     have hnr:∀ k,k ≤ w.heap.size + 1 → some k ≠ (Value.slice A6 l.length c6).ownBlock:=fun k hk he => by
      have h8:=HR.out.1 k he.symm
      have h9:=Kd.R_base HR.out k he.symm
      omega
     have hl3:=HK3.out.1
     have hm9:=HM.out
     have hw:wrap64 ((x:Int) + 1) = ((x + 1:Nat):Int):=by unfold wrap64;omega
     have hly:=u2m HYr.out
     refine ⟨x + 1,s',l ++ [⟨zk,za,zb⟩],by omega,congrArg (Value.int .i64) hw,⟨?_⟩,⟨by have:=HLN.out;simp;omega⟩,⟨HRG.out.1⟩,⟨Nat.le_trans HRG.out.2 HBL.out⟩,HR5,⟨HS3.out.move HB5.out (HG5.out.block _ (by omega) (hnr _ (by omega))) (fun k hk hk2 => HG5.out.block k hk2 (hnr _ (by omega)))⟩,⟨(HG5.out.block _ (by omega) (hnr _ (by omega))).trans ((HK3.out.2 _ hly (by omega) (by simp)).trans HYr.out)⟩,by omega⟩
     have h9:=HN.out
     rw [show m - x = (m - (x + 1)) + 1 by omega] at h9
     unfold uy.mats at h9
     rw [HMT.out] at h9
     exact h9
    case measure => omega
  · have hxe:m - x = 0:=by omega
    have HN2:Aside0 (uy.out (l,s) = fin):=⟨by have h9:=HN.out;rw [hxe] at h9;exact h9⟩
    obtain ⟨b,bad⟩:=s
    obtain ⟨A9,c9,⟨k0,k1⟩,⟨f0,f1⟩,hlc,_,hFF⟩:=HST.out.look
    simp only at k0 k1 hlc hFF
    cases bad with
    | true =>
      have HN3:Aside0 (([],[],3) = fin):=⟨by rw [← HN2.out];exact (if_pos rfl).symm⟩
      clear hxe
      go_wp2
      go_ret3
      rw [← HN3.out]
      exact ⟨_,_,rfl,Kd.R_nil _ _ _ _ _,Kd.R_nil _ _ _ _ _,HST.out.below⟩
    | false =>
      cases hcan:u1m.CanB l with
      | false =>
        have HN3:Aside0 (([],[],5) = fin):=⟨by rw [← HN2.out];unfold uy.out;rw [if_neg (fun h9 => by cases h9),if_pos hcan]⟩
        have HCN:=Aside0.mk hcan
        have HRD:=Aside0.mk (Kd.R_reads' HR.out)
        have HGr:=Aside0.mk (HG.out.below HST.out.below)
        clear hxe hcan
        go_wp2_with (go_at_call 36;(with_reducible refine (u1m.calls A6 c6 l _ HRD.out.2.2 HRD.out.2.1 HGr.out).mono ?_);rintro e w4 ⟨rfl,hB4⟩;rw [HCN.out];have HB4:=Aside0.mk hB4;clear hB4)
        go_ret3
        rw [← HN3.out]
        exact ⟨_,_,rfl,Kd.R_nil _ _ _ _ _,Kd.R_nil _ _ _ _ _,u1c HST.out.below HST.out.below.size HB4.out⟩
      | true =>
        have HN3:Aside0 ((l,b,0) = fin):=⟨by rw [← HN2.out];unfold uy.out;rw [if_neg (fun h9 => by cases h9),if_neg (by rw [hcan];decide)]⟩
        have HCN:=Aside0.mk hcan
        have HRD:=Aside0.mk (Kd.R_reads' HR.out)
        have HGr:=Aside0.mk (HG.out.below HST.out.below)
        have HLC:=Aside0.mk hlc
        have HCL:Aside0 (u3h.f b = some b):=⟨if_pos HBL.out⟩
        clear hxe hcan hFF
        go_wp2_with (first
         | (go_at_call 36;(with_reducible refine (u1m.calls A6 c6 l _ HRD.out.2.2 HRD.out.2.1 HGr.out).mono ?_);rintro e w4 ⟨rfl,hB4⟩;rw [HCN.out];have hS4:=HST.out.more hB4;obtain ⟨A8,c8,⟨m0,m1⟩,_,hl8,_,hF8⟩:=hS4.look;simp only at m0 m1 hl8 hF8;have c1:=uk (u1a HYr.out hB4) 0;simp only [List.size_toArray,List.length_cons,List.length_nil,List.getElem?_toArray,List.getElem?_cons_zero,List.getElem?_cons_succ] at c1;have HF8:=Aside0.mk hF8;have HL8:=Aside0.mk hl8;have HB4:=Aside0.mk hB4;clear hB4 hS4 hF8 hl8)
         | (go_at_call 14;(with_reducible refine (u3h.calls A8 c8 b b _ (Kd.F_now HF8.out) HL8.out HCL.out).mono ?_);rintro e w5 ⟨v5,rfl,hR5,hB5⟩;have HR5:=Aside0.mk hR5;have HB5:=Aside0.mk hB5;clear hR5 hB5))
        go_ret3
        rw [← HN3.out]
        have hB:=u1c HST.out.below HST.out.below.size HB4.out
        exact ⟨_,_,rfl,Kd.R_mono (Kd.R_below (Kd.R_below HR.out HB4.out) HB5.out) (fun _ _ => trivial),Kd.R_lower HR5.out hB.size,u1c hB hB.size HB5.out⟩
-- in the form of the print
abbrev u1t.Rw:=S59
def u1t.cn (k:Nat) (x:u1t.Rw):Bool:=(u1s.f k x.f0).getD false
def u1t.RetA (P:Prop) (e:Ending):Prop:=∃ i:Int,e = .returned (.int .i64 i) ∧ (0 ≤ i ↔ P)
theorem u1t.cn_is {k:Nat} {x:u1t.Rw} (h:(u1s.f k x.f0).isSome = true):u1s.f k x.f0 = some (u1t.cn k x):=by
 unfold u1t.cn
 cases h9:u1s.f k x.f0 with
 | none => rw [h9] at h;cases h
 | some b => rfl
theorem u1t.test (k:Nat) (x:u1t.Rw) (A:Option Addr) (c:Nat) (w:World) (hx:x.f0.length ≤ c) (gx:Kd.C k111 w A x.f0.length x.f0) (h:(u1s.f k x.f0).isSome = true) :
 Calls Tryz.prog 33 #[.agg #[.slice A x.f0.length c,.int .i64 x.f1,.int .u64 x.f2]] w fun e w' => e = .returned (.bool (!u1t.cn k x)) ∧ Below w.heap.size w w':=by
 obtain ⟨Wa,hWa⟩:∃ Wa,Aside0 (w.alloc (.cells #[.slice A x.f0.length c,.int .i64 x.f1,.int .u64 x.f2] 59) = Wa):=⟨_,⟨rfl⟩⟩
 have hbl:Below w.heap.size w Wa:=by rw [← hWa.out];exact uj (Below.refl _ _) _
 have HB:=Aside0.mk hbl
 have GX:=Aside0.mk (Kd.C_below gx hbl)
 have HX:=Aside0.mk hx
 obtain ⟨b,hb⟩:∃ b,Aside0 (u1t.cn k x = b):=⟨_,⟨rfl⟩⟩
 have HC:Aside0 (u1s.f k x.f0 = some b):=⟨by rw [← hb.out];exact u1t.cn_is h⟩
 rw [hb.out]
 clear hbl gx hx h
 go_enter Tryz.func33,Tryz.ntmps33
 go_wp2_with (go_at_call 34;rw [hWa.out];(with_reducible refine (u1s.calls k A c x.f0 b Wa GX.out HX.out HC.out).mono ?_);rintro e W1 ⟨rfl,hB1⟩;have HB1:=Aside0.mk hB1;clear hB1)
 go_ret
 exact ⟨rfl,u1c HB.out HB.out.size HB1.out⟩
set_option maxHeartbeats 2000000 in
theorem u1t.index (k:Nat) (A:Option Addr) (c:Nat) (m:List u1t.Rw) (w:World) (hm0:Kd.C k59 w A m.length m) (hm:m.length ≤ 9223372036854775807) (hk:∀ x ∈ m,(u1s.f k x.f0).isSome = true) :
 Calls Tryz.prog 65 #[.slice A m.length c,.func (.func 33) #[] #[]] w fun e w' =>
  u1t.RetA (m.all (u1t.cn k) = false) e ∧ Below w.heap.size w w':=by
 have HM:=Aside0.mk hm0
 have HKS:=Aside0.mk hk
 clear hm0 hk
 go_enter Tryz.func65,Tryz.ntmps65
 go_wp2
 go_loopg [8] (m.length) (fun kq v8 wr => ∃ (x:Nat),x ≤ m.length ∧ v8 = .int .i64 x ∧ Aside0 (∀ j (hj:j < m.length),j < x → u1t.cn k (m[j]'hj) = true) ∧ m.length ≤ kq + x ∧ Below w.heap.size w wr)
 case atStart => exact ⟨0,by omega,rfl,⟨fun j _ hj => absurd hj (by omega)⟩,by omega,Below.refl _ _⟩
 case round =>
  obtain ⟨x,hx,rfl,HN,hk,hB⟩:=hrel
  have HB:=Aside0.mk hB
  clear hB
  by_cases hlt:x < m.length
  · obtain ⟨ad,A1,c1,e,f0,f1,f2,g0,g1⟩:=at_T59 (Kd.C_below HM.out HB.out) (x:Int) (by omega) (by omega)
    subst e
    have HRD:Aside0 (u3z m (x:Int) = m[x]'hlt):=⟨by simp [u3z,hlt]⟩
    obtain ⟨y,hy⟩:∃ y,Aside0 (u3z m (x:Int) = y):=⟨_,⟨rfl⟩⟩
    rw [hy.out] at f0 f1 f2 g0 g1 HRD
    simp only [Int.toNat_natCast] at f0 f1 f2
    have HMY:Aside0 (y ∈ m):=⟨by rw [HRD.out];exact List.getElem_mem hlt⟩
    have GX:=Aside0.mk g1
    have HX:=Aside0.mk g0
    clear g0 g1
    cases hb:u1t.cn k y with
    | false =>
      have HBF:=Aside0.mk hb
      clear hb
      go_wp2_with (go_at_call 33;(with_reducible refine (u1t.test k y A1 c1 _ HX.out GX.out (HKS.out y HMY.out)).mono ?_);rintro e W1 ⟨rfl,hb1⟩;rw [HBF.out];have HB1:=Aside0.mk hb1;clear hb1)
      go_ret
      refine ⟨⟨x,rfl,⟨fun _ => ?_,fun _ => by omega⟩⟩,HB.out.trans (HB1.out.mono HB.out.size)⟩
      rw [List.all_eq_false]
      exact ⟨y,HMY.out,by simp [HBF.out]⟩
    | true =>
      have HBF:=Aside0.mk hb
      clear hb
      obtain ⟨g1,rfl⟩:∃ g1,gk = g1 + 1:=⟨gk - 1,by omega⟩
      go_wp2_with (go_at_call 33;(with_reducible refine (u1t.test k y A1 c1 _ HX.out GX.out (HKS.out y HMY.out)).mono ?_);rintro e W1 ⟨rfl,hb1⟩;rw [HBF.out];have HB1:=Aside0.mk hb1;clear hb1)
      go_roundg g1
      case rel =>
       refine ⟨x + 1,by omega,by go_num,⟨fun j hj hjx => ?_⟩,by omega,HB.out.trans (HB1.out.mono HB.out.size)⟩
       rcases Nat.lt_or_ge j x with h9 | h9
       · exact HN.out j hj h9
       · have:j = x:=by omega
         subst this
         rw [← HRD.out]
         exact HBF.out
      case measure => omega
  · go_wp2
    go_ret
    refine ⟨⟨-1,rfl,⟨fun h => absurd h (by decide),fun h => ?_⟩⟩,HB.out⟩
    exfalso
    rw [List.all_eq_false] at h
    obtain ⟨y,hy,h2⟩:=h
    obtain ⟨j,hj,rfl⟩:=List.getElem_of_mem hy
    exact h2 (HN.out j hj (by omega))
theorem u1t.contains (k:Nat) (A:Option Addr) (c:Nat) (m:List u1t.Rw) (w:World) (hm0:Kd.C k59 w A m.length m) (hk:∀ x ∈ m,(u1s.f k x.f0).isSome = true) :
 Calls Tryz.prog 35 #[.slice A m.length c,.func (.func 33) #[] #[]] w fun e w' => e = .returned (.bool (!m.all (u1t.cn k))) ∧ Below w.heap.size w w':=by
 have hm:=hm0.2.1
 go_enter Tryz.func35,Tryz.ntmps35
 go_wp2_with (go_at_call 65;refine (u1t.index k _ _ _ _ hm0 hm hk).mono ?_;rintro e W1 ⟨⟨i,rfl,hi⟩,hb1⟩;have HI:=Aside0.mk hi;clear hi)
 go_ret
 have hd:decide (0 ≤ i) = !m.all (u1t.cn k):=by
  cases hl:m.all (u1t.cn k) with
  | false => exact decide_eq_true (HI.out.2 hl)
  | true => exact decide_eq_false (fun h => (by have h9:=HI.out.1 h;rw [hl] at h9;cases h9))
 exact ⟨by rw [← hd];rfl,hb1⟩
def u1t.f (k:Nat) (a0:Int) (l1:List u1t.Rw) (l2:List S79) (a3 a4 a5:Int):Option Bool :=
 if a0 = 1 then (if 0 < l1.length ∧ l1.length ≤ 200 then (if l1.all (fun x => (u1s.f k x.f0).isSome) = true then some (l1.all (u1t.cn k)) else none) else some false)
 else if a0 = 2 then some (u1m.CanB l2)
 else some (decide (a0 = 3 ∧ 0 ≤ a5 ∧ a5 ≤ 4611686018427387904))
set_option maxHeartbeats 2000000 in
theorem u1t.callsP (k:Nat) (a0:Int) (A1:Option Addr) (c1:Nat) (l1:List u1t.Rw) (A2:Option Addr) (c2:Nat) (l2:List S79) (a3 a4 a5:Int) (r:Bool) (w:World) (hr1:Kd.C k59 w A1 l1.length l1) (hc1:l1.length ≤ c1) (hr2:Kd.C k79 w A2 l2.length l2) (hc2:l2.length ≤ c2) (hG:strings_ToValidUTF8.Gd w) (h:u1t.f k a0 l1 l2 a3 a4 a5 = some r) :
 Calls Tryz.prog 11 #[.agg #[.int .i64 a0,.slice A1 l1.length c1,.slice A2 l2.length c2,.int .i64 a3,.int .i64 a4,.int .i64 a5]] w fun e w' => e = .returned (.bool r) ∧ Below w.heap.size w w':=by
 obtain ⟨Wa,hWa⟩:∃ Wa,Aside0 (w.alloc (.cells #[.int .i64 a0,.slice A1 l1.length c1,.slice A2 l2.length c2,.int .i64 a3,.int .i64 a4,.int .i64 a5] 26) = Wa):=⟨_,⟨rfl⟩⟩
 have hbl:Below w.heap.size w Wa:=by rw [← hWa.out];exact uj (Below.refl _ _) _
 have HB:=Aside0.mk hbl
 have HR1:=Aside0.mk (Kd.C_below hr1 hbl)
 have HR2:=Aside0.mk (Kd.C_below hr2 hbl)
 have HC2:=Aside0.mk hc2
 have HG:=Aside0.mk (hG.below hbl)
 clear hr1 hr2 hc2 hG hbl
 unfold u1t.f at h
 by_cases h1:a0 = 1
 · subst h1
   rw [if_pos rfl] at h
   by_cases hl:0 < l1.length
   · have d1:decide ((l1.length:Int) > 0) = true:=decide_eq_true (by omega)
     have d1b:decide (0 < (l1.length:Int)) = true:=decide_eq_true (by omega)
     have d1c:decide (0 < l1.length) = true:=decide_eq_true hl
     by_cases hl2:l1.length ≤ 200
     · have d2:decide ((l1.length:Int) ≤ 200) = true:=decide_eq_true (by omega)
       have d2b:decide (l1.length ≤ 200) = true:=decide_eq_true hl2
       rw [if_pos ⟨hl,hl2⟩] at h
       by_cases hall:l1.all (fun x => (u1s.f k x.f0).isSome) = true
       · rw [if_pos hall] at h
         have h:=Option.some.inj h
         have HALL:Aside0 (∀ x ∈ l1,(u1s.f k x.f0).isSome = true):=⟨List.all_eq_true.1 hall⟩
         have HE:=Aside0.mk h
         clear h hall hl hl2
         go_enter Tryz.func11,Tryz.ntmps11
         go_wp2_with (go_at_call 35;rw [hWa.out];refine (u1t.contains k A1 c1 l1 Wa HR1.out HALL.out).mono ?_;rintro e W1 ⟨rfl,hb1⟩;rw [HE.out];have HB1:=Aside0.mk hb1;clear hb1)
         go_ret
         exact ⟨by simp,u1c HB.out HB.out.size HB1.out⟩
       · rw [if_neg hall] at h
         cases h
     · have d2:decide ((l1.length:Int) ≤ 200) = false:=decide_eq_false (by omega)
       have d2b:decide (l1.length ≤ 200) = false:=decide_eq_false hl2
       rw [if_neg (fun h9 => hl2 h9.2)] at h
       obtain rfl:=Option.some.inj h
       clear h hl hl2
       go_enter Tryz.func11,Tryz.ntmps11
       go_wp2
       go_ret
       exact ⟨rfl,by rw [hWa.out];exact HB.out⟩
   · have d1:decide ((l1.length:Int) > 0) = false:=decide_eq_false (by omega)
     have d1b:decide (0 < (l1.length:Int)) = false:=decide_eq_false (by omega)
     have d1c:decide (0 < l1.length) = false:=decide_eq_false hl
     rw [if_neg (fun h9 => hl h9.1)] at h
     obtain rfl:=Option.some.inj h
     clear h hl
     go_enter Tryz.func11,Tryz.ntmps11
     go_wp2
     go_ret
     exact ⟨rfl,by rw [hWa.out];exact HB.out⟩
 · rw [if_neg h1] at h
   have e1:(a0 == 1) = false:=beq_eq_false_iff_ne.2 h1
   have e1b:decide (a0 = 1) = false:=decide_eq_false h1
   by_cases h2:a0 = 2
   · subst h2
     rw [if_pos rfl] at h
     obtain rfl:=Option.some.inj h
     obtain ⟨b,hb⟩:∃ b,Aside0 (u1m.CanB l2 = b):=⟨_,⟨rfl⟩⟩
     rw [hb.out]
     clear h h1 e1 e1b
     go_enter Tryz.func11,Tryz.ntmps11
     go_wp2_with (go_at_call 36;rw [hWa.out];(with_reducible refine (u1m.calls A2 c2 l2 Wa HR2.out HC2.out HG.out).mono ?_);rintro e W1 ⟨rfl,hb1⟩;rw [hb.out];have HB1:=Aside0.mk hb1;clear hb1)
     go_ret
     exact ⟨rfl,u1c HB.out HB.out.size HB1.out⟩
   · rw [if_neg h2] at h
     have e2:(a0 == 2) = false:=beq_eq_false_iff_ne.2 h2
     have e2b:decide (a0 = 2) = false:=decide_eq_false h2
     have h:=Option.some.inj h
     by_cases h3:a0 = 3
     · subst h3
       clear h1 h2 e1 e1b e2 e2b
       by_cases h4:0 ≤ a5
       · have d4:decide (0 ≤ a5) = true:=decide_eq_true h4
         have d4b:decide (a5 ≥ 0) = true:=decide_eq_true h4
         have HE:Aside0 (decide (a5 ≤ 4611686018427387904) = r):=⟨by rw [← h];simp [h4]⟩
         clear h h4
         go_enter Tryz.func11,Tryz.ntmps11
         go_wp2
         go_ret
         exact ⟨by first | rfl | (rw [HE.out];rfl),by rw [hWa.out];exact HB.out⟩
       · have d4:decide (0 ≤ a5) = false:=decide_eq_false h4
         have d4b:decide (a5 ≥ 0) = false:=decide_eq_false h4
         have HE:Aside0 (r = false):=⟨by rw [← h];simp [h4]⟩
         rw [HE.out]
         clear h h4
         go_enter Tryz.func11,Tryz.ntmps11
         go_wp2
         go_ret
         exact ⟨rfl,by rw [hWa.out];exact HB.out⟩
     · have e3:(a0 == 3) = false:=beq_eq_false_iff_ne.2 h3
       have e3b:decide (a0 = 3) = false:=decide_eq_false h3
       have HE:Aside0 (r = false):=⟨by rw [← h];simp [h3]⟩
       rw [HE.out]
       clear h h1 h2 h3
       go_enter Tryz.func11,Tryz.ntmps11
       go_wp2
       go_ret
       exact ⟨rfl,by rw [hWa.out];exact HB.out⟩
mutual
def u1q.j0:Nat → Int → Bool → Int → ByteArray → ByteArray → Option (Bool)
 | 0,_,_,_,_,_ => none
 | k + 1,x8,x9,x108000,x108001,x108002 => if x9 = true then (if x108002.toList = ([]:List UInt8) then (some true) else ((u2y.f x108002).bind fun t109 => (some t109))) else (if x8 = 3 then (u1q.j1 k (x8 == 3) x108000 x108001 x108002) else (u1q.j1 k (x8 == 4) x108000 x108001 x108002))
def u1q.j1:Nat → Bool → Int → ByteArray → ByteArray → Option (Bool)
 | 0,_,_,_,_ => none
 | k + 1,x20,x108000,x108001,x108002 => if x20 = true then ((u2e.f x108002).bind fun t110 => (if t110 = 0 then ((u2v.f x108002).bind fun t111 => (some t111)) else (some false))) else (some false)
end
def u1q.f (k:Nat) (a0_0:Int) (a0_1:ByteArray) (a0_2:ByteArray):Option (Bool):=(u1e.f k a0_1).bind fun t108 => (if t108 = true then (if a0_0 = 1 then (u1q.j0 k a0_0 (a0_0 == 1) a0_0 a0_1 a0_2) else (u1q.j0 k a0_0 (a0_0 == 2) a0_0 a0_1 a0_2)) else (some false))
set_option maxHeartbeats 8000000 in
set_option maxRecDepth 100000 in
theorem u1q.calls (k:Nat) (a0_0:Int) (a0_1:ByteArray) (a0_2:ByteArray) (r:Bool) (w:World) (h:u1q.f k a0_0 a0_1 a0_2 = some r) :
 Calls Tryz.prog 71 #[.agg #[.int .i64 a0_0,.string a0_1,.string a0_2]] w fun e w' => e = .returned (.bool r) ∧ Below w.heap.size w w':=by
 have hu79:=Tryz.underlying79
 have HB:=Aside0.mk (Below.refl w.heap.size w)
 have H:((u1e.f k a0_1).bind fun t108 => (if t108 = true then (if a0_0 = 1 then (u1q.j0 k a0_0 (a0_0 == 1) a0_0 a0_1 a0_2) else (u1q.j0 k a0_0 (a0_0 == 2) a0_0 a0_1 a0_2)) else (some false))) = some r:=h
 clear h
 replace H:=Option.bind_eq_some_iff.mp H
 obtain ⟨t108,A20,H⟩:=H
 replace H:(if t108 = true then (if a0_0 = 1 then (u1q.j0 k a0_0 (a0_0 == 1) a0_0 a0_1 a0_2) else (u1q.j0 k a0_0 (a0_0 == 2) a0_0 a0_1 a0_2)) else (some false)) = some r:=H
 have A2:=Aside0.mk A20
 clear A20
 by_cases c3:t108 = true
 · subst c3
   have H1:(if a0_0 = 1 then (u1q.j0 k a0_0 (a0_0 == 1) a0_0 a0_1 a0_2) else (u1q.j0 k a0_0 (a0_0 == 2) a0_0 a0_1 a0_2)) = some r:=by rw [if_pos rfl] at H;exact H
   clear H
   have H:=H1
   clear H1
   have HC4:=Aside0.mk H
   clear H
   go_enter Tryz.func71,Tryz.ntmps71
   go_upto_if 9 with (first | ((with_reducible refine u4a (N:=1) rfl ?_);refine u4c ?hg (N:=1) ?hd (cs:=#[.int .i64 a0_0,.string a0_1,.string a0_2]) (t:=79) ?hr ?_;(case hd => rfl);(case hg => rfl);(case hr => first | (go_simp;done) | (go_simp;rfl));intro gb107 hg w5 hbox hb;have n0_:=Aside0.mk (u2k (by repeat (first | (with_reducible first | exact HB.out | apply uj | apply ui | apply ur) | exact HB.out)) hb);have n1_:=Aside0.mk (hbox);have n2_:=Aside0.mk ((by rw [hg];exact (u2p (by repeat (first | (with_reducible first | exact HB.out | apply uj | apply ui | apply ur) | exact HB.out))):w.heap.size ≤ gb107));have n3_:=Aside0.mk ((by rw [hg];exact (u2p (by repeat (first | (with_reducible first | exact HB.out | apply uj | apply ui | apply ur) | exact HB.out))):w.heap.size ≤ gb107));clear HB;have HB:=n0_;have BK107:=n1_;have GW107:=n2_;have GE107:=n3_;clear n0_ n1_ n2_ n3_;clear hb hbox hg;have hcz6_0:w5.cell? ⟨gb107,0,none⟩ = some (.int .i64 a0_0):=(uk BK107.out 0).trans rfl;have hcz6_1:w5.cell? ⟨gb107,1,none⟩ = some (.string a0_1):=(uk BK107.out 1).trans rfl;have hcz6_2:w5.cell? ⟨gb107,2,none⟩ = some (.string a0_2):=(uk BK107.out 2).trans rfl;have hfz6_0:=uq BK107.out 0;have hfz6_1:=uq BK107.out 1;have hfz6_2:=uq BK107.out 2) | ((with_reducible refine u3m (f:=69) rfl ?_);refine goesL_ (some 5) rfl rfl Tryz.func69 (by kernel_rfl) rfl #[.string a0_1] rfl (by (try simp only [List.map_toArray,List.map_cons,List.map_nil]);first | done | rfl | (simp only [List.length_drop,List.length_take];rfl)) ?_;(with_reducible refine (u1e.calls k a0_1 true _ A2.out).mono ?_);rintro e w' ⟨rfl,⟨nd,rfl⟩⟩;refine ⟨_,rfl,?_⟩))
   (try simp only [Act.put,List.setIfInBounds_toArray,List.set_cons_zero,List.set_cons_succ])
   go_cut [9] (fun v9 wc => ∃ (kq:Nat) (x9_3:Bool),v9 = .bool x9_3 ∧ Aside0 (u1q.j0 kq a0_0 x9_3 a0_0 a0_1 a0_2 = some r) ∧ Aside0 (kq ≤ k) ∧ Aside0 (wc.heap[gb107]? = some (.cells #[.int .i64 a0_0,.string a0_1,.string a0_2] 79 (0,0))) ∧ Aside0 (Below w.heap.size w wc))
   case first =>
    have H:=HC4.out
    clear HC4
    by_cases c7:a0_0 = 1
    · rw [if_pos c7] at H
      have c7b0:(a0_0 == 1) = true:=beq_iff_eq.mpr c7
      have c7b1:(a0_0 != 1) = false:=bne_eq_false_iff_eq.mpr c7
      clear c7
      (first | rw [c7b0] | (simp only [i64_w,i32_w];rw [c7b0]) | skip)
      have H':=Aside0.mk H
      clear H
      go_wp2
      go_meet
      case rel => exact ⟨_,((a0_0 == 1)),(by first | rfl | (simp;done) | (simp [*];done)),H',⟨by first | omega | exact Nat.le_refl _⟩,⟨by (with_reducible repeat (first | refine u2b ?_ _ | refine u1z ?_ | refine u1k ?_ _));exact BK107.out⟩,⟨by repeat (first | (with_reducible first | exact HB.out | apply uj | apply ui | apply ur | refine u1y ?_ GE107.out) | exact HB.out)⟩⟩
    · rw [if_neg c7] at H
      have c7b0:(a0_0 == 1) = false:=beq_eq_false_iff_ne.mpr c7
      have c7b1:(a0_0 != 1) = true:=bne_iff_ne.mpr c7
      (first | rw [c7b0] | (simp only [i64_w,i32_w];rw [c7b0]) | skip)
      have H':=Aside0.mk H
      clear H
      go_wp2
      go_meet
      case rel => exact ⟨_,((a0_0 == 2)),(by first | rfl | (simp;done) | (simp [*];done)),H',⟨by first | omega | exact Nat.le_refl _⟩,⟨by (with_reducible repeat (first | refine u2b ?_ _ | refine u1z ?_ | refine u1k ?_ _));exact BK107.out⟩,⟨by repeat (first | (with_reducible first | exact HB.out | apply uj | apply ui | apply ur | refine u1y ?_ GE107.out) | exact HB.out)⟩⟩
   case rest =>
    clear HC4
    try clear p2
    try clear c3
    try clear c6
    try clear c7
    try clear c7b0
    try clear c7b1
    try clear hcz6_0
    try clear hcz6_1
    try clear hcz6_2
    try clear hfz6_0
    try clear hfz6_1
    try clear hfz6_2
    obtain ⟨kq,x9_3,rfl,HA,HJ3,BK107,HB⟩:=hcut
    cases kq with
    | zero => exact absurd HA.out (by simp [u1q.j0])
    | succ kj3 =>
      have H:=HA.out
      clear HA
      simp only [u1q.j0] at H
      by_cases c8:x9_3 = true
      · subst c8
        have H1:(if a0_2.toList = ([]:List UInt8) then (some true) else ((u2y.f a0_2).bind fun t109 => (some t109))) = some r:=by rw [if_pos rfl] at H;exact H
        clear H
        have H:=H1
        clear H1
        by_cases c9:a0_2.toList = ([]:List UInt8)
        · rw [if_pos c9] at H
          have c9b0:(a0_2.toList == ([]:List UInt8)) = true:=beq_iff_eq.mpr c9
          have c9b1:(a0_2.toList != ([]:List UInt8)) = false:=bne_eq_false_iff_eq.mpr c9
          clear c9
          obtain rfl:=Option.some.inj H
          have hcz10_0:wc.cell? ⟨gb107,0,none⟩ = some (.int .i64 a0_0):=(uk BK107.out 0).trans rfl
          have hcz10_1:wc.cell? ⟨gb107,1,none⟩ = some (.string a0_1):=(uk BK107.out 1).trans rfl
          have hcz10_2:wc.cell? ⟨gb107,2,none⟩ = some (.string a0_2):=(uk BK107.out 2).trans rfl
          have hfz10_0:=uq BK107.out 0
          have hfz10_1:=uq BK107.out 1
          have hfz10_2:=uq BK107.out 2
          go_wp2
          go_ret
          exact ⟨by first | rfl | (simp [u2i,u2j] <;> rfl) | (simp [*,u2i,u2j] <;> rfl),by repeat (first | (with_reducible first | exact HB.out | apply uj | apply ui | apply ur | refine u1y ?_ GE107.out) | exact HB.out)⟩
        · rw [if_neg c9] at H
          have c9b0:(a0_2.toList == ([]:List UInt8)) = false:=beq_eq_false_iff_ne.mpr c9
          have c9b1:(a0_2.toList != ([]:List UInt8)) = true:=bne_iff_ne.mpr c9
          replace H:=Option.bind_eq_some_iff.mp H
          obtain ⟨t109,A110,H⟩:=H
          replace H:(some t109) = some r:=H
          have A11:=Aside0.mk A110
          clear A110
          obtain rfl:=Option.some.inj H
          have hcz12_0:wc.cell? ⟨gb107,0,none⟩ = some (.int .i64 a0_0):=(uk BK107.out 0).trans rfl
          have hcz12_1:wc.cell? ⟨gb107,1,none⟩ = some (.string a0_1):=(uk BK107.out 1).trans rfl
          have hcz12_2:wc.cell? ⟨gb107,2,none⟩ = some (.string a0_2):=(uk BK107.out 2).trans rfl
          have hfz12_0:=uq BK107.out 0
          have hfz12_1:=uq BK107.out 1
          have hfz12_2:=uq BK107.out 2
          go_wp2_with (first | (go_at_call 70;(with_reducible refine (u2y.calls a0_2 t109 _ A11.out).mono ?_);rintro e w13 ⟨rfl,hb⟩;have n0_:=Aside0.mk (u1a (g:=gb107) (o:=.cells #[.int .i64 a0_0,.string a0_1,.string a0_2] 79 (0,0)) (by (with_reducible repeat (first | refine u2b ?_ _ | refine u1z ?_ | refine u1k ?_ _));exact BK107.out) hb);have n1_:=Aside0.mk (u2k (by repeat (first | (with_reducible first | exact HB.out | apply uj | apply ui | apply ur | refine u1y ?_ GE107.out) | exact HB.out)) hb);clear BK107;clear HB;have BK107:=n0_;have HB:=n1_;clear n0_ n1_;(try clear hb);(try clear hb2);(try clear hk);(try clear hi)))
          go_ret
          exact ⟨by first | rfl | (simp [u2i,u2j] <;> rfl) | (simp [*,u2i,u2j] <;> rfl),by repeat (first | (with_reducible first | exact HB.out | apply uj | apply ui | apply ur | refine u1y ?_ GE107.out) | exact HB.out)⟩
      · replace c8:=Bool.eq_false_iff.mpr c8
        subst c8
        have H1:(if a0_0 = 3 then (u1q.j1 kj3 (a0_0 == 3) a0_0 a0_1 a0_2) else (u1q.j1 kj3 (a0_0 == 4) a0_0 a0_1 a0_2)) = some r:=by rw [if_neg (show ¬ (false = true) by decide)] at H;exact H
        clear H
        have H:=H1
        clear H1
        have HC14:=Aside0.mk H
        clear H
        go_upto_if 20 with (fail)
        go_cut [20] (fun v20 wc => ∃ (kq:Nat) (x20_13:Bool),v20 = .bool x20_13 ∧ Aside0 (u1q.j1 kq x20_13 a0_0 a0_1 a0_2 = some r) ∧ Aside0 (kq ≤ kj3) ∧ Aside0 (wc.heap[gb107]? = some (.cells #[.int .i64 a0_0,.string a0_1,.string a0_2] 79 (0,0))) ∧ Aside0 (Below w.heap.size w wc))
        case first =>
         have H:=HC14.out
         clear HC14
         by_cases c15:a0_0 = 3
         · rw [if_pos c15] at H
           have c15b0:(a0_0 == 3) = true:=beq_iff_eq.mpr c15
           have c15b1:(a0_0 != 3) = false:=bne_eq_false_iff_eq.mpr c15
           clear c15
           (first | rw [c15b0] | (simp only [i64_w,i32_w];rw [c15b0]) | skip)
           have H':=Aside0.mk H
           clear H
           go_wp2
           go_meet
           case rel => exact ⟨_,((a0_0 == 3)),(by first | rfl | (simp;done) | (simp [*];done)),H',⟨by have:=HJ3.out;first | omega | exact Nat.le_refl _⟩,⟨by (with_reducible repeat (first | refine u2b ?_ _ | refine u1z ?_ | refine u1k ?_ _));exact BK107.out⟩,⟨by repeat (first | (with_reducible first | exact HB.out | apply uj | apply ui | apply ur | refine u1y ?_ GE107.out) | exact HB.out)⟩⟩
         · rw [if_neg c15] at H
           have c15b0:(a0_0 == 3) = false:=beq_eq_false_iff_ne.mpr c15
           have c15b1:(a0_0 != 3) = true:=bne_iff_ne.mpr c15
           (first | rw [c15b0] | (simp only [i64_w,i32_w];rw [c15b0]) | skip)
           have H':=Aside0.mk H
           clear H
           go_wp2
           go_meet
           case rel => exact ⟨_,((a0_0 == 4)),(by first | rfl | (simp;done) | (simp [*];done)),H',⟨by have:=HJ3.out;first | omega | exact Nat.le_refl _⟩,⟨by (with_reducible repeat (first | refine u2b ?_ _ | refine u1z ?_ | refine u1k ?_ _));exact BK107.out⟩,⟨by repeat (first | (with_reducible first | exact HB.out | apply uj | apply ui | apply ur | refine u1y ?_ GE107.out) | exact HB.out)⟩⟩
        case rest =>
         clear HC14
         try clear c1
         try clear p2
         try clear c3
         try clear c6
         try clear c7
         try clear c7b0
         try clear c7b1
         try clear c8
         try clear c9
         try clear c9b0
         try clear c9b1
         try clear c15
         try clear c15b0
         try clear c15b1
         try clear hcz10_0
         try clear hcz10_1
         try clear hcz10_2
         try clear hcz12_0
         try clear hcz12_1
         try clear hcz12_2
         try clear hcz6_0
         try clear hcz6_1
         try clear hcz6_2
         try clear hfz10_0
         try clear hfz10_1
         try clear hfz10_2
         try clear hfz12_0
         try clear hfz12_1
         try clear hfz12_2
         try clear hfz6_0
         try clear hfz6_1
         try clear hfz6_2
         try clear p2
         obtain ⟨kq,x20_13,rfl,HA,HJ13,BK107,HB⟩:=hcut
         cases kq with
         | zero => exact absurd HA.out (by simp [u1q.j1])
         | succ kj13 =>
           have H:=HA.out
           clear HA
           simp only [u1q.j1] at H
           by_cases c16:x20_13 = true
           · subst c16
             have H1:((u2e.f a0_2).bind fun t110 => (if t110 = 0 then ((u2v.f a0_2).bind fun t111 => (some t111)) else (some false))) = some r:=by rw [if_pos rfl] at H;exact H
             clear H
             have H:=H1
             clear H1
             replace H:=Option.bind_eq_some_iff.mp H
             obtain ⟨t110,A170,H⟩:=H
             replace H:(if t110 = 0 then ((u2v.f a0_2).bind fun t111 => (some t111)) else (some false)) = some r:=H
             have A17:=Aside0.mk A170
             clear A170
             by_cases c18:t110 = 0
             · rw [if_pos c18] at H
               have c18b0:(t110 == 0) = true:=beq_iff_eq.mpr c18
               have c18b1:(t110 != 0) = false:=bne_eq_false_iff_eq.mpr c18
               clear c18
               replace H:=Option.bind_eq_some_iff.mp H
               obtain ⟨t111,A190,H⟩:=H
               replace H:(some t111) = some r:=H
               have A19:=Aside0.mk A190
               clear A190
               obtain rfl:=Option.some.inj H
               have hcz20_0:wc.cell? ⟨gb107,0,none⟩ = some (.int .i64 a0_0):=(uk BK107.out 0).trans rfl
               have hcz20_1:wc.cell? ⟨gb107,1,none⟩ = some (.string a0_1):=(uk BK107.out 1).trans rfl
               have hcz20_2:wc.cell? ⟨gb107,2,none⟩ = some (.string a0_2):=(uk BK107.out 2).trans rfl
               have hfz20_0:=uq BK107.out 0
               have hfz20_1:=uq BK107.out 1
               have hfz20_2:=uq BK107.out 2
               go_wp2_with (first | ((with_reducible refine u3m (f:=90) rfl ?_);refine goesL_ (some 25) rfl rfl Tryz.func90 (by kernel_rfl) rfl #[.string a0_2] rfl (by (try simp only [List.map_toArray,List.map_cons,List.map_nil]);first | done | rfl | (simp only [List.length_drop,List.length_take];rfl)) ?_;(with_reducible refine (u2e.calls a0_2 t110 _ A17.out).mono ?_);rintro e w21 ⟨rfl,hb⟩;refine ⟨_,rfl,?_⟩;have n0_:=Aside0.mk (u1a (g:=gb107) (o:=.cells #[.int .i64 a0_0,.string a0_1,.string a0_2] 79 (0,0)) (by (with_reducible repeat (first | refine u2b ?_ _ | refine u1z ?_ | refine u1k ?_ _));exact BK107.out) hb);have n1_:=Aside0.mk (u2k (by repeat (first | (with_reducible first | exact HB.out | apply uj | apply ui | apply ur | refine u1y ?_ GE107.out) | exact HB.out)) hb);clear BK107;clear HB;have BK107:=n0_;have HB:=n1_;clear n0_ n1_;(try clear hb);(try clear hb2);(try clear hk);(try clear hi);have hcz22_0:w21.cell? ⟨gb107,0,none⟩ = some (.int .i64 a0_0):=(uk BK107.out 0).trans rfl;have hcz22_1:w21.cell? ⟨gb107,1,none⟩ = some (.string a0_1):=(uk BK107.out 1).trans rfl;have hcz22_2:w21.cell? ⟨gb107,2,none⟩ = some (.string a0_2):=(uk BK107.out 2).trans rfl;have hfz22_0:=uq BK107.out 0;have hfz22_1:=uq BK107.out 1;have hfz22_2:=uq BK107.out 2) | (go_at_call 89;(with_reducible refine (u2v.calls a0_2 t111 _ A19.out).mono ?_);rintro e w23 ⟨rfl,hb⟩;have n0_:=Aside0.mk (u1a (g:=gb107) (o:=.cells #[.int .i64 a0_0,.string a0_1,.string a0_2] 79 (0,0)) (by (with_reducible repeat (first | refine u2b ?_ _ | refine u1z ?_ | refine u1k ?_ _));exact BK107.out) hb);have n1_:=Aside0.mk (u2k (by repeat (first | (with_reducible first | exact HB.out | apply uj | apply ui | apply ur | refine u1y ?_ GE107.out) | exact HB.out)) hb);clear BK107;clear HB;have BK107:=n0_;have HB:=n1_;clear n0_ n1_;(try clear hb);(try clear hb2);(try clear hk);(try clear hi)))
               go_ret
               exact ⟨by first | rfl | (simp [u2i,u2j] <;> rfl) | (simp [*,u2i,u2j] <;> rfl),by repeat (first | (with_reducible first | exact HB.out | apply uj | apply ui | apply ur | refine u1y ?_ GE107.out) | exact HB.out)⟩
             · rw [if_neg c18] at H
               have c18b0:(t110 == 0) = false:=beq_eq_false_iff_ne.mpr c18
               have c18b1:(t110 != 0) = true:=bne_iff_ne.mpr c18
               obtain rfl:=Option.some.inj H
               have hcz24_0:wc.cell? ⟨gb107,0,none⟩ = some (.int .i64 a0_0):=(uk BK107.out 0).trans rfl
               have hcz24_1:wc.cell? ⟨gb107,1,none⟩ = some (.string a0_1):=(uk BK107.out 1).trans rfl
               have hcz24_2:wc.cell? ⟨gb107,2,none⟩ = some (.string a0_2):=(uk BK107.out 2).trans rfl
               have hfz24_0:=uq BK107.out 0
               have hfz24_1:=uq BK107.out 1
               have hfz24_2:=uq BK107.out 2
               go_wp2_with (first | ((with_reducible refine u3m (f:=90) rfl ?_);refine goesL_ (some 25) rfl rfl Tryz.func90 (by kernel_rfl) rfl #[.string a0_2] rfl (by (try simp only [List.map_toArray,List.map_cons,List.map_nil]);first | done | rfl | (simp only [List.length_drop,List.length_take];rfl)) ?_;(with_reducible refine (u2e.calls a0_2 t110 _ A17.out).mono ?_);rintro e w25 ⟨rfl,hb⟩;refine ⟨_,rfl,?_⟩;have n0_:=Aside0.mk (u1a (g:=gb107) (o:=.cells #[.int .i64 a0_0,.string a0_1,.string a0_2] 79 (0,0)) (by (with_reducible repeat (first | refine u2b ?_ _ | refine u1z ?_ | refine u1k ?_ _));exact BK107.out) hb);have n1_:=Aside0.mk (u2k (by repeat (first | (with_reducible first | exact HB.out | apply uj | apply ui | apply ur | refine u1y ?_ GE107.out) | exact HB.out)) hb);clear BK107;clear HB;have BK107:=n0_;have HB:=n1_;clear n0_ n1_;(try clear hb);(try clear hb2);(try clear hk);(try clear hi)))
               go_ret
               exact ⟨by first | rfl | (simp [u2i,u2j] <;> rfl) | (simp [*,u2i,u2j] <;> rfl),by repeat (first | (with_reducible first | exact HB.out | apply uj | apply ui | apply ur | refine u1y ?_ GE107.out) | exact HB.out)⟩
           · replace c16:=Bool.eq_false_iff.mpr c16
             subst c16
             have H1:(some false) = some r:=by rw [if_neg (show ¬ (false = true) by decide)] at H;exact H
             clear H
             have H:=H1
             clear H1
             obtain rfl:=Option.some.inj H
             go_wp2
             go_ret
             exact ⟨by first | rfl | (simp [u2i,u2j] <;> rfl) | (simp [*,u2i,u2j] <;> rfl),by repeat (first | (with_reducible first | exact HB.out | apply uj | apply ui | apply ur | refine u1y ?_ GE107.out) | exact HB.out)⟩
 · replace c3:=Bool.eq_false_iff.mpr c3
   subst c3
   have H1:(some false) = some r:=by rw [if_neg (show ¬ (false = true) by decide)] at H;exact H
   clear H
   have H:=H1
   clear H1
   obtain rfl:=Option.some.inj H
   go_enter Tryz.func71,Tryz.ntmps71
   go_wp2_with (first | ((with_reducible refine u4a (N:=1) rfl ?_);refine u4c ?hg (N:=1) ?hd (cs:=#[.int .i64 a0_0,.string a0_1,.string a0_2]) (t:=79) ?hr ?_;(case hd => rfl);(case hg => rfl);(case hr => first | (go_simp;done) | (go_simp;rfl));intro gb107 hg w26 hbox hb;have n0_:=Aside0.mk (u2k (by repeat (first | (with_reducible first | exact HB.out | apply uj | apply ui | apply ur) | exact HB.out)) hb);have n1_:=Aside0.mk (hbox);have n2_:=Aside0.mk ((by rw [hg];exact (u2p (by repeat (first | (with_reducible first | exact HB.out | apply uj | apply ui | apply ur) | exact HB.out))):w.heap.size ≤ gb107));have n3_:=Aside0.mk ((by rw [hg];exact (u2p (by repeat (first | (with_reducible first | exact HB.out | apply uj | apply ui | apply ur) | exact HB.out))):w.heap.size ≤ gb107));clear HB;have HB:=n0_;have BK107:=n1_;have GW107:=n2_;have GE107:=n3_;clear n0_ n1_ n2_ n3_;clear hb hbox hg;have hcz27_0:w26.cell? ⟨gb107,0,none⟩ = some (.int .i64 a0_0):=(uk BK107.out 0).trans rfl;have hcz27_1:w26.cell? ⟨gb107,1,none⟩ = some (.string a0_1):=(uk BK107.out 1).trans rfl;have hcz27_2:w26.cell? ⟨gb107,2,none⟩ = some (.string a0_2):=(uk BK107.out 2).trans rfl;have hfz27_0:=uq BK107.out 0;have hfz27_1:=uq BK107.out 1;have hfz27_2:=uq BK107.out 2) | ((with_reducible refine u3m (f:=69) rfl ?_);refine goesL_ (some 5) rfl rfl Tryz.func69 (by kernel_rfl) rfl #[.string a0_1] rfl (by (try simp only [List.map_toArray,List.map_cons,List.map_nil]);first | done | rfl | (simp only [List.length_drop,List.length_take];rfl)) ?_;(with_reducible refine (u1e.calls k a0_1 false _ A2.out).mono ?_);rintro e w' ⟨rfl,⟨nd,rfl⟩⟩;refine ⟨_,rfl,?_⟩))
   go_ret
   exact ⟨by first | rfl | (simp [u2i,u2j] <;> rfl) | (simp [*,u2i,u2j] <;> rfl),by repeat (first | (with_reducible first | exact HB.out | apply uj | apply ui | apply ur | refine u1y ?_ GE107.out) | exact HB.out)⟩
def u2q.l0:Nat → List (S79) → List (S79) → Int → Int → Option (Bool)
 | 0,_,_,_,_ => none
 | k + 1,x0,x5,x6,x7 => if x7 < x6 then (if 0 ≤ x7 then (if x7 < (x5.length:Int) then ((u1q.f k ((u1w x5 x7).f0) ((u1w x5 x7).f1) ((u1w x5 x7).f2)).bind fun t114 => (if t114 = true then (u2q.l0 k x0 x5 x6 (wrap64 (x7 + 1))) else (some false))) else (none)) else (none)) else (some (decide ((x0.length:Int) ≤ 6)))
def u2q.f (k:Nat) (l0:List (S79)):Option (Bool):=u2q.l0 k l0 l0 (l0.length:Int) 0
set_option maxHeartbeats 8000000 in
set_option maxRecDepth 100000 in
theorem u2q.calls (k:Nat) (A0:Option Addr) (c0:Nat) (l0:List (S79)) (r:Bool) (w:World) (hr0:Kd.C k79 w A0 l0.length l0) (hc0:l0.length ≤ c0) (h:u2q.f k l0 = some r) :
 Calls Tryz.prog 38 #[.slice A0 l0.length c0] w fun e w' => e = .returned (.bool r) ∧ Below w.heap.size w w':=by
 have hu79:=Tryz.underlying79
 have HR0:=Aside0.mk hr0
 have HC0:=Aside0.mk hc0
 clear hr0 hc0
 have HB:=Aside0.mk (Below.refl w.heap.size w)
 have H:(u2q.l0 k l0 l0 (l0.length:Int) 0) = some r:=h
 clear h
 have H':=Aside0.mk H
 clear H
 go_enter Tryz.func38,Tryz.ntmps38
 go_wp2
 go_loopg [7] k (fun kq v7 w' => ∃ (x7_1:Int),v7 = .int .i64 x7_1 ∧ Aside0 (u2q.l0 kq l0 l0 (l0.length:Int) x7_1 = some r) ∧ Aside0 (kq ≤ k) ∧ Aside0 (Below w.heap.size w w'))
 case atStart => exact ⟨(0),(by first | rfl | (simp;done) | (simp [*];done)),H',⟨Nat.le_refl _⟩,⟨by repeat (first | (with_reducible first | exact HB.out | apply uj | apply ui | apply ur) | exact HB.out)⟩⟩
 case round =>
  clear H'
  obtain ⟨x7_1,rfl,HA,HK1,HB⟩:=hrel
  cases gk with
  | zero => exact absurd HA.out (by simp [u2q.l0])
  | succ k1 =>
    have H:=HA.out
    clear HA
    simp only [u2q.l0] at H
    by_cases c2:x7_1 < (l0.length:Int)
    · rw [if_pos c2] at H
      have c2b0:decide (x7_1 < (l0.length:Int)) = true:=decide_eq_true c2
      clear c2
      by_cases c3:0 ≤ x7_1
      · rw [if_pos c3] at H
        have c3b0:decide (0 ≤ x7_1) = true:=decide_eq_true c3
        clear c3
        by_cases c4:x7_1 < (l0.length:Int)
        · rw [if_pos c4] at H
          have c4b0:decide (x7_1 < (l0.length:Int)) = true:=decide_eq_true c4
          clear c4
          replace H:=Option.bind_eq_some_iff.mp H
          obtain ⟨t114,A50,H⟩:=H
          replace H:(if t114 = true then (u2q.l0 k1 l0 l0 (l0.length:Int) (wrap64 (x7_1 + 1))) else (some false)) = some r:=H
          have A5:=Aside0.mk A50
          clear A50
          by_cases c6:t114 = true
          · subst c6
            have H1:(u2q.l0 k1 l0 l0 (l0.length:Int) (wrap64 (x7_1 + 1))) = some r:=by rw [if_pos rfl] at H;exact H
            clear H
            have H:=H1
            clear H1
            have H':=Aside0.mk H
            clear H
            have p112:0 ≤ (x7_1:Int):=of_decide_eq_true (by first | (with_reducible assumption) | assumption)
            have q112:x7_1 < (l0.length:Int):=of_decide_eq_true (by first | (with_reducible assumption) | assumption)
            obtain ⟨ad112,e112,hx112_0,hx112_1,hx112_2⟩:=at_T79 HR0.out x7_1 p112 q112
            cases e112
            replace hx112_0:=(HB.out.cell (World.block_lt_of_cell? w _ hx112_0)).trans hx112_0
            replace hx112_1:=(HB.out.cell (World.block_lt_of_cell? w _ hx112_1)).trans hx112_1
            replace hx112_2:=(HB.out.cell (World.block_lt_of_cell? w _ hx112_2)).trans hx112_2
            replace p112:=eq_true p112
            replace q112:=eq_true q112
            go_wp2_with (first | ((with_reducible refine u4a (N:=4) rfl ?_);refine u4c ?hg (N:=4) ?hd (cs:=#[.int .i64 0,.string (⟨#[]⟩:ByteArray),.string (⟨#[]⟩:ByteArray)]) (t:=79) ?hr ?_;(case hd => rfl);(case hg => rfl);(case hr => first | (go_simp;done) | (go_simp;rfl));intro gb113 hg w7 hbox hb;have n0_:=Aside0.mk (u2k (by repeat (first | (with_reducible first | exact HB.out | apply uj | apply ui | apply ur) | exact HB.out)) hb);have n1_:=Aside0.mk (hbox);have n2_:=Aside0.mk ((by rw [hg];exact (u2p (by repeat (first | (with_reducible first | exact HB.out | apply uj | apply ui | apply ur) | exact HB.out))):w.heap.size ≤ gb113));have n3_:=Aside0.mk ((by rw [hg];exact (u2p (by repeat (first | (with_reducible first | exact HB.out | apply uj | apply ui | apply ur) | exact HB.out))):w.heap.size ≤ gb113));clear HB;have HB:=n0_;have BK113:=n1_;have GW113:=n2_;have GE113:=n3_;clear n0_ n1_ n2_ n3_;clear hb hbox hg;have hcz8_0:w7.cell? ⟨gb113,0,none⟩ = some (.int .i64 0):=(uk BK113.out 0).trans rfl;have hcz8_1:w7.cell? ⟨gb113,1,none⟩ = some (.string (⟨#[]⟩:ByteArray)):=(uk BK113.out 1).trans rfl;have hcz8_2:w7.cell? ⟨gb113,2,none⟩ = some (.string (⟨#[]⟩:ByteArray)):=(uk BK113.out 2).trans rfl;have hfz8_0:=uq BK113.out 0;have hfz8_1:=uq BK113.out 1;have hfz8_2:=uq BK113.out 2) | ((with_reducible refine u3m (f:=71) rfl ?_);refine goesL_ (some 12) rfl rfl Tryz.func71 (by kernel_rfl) rfl #[.agg #[.int .i64 ((u1w l0 x7_1).f0),.string ((u1w l0 x7_1).f1),.string ((u1w l0 x7_1).f2)]] rfl (by (try simp only [List.map_toArray,List.map_cons,List.map_nil]);first | done | rfl | (simp only [List.length_drop,List.length_take];rfl)) ?_;(with_reducible refine (u1q.calls k1 ((u1w l0 x7_1).f0) ((u1w l0 x7_1).f1) ((u1w l0 x7_1).f2) true _ A5.out).mono ?_);rintro e w9 ⟨rfl,hb⟩;refine ⟨_,rfl,?_⟩;have n0_:=Aside0.mk (u1a (g:=gb113) (o:=.cells #[.int .i64 ((u1w l0 x7_1).f0),.string ((u1w l0 x7_1).f1),.string ((u1w l0 x7_1).f2)] 79 (0,0)) (by (with_reducible repeat (first | refine u2b ?_ _ | refine u1z ?_ | refine u1k ?_ _));refine blk_put (cs:=#[.int .i64 ((u1w l0 x7_1).f0),.string ((u1w l0 x7_1).f1),.string (⟨#[]⟩:ByteArray)]) ?_ 2 _ rfl;(with_reducible repeat (first | refine u2b ?_ _ | refine u1z ?_ | refine u1k ?_ _));refine blk_put (cs:=#[.int .i64 ((u1w l0 x7_1).f0),.string (⟨#[]⟩:ByteArray),.string (⟨#[]⟩:ByteArray)]) ?_ 1 _ rfl;(with_reducible repeat (first | refine u2b ?_ _ | refine u1z ?_ | refine u1k ?_ _));refine blk_put (cs:=#[.int .i64 0,.string (⟨#[]⟩:ByteArray),.string (⟨#[]⟩:ByteArray)]) ?_ 0 _ rfl;(with_reducible repeat (first | refine u2b ?_ _ | refine u1z ?_ | refine u1k ?_ _));exact BK113.out) hb);have n1_:=Aside0.mk (u2k (by repeat (first | (with_reducible first | exact HB.out | apply uj | apply ui | apply ur | refine u1y ?_ GE113.out) | exact HB.out)) hb);clear BK113;clear HB;have BK113:=n0_;have HB:=n1_;clear n0_ n1_;(try clear hb);(try clear hb2);(try clear hk);(try clear hi)))
            go_roundg k1
            case measure => have:=HK1.out;omega
            case rel => exact ⟨(wrap64 (x7_1 + 1)),(by first | rfl | (simp;done) | (simp [*];done)),H',⟨by have:=HK1.out;omega⟩,⟨by repeat (first | (with_reducible first | exact HB.out | apply uj | apply ui | apply ur | refine u1y ?_ GE113.out) | exact HB.out)⟩⟩
          · replace c6:=Bool.eq_false_iff.mpr c6
            subst c6
            have H1:(some false) = some r:=by rw [if_neg (show ¬ (false = true) by decide)] at H;exact H
            clear H
            have H:=H1
            clear H1
            obtain rfl:=Option.some.inj H
            have p112:0 ≤ (x7_1:Int):=of_decide_eq_true (by first | (with_reducible assumption) | assumption)
            have q112:x7_1 < (l0.length:Int):=of_decide_eq_true (by first | (with_reducible assumption) | assumption)
            obtain ⟨ad112,e112,hx112_0,hx112_1,hx112_2⟩:=at_T79 HR0.out x7_1 p112 q112
            cases e112
            replace hx112_0:=(HB.out.cell (World.block_lt_of_cell? w _ hx112_0)).trans hx112_0
            replace hx112_1:=(HB.out.cell (World.block_lt_of_cell? w _ hx112_1)).trans hx112_1
            replace hx112_2:=(HB.out.cell (World.block_lt_of_cell? w _ hx112_2)).trans hx112_2
            replace p112:=eq_true p112
            replace q112:=eq_true q112
            go_wp2_with (first | ((with_reducible refine u4a (N:=4) rfl ?_);refine u4c ?hg (N:=4) ?hd (cs:=#[.int .i64 0,.string (⟨#[]⟩:ByteArray),.string (⟨#[]⟩:ByteArray)]) (t:=79) ?hr ?_;(case hd => rfl);(case hg => rfl);(case hr => first | (go_simp;done) | (go_simp;rfl));intro gb113 hg w10 hbox hb;have n0_:=Aside0.mk (u2k (by repeat (first | (with_reducible first | exact HB.out | apply uj | apply ui | apply ur) | exact HB.out)) hb);have n1_:=Aside0.mk (hbox);have n2_:=Aside0.mk ((by rw [hg];exact (u2p (by repeat (first | (with_reducible first | exact HB.out | apply uj | apply ui | apply ur) | exact HB.out))):w.heap.size ≤ gb113));have n3_:=Aside0.mk ((by rw [hg];exact (u2p (by repeat (first | (with_reducible first | exact HB.out | apply uj | apply ui | apply ur) | exact HB.out))):w.heap.size ≤ gb113));clear HB;have HB:=n0_;have BK113:=n1_;have GW113:=n2_;have GE113:=n3_;clear n0_ n1_ n2_ n3_;clear hb hbox hg;have hcz11_0:w10.cell? ⟨gb113,0,none⟩ = some (.int .i64 0):=(uk BK113.out 0).trans rfl;have hcz11_1:w10.cell? ⟨gb113,1,none⟩ = some (.string (⟨#[]⟩:ByteArray)):=(uk BK113.out 1).trans rfl;have hcz11_2:w10.cell? ⟨gb113,2,none⟩ = some (.string (⟨#[]⟩:ByteArray)):=(uk BK113.out 2).trans rfl;have hfz11_0:=uq BK113.out 0;have hfz11_1:=uq BK113.out 1;have hfz11_2:=uq BK113.out 2) | ((with_reducible refine u3m (f:=71) rfl ?_);refine goesL_ (some 12) rfl rfl Tryz.func71 (by kernel_rfl) rfl #[.agg #[.int .i64 ((u1w l0 x7_1).f0),.string ((u1w l0 x7_1).f1),.string ((u1w l0 x7_1).f2)]] rfl (by (try simp only [List.map_toArray,List.map_cons,List.map_nil]);first | done | rfl | (simp only [List.length_drop,List.length_take];rfl)) ?_;(with_reducible refine (u1q.calls k1 ((u1w l0 x7_1).f0) ((u1w l0 x7_1).f1) ((u1w l0 x7_1).f2) false _ A5.out).mono ?_);rintro e w12 ⟨rfl,hb⟩;refine ⟨_,rfl,?_⟩;have n0_:=Aside0.mk (u1a (g:=gb113) (o:=.cells #[.int .i64 ((u1w l0 x7_1).f0),.string ((u1w l0 x7_1).f1),.string ((u1w l0 x7_1).f2)] 79 (0,0)) (by (with_reducible repeat (first | refine u2b ?_ _ | refine u1z ?_ | refine u1k ?_ _));refine blk_put (cs:=#[.int .i64 ((u1w l0 x7_1).f0),.string ((u1w l0 x7_1).f1),.string (⟨#[]⟩:ByteArray)]) ?_ 2 _ rfl;(with_reducible repeat (first | refine u2b ?_ _ | refine u1z ?_ | refine u1k ?_ _));refine blk_put (cs:=#[.int .i64 ((u1w l0 x7_1).f0),.string (⟨#[]⟩:ByteArray),.string (⟨#[]⟩:ByteArray)]) ?_ 1 _ rfl;(with_reducible repeat (first | refine u2b ?_ _ | refine u1z ?_ | refine u1k ?_ _));refine blk_put (cs:=#[.int .i64 0,.string (⟨#[]⟩:ByteArray),.string (⟨#[]⟩:ByteArray)]) ?_ 0 _ rfl;(with_reducible repeat (first | refine u2b ?_ _ | refine u1z ?_ | refine u1k ?_ _));exact BK113.out) hb);have n1_:=Aside0.mk (u2k (by repeat (first | (with_reducible first | exact HB.out | apply uj | apply ui | apply ur | refine u1y ?_ GE113.out) | exact HB.out)) hb);clear BK113;clear HB;have BK113:=n0_;have HB:=n1_;clear n0_ n1_;(try clear hb);(try clear hb2);(try clear hk);(try clear hi)))
            go_ret
            exact ⟨by first | rfl | (simp [u2i,u2j] <;> rfl) | (simp [*,u2i,u2j] <;> rfl),by repeat (first | (with_reducible first | exact HB.out | apply uj | apply ui | apply ur | refine u1y ?_ GE113.out) | exact HB.out)⟩
        · rw [if_neg c4] at H
          exact absurd H (by simp)
      · rw [if_neg c3] at H
        exact absurd H (by simp)
    · rw [if_neg c2] at H
      have c2b0:decide (x7_1 < (l0.length:Int)) = false:=decide_eq_false c2
      clear c2
      obtain rfl:=Option.some.inj H
      go_wp2
      go_ret
      exact ⟨by first | rfl | (simp [u2i,u2j] <;> rfl) | (simp [*,u2i,u2j] <;> rfl),by repeat (first | (with_reducible first | exact HB.out | apply uj | apply ui | apply ur) | exact HB.out)⟩
abbrev u2g.Mt:=S79
def u2g.mats:Nat → List Int → List u2g.Mt → Option (List u2g.Mt × List Int)
 | 0,b,l => some (l,b)
 | _ + 1,[],_ => none
 | n + 1,c :: r,l => (u3u.one r).bind fun x => (u3u.one x.2).bind fun y => u2g.mats n y.2 (l ++ [⟨c,x.1,y.1⟩])
def u2g.okB (l0:List Int):Bool:=decide (l0.length ≤ 140737488355328) && l0.all (fun c => decide (0 ≤ c) && decide (c < 256))
def u2g.f (k:Nat) (l0:List Int):Option (List u2g.Mt × List Int × Int):=if u2g.okB l0 = true then (match l0 with
 | [] => some ([],[],3)
 | c :: r => match u2g.mats c.toNat r [] with
   | none => some ([],[],3)
   | some (l,q) => (u2q.f k l).bind fun b => if b = true then some (l,q,0) else some ([],[],5)) else none
end Go.Proofs.YtgnehcgaplnfkaaGreatDoor.PAll
namespace Go.Proofs.YtgnehcgaplnfkaaGreatDoor.PAll
open Go.RowKit Go.Proofs.YtgnehcgaplnfkaaGreatDoorW.PrintWords Go.Proofs.YtgnehcgaplnfkaaGreatDoorW.PrintLast
set_option linter.unusedVariables false
set_option linter.unusedSimpArgs false
namespace R8
abbrev CS:=uf.CS
abbrev RS:=ua.RS
abbrev I:=S164
open Sim (am nx mo mem spanM loopM cls)
open regex_coder_atom (M put close qual bar aim)
def Good (l:List Int) (s:CS) (t:RS):Prop:=s.bad = false ∧ t.bad = false ∧ t.at_ ≤ l.length ∧ s.p = l.drop t.at_
def Rel (l:List Int) (s:CS) (t:RS):Prop:=(s.bad = true ∧ t.bad = true) ∨ Good l s t
theorem split_at {l:List Int} (h0:∀ r ∈ l,0 ≤ r) (a:Nat) (b:Bool) (ha:a ≤ l.length):(∃ r q,l.drop a = r :: q ∧ ua.pk l ⟨a,b⟩ = r ∧ 0 ≤ r ∧ a < l.length ∧ l.drop (a + 1) = q) ∨ (l.drop a = [] ∧ ua.pk l ⟨a,b⟩ = -1 ∧ a = l.length):=by
 rcases Nat.lt_or_ge a l.length with h | h
 · left
   refine ⟨l[a],l.drop (a + 1),List.drop_eq_getElem_cons h,?_,h0 _ (List.getElem_mem h),h,rfl⟩
   simp [ua.pk,h]
 · right
   refine ⟨List.drop_eq_nil_of_le h,?_,by omega⟩
   simp [ua.pk,List.getElem?_eq_none h]
theorem index_mem (l:List UInt8) (c:UInt8):0 ≤ Lib.indexByte l c ↔ c ∈ l:=by
 constructor
 · intro h
   obtain ⟨o,ho⟩:=Int.eq_ofNat_of_zero_le h
   exact List.mem_of_getElem? (Lib.indexByte_some ho).1
 · intro h
   refine Classical.byContradiction fun hn => ?_
   have h1:=Lib.indexByte_ge l c
   have h2:Lib.indexByte l c = -1:=by omega
   obtain ⟨i,hi,e⟩:=List.getElem_of_mem h
   exact Lib.indexByte_none h2 i (by rw [List.getElem?_eq_getElem hi,e])
theorem am_any (m:ByteArray) (hm:∀ b ∈ m.data.toList,b.toNat < 128) (r:Int) (h0:0 ≤ r) (q:List Int) (c:List I) (b:Bool):am m ⟨r :: q,c,b⟩ = m.data.toList.any fun x => decide ((x.toNat:Int) = r):=by
 have e:am m ⟨r :: q,c,b⟩ = (decide (0 ≤ Lib.indexByte m.data.toList (UInt8.ofNat (r % 256).toNat)) && decide (r < 128)):=rfl
 rw [e]
 refine Bool.eq_iff_iff.2 ?_
 rw [Bool.and_eq_true,decide_eq_true_eq,decide_eq_true_eq,index_mem,List.any_eq_true]
 constructor
 · rintro ⟨h1,h2⟩
   refine ⟨_,h1,decide_eq_true ?_⟩
   rw [UInt8.toNat_ofNat']
   omega
 · rintro ⟨x,hx,he⟩
   have he:=of_decide_eq_true he
   have h1:=hm x hx
   refine ⟨?_,by omega⟩
   have h2:UInt8.ofNat (r % 256).toNat = x:=by
    apply UInt8.toNat.inj
    rw [UInt8.toNat_ofNat']
    omega
   rw [h2]
   exact hx
theorem am_41 (r:Int) (h0:0 ≤ r) (q:List Int) (c:List I) (b:Bool):am ⟨#[124,41]⟩ ⟨r :: q,c,b⟩ = ug.mk r [124,41]:=by rw [am_any _ (by decide) r h0];rfl
theorem am_qual (r:Int) (h0:0 ≤ r) (q:List Int) (c:List I) (b:Bool):am ⟨#[42,43,63]⟩ ⟨r :: q,c,b⟩ = ug.mk r [42,43,63]:=by rw [am_any _ (by decide) r h0];rfl
theorem am_stop (r:Int) (h0:0 ≤ r) (q:List Int) (c:List I) (b:Bool):am ⟨#[42,43,63,124,41,93]⟩ ⟨r :: q,c,b⟩ = ug.mk r [42,43,63,124,41,93]:=by rw [am_any _ (by decide) r h0];rfl
theorem am_93 (r:Int) (h0:0 ≤ r) (q:List Int) (c:List I) (b:Bool):am ⟨#[93,45]⟩ ⟨r :: q,c,b⟩ = ug.mk r [93,45]:=by rw [am_any _ (by decide) r h0];rfl
theorem am_end (r:Int) (h0:0 ≤ r) (q:List Int) (c:List I) (b:Bool):am ⟨#[93]⟩ ⟨r :: q,c,b⟩ = decide (93 = r):=by
 rw [am_any _ (by decide) r h0]
 show (decide ((93:Int) = r) || false) = _
 rw [Bool.or_false]
theorem am_dash (r:Int) (h0:0 ≤ r) (q:List Int) (c:List I) (b:Bool):am ⟨#[45]⟩ ⟨r :: q,c,b⟩ = decide (45 = r):=by
 rw [am_any _ (by decide) r h0]
 show (decide ((45:Int) = r) || false) = _
 rw [Bool.or_false]
theorem mk_neg (m:List Int) (hm:∀ x ∈ m,0 ≤ x):ug.mk (-1) m = false:=by
 unfold ug.mk u1h.oneB
 rw [List.any_eq_false]
 intro x hx h
 have:=of_decide_eq_true h
 have:=hm x hx
 omega
def RV (l:List Int) (x:Int × CS) (y:Int × RS):Prop:=(x.2.bad = true ∧ y.2.bad = true) ∨ (x.1 = y.1 ∧ Good l x.2 y.2)
theorem mem_sim {l:List Int} (h0:∀ r ∈ l,0 ≤ r) {s:CS} {t:RS} (h:Good l s t):RV l (mem s) (ug.mem l t):=by
 obtain ⟨p,c,b⟩:=s
 obtain ⟨a,tb⟩:=t
 obtain ⟨h1,h2,h3,h4⟩:=h
 simp only at h1 h2 h3 h4
 subst h1
 subst h2
 rcases split_at h0 a false h3 with ⟨r,q,e,ek,hr,hlt,hq⟩ | ⟨e,ek,hal⟩
 · rw [h4,e,Sim.mem_cons,am_93 r hr]
   unfold ug.mem
   rw [ek]
   cases hm:ug.mk r [93,45] with
   | true =>
     rw [if_pos (Or.inr rfl)]
     left
     refine ⟨?_,rfl⟩
     split
     · unfold Sim.step uf.step
       split <;> rfl
     · rfl
   | false =>
     have hno:¬ (r < 0 ∨ (false:Bool) = true):=by
      rintro (h9 | h9)
      · omega
      · cases h9
     rw [if_neg hno]
     by_cases h92:r = 92
     · rw [if_pos h92,if_pos h92]
       unfold u1j.esc
       rcases split_at h0 (a + 1) false (by omega) with ⟨r2,q2,e2,ek2,hr2,hlt2,hq2⟩ | ⟨e2,ek2,hal2⟩
       · right
         rw [hq] at e2
         subst e2
         refine ⟨ek2.symm,rfl,?_,by simp only;omega,by simp only;rw [← hq2];rfl⟩
         show (false || decide (ua.pk l ⟨a + 1,false⟩ < 0)) = false
         rw [ek2,decide_eq_false (by omega)]
         rfl
       · left
         rw [hq] at e2
         subst e2
         refine ⟨rfl,?_⟩
         show (false || decide (ua.pk l ⟨a + 1,false⟩ < 0)) = true
         rw [ek2]
         rfl
     · rw [if_neg h92,if_neg h92]
       right
       exact ⟨rfl,rfl,rfl,by simp only;omega,hq.symm⟩
 · rw [h4,e]
   unfold ug.mem
   rw [ek,if_pos (Or.inl (by decide))]
   exact Or.inl ⟨Sim.mem_nil c false,rfl⟩
theorem step_good {l:List Int} (h0:∀ r ∈ l,0 ≤ r) {s:CS} {t:RS} (h:Good l s t) (hne:t.at_ < l.length):Good l (Sim.step s).2 ⟨t.at_ + 1,t.bad⟩:=by
 obtain ⟨p,c,b⟩:=s
 obtain ⟨a,tb⟩:=t
 obtain ⟨h1,h2,h3,h4⟩:=h
 simp only at h1 h2 h3 h4 hne
 rw [h4,List.drop_eq_getElem_cons hne]
 exact ⟨h1,h2,by simp only;omega,rfl⟩
theorem span_sim {l:List Int} (h0:∀ r ∈ l,0 ≤ r) {s:CS} {t:RS} (h:Good l s t):Rel l (spanM s).2 (ub.span l t):=by
 have e1:(spanM s).2 = { (if (mem s).2.bad = false ∧ am ⟨#[45]⟩ (mem s).2 = true then mem (Sim.step (mem s).2).2 else mem s).2 with bad:=(if (mem s).2.bad = false ∧ am ⟨#[45]⟩ (mem s).2 = true then mem (Sim.step (mem s).2).2 else mem s).2.bad || decide ((if (mem s).2.bad = false ∧ am ⟨#[45]⟩ (mem s).2 = true then mem (Sim.step (mem s).2).2 else mem s).1 < (mem s).1) }:=rfl
 have e2:ub.span l t = ⟨(ub.hi l (ug.mem l t).1 (ug.mem l t).2).2.at_,(ub.hi l (ug.mem l t).1 (ug.mem l t).2).2.bad || decide ((ub.hi l (ug.mem l t).1 (ug.mem l t).2).1 < (ug.mem l t).1)⟩:=rfl
 rw [e1,e2]
 rcases mem_sim h0 h with ⟨b1,b2⟩ | ⟨hx,hg⟩
 · left
   rw [if_neg (by rintro ⟨h9,_⟩;rw [b1] at h9;cases h9)]
   unfold ub.hi
   rw [if_neg (by rintro ⟨h9,_⟩;exact absurd (b2.symm.trans h9) (by decide))]
   refine ⟨?_,?_⟩
   · show ((mem s).2.bad || _) = true
     rw [b1]
     rfl
   · show ((ug.mem l t).2.bad || _) = true
     rw [b2]
     rfl
 · generalize hms:mem s = ms at hx hg ⊢
   generalize hmt:ug.mem l t = mt at hx hg ⊢
   obtain ⟨x1,⟨p1,c1,b1⟩⟩:=ms
   obtain ⟨y1,⟨a1,d1⟩⟩:=mt
   simp only at hx
   subst hx
   obtain ⟨g1,g2,g3,g4⟩:=hg
   simp only at g1 g2 g3 g4
   subst g1
   subst g2
   have hdash:(am ⟨#[45]⟩ ⟨p1,c1,false⟩ = true) ↔ ua.pk l ⟨a1,false⟩ = 45:=by
    rcases split_at h0 a1 false g3 with ⟨r,q,e,ek,hr,hlt,hq⟩ | ⟨e,ek,hal⟩
    · rw [g4,e,ek,am_dash r hr,decide_eq_true_eq]
      exact eq_comm
    · rw [g4,e,ek,Sim.am_nil]
      exact ⟨fun h9 => (by cases h9),fun h9 => absurd h9 (by decide)⟩
   unfold ub.hi
   simp only
   by_cases hd:ua.pk l ⟨a1,false⟩ = 45
   · rw [if_pos ⟨trivial,hdash.2 hd⟩,if_pos ⟨trivial,hd⟩]
     have hlt:a1 < l.length:=ub.pk_lt (s:=⟨a1,false⟩) (by rw [show ua.pk l ⟨a1,false⟩ = 45 from hd];decide)
     have hg2:Good l (Sim.step ⟨p1,c1,false⟩).2 ⟨a1 + 1,false⟩:=step_good h0 (t:=⟨a1,false⟩) ⟨rfl,rfl,g3,g4⟩ hlt
     rcases mem_sim h0 hg2 with ⟨b1,b2⟩ | ⟨hx2,hg3⟩
     · left
       refine ⟨?_,?_⟩
       · show ((mem (Sim.step ⟨p1,c1,false⟩).2).2.bad || _) = true
         rw [b1]
         rfl
       · show ((ug.mem l ⟨a1 + 1,false⟩).2.bad || _) = true
         rw [b2]
         rfl
     · obtain ⟨k1,k2,k3,k4⟩:=hg3
       rw [show ug.mem l ⟨a1 + 1,false⟩ = ug.mem l ⟨a1 + 1,false⟩ from rfl,← hx2,k1,k2]
       cases hlt2:decide ((mem (Sim.step ⟨p1,c1,false⟩).2).1 < x1) with
       | true => exact Or.inl ⟨rfl,rfl⟩
       | false => exact Or.inr ⟨rfl,rfl,k3,k4⟩
   · rw [if_neg (fun h9 => hd (hdash.1 h9.2)),if_neg (fun h9 => hd h9.2)]
     simp only [Int.lt_irrefl,decide_false,Bool.or_false]
     exact Or.inr ⟨rfl,rfl,g3,g4⟩
theorem loop_sim {l:List Int} (h0:∀ r ∈ l,0 ≤ r):∀ (n k k':Nat) (first:Bool) (s:CS) (t:RS) (l0:List S191),Good l s t → s.p.length ≤ n → n + 1 ≤ k → n + 1 ≤ k' →
 ((loopM k first s l0).2.bad = true ∧ (ub.loopM l k' first t).bad = true) ∨ (Good l (loopM k first s l0).2 (ub.loopM l k' first t) ∧ ∃ q,(loopM k first s l0).2.p = 93 :: q):=by
 intro n
 induction n with
 | zero =>
   intro k k' first s t l0 h hn hk hk'
   obtain ⟨k,rfl⟩:∃ j,k = j + 1:=⟨k - 1,by omega⟩
   obtain ⟨k',rfl⟩:∃ j,k' = j + 1:=⟨k' - 1,by omega⟩
   have hnil:s.p = []:=List.eq_nil_of_length_eq_zero (by omega)
   have hal:t.at_ = l.length:=by
    have h9:=h.2.2.2
    rw [hnil] at h9
    have h8:=List.drop_eq_nil_iff.1 h9.symm
    have:=h.2.2.1
    omega
   have hsp:=span_sim h0 h
   have hpg:=ub.span_prog l t h.2.2.1
   have hbad:(spanM s).2.bad = true ∧ (ub.span l t).bad = true:=by
    rcases hsp with h9 | h9
    · exact h9
    · exfalso
      have:=hpg.2 h9.2.1
      omega
   left
   have c1:s.bad = false ∧ (first = true ∨ am ⟨#[93]⟩ s = false):=⟨h.1,Or.inr (by
    obtain ⟨p,c,b⟩:=s
    simp only at hnil
    subst hnil
    exact Sim.am_nil _ _ _)⟩
   have c2:t.bad = false ∧ (ua.pk l t ≠ 93 ∨ first = true):=⟨h.2.1,Or.inl (by
    rcases split_at h0 t.at_ t.bad h.2.2.1 with ⟨r,q,e,ek,hr,hlt,hq⟩ | ⟨e,ek,_⟩
    · omega
    · intro h9
      have h8:=h9.symm.trans ek
      exact absurd h8 (by decide))⟩
   rw [ub.goes c2]
   have e1:loopM (k + 1) first s l0 = loopM k false (spanM s).2 (l0 ++ [(spanM s).1]):=by
    refine Eq.trans (b:=if s.bad = false ∧ (first = true ∨ am ⟨#[93]⟩ s = false) then loopM k false (spanM s).2 (l0 ++ [(spanM s).1]) else (l0,s)) rfl ?_
    rw [if_pos c1]
   rw [e1,Sim.loop_bad _ _ _ _ hbad.1,ub.stop (by rintro ⟨h9,_⟩;exact absurd (hbad.2.symm.trans h9) (by decide))]
   exact hbad
 | succ n ih =>
   intro k k' first s t l0 h hn hk hk'
   obtain ⟨k,rfl⟩:∃ j,k = j + 1:=⟨k - 1,by omega⟩
   obtain ⟨k',rfl⟩:∃ j,k' = j + 1:=⟨k' - 1,by omega⟩
   have hiff:am ⟨#[93]⟩ s = false ↔ ua.pk l t ≠ 93:=by
    obtain ⟨p,c,b⟩:=s
    obtain ⟨a,tb⟩:=t
    obtain ⟨g1,g2,g3,g4⟩:=h
    simp only at g1 g2 g3 g4
    rcases split_at h0 a tb g3 with ⟨r,q,e,ek,hr,hlt,hq⟩ | ⟨e,ek,hal⟩
    · rw [g4,e,ek,am_end r hr,decide_eq_false_iff_not]
      exact not_congr eq_comm
    · rw [g4,e,ek,Sim.am_nil]
      exact ⟨fun _ => by decide,fun _ => rfl⟩
   by_cases hc:first = true ∨ am ⟨#[93]⟩ s = false
   · have c2:t.bad = false ∧ (ua.pk l t ≠ 93 ∨ first = true):=⟨h.2.1,by
      rcases hc with h9 | h9
      · exact Or.inr h9
      · exact Or.inl (hiff.1 h9)⟩
     have e1:loopM (k + 1) first s l0 = loopM k false (spanM s).2 (l0 ++ [(spanM s).1]):=by
      refine Eq.trans (b:=if s.bad = false ∧ (first = true ∨ am ⟨#[93]⟩ s = false) then loopM k false (spanM s).2 (l0 ++ [(spanM s).1]) else (l0,s)) rfl ?_
      rw [if_pos ⟨h.1,hc⟩]
     rw [ub.goes c2,e1]
     have hpg:=ub.span_prog l t h.2.2.1
     rcases span_sim h0 h with h9 | h9
     · left
       rw [Sim.loop_bad _ _ _ _ h9.1,ub.stop (by rintro ⟨h8,_⟩;exact absurd (h9.2.symm.trans h8) (by decide))]
       exact h9
     · refine ih k k' false (spanM s).2 (ub.span l t) _ h9 ?_ (by omega) (by omega)
       have h8:=hpg.2 h9.2.1
       have h7:=congrArg List.length h9.2.2.2
       have h6:=congrArg List.length h.2.2.2
       rw [List.length_drop] at h7 h6
       omega
   · have hf:first = false:=by
      cases first with
      | true => exact absurd (Or.inl rfl) hc
      | false => rfl
     subst hf
     have h93:ua.pk l t = 93:=Classical.byContradiction fun h9 => hc (Or.inr (hiff.2 h9))
     have e1:loopM (k + 1) false s l0 = (l0,s):=by
      refine Eq.trans (b:=if s.bad = false ∧ (false = true ∨ am ⟨#[93]⟩ s = false) then loopM k false (spanM s).2 (l0 ++ [(spanM s).1]) else (l0,s)) rfl ?_
      rw [if_neg (fun h9 => hc h9.2)]
     rw [e1,ub.stop (by rintro ⟨_,h9 | h9⟩;exact h9 h93;cases h9)]
     right
     refine ⟨h,?_⟩
     rcases split_at h0 t.at_ t.bad h.2.2.1 with ⟨r,q,e,ek,hr,hlt,hq⟩ | ⟨e,ek,hal⟩
     · have:r = 93:=ek.symm.trans h93
       subst this
       exact ⟨q,h.2.2.2.trans e⟩
     · exact absurd (ek.symm.trans h93) (by decide)
theorem step_bad (s:CS) (h:s.bad = true):(Sim.step s).2.bad = true:=by
 obtain ⟨p,c,b⟩:=s
 cases p with
 | nil => rfl
 | cons r q => exact h
theorem cls_sim {l:List Int} (h0:∀ r ∈ l,0 ≤ r) {s:CS} {t:RS} (h:Good l s t):Rel l (cls s) (ub.cls l t):=by
 have hneg:Sim.neg s = ub.neg l t:=by
  obtain ⟨p,c,b⟩:=s
  obtain ⟨a,tb⟩:=t
  obtain ⟨g1,g2,g3,g4⟩:=h
  simp only at g1 g2 g3 g4
  unfold ub.neg
  rcases split_at h0 a tb g3 with ⟨r,q,e,ek,hr,hlt,hq⟩ | ⟨e,ek,hal⟩
  · rw [g4,e,show ua.pk l ⟨a,tb⟩ = r from ek]
    rfl
  · rw [g4,e,show ua.pk l ⟨a,tb⟩ = -1 from ek]
    rfl
 have hs0:Good l (Sim.cl0 s) (ub.in0 l t):=by
  unfold Sim.cl0 ub.in0
  rw [hneg]
  cases hn:ub.neg l t with
  | true =>
    rw [if_pos rfl,if_pos rfl]
    refine step_good h0 h (ub.pk_lt ?_)
    rw [of_decide_eq_true hn]
    decide
  | false =>
    rw [if_neg (by decide),if_neg (by decide)]
    exact h
 have hlen:(Sim.cl0 s).p.length ≤ l.length:=by
  rw [hs0.2.2.2,List.length_drop]
  omega
 have hl:=loop_sim h0 (Sim.cl0 s).p.length ((Sim.cl0 s).p.length + 2) (l.length + 2) true (Sim.cl0 s) (ub.in0 l t) [] hs0 (Nat.le_refl _) (by omega) (by omega)
 rw [Sim.cls_is]
 unfold ub.cls
 rcases hl with ⟨b1,b2⟩ | ⟨hg,q,hq⟩
 · exact Or.inl ⟨step_bad _ b1,b2⟩
 · right
   have hlt:(ub.loopM l (l.length + 2) true (ub.in0 l t)).at_ < l.length:=by
    have h9:=hg.2.2.2
    rw [hq] at h9
    rcases Nat.lt_or_ge (ub.loopM l (l.length + 2) true (ub.in0 l t)).at_ l.length with h8 | h8
    · exact h8
    · rw [List.drop_eq_nil_of_le h8] at h9
      cases h9
   exact step_good h0 hg hlt
theorem close_sim {l:List Int} (h0:∀ r ∈ l,0 ≤ r) {s:CS} {t:RS} (h:Rel l s t):Rel l (close s) ⟨t.at_ + 1,t.bad || decide (ua.pk l t ≠ 41)⟩:=by
 obtain ⟨p,c,b⟩:=s
 obtain ⟨a,tb⟩:=t
 have e:close ⟨p,c,b⟩ = (Sim.step ⟨p,c,b || nx ⟨p,c,b⟩ != 41⟩).2:=rfl
 rw [e]
 rcases h with ⟨h1,h2⟩ | ⟨g1,g2,g3,g4⟩
 · left
   simp only at h1 h2
   subst h1
   subst h2
   exact ⟨step_bad _ rfl,rfl⟩
 · simp only at g1 g2 g3 g4
   subst g1
   subst g2
   rcases split_at h0 a false g3 with ⟨r,q,e,ek,hr,hlt,hq⟩ | ⟨e,ek,hal⟩
   · rw [g4,e,ek]
     by_cases h41:r = 41
     · subst h41
       right
       exact ⟨rfl,rfl,by simp only;omega,hq.symm⟩
     · left
       refine ⟨?_,?_⟩
       · refine step_bad _ ?_
         show (false || (r != 41)) = true
         simp [h41]
       · simp [h41]
   · rw [g4,e,ek]
     exact Or.inl ⟨rfl,rfl⟩
theorem atom_sim {l:List Int} (h0:∀ r ∈ l,0 ≤ r) {s:CS} {t:RS} (h:Good l s t) (hlt:t.at_ < l.length) (A:Nat → CS → CS) (B:Nat → RS → RS) (hAB:∀ d s t,Rel l s t → Rel l (A d s) (B d t)) (d:Nat):Rel l (regex_coder_atom.atomM A d s) (uc.atomM l B d t):=by
 obtain ⟨p,c,b⟩:=s
 obtain ⟨a,tb⟩:=t
 obtain ⟨g1,g2,g3,g4⟩:=h
 simp only at g1 g2 g3 g4 hlt
 subst g1
 subst g2
 rcases split_at h0 a false g3 with ⟨r,q,e,ek,hr,_,hq⟩ | ⟨e,ek,hal⟩
 · rw [g4,e,Sim.atom_is,am_stop r hr]
   unfold uc.atomM
   rw [show ua.pk l ⟨a,false⟩ = r from ek]
   have hgq:Good l ⟨q,c,false⟩ ⟨a + 1,false⟩:=⟨rfl,rfl,by simp only;omega,hq.symm⟩
   by_cases hm:ug.mk r [42,43,63,124,41,93] = true
   · rw [if_pos hm]
     have hcases:r ≠ 46 ∧ r ≠ 40 ∧ r ≠ 91 ∧ r ≠ 92:=by
      unfold ug.mk u1h.oneB at hm
      simp only [List.any_cons,List.any_nil,Bool.or_eq_true,decide_eq_true_eq] at hm
      refine ⟨?_,?_,?_,?_⟩ <;> (rintro rfl;revert hm;decide)
     rw [if_neg hcases.1,if_neg hcases.2.1,if_neg hcases.2.2.1,if_neg hcases.2.2.2,show ug.mk r [42,43,63,124,41,93] = true from hm]
     exact Or.inl ⟨rfl,rfl⟩
   · rw [if_neg hm]
     by_cases h46:r = 46
     · rw [if_pos h46,if_pos h46]
       exact Or.inr ⟨rfl,rfl,by simp only;omega,hq.symm⟩
     rw [if_neg h46,if_neg h46]
     by_cases h91:r = 91
     · rw [if_pos h91,if_neg (by omega),if_pos h91]
       exact cls_sim h0 hgq
     rw [if_neg h91]
     by_cases h40:r = 40
     · rw [if_pos h40,if_pos h40]
       by_cases hd:10 ≤ d
       · rw [if_pos (Or.inr hd),if_pos hd]
         exact Or.inl ⟨rfl,rfl⟩
       · rw [if_neg (by rintro (h9 | h9);cases h9;exact hd h9),if_neg hd]
         exact close_sim h0 (hAB (d + 1) _ _ (Or.inr hgq))
     rw [if_neg h40,if_neg h40,if_neg h91]
     by_cases h92:r = 92
     · rw [if_pos h92,if_pos h92]
       unfold u1j.esc
       rcases split_at h0 (a + 1) false (by omega) with ⟨r2,q2,e2,ek2,hr2,hlt2,hq2⟩ | ⟨e2,ek2,hal2⟩
       · rw [hq] at e2
         subst e2
         rw [show ua.pk l ⟨a + 1,false⟩ = r2 from ek2,decide_eq_false (by omega)]
         exact Or.inr ⟨rfl,rfl,by simp only;omega,hq2.symm⟩
       · rw [hq] at e2
         subst e2
         rw [show ua.pk l ⟨a + 1,false⟩ = -1 from ek2]
         exact Or.inl ⟨rfl,rfl⟩
     rw [if_neg h92,if_neg h92]
     have hmf:ug.mk r [42,43,63,124,41,93] = false:=by
      cases hx:ug.mk r [42,43,63,124,41,93] with
      | true => exact absurd hx hm
      | false => rfl
     rw [hmf]
     exact Or.inr ⟨rfl,rfl,by simp only;omega,hq.symm⟩
 · omega
theorem qual_sim {l:List Int} (h0:∀ r ∈ l,0 ≤ r) (n:Nat) {s:CS} {t:RS} (h:Rel l s t):Rel l (qual n s) (uc.qual l t):=by
 rcases h with ⟨h1,h2⟩ | hg
 · left
   unfold regex_coder_atom.qual uc.qual
   rw [if_neg (by rintro ⟨h9,_⟩;rw [h1] at h9;cases h9),if_neg (by rintro ⟨h9,_⟩;rw [h2] at h9;cases h9)]
   exact ⟨h1,h2⟩
 · obtain ⟨p,c,b⟩:=s
   obtain ⟨a,tb⟩:=t
   obtain ⟨g1,g2,g3,g4⟩:=hg
   simp only at g1 g2 g3 g4
   subst g1
   subst g2
   unfold uc.qual
   rcases split_at h0 a false g3 with ⟨r,q,e,ek,hr,hlt,hq⟩ | ⟨e,ek,hal⟩
   · rw [show ua.pk l ⟨a,false⟩ = r from ek]
     rw [g4,e]
     by_cases hm:ug.mk r [42,43,63] = true
     · rw [if_pos ⟨rfl,hm⟩]
       unfold regex_coder_atom.qual
       rw [if_pos ⟨rfl,by rw [show uu.am ⟨#[42,43,63]⟩ ⟨r :: q,c,false⟩ = ug.mk r [42,43,63] from am_qual r hr q c false];exact hm⟩]
       right
       split
       · exact ⟨rfl,rfl,by simp only;omega,hq.symm⟩
       · split
         · exact ⟨rfl,rfl,by simp only;omega,hq.symm⟩
         · exact ⟨rfl,rfl,by simp only;omega,hq.symm⟩
     · rw [if_neg (fun h9 => hm h9.2)]
       unfold regex_coder_atom.qual
       rw [if_neg (fun h9 => hm (by rw [← am_qual r hr q c false];exact h9.2))]
       exact Or.inr ⟨rfl,rfl,g3,e.symm⟩
   · rw [show ua.pk l ⟨a,false⟩ = -1 from ek,g4,e,if_neg (fun h9 => by have h8:=h9.2;rw [mk_neg _ (by decide)] at h8;cases h8)]
     unfold regex_coder_atom.qual
     rw [if_neg (fun h9 => by have h8:=h9.2;rw [show uu.am ⟨#[42,43,63]⟩ ⟨[],c,false⟩ = false from rfl] at h8;cases h8)]
     exact Or.inr ⟨rfl,rfl,g3,e.symm⟩
theorem N_bad (l:List Int) (f:Nat):∀ (k d:Nat) (t:RS),k ≠ 0 → t.bad = true → (uc.N l f k d t).bad = true:=by
 induction f with
 | zero => exact fun k d t _ h => h
 | succ f ih =>
   intro k d t hk h
   match k with
   | 0 => exact absurd rfl hk
   | 1 =>
     rw [show uc.N l (f + 1) 1 d t = _ from uc.N1 l f d t,if_neg (by rintro ⟨h9,_⟩;rw [h] at h9;cases h9)]
     exact h
   | k + 2 =>
     have h1:=ih 1 d t (by decide) h
     rw [show uc.N l (f + 1) (k + 2) d t = _ from uc.N2 l f d t,if_neg (by rintro ⟨h9,_⟩;exact absurd (h1.symm.trans h9) (by decide))]
     exact h1
theorem M_sim {l:List Int} (h0:∀ r ∈ l,0 ≤ r) (f:Nat):∀ (k d:Nat) (s:CS) (t:RS),Rel l s t → (k = 0 → Good l s t ∧ t.at_ < l.length) → Rel l (M f k d s) (uc.N l f k d t):=by
 induction f with
 | zero => exact fun k d s t h _ => h
 | succ f ih =>
   intro k d s t h hk
   rcases h with ⟨hb1,hb2⟩ | hg
   · match k with
     | 0 => exact absurd ((hk rfl).1.1.symm.trans hb1) (by decide)
     | k + 1 => exact Or.inl ⟨Sim.M_bad (f + 1) (k + 1) d s (by omega) hb1,N_bad l (f + 1) (k + 1) d t (by omega) hb2⟩
   · match k with
     | 0 =>
       have hlt:=(hk rfl).2
       rw [show uc.N l (f + 1) 0 d t = _ from uc.N0 l f d t]
       exact atom_sim h0 hg hlt (fun d' s' => M f 2 d' s') (fun d' t' => uc.N l f 2 d' t') (fun d' s' t' h' => ih 2 d' s' t' h' (fun h9 => absurd h9 (by decide))) d
     | 1 =>
       rw [Sim.piece_is,show uc.N l (f + 1) 1 d t = _ from uc.N1 l f d t]
       obtain ⟨p,c,b⟩:=s
       obtain ⟨a,tb⟩:=t
       have hgg:=hg
       obtain ⟨g1,g2,g3,g4⟩:=hg
       simp only at g1 g2 g3 g4
       subst g1
       subst g2
       rcases split_at h0 a false g3 with ⟨r,q,e,ek,hr,hlt,hq⟩ | ⟨e,ek,hal⟩
       · rw [show ua.pk l ⟨a,false⟩ = r from ek]
         have hmo:mo ⟨p,c,false⟩ = true:=by rw [g4,e];rfl
         have ham:am ⟨#[124,41]⟩ ⟨p,c,false⟩ = ug.mk r [124,41]:=by rw [g4,e];exact am_41 r hr q c false
         rw [hmo,ham]
         by_cases hm:ug.mk r [124,41] = false
         · rw [if_pos ⟨rfl,hm⟩,if_pos ⟨rfl,hr,hm⟩]
           exact ih 1 d _ _ (qual_sim h0 _ (ih 0 d _ _ (Or.inr hgg) (fun _ => ⟨hgg,hlt⟩))) (fun h9 => absurd h9 (by decide))
         · rw [if_neg (fun h9 => hm h9.2),if_neg (fun h9 => hm h9.2.2)]
           exact Or.inr hgg
       · rw [show ua.pk l ⟨a,false⟩ = -1 from ek,if_neg (fun h9 => by have h8:=h9.1;rw [g4,e,Sim.mo_nil] at h8;cases h8),if_neg (fun h9 => absurd h9.2.1 (by decide))]
         exact Or.inr hgg
     | k + 2 =>
       have h1:=ih 1 d s t (Or.inr hg) (fun h9 => absurd h9 (by decide))
       have e1:M (f + 1) (k + 2) d s = M (f + 1) 2 d s:=rfl
       have e2:uc.N l (f + 1) (k + 2) d t = uc.N l (f + 1) 2 d t:=rfl
       rw [e1,e2,Sim.alts_is,show uc.N l (f + 1) 2 d t = _ from uc.N2 l f d t]
       generalize hs1:M f 1 d s = s1 at h1 ⊢
       rw [show uc.N l f 1 d t = uc.N l f 1 d t from rfl]
       generalize ht1:uc.N l f 1 d t = t1 at h1 ⊢
       rcases h1 with ⟨b1,b2⟩ | hg1
       · rw [if_neg (fun h9 => by have h8:=(regex_coder_atom.mo_ne h9.1).2;rw [b1] at h8;cases h8),if_neg (fun h9 => by rw [b2] at h9;cases h9.1)]
         exact Or.inl ⟨b1,b2⟩
       · obtain ⟨p,c,b⟩:=s1
         obtain ⟨a,tb⟩:=t1
         have hgg:=hg1
         obtain ⟨g1,g2,g3,g4⟩:=hg1
         simp only at g1 g2 g3 g4
         subst g1
         subst g2
         rcases split_at h0 a false g3 with ⟨r,q,e,ek,hr,hlt,hq⟩ | ⟨e,ek,hal⟩
         · rw [show ua.pk l ⟨a,false⟩ = r from ek]
           have hmo:mo ⟨p,c,false⟩ = true:=by rw [g4,e];rfl
           have hnx:nx ⟨p,c,false⟩ = r:=by rw [g4,e];rfl
           rw [hmo,hnx]
           by_cases h124:r = 124
           · rw [if_pos ⟨rfl,h124⟩,if_pos ⟨rfl,h124⟩]
             have hbar:Good l (bar s.code.length ⟨p,c,false⟩) ⟨a + 1,false⟩:=by
              rw [g4,e]
              exact ⟨rfl,rfl,by simp only;omega,hq.symm⟩
             have h2:=ih 2 d _ _ (Or.inr hbar) (fun h9 => absurd h9 (by decide))
             obtain ⟨_,al2,al3⟩:=regex_coder_atom.aim_len (s.code.length + 1 + ((⟨p,c,false⟩:CS).code.drop s.code.length).length) (M f 2 d (bar s.code.length ⟨p,c,false⟩))
             rcases h2 with ⟨b1,b2⟩ | ⟨k1,k2,k3,k4⟩
             · exact Or.inl ⟨al3.trans b1,b2⟩
             · exact Or.inr ⟨al3.trans k1,k2,k3,al2.trans k4⟩
           · rw [if_neg (fun h9 => h124 h9.2),if_neg (fun h9 => h124 h9.2)]
             exact Or.inr hgg
         · rw [show ua.pk l ⟨a,false⟩ = -1 from ek,if_neg (fun h9 => by have h8:=h9.1;rw [g4,e,Sim.mo_nil] at h8;cases h8),if_neg (fun h9 => absurd h9.2 (by decide))]
           exact Or.inr hgg
theorem nonneg (s:ByteArray):∀ r ∈ Base.runesOf s,0 ≤ r:=by
 intro r hr
 obtain ⟨c,rfl,_⟩:=Utf.vr_of s r hr
 omega
theorem same_check (s:ByteArray):u2e.okB s = (u1i.parseM s).isSome:=by
 have hm:=M_sim (nonneg s) (4 * (Base.runesOf s).length + 3) 2 0 ⟨Base.runesOf s,[],false⟩ ⟨0,false⟩ (Or.inr ⟨rfl,rfl,Nat.zero_le _,rfl⟩) (fun h9 => absurd h9 (by decide))
 have e1:M (4 * (Base.runesOf s).length + 3) 2 0 ⟨Base.runesOf s,[],false⟩ = u1i.runM (Base.runesOf s):=rfl
 have e2:uc.N (Base.runesOf s) (4 * (Base.runesOf s).length + 3) 2 0 ⟨0,false⟩ = uw.runN (Base.runesOf s):=rfl
 rw [e1,e2] at hm
 unfold u2e.okB u1i.parseM
 by_cases he:60 < s.size ∨ u1i.tv s = true
 · rw [if_pos he]
   have h1:uw.early s = true:=by
    unfold uw.early u1h.oneB
    rw [Bool.or_eq_true,decide_eq_true_eq,List.any_eq_true]
    rcases he with h9 | h9
    · exact Or.inl h9
    · exact Or.inr ⟨65533,(Has.tv_iff s).1 h9,by simp⟩
   rw [h1]
   rfl
 · rw [if_neg he]
   have h1:uw.early s = false:=by
    cases h9:uw.early s with
    | false => rfl
    | true =>
      exfalso
      unfold uw.early u1h.oneB at h9
      rw [Bool.or_eq_true,decide_eq_true_eq,List.any_eq_true] at h9
      rcases h9 with h9 | ⟨x,hx,h9⟩
      · exact he (Or.inl h9)
      · have h8:=of_decide_eq_true h9
        subst h8
        exact he (Or.inr ((Has.tv_iff s).2 hx))
   rw [h1]
   show (true && uw.okN (Base.runesOf s)) = _
   rw [Bool.true_and]
   unfold uw.okN
   rcases hm with ⟨b1,b2⟩ | ⟨k1,k2,k3,k4⟩
   · rw [if_pos (Or.inl b1),b2]
     rfl
   · rw [k2]
     have h7:=congrArg List.length k4
     rw [List.length_drop] at h7
     by_cases hp:0 < (u1i.runM (Base.runesOf s)).p.length
     · rw [if_pos (Or.inr hp),decide_eq_false (by omega)]
       rfl
     · rw [if_neg (by rintro (h9 | h9);rw [k1] at h9;cases h9;exact hp h9),decide_eq_true (by omega)]
       rfl
end R8
end Go.Proofs.YtgnehcgaplnfkaaGreatDoor.PAll
namespace Go.Proofs.YtgnehcgaplnfkaaGreatDoor.Laws
open Go.RowKit Go.Proofs.YtgnehcgaplnfkaaGreatDoor.PAll Go.Proofs.YtgnehcgaplnfkaaGreatDoorW.PrintWords Go.Proofs.YtgnehcgaplnfkaaGreatDoorW.PrintLast
set_option linter.unusedVariables false
set_option linter.unusedSimpArgs false
abbrev Mt:=S79
def rcanB (a0:Int) (a1 a2:ByteArray):Bool:=Base.nameB a1 && (if a0 = 1 ∨ a0 = 2 then decide (a2.size = 0) || Base.valueB a2 else if a0 = 3 ∨ a0 = 4 then u2e.okB a2 && Base.plainTextB a2 else false)
theorem no_repl {s:ByteArray} (h:u2e.okB s = true):∀ r ∈ Base.runesOf s,r ≠ 65533:=by
 intro r hr he
 subst he
 unfold u2e.okB at h
 rw [Bool.and_eq_true,Bool.not_eq_true'] at h
 have h1:=h.1
 unfold uw.early u1h.oneB at h1
 rw [Bool.or_eq_false_iff,List.any_eq_false] at h1
 exact h1.2 _ hr (by simp)
theorem rcan_is (a0:Int) (a1 a2:ByteArray):rcanB a0 a1 a2 = u2w.canB a0 a1 a2:=by
 unfold rcanB u2w.canB
 rw [Bool.and_comm]
 congr 1
 split
 · rfl
 · split
   · rw [← R8.same_check]
     cases h:u2e.okB a2 with
     | false => simp
     | true =>
       rw [Bool.true_and,Bool.and_true]
       have hn:=no_repl h
       unfold Base.plainTextB
       rw [Bool.eq_iff_iff,List.all_eq_true,List.all_eq_true]
       refine ⟨fun h1 r hr => ?_,fun h1 r hr => ?_⟩
       · have:=h1 r hr
         unfold u2w.quietB
         simp only [Bool.not_eq_true',Bool.or_eq_false_iff,decide_eq_false_iff_not] at this ⊢
         exact this.1
       · have:=h1 r hr
         have h2:=hn r hr
         unfold u2w.quietB at this
         simp only [Bool.not_eq_true',Bool.or_eq_false_iff,decide_eq_false_iff_not] at this ⊢
         exact ⟨this,h2⟩
   · rfl
theorem r9can_ev (a0:Int) (a1 a2:ByteArray) (h1:a1.size ≤ 9223372036854775807) (h2:a2.size ≤ 35184372088830):Ev (fun k => u1q.f k a0 a1 a2) (u2w.canB a0 a1 a2):=by
 rw [← rcan_is]
 unfold rcanB
 refine Ev.bind (rname_ev a1 h1) ?_
 cases Base.nameB a1 with
 | false => exact Ev.congr (fun k => by simp) (Ev.now _)
 | true =>
   rw [Bool.true_and]
   have hv:Ev (fun k => (u2y.f a2).bind fun t => some t) (Base.valueB a2):=by
    rw [rvalue_is]
    exact Ev.now _
   have hj1:∀ b:Bool,Ev (fun k => u1q.j1 k b a0 a1 a2) (if b = true then u2e.okB a2 && Base.plainTextB a2 else false):=fun b => by
    cases b with
    | false => exact Ev.step (f:=fun _ => some false) (fun k => by simp [u1q.j1]) (Ev.now _)
    | true =>
      refine Ev.step (f:=fun _ => some (u2e.okB a2 && Base.plainTextB a2)) (fun k => ?_) (Ev.now _)
      simp only [u1q.j1,u2e.f,u2v.f]
      rw [if_pos h2]
      cases u2e.okB a2 <;> simp
   have hj0:∀ b:Bool,Ev (fun k => u1q.j0 k a0 b a0 a1 a2) (if b = true then decide (a2.size = 0) || Base.valueB a2 else if a0 = 3 ∨ a0 = 4 then u2e.okB a2 && Base.plainTextB a2 else false):=fun b => by
    cases b with
    | true =>
      refine Ev.step (f:=fun _ => some (decide (a2.size = 0) || Base.valueB a2)) (fun k => ?_) (Ev.now _)
      simp only [u1q.j0]
      rw [if_pos trivial]
      by_cases h0:a2.size = 0
      · rw [if_pos ((Base.toList_nil a2).2 h0)]
        simp [h0]
      · rw [if_neg (fun h9 => h0 ((Base.toList_nil a2).1 h9)),rvalue_is]
        simp [h0]
    | false =>
      refine Ev.step (f:=fun k => if a0 = 3 then u1q.j1 k (a0 == 3) a0 a1 a2 else u1q.j1 k (a0 == 4) a0 a1 a2) (fun k => by simp only [u1q.j0];rw [if_neg (by intro h9;cases h9)]) ?_
      rw [if_neg (by intro h9;cases h9)]
      by_cases h3:a0 = 3
      · have:=hj1 (a0 == 3)
        simp only [if_pos h3]
        simpa [h3] using this
      · have:=hj1 (a0 == 4)
        simp only [if_neg h3]
        simpa [h3] using this
   refine Ev.congr (f:=fun k => if a0 = 1 then u1q.j0 k a0 (a0 == 1) a0 a1 a2 else u1q.j0 k a0 (a0 == 2) a0 a1 a2) (fun k => by rw [if_pos rfl]) ?_
   by_cases ha:a0 = 1
   · have:=hj0 (a0 == 1)
     simp only [if_pos ha]
     simpa [ha] using this
   · have:=hj0 (a0 == 2)
     simp only [if_neg ha]
     simpa [ha] using this
theorem r9_l0 (x0 l:List Mt) (hl:l.length < 4611686018427387904) (hs:∀ y ∈ l,y.f1.size ≤ 9223372036854775807 ∧ y.f2.size ≤ 35184372088830):∀ (r:List Mt) (i:Nat),l.drop i = r → i ≤ l.length → Ev (fun k => u2q.l0 k x0 l (l.length:Int) (i:Int)) (r.all u1m.okB && decide (x0.length ≤ 6))
 | [],i,h,hi => by
   have:l.length ≤ i:=List.drop_eq_nil_iff.1 h
   refine Ev.step (f:=fun _ => some (([]:List Mt).all u1m.okB && decide (x0.length ≤ 6))) (fun k => ?_) (Ev.now _)
   simp only [u2q.l0]
   rw [if_neg (by omega)]
   simp
   omega
 | x :: r,i,h,hi => by
   have hlt:i < l.length:=by
    rcases Nat.lt_or_ge i l.length with h9 | h9
    · exact h9
    · rw [List.drop_eq_nil_of_le h9] at h
      cases h
   rw [List.drop_eq_getElem_cons hlt] at h
   obtain ⟨h1,h2⟩:=List.cons.inj h
   have hx:u1w l (i:Int) = x:=by simp [u1w,hlt,h1]
   have hm:x ∈ l:=by rw [← h1];exact List.getElem_mem hlt
   have ih:=r9_l0 x0 l hl hs r (i + 1) h2 (by omega)
   refine Ev.step (f:=fun k => (u1q.f k x.f0 x.f1 x.f2).bind fun t => if t = true then u2q.l0 k x0 l (l.length:Int) ((i + 1:Nat):Int) else some false) (fun k => ?_) ?_
   · simp only [u2q.l0]
     rw [if_pos (by omega),if_pos (by omega),if_pos (by omega),hx,show wrap64 ((i:Int) + 1) = ((i + 1:Nat):Int) by unfold wrap64;omega]
   · refine Ev.bind (r9can_ev x.f0 x.f1 x.f2 (hs x hm).1 (hs x hm).2) ?_
     rw [List.all_cons]
     show Ev (fun k => if u2w.canB x.f0 x.f1 x.f2 = true then _ else some false) (u2w.canB x.f0 x.f1 x.f2 && r.all u1m.okB && decide (x0.length ≤ 6))
     cases u2w.canB x.f0 x.f1 x.f2 with
     | false => exact Ev.congr (fun k => by simp) (Ev.now _)
     | true =>
       rw [Bool.true_and]
       exact Ev.congr (fun k => by rw [if_pos rfl]) ih
theorem r9Can_ev (l:List Mt) (hl:l.length < 4611686018427387904) (hs:∀ y ∈ l,y.f1.size ≤ 9223372036854775807 ∧ y.f2.size ≤ 35184372088830):Ev (fun k => u2q.f k l) (u1m.CanB l):=by
 have h:=r9_l0 l l hl hs l 0 rfl (Nat.zero_le _)
 unfold u1m.CanB
 rw [Bool.and_comm]
 exact h
end Go.Proofs.YtgnehcgaplnfkaaGreatDoor.Laws
