/- Texts of this seat, joined in the order in which they build. -/
import Derived.Test.YtgnehcgaplnfkaaGreatDoorBt1
import Derived.Test.YtgnehcgaplnfkaaGreatDoorBt2
import Derived.Test.YtgnehcgaplnfkaaGreatDoorBt3
import Derived.Test.YtgnehcgaplnfkaaGreatDoorBt5
import Derived.Test.YtgnehcgaplnfkaaGreatDoorGx51Bt
import Derived.Test.YtgnehcgaplnfkaaGreatDoorGx52Bt
import Derived.Test.YtgnehcgaplnfkaaGreatDoorGx53Bt
namespace Go.Proofs.YtgnehcgaplnfkaaGreatDoor.PAll
open Go.RowKit Go.Proofs.YtgnehcgaplnfkaaGreatDoorW.PrintWords Go.Proofs.YtgnehcgaplnfkaaGreatDoorW.PrintLast Go.Proofs.YtgnehcgaplnfkaaGreatDoorW.PrintMore
attribute [local go_sem] u3r u3t u4c u4b u3n u3o u3u u3s
set_option linter.unusedVariables false
set_option linter.unusedSimpArgs false
abbrev u3w.Rw:=S59
def u3w.cn (k:Nat) (x:u3w.Rw):Bool:=(u3k.f k x.f0).getD false
def u3w.f (k:Nat) (a0:Int) (l1:List u3w.Rw) (l2:List S79) (a3 a4 a5:Int):Option Bool :=
 if a0 = 1 then (if 0 < l1.length ∧ l1.length ≤ 200 then (if l1.all (fun x => (u3k.f k x.f0).isSome) = true then some (l1.all (u3w.cn k)) else none) else some false)
 else if a0 = 2 then some (u1l.CanB l2)
 else some (decide (a0 = 3 ∧ 0 ≤ a5 ∧ a5 ≤ 4611686018427387904))
abbrev u2f.Dl:=S83
def u2f.okB (x:u2f.Dl):Bool:=u1l.CanB x.f0 && (decide (0 ≤ x.f3) && decide (x.f3 ≤ 4611686018427387904))
def u2f.RetA (P:Prop) (e:Ending):Prop:=∃ i:Int,e = .returned (.int .i64 i) ∧ (0 ≤ i ↔ P)
def u2f.CanB (l:List u2f.Dl):Bool:=decide (l.length ≤ 10000) && l.all u2f.okB
theorem u2f.test (x:u2f.Dl) (A:Option Addr) (c:Nat) (w:World) (hx:x.f0.length ≤ c) (gx:Kd.C k79 w A x.f0.length x.f0) (hG:strings_ToValidUTF8.Gd w) :
 Calls Tryz.prog 75 #[.agg #[.slice A x.f0.length c,.int .i64 x.f1,.int .i64 x.f2,.int .i64 x.f3]] w fun e w' => e = .returned (.bool (!u2f.okB x)) ∧ Below w.heap.size w w':=by
 obtain ⟨Wa,hWa⟩:∃ Wa,Aside0 (w.alloc (.cells #[.slice A x.f0.length c,.int .i64 x.f1,.int .i64 x.f2,.int .i64 x.f3] 83) = Wa):=⟨_,⟨rfl⟩⟩
 have hbl:Below w.heap.size w Wa:=by rw [← hWa.out];exact uj (Below.refl _ _) _
 have HB:=Aside0.mk hbl
 have HG:=Aside0.mk (hG.below hbl)
 have GX:=Aside0.mk (Kd.C_below gx hbl)
 have HX:=Aside0.mk hx
 have HU:Aside0 (Wa.heap[w.heap.size]? = some (.cells #[.slice A x.f0.length c,.int .i64 x.f1,.int .i64 x.f2,.int .i64 x.f3] 83 (0,0))):=⟨by rw [← hWa.out];exact u3l _ _⟩
 clear hbl hG gx hx
 cases hb:u1l.CanB x.f0 with
 | false =>
   have HE:Aside0 (u2f.okB x = false):=⟨by unfold u2f.okB;rw [hb];rfl⟩
   rw [HE.out]
   have HC:=Aside0.mk hb
   clear hb
   go_enter Tryz.func75,Tryz.ntmps75
   go_wp2_with (go_at_call 36;rw [hWa.out];(with_reducible refine (u1l.calls A c x.f0 Wa GX.out HX.out HG.out).mono ?_);rintro e W1 ⟨rfl,hB1⟩;rw [HC.out];have HB1:=Aside0.mk hB1;clear hB1)
   go_ret
   exact ⟨rfl,u1c HB.out HB.out.size HB1.out⟩
 | true =>
   have HC:=Aside0.mk hb
   have HE:Aside0 (u2f.okB x = (decide (0 ≤ x.f3) && decide (x.f3 ≤ 4611686018427387904))):=⟨by unfold u2f.okB;rw [hb];rfl⟩
   rw [HE.out]
   clear hb
   by_cases h0:x.f3 < 0
   · have d1:decide (x.f3 < 0) = true:=decide_eq_true h0
     have e1:decide (0 ≤ x.f3) = false:=decide_eq_false (by omega)
     rw [e1]
     clear h0
     go_enter Tryz.func75,Tryz.ntmps75
     go_wp2_with (go_at_call 36;rw [hWa.out];(with_reducible refine (u1l.calls A c x.f0 Wa GX.out HX.out HG.out).mono ?_);rintro e W1 ⟨rfl,hB1⟩;rw [HC.out];have hu:=u1h HU.out hB1;have u3:=(uk hu 3).trans rfl;have HB1:=Aside0.mk hB1;clear hB1 hu)
     go_ret
     exact ⟨rfl,u1c HB.out HB.out.size HB1.out⟩
   · have d1:decide (x.f3 < 0) = false:=decide_eq_false h0
     have e1:decide (0 ≤ x.f3) = true:=decide_eq_true (by omega)
     rw [e1]
     have e2:Aside0 ((true && decide (x.f3 ≤ 4611686018427387904)) = !decide (x.f3 > 4611686018427387904)):=⟨by
      rw [Bool.true_and]
      by_cases h2:x.f3 ≤ 4611686018427387904
      · rw [decide_eq_true h2,decide_eq_false (by omega)];rfl
      · rw [decide_eq_false h2,decide_eq_true (by omega)];rfl⟩
     rw [e2.out]
     clear h0 e1
     go_enter Tryz.func75,Tryz.ntmps75
     go_wp2_with (go_at_call 36;rw [hWa.out];(with_reducible refine (u1l.calls A c x.f0 Wa GX.out HX.out HG.out).mono ?_);rintro e W1 ⟨rfl,hB1⟩;rw [HC.out];have hu:=u1h HU.out hB1;have u3:=(uk hu 3).trans rfl;have HB1:=Aside0.mk hB1;clear hB1 hu)
     go_ret
     exact ⟨by simp,u1c HB.out HB.out.size HB1.out⟩
set_option maxHeartbeats 1000000 in
theorem u2f.index (A:Option Addr) (c:Nat) (l:List u2f.Dl) (w:World) (hr:Kd.C k83 w A l.length l) (hm:l.length ≤ 9223372036854775807) (hG:strings_ToValidUTF8.Gd w) :
 Calls Tryz.prog 91 #[.slice A l.length c,.func (.func 75) #[] #[]] w fun e w' =>
  u2f.RetA (l.all u2f.okB = false) e ∧ Below w.heap.size w w':=by
 have HR:=Aside0.mk hr
 have HG:=Aside0.mk hG
 clear hr hG
 go_enter Tryz.func91,Tryz.ntmps91
 go_wp2
 go_loopg [8] (l.length) (fun kq v8 wr => ∃ (x:Nat),x ≤ l.length ∧ v8 = .int .i64 x ∧ Aside0 (∀ j (hj:j < l.length),j < x → u2f.okB (l[j]'hj) = true) ∧ l.length ≤ kq + x ∧ Below w.heap.size w wr)
 case atStart => exact ⟨0,by omega,rfl,⟨fun j _ hj => absurd hj (by omega)⟩,by omega,Below.refl _ _⟩
 case round =>
  obtain ⟨x,hx,rfl,HN,hk,hB⟩:=hrel
  have HB:=Aside0.mk hB
  clear hB
  by_cases hlt:x < l.length
  · obtain ⟨ad,A1,c1,e,f0,f1,f2,f3,g0,g1⟩:=at_T83 (Kd.C_below HR.out HB.out) (x:Int) (by omega) (by omega)
    subst e
    have HGr:=Aside0.mk (HG.out.below HB.out)
    have HRD:Aside0 (u2t l (x:Int) = l[x]'hlt):=⟨by simp [u2t,hlt]⟩
    obtain ⟨y,hy⟩:∃ y,Aside0 (u2t l (x:Int) = y):=⟨_,⟨rfl⟩⟩
    rw [hy.out] at f0 f1 f2 f3 g0 g1 HRD
    simp only [Int.toNat_natCast] at f0 f1 f2 f3
    have GX:=Aside0.mk g1
    have HX:=Aside0.mk g0
    clear g0 g1
    cases hb:u2f.okB y with
    | false =>
      have HBF:=Aside0.mk hb
      clear hb
      go_wp2_with (go_at_call 75;(with_reducible refine (u2f.test y A1 c1 _ HX.out GX.out HGr.out).mono ?_);rintro e W1 ⟨rfl,hb1⟩;rw [HBF.out];have HB1:=Aside0.mk hb1;clear hb1)
      go_ret
      refine ⟨⟨x,rfl,⟨fun _ => ?_,fun _ => by omega⟩⟩,HB.out.trans (HB1.out.mono HB.out.size)⟩
      rw [List.all_eq_false]
      exact ⟨y,by rw [HRD.out];exact List.getElem_mem hlt,by simp [HBF.out]⟩
    | true =>
      have HBF:=Aside0.mk hb
      clear hb
      obtain ⟨g1,rfl⟩:∃ g1,gk = g1 + 1:=⟨gk - 1,by omega⟩
      go_wp2_with (go_at_call 75;(with_reducible refine (u2f.test y A1 c1 _ HX.out GX.out HGr.out).mono ?_);rintro e W1 ⟨rfl,hb1⟩;rw [HBF.out];have HB1:=Aside0.mk hb1;clear hb1)
      go_roundg g1
      case rel =>
       refine ⟨x + 1,by omega,by go_num,⟨fun j hj hjx => ?_⟩,by omega,HB.out.trans (HB1.out.mono HB.out.size)⟩
       rcases Nat.lt_or_ge j x with h9 | h9
       · exact HN.out j hj h9
       · have:j = x:=by omega
         subst this
         rw [← HRD.out]
         exact HBF.out
      case measure => omega
  · go_wp2
    go_ret
    refine ⟨⟨-1,rfl,⟨fun h => absurd h (by decide),fun h => ?_⟩⟩,HB.out⟩
    exfalso
    rw [List.all_eq_false] at h
    obtain ⟨y,hy,h2⟩:=h
    obtain ⟨j,hj,rfl⟩:=List.getElem_of_mem hy
    exact h2 (HN.out j hj (by omega))
theorem u2f.contains (A:Option Addr) (c:Nat) (l:List u2f.Dl) (w:World) (hr:Kd.C k83 w A l.length l) (hG:strings_ToValidUTF8.Gd w) :
 Calls Tryz.prog 76 #[.slice A l.length c,.func (.func 75) #[] #[]] w fun e w' => e = .returned (.bool (!l.all u2f.okB)) ∧ Below w.heap.size w w':=by
 have hm:=hr.2.1
 go_enter Tryz.func76,Tryz.ntmps76
 go_wp2_with (go_at_call 91;refine (u2f.index _ _ _ _ hr hm hG).mono ?_;rintro e W1 ⟨⟨i,rfl,hi⟩,hb1⟩;have HI:=Aside0.mk hi;clear hi)
 go_ret
 have hd:decide (0 ≤ i) = !l.all u2f.okB:=by
  cases hl:l.all u2f.okB with
  | false => exact decide_eq_true (HI.out.2 hl)
  | true => exact decide_eq_false (fun h => (by have h9:=HI.out.1 h;rw [hl] at h9;cases h9))
 exact ⟨by rw [← hd];rfl,hb1⟩
theorem u2f.calls (A:Option Addr) (c:Nat) (l:List u2f.Dl) (w:World) (hr:Kd.C k83 w A l.length l) (hc:l.length ≤ c) (hG:strings_ToValidUTF8.Gd w) :
 Calls Tryz.prog 41 #[.slice A l.length c] w fun e w' => e = .returned (.bool (u2f.CanB l)) ∧ Below w.heap.size w w':=by
 have HR:=Aside0.mk hr
 have HG:=Aside0.mk hG
 clear hr hG
 by_cases hmx:l.length ≤ 10000
 · have hd:decide ((l.length:Int) ≤ 10000) = true:=decide_eq_true (by omega)
   have HV:Aside0 (u2f.CanB l = l.all u2f.okB):=⟨by unfold u2f.CanB;rw [decide_eq_true hmx];rfl⟩
   rw [HV.out]
   obtain ⟨b,hb⟩:∃ b,Aside0 (l.all u2f.okB = b):=⟨_,⟨rfl⟩⟩
   rw [hb.out]
   go_enter Tryz.func41,Tryz.ntmps41
   go_wp2_with (go_at_call 76;refine (u2f.contains A c l w HR.out HG.out).mono ?_;rintro e W1 ⟨rfl,hb1⟩;rw [hb.out])
   go_ret
   exact ⟨by simp,hb1⟩
 · have hd:decide ((l.length:Int) ≤ 10000) = false:=decide_eq_false (by omega)
   have HV:Aside0 (u2f.CanB l = false):=⟨by unfold u2f.CanB;rw [decide_eq_false hmx];rfl⟩
   rw [HV.out]
   go_enter Tryz.func41,Tryz.ntmps41
   go_wp2
   go_ret
   exact ⟨rfl,Below.refl _ _⟩
-- in the form of the print
theorem ux.infoM:(Tryz.prog.info? 79).map (fun i => (i.zero,i.size,i.bytes)) = some (some (.agg #[.int .i64 0,.string ⟨#[]⟩,.string ⟨#[]⟩]),3,40):=by kernel_rfl
abbrev ux.SS:=ug.SS
abbrev ux.Mt:=S79
def ux.mats:Nat → ux.SS → List ux.Mt → List ux.Mt × ux.SS
 | 0,s,l => (l,s)
 | n + 1,s,l => ux.mats n (u1d.mat s).2 (l ++ [(u1d.mat s).1])
def ux.out (z:List ux.Mt × ux.SS):List ux.Mt × List Int × Int:=if z.2.bad = true then ([],[],3) else if u1l.CanB z.1 = false then ([],[],5) else (z.1,z.2.b,0)
def ux.dec (l0:List Int):List ux.Mt × List Int × Int:=ux.out (ux.mats (ul.byt ⟨l0,false⟩).1.toNat (ul.byt ⟨l0,false⟩).2 [])
set_option maxHeartbeats 8000000 in
set_option maxRecDepth 10000 in
theorem ux.calls (A0:Option Addr) (c0:Nat) (l0:List Int) (w:World) (hr0:Kd.C (Kd.int .u8) w A0 l0.length l0) (hc0:l0.length ≤ c0) (hl:l0.length ≤ 140737488355328) (h256:∀ y ∈ l0,0 ≤ y ∧ y < 256) (hG:strings_ToValidUTF8.Gd w) :
 Calls Tryz.prog 24 #[.slice A0 l0.length c0] w fun e w' => ∃ v0_ v1_:Value,e = .returned (.tuple #[v0_,v1_,.int .i64 (ux.dec l0).2.2]) ∧ Kd.R k79 79 w' w.heap.size (fun _ => True) v0_ (ux.dec l0).1 ∧ Kd.R (Kd.int .u8) 5 w' w.heap.size (fun _ => True) v1_ (ux.dec l0).2.1 ∧ Below w.heap.size w w':=by
 obtain ⟨⟨hn0,hn1⟩,hb2,hb3⟩:=ul.byt_range (s:=⟨l0,false⟩) h256
 obtain ⟨⟨n,s0⟩,hby⟩:∃ z:Int × ux.SS,ul.byt ⟨l0,false⟩ = z:=⟨_,rfl⟩
 obtain ⟨fin,hfin⟩:∃ fin,Aside0 (ux.dec l0 = fin):=⟨_,⟨rfl⟩⟩
 have HF:Aside0 (ux.out (ux.mats n.toNat s0 []) = fin):=⟨by have h9:=hfin.out;unfold ux.dec at h9;rw [hby] at h9;exact h9⟩
 rw [hfin.out]
 rw [hby] at hn0 hn1 hb2 hb3
 simp only at hn0 hn1 hb2 hb3
 obtain ⟨m,rfl⟩:∃ m:Nat,n = (m:Int):=⟨n.toNat,by omega⟩
 simp only [Int.toNat_natCast] at HF
 have HBY:=Aside0.mk hby
 have HB0:=Aside0.mk h256
 have HB2:=Aside0.mk hb2
 have HB3:Aside0 (s0.b.length ≤ 140737488355328):=⟨Nat.le_trans hb3 hl⟩
 have HM:Aside0 (m < 256):=⟨by omega⟩
 have HC:=Aside0.mk hc0
 obtain ⟨W2,hW2⟩:∃ W2,Aside0 ((w.alloc (.cells #[.slice A0 l0.length c0,.bool false] 104)).alloc (.cells #[.pointer (some ⟨w.heap.size,0,none⟩)] 106) = W2):=⟨_,⟨rfl⟩⟩
 have hbl:Below w.heap.size w W2:=by rw [← hW2.out];exact uj (uj (Below.refl _ _) _) _
 have hx:W2.heap[w.heap.size]? = some (.cells #[.slice A0 l0.length c0,.bool false] 104 (0,0)):=by
  rw [← hW2.out]
  exact u1h (u3l w _) (uj (Below.refl _ _) _)
 have hy:W2.heap[w.heap.size + 1]? = some (.cells #[.pointer (some ⟨w.heap.size,0,none⟩)] 106 (0,0)):=by
  have h9:=u3l (w.alloc (.cells #[.slice A0 l0.length c0,.bool false] 104)) (.cells #[.pointer (some ⟨w.heap.size,0,none⟩)] 106)
  simp only [World.size_alloc] at h9
  rw [← hW2.out]
  exact h9
 have hS:ul.St w W2 w.heap.size (fun k => k < w.heap.size) ⟨l0,false⟩:=⟨hbl,Nat.le_refl _,fun k hk => by omega,A0,c0,hx,hc0,Kd.F_below (Kd.C_F (Kd.heap_int .u8) hr0) hbl⟩
 have HW:=Aside0.mk hbl
 have HX:=Aside0.mk hx
 have HY:=Aside0.mk hy
 have HS:=Aside0.mk hS
 have HG:=Aside0.mk hG
 clear hr0 hc0 hl h256 hb2 hb3 hn0 hn1 hby hbl hx hy hS hG hfin
 go_enter Tryz.func24,Tryz.ntmps24
 go_wp2_with (go_at_call 57;rw [hW2.out];(with_reducible refine (ul.calls w W2 w.heap.size (fun k => k < w.heap.size) ⟨l0,false⟩ HS.out HB0.out).mono ?_);rintro e W1 ⟨rfl,hS1,hK1⟩;rw [HBY.out] at hS1 ⊢;have HS1:=Aside0.mk hS1;have HK1:=Aside0.mk hK1;clear hS1 hK1)
 have hy1:W1.heap[w.heap.size + 1]? = some (.cells #[.pointer (some ⟨w.heap.size,0,none⟩)] 106 (0,0)):=(HK1.out.2 _ (u3c HY.out) (by omega) (by simp)).trans HY.out
 have HY1:=Aside0.mk hy1
 clear hy1
 go_loopg [6,14] m (fun kq v6 v14 wr => ∃ (x:Nat) (s:ux.SS) (l:List ux.Mt),x ≤ m ∧ v14 = .int .i64 x ∧ Aside0 (ux.out (ux.mats (m - x) s l) = fin) ∧ Aside0 (l.length = x) ∧ Aside0 (∀ y ∈ s.b,0 ≤ y ∧ y < 256) ∧ Aside0 (s.b.length ≤ 140737488355328) ∧ Aside0 (Kd.R k79 79 wr w.heap.size (fun k => k ≠ w.heap.size ∧ k ≠ w.heap.size + 1) v6 l) ∧ Aside0 (ul.St w wr w.heap.size (fun k => k < w.heap.size) s) ∧ Aside0 (wr.heap[w.heap.size + 1]? = some (.cells #[.pointer (some ⟨w.heap.size,0,none⟩)] 106 (0,0))) ∧ m ≤ kq + x)
 case atStart => exact ⟨0,s0,[],by omega,rfl,HF,⟨rfl⟩,HB2,HB3,⟨Kd.R_nil _ _ _ _ _⟩,HS1,HY1,by omega⟩
 case round =>
  obtain ⟨x,s,l,hxm,rfl,HN,HLN,HB,HBL,HR,HST,HYr,hk⟩:=hrel
  obtain ⟨A6,c6,e6⟩:=Kd.R_slice HR.out
  subst e6
  have c0:=uk HYr.out 0
  simp only [List.size_toArray,List.length_cons,List.length_nil,List.getElem?_toArray,List.getElem?_cons_zero,List.getElem?_cons_succ] at c0
  by_cases hlt:x < m
  · obtain ⟨g1,rfl⟩:∃ g1,gk = g1 + 1:=⟨gk - 1,by omega⟩
    obtain ⟨⟨zk,za,zb⟩,s',hmat⟩:∃ z s',u1d.mat s = (z,s'):=⟨_,_,rfl⟩
    have HMT:=Aside0.mk hmat
    have hrg:=u1d.mat_range HB.out
    rw [hmat] at hrg
    have HRG:=Aside0.mk hrg
    clear hmat hrg
    go_wp2_with (first
     | (go_at_call 58;(with_reducible refine (u1d.calls w _ w.heap.size (fun k => k < w.heap.size) s HST.out HB.out).mono ?_);rintro e w3 ⟨rfl,hS3,hK3⟩;rw [HMT.out] at hS3 ⊢;have HS3:=Aside0.mk hS3;have HK3:=Aside0.mk hK3;have HR3:=Aside0.mk (Kd.R_keep HR.out hK3 (fun k hk => hk.1));clear hS3 hK3)
     | ((with_reducible refine u3b (b:=.append) (xs:=#[.tmp 16,.tmp 19]) rfl ?_);(try (refine gate_guard (by rfl) ?_;dsimp only));at_builtin;refine Kd.R_append k79 (w0:=w) w.heap.size rfl (.tmp 16) (.tmp 19) 24 79 (.agg #[.int .i64 0,.string ⟨#[]⟩,.string ⟨#[]⟩]) 40 rfl Tryz.underlying24 ux.infoM rfl (by decide) (by decide) _ l (⟨zk,za,zb⟩:ux.Mt) [.int .i64 zk,.string za,.string zb] (fun k => k ≠ w.heap.size ∧ k ≠ w.heap.size + 1) (fun _ => False) rfl rfl (k79_mkM _ _ _ (⟨zk,za,zb⟩:ux.Mt)) (fun _ hk => hk.elim) ?hfr HR3.out HS3.out.below HS3.out.below.size ?hbig ?_;(case hfr => have h7:=HK3.out.1;have h8:=u3c HYr.out;intro k hk;omega);(case hbig => have:=HLN.out;have:=HM.out;omega);intro v6n w5 ho5 hb5 hg5 hat5;have HR5:=Aside0.mk ho5;have HB5:=Aside0.mk hb5;have HG5:=Aside0.mk hg5;clear ho5 hb5 hg5 hat5))
    go_roundg g1
    case rel =>
     have hnr:∀ k,k ≤ w.heap.size + 1 → some k ≠ (Value.slice A6 l.length c6).ownBlock:=fun k hk he => by
      have h8:=HR.out.1 k he.symm
      have h9:=Kd.R_base HR.out k he.symm
      omega
     have hl3:=HK3.out.1
     have hm9:=HM.out
     have hw:wrap64 ((x:Int) + 1) = ((x + 1:Nat):Int):=by unfold wrap64;omega
     have hly:=u3c HYr.out
     refine ⟨x + 1,s',l ++ [⟨zk,za,zb⟩],by omega,congrArg (Value.int .i64) hw,⟨?_⟩,⟨by have:=HLN.out;simp;omega⟩,⟨HRG.out.1⟩,⟨Nat.le_trans HRG.out.2 HBL.out⟩,HR5,⟨HS3.out.move HB5.out (HG5.out.block _ (by omega) (hnr _ (by omega))) (fun k hk hk2 => HG5.out.block k hk2 (hnr _ (by omega)))⟩,⟨(HG5.out.block _ (by omega) (hnr _ (by omega))).trans ((HK3.out.2 _ hly (by omega) (by simp)).trans HYr.out)⟩,by omega⟩
     have h9:=HN.out
     rw [show m - x = (m - (x + 1)) + 1 by omega] at h9
     unfold ux.mats at h9
     rw [HMT.out] at h9
     exact h9
    case measure => omega
  · have hxe:m - x = 0:=by omega
    have HN2:Aside0 (ux.out (l,s) = fin):=⟨by have h9:=HN.out;rw [hxe] at h9;exact h9⟩
    obtain ⟨b,bad⟩:=s
    obtain ⟨A9,c9,⟨k0,k1⟩,⟨f0,f1⟩,hlc,_,hFF⟩:=HST.out.look
    simp only at k0 k1 hlc hFF
    cases bad with
    | true =>
      have HN3:Aside0 (([],[],3) = fin):=⟨by rw [← HN2.out];exact (if_pos rfl).symm⟩
      clear hxe
      go_wp2
      go_ret3
      rw [← HN3.out]
      exact ⟨_,_,rfl,Kd.R_nil _ _ _ _ _,Kd.R_nil _ _ _ _ _,HST.out.below⟩
    | false =>
      cases hcan:u1l.CanB l with
      | false =>
        have HN3:Aside0 (([],[],5) = fin):=⟨by rw [← HN2.out];unfold ux.out;rw [if_neg (fun h9 => by cases h9),if_pos hcan]⟩
        have HCN:=Aside0.mk hcan
        have HRD:=Aside0.mk (Kd.R_reads' HR.out)
        have HGr:=Aside0.mk (HG.out.below HST.out.below)
        clear hxe hcan
        go_wp2_with (go_at_call 36;(with_reducible refine (u1l.calls A6 c6 l _ HRD.out.2.2 HRD.out.2.1 HGr.out).mono ?_);rintro e w4 ⟨rfl,hB4⟩;rw [HCN.out];have HB4:=Aside0.mk hB4;clear hB4)
        go_ret3
        rw [← HN3.out]
        exact ⟨_,_,rfl,Kd.R_nil _ _ _ _ _,Kd.R_nil _ _ _ _ _,u1c HST.out.below HST.out.below.size HB4.out⟩
      | true =>
        have HN3:Aside0 ((l,b,0) = fin):=⟨by rw [← HN2.out];unfold ux.out;rw [if_neg (fun h9 => by cases h9),if_neg (by rw [hcan];decide)]⟩
        have HCN:=Aside0.mk hcan
        have HRD:=Aside0.mk (Kd.R_reads' HR.out)
        have HGr:=Aside0.mk (HG.out.below HST.out.below)
        have HLC:=Aside0.mk hlc
        have HCL:Aside0 (u3m.f b = some b):=⟨if_pos HBL.out⟩
        clear hxe hcan hFF
        go_wp2_with (first
         | (go_at_call 36;(with_reducible refine (u1l.calls A6 c6 l _ HRD.out.2.2 HRD.out.2.1 HGr.out).mono ?_);rintro e w4 ⟨rfl,hB4⟩;rw [HCN.out];have hS4:=HST.out.more hB4;obtain ⟨A8,c8,⟨m0,m1⟩,_,hl8,_,hF8⟩:=hS4.look;simp only at m0 m1 hl8 hF8;have c1:=uk (u1h HYr.out hB4) 0;simp only [List.size_toArray,List.length_cons,List.length_nil,List.getElem?_toArray,List.getElem?_cons_zero,List.getElem?_cons_succ] at c1;have HF8:=Aside0.mk hF8;have HL8:=Aside0.mk hl8;have HB4:=Aside0.mk hB4;clear hB4 hS4 hF8 hl8)
         | (go_at_call 14;(with_reducible refine (u3m.calls A8 c8 b b _ (Kd.F_now HF8.out) HL8.out HCL.out).mono ?_);rintro e w5 ⟨v5,rfl,hR5,hB5⟩;have HR5:=Aside0.mk hR5;have HB5:=Aside0.mk hB5;clear hR5 hB5))
        go_ret3
        rw [← HN3.out]
        have hB:=u1c HST.out.below HST.out.below.size HB4.out
        exact ⟨_,_,rfl,Kd.R_mono (Kd.R_below (Kd.R_below HR.out HB4.out) HB5.out) (fun _ _ => trivial),Kd.R_lower HR5.out hB.size,u1c hB hB.size HB5.out⟩
-- in the form of the print
def u1f.f:Option Int:=none
abbrev u1f.RS:=ua.RS
def u1f.tl (l:List Int) (kq d:Nat) (cur:u1f.RS):u1f.RS:=if cur.bad = false ∧ ua.pk l cur = 124 then uc.N l kq 2 d ⟨cur.at_ + 1,cur.bad⟩ else cur
theorem u1f.N2 (l:List Int) (f d:Nat) (s:u1f.RS):uc.N l (f + 1) 2 d s = u1f.tl l f d (uc.N l f 1 d s):=rfl
theorem u1f.row1 {w:World} {base b:Nat} {ok:Nat → Prop} {x0 x1 x2 x3 x4:Value} (hb:w.heap[b]? = some (.cells #[x0,x1,x2,x3,x4] 148 (0,0))) (hbase:base ≤ b) (hok:ok b) (h1:∀ u ∈ [x0,x1,x2,x3,x4],u.oneCell' = true):Kd.R (Kd.raw 5) 148 w base ok (.slice (some ⟨b,0,none⟩) 1 1) [[x0,x1,x2,x3,x4]]:=by
 refine ⟨fun k hk => ?_,[x0,x1,x2,x3,x4],⟨rfl,Or.inr ⟨b,1,#[x0,x1,x2,x3,x4],rfl,hbase,hb,Nat.le_refl _,by unfold maxLen;omega,rfl,rfl⟩⟩,rfl,fun j p hj => ?_⟩
 · have:b = k:=by simpa [Value.ownBlock] using hk
   rw [← this]
   exact hok
 · cases j with
   | zero =>
     have : [x0,x1,x2,x3,x4] = p:=by simpa using hj
     rw [← this]
     exact ⟨rfl,rfl,h1⟩
   | succ j => simp at hj
set_option maxHeartbeats 8000000 in
set_option maxRecDepth 20000 in
theorem u1f.calls (f:Nat) (hP:∀ f',f' ≤ f → uc.Sp 124 1 f'):uc.Sp 106 2 f:=by
 intro w0 W g gp l s d h hd hl hs hneed hk
 clear hk
 obtain ⟨fin,hfin⟩:∃ fin,Aside0 (uc.N l f 2 d s = fin):=⟨_,⟨rfl⟩⟩
 rw [hfin.out]
 -- the first alternative's fuel
 obtain ⟨f1,hf1,hN1,hnd1⟩:∃ f1,f1 ≤ f ∧ Aside0 (u1f.tl l f1 d (uc.N l f1 1 d s) = fin) ∧ (s.bad = true ∨ (uc.need 1 (l.length - s.at_) ≤ f1 ∧ uc.need 2 (l.length - s.at_) ≤ f1 + 1)):=by
  cases f with
  | zero =>
    refine ⟨0,Nat.le_refl _,⟨?_⟩,?_⟩
    · rcases hneed with h9 | h9
      · rw [← hfin.out]
        show u1f.tl l 0 d s = s
        unfold u1f.tl
        rw [if_neg (by rw [h9];rintro ⟨h8,_⟩;cases h8)]
      · exact absurd h9 (by unfold uc.need;omega)
    · rcases hneed with h9 | h9
      · exact Or.inl h9
      · exact absurd h9 (by unfold uc.need;omega)
  | succ f =>
    refine ⟨f,Nat.le_succ _,⟨by rw [← hfin.out,u1f.N2]⟩,?_⟩
    rcases hneed with h9 | h9
    · exact Or.inl h9
    · exact Or.inr ⟨by unfold uc.need at h9 ⊢;omega,h9⟩
 obtain ⟨a1,b1,hs1⟩:∃ a1 b1,Aside0 (uc.N l f1 1 d s = ⟨a1,b1⟩):=⟨_,_,⟨rfl⟩⟩
 rw [hs1.out] at hN1
 have HA1:Aside0 (s.at_ ≤ a1 ∧ a1 ≤ l.length + 13):=⟨by
  have h9:=uc.N_at l f1 1 d s hd hs (fun h9 => absurd h9 (by decide))
  rw [hs1.out] at h9
  simp only at h9
  omega⟩
 have HND:Aside0 (b1 = true ∨ l.length ≤ a1 ∨ uc.need 2 (l.length - (a1 + 1)) ≤ f1):=⟨by
  cases hb:b1 with
  | true => exact Or.inl rfl
  | false =>
    rcases hnd1 with h9 | ⟨_,h9⟩
    · exfalso
      have h8:uc.N l f1 1 d s = s:=by
       cases f1 with
       | zero => rfl
       | succ f1 => rw [uc.N1,if_neg (by rw [h9];rintro ⟨h8,_⟩;cases h8)]
      have h7:=hs1.out
      rw [h8] at h7
      rw [h7,hb] at h9
      cases h9
    · rcases Nat.lt_or_ge a1 l.length with h8 | h8
      · right;right
        have:=HA1.out.1
        unfold uc.need at h9 ⊢
        omega
      · exact Or.inr (Or.inl h8)⟩
 have HLO:=h.below.size
 have hgl:=h.gp_lt.2
 obtain ⟨W0,hW0⟩:∃ W0,Aside0 (W.alloc (.cells #[.int .i64 0,.slice none 0 0,.bool false,.int .i32 0,.slice none 0 0] 148) = W0):=⟨_,⟨rfl⟩⟩
 have ba:Below W.heap.size W W0:=by rw [← hW0.out];exact uj (Below.refl _ _) _
 have na:W0.heap[W.heap.size]? = some (.cells ub.zc 148 (0,0)):=by rw [← hW0.out];exact u3l _ _
 have HR0:Aside0 (uc.Rs w0 W W0 g gp W.heap.size l s):=⟨⟨h.more ba,ua.Kq.below ba g,hgl,Nat.le_refl _,HLO,na⟩⟩
 have HLA:Aside0 (∀ W',ua.St w0 W' g gp l s → Calls Tryz.prog 124 #[.pointer (some ⟨g,0,none⟩),.int .i64 d] W' fun e W2 => (∃ v,e = .returned v ∧ ub.NodeV v) ∧ ua.St w0 W2 g gp l ⟨a1,b1⟩ ∧ ua.Kq W' W2 g):=⟨fun W' hW' => by
  have h9:=hP f1 hf1 w0 W' g gp l s d hW' hd hl hs (by rcases hnd1 with h9 | h9;exact Or.inl h9;exact Or.inr h9.1) (fun h9 => absurd h9 (by decide))
  rw [hs1.out] at h9
  exact h9⟩
 have ng2:W.heap.size ≠ g:=by omega
 have ng4:=ng2.symm
 clear ba na h hneed hnd1 hs
 go_enter Tryz.func106,Tryz.ntmps106
 go_wp2_with (go_at_call 124;rw [hW0.out];(with_reducible refine (HLA.out _ HR0.out.st).mono ?_);rintro e w4 ⟨⟨_,rfl,xk,xA,xn,xc,xb,xo,xB,xm,xd,rfl⟩,hS4,hK4⟩;have hR4:=HR0.out.move hS4 hK4;obtain ⟨W5,hW5⟩:∃ W5,Aside0 (w4.alloc (.cells #[.int .i64 xk,.slice xA xn xc,.bool xb,.int .i32 xo,.slice xB xm xd] 148) = W5):=⟨_,⟨rfl⟩⟩;obtain ⟨W6,hW6⟩:∃ W6,Aside0 (W5.alloc (.cells #[.int .i64 4,.slice none 0 0,.bool false,.int .i32 0,.slice (some ⟨w4.heap.size,0,none⟩) 1 1] 148) = W6):=⟨_,⟨rfl⟩⟩;have HR4:=Aside0.mk hR4;clear hS4 hK4 hR4)
 have h45:Below w4.heap.size w4 W5:=by rw [← hW5.out];exact uj (Below.refl _ _) _
 have hx5:W5.heap[w4.heap.size]? = some (.cells #[.int .i64 xk,.slice xA xn xc,.bool xb,.int .i32 xo,.slice xB xm xd] 148 (0,0)):=by rw [← hW5.out];exact u3l _ _
 have s5:W5.heap.size = w4.heap.size + 1:=by rw [← hW5.out];simp
 have h56:Below W5.heap.size W5 W6:=by rw [← hW6.out];exact uj (Below.refl _ _) _
 have hx6:W6.heap[w4.heap.size + 1]? = some (.cells #[.int .i64 4,.slice none 0 0,.bool false,.int .i32 0,.slice (some ⟨w4.heap.size,0,none⟩) 1 1] 148 (0,0)):=by rw [← s5,← hW6.out];exact u3l _ _
 have hR6:=(HR4.out.more h45).more h56
 have hg4:g < w4.heap.size:=HR4.out.st.gp_lt.2
 have hr4:W.heap.size < w4.heap.size:=u3c HR4.out.res
 have HP0:Aside0 (um.Pn w0 W W6 g gp (w4.heap.size + 1) W.heap.size l ⟨a1,b1⟩ 4 (.slice (some ⟨w4.heap.size,0,none⟩) 1 1) [[.int .i64 xk,.slice xA xn xc,.bool xb,.int .i32 xo,.slice xB xm xd]]):=⟨{
  st:=hR6.st
  kq:=hR6.kq
  old:=hgl
  new:=⟨by omega,Nat.le_refl _,by omega⟩
  low:=HLO
  node:=hx6
  res:=hR6.res
  row:=u1f.row1 (u1h hx5 h56) (by omega) ⟨by omega,by omega,by omega⟩ (by simp [Value.oneCell']) }⟩
 have ng1:w4.heap.size + 1 ≠ g:=by omega
 have ng3:=ng1.symm
 have ng5:w4.heap.size + 1 ≠ W.heap.size:=by omega
 have ng6:=ng5.symm
 clear h45 hx5 s5 h56 hx6 hR6 hg4 hr4 HLA
 go_loopg [] f1 (fun kq wr => ∃ (cur:u1f.RS) (vk:Value) (rows:List (List Value)),Aside0 (um.Pn w0 W wr g gp (w4.heap.size + 1) W.heap.size l cur 4 vk rows) ∧ Aside0 (u1f.tl l kq d cur = fin) ∧ Aside0 (cur.bad = true ∨ l.length ≤ cur.at_ ∨ uc.need 2 (l.length - (cur.at_ + 1)) ≤ kq) ∧ Aside0 (cur.at_ ≤ l.length + 13 ∧ rows.length ≤ cur.at_ + 1) ∧ Aside0 (kq ≤ f))
 case atStart => exact ⟨⟨a1,b1⟩,_,[[.int .i64 xk,.slice xA xn xc,.bool xb,.int .i32 xo,.slice xB xm xd]],by rw [hW5.out,hW6.out];exact HP0,hN1,HND,⟨HA1.out.2,by simp⟩,⟨hf1⟩⟩
 case round =>
  clear HP0 HR4 hW6 hW5 hW0 HR0 HND HA1 hN1 hs1 hf1 hfin
  obtain ⟨cur,vk,rows,HP,HF,HNE,HAT,HKF⟩:=hrel
  obtain ⟨Av,cv,ev⟩:=Kd.R_slice HP.out.row
  subst ev
  obtain ⟨p,hp⟩:∃ p,Aside0 (ua.pk l cur = p):=⟨_,⟨rfl⟩⟩
  obtain ⟨ca,cb⟩:=cur
  obtain ⟨⟨k1,k2,q1,q2⟩,⟨n0,n1,n2,n3,n4⟩,fr,⟨r0,r1,r2,r3,r4⟩⟩:=HP.out.look
  have fr0:=fr 0
  have fr1:=fr 1
  have fr2:=fr 2
  have fr3:=fr 3
  have fr4:=fr 4
  clear fr
  simp only at k1 k2
  have hca:ca ≤ 2000:=by have:=HAT.out.1;simp only at this;omega
  have hrl:rows.length ≤ 2001:=by have:=HAT.out.2;simp only at this;omega
  cases cb with
  | true =>
    have HFIN:Aside0 (fin = ⟨ca,true⟩):=⟨by rw [← HF.out];unfold u1f.tl;rw [if_neg (by rintro ⟨h9,_⟩;cases h9)]⟩
    go_wp2
    refine bodyPost_ret (v:=.agg #[.int .i64 4,.slice none 0 0,.bool false,.int .i32 0,.slice Av rows.length cv]) (by simp [results,Tryz.results106,go_sem,r0,r1,r2,r3,r4,ng2,ng4]) rfl ⟨⟨_,rfl,_,_,_,_,_,_,_,_,_,rfl⟩,?_⟩
    rw [HFIN.out]
    exact HP.out.fini _ _ _ _ _
  | false =>
    by_cases h124:p = 124
    · have t124:(p == 124) = true:=beq_iff_eq.2 h124
      have HLT:Aside0 (ca < l.length):=⟨ub.pk_lt (s:=⟨ca,false⟩) (by rw [hp.out,h124];decide)⟩
      have HNK:Aside0 (uc.need 2 (l.length - (ca + 1)) ≤ gk):=⟨by rcases HNE.out with h9 | h9 | h9;cases h9;(have:=HLT.out;simp only at h9;omega);exact h9⟩
      obtain ⟨g1,rfl⟩:∃ g1,gk = g1 + 1:=⟨gk - 1,by have:=HNK.out;unfold uc.need at this;omega⟩
      obtain ⟨a2,b2,hs2⟩:∃ a2 b2,Aside0 (uc.N l g1 1 d ⟨ca + 1,false⟩ = ⟨a2,b2⟩):=⟨_,_,⟨rfl⟩⟩
      have HF1:Aside0 (u1f.tl l g1 d ⟨a2,b2⟩ = fin):=⟨by have h9:=HF.out;unfold u1f.tl at h9;rw [if_pos ⟨rfl,by rw [hp.out];exact h124⟩] at h9;rw [← hs2.out,← u1f.N2];exact h9⟩
      have HA2:Aside0 (ca + 1 ≤ a2 ∧ a2 ≤ l.length + 13):=⟨by
       have h9:=uc.N_at l g1 1 d ⟨ca + 1,false⟩ hd (by have:=HLT.out;simp only;omega) (fun h9 => absurd h9 (by decide))
       rw [hs2.out] at h9
       simp only at h9
       omega⟩
      have HLB:Aside0 (∀ W',ua.St w0 W' g gp l ⟨ca + 1,false⟩ → Calls Tryz.prog 124 #[.pointer (some ⟨g,0,none⟩),.int .i64 d] W' fun e W2 => (∃ v,e = .returned v ∧ ub.NodeV v) ∧ ua.St w0 W2 g gp l ⟨a2,b2⟩ ∧ ua.Kq W' W2 g):=⟨fun W' hW' => by
       have h9:=hP g1 (by have:=HKF.out;omega) w0 W' g gp l ⟨ca + 1,false⟩ d hW' hd hl (by have:=HLT.out;simp only;omega) (Or.inr (by have:=HNK.out;unfold uc.need at this ⊢;simp only;omega)) (fun h9 => absurd h9 (by decide))
       rw [hs2.out] at h9
       exact h9⟩
      clear h124 HF HNE
      go_wp2_with (go_at_call 125;(with_reducible refine (ua.calls w0 _ g gp l _ HP.out.st).mono ?_);rintro e wp ⟨rfl,nq,hw⟩;have hB:=um.dB hw;clear hw;rw [hp.out];have hP1:=HP.out.more hB;clear k1 k2 q1 q2 n0 n1 n2 n3 n4 r0 r1 r2 r3 r4 fr0 fr1 fr2 fr3 fr4;obtain ⟨⟨k1,k2,q1,q2⟩,⟨n0,n1,n2,n3,n4⟩,fr,⟨r0,r1,r2,r3,r4⟩⟩:=hP1.look;have fr0:=fr 0;have fr1:=fr 1;have fr2:=fr 2;have fr3:=fr 3;have fr4:=fr 4;clear fr;simp only at k1 k2;have HP1:=Aside0.mk hP1;clear hB hP1)
      have HP2:Aside0 (um.Pn w0 W (wp.setCell ⟨g,1,none⟩ (.int .i64 ((ca:Int) + 1))) g gp (w4.heap.size + 1) W.heap.size l ⟨ca + 1,false⟩ 4 (.slice Av rows.length cv) rows):=⟨HP1.out.move HP1.out.st.up (ua.Kq.set _ _ _ _)⟩
      have HP3:=Aside0.mk (HP2.out.more (uu (Below.refl _ _)))
      clear k1 k2 q1 q2 n0 n1 n2 n3 n4 r0 r1 r2 r3 r4 fr0 fr1 fr2 fr3 fr4
      refine startO_ (n:=9) (S:=fun w' => w'.cell? ⟨w4.heap.size + 1,4,none⟩ = some (.slice Av rows.length cv)) (ds:=[8]) [(0,28),(1,29),(2,30),(3,31),(4,0),(5,0),(6,0),(7,35),(8,0)] (by kernel_rfl) rfl HP3.out.look.2.1.2.2.2.2 (fun hHeld => ?_)
      (refine hd_ (v:=?_) (a':=?_) rfl rfl (by kernel_rfl) (Or.inl ⟨by kernel_rfl,?_⟩) ?_ ?_;rotate_left;(intro w';go_simp;with_reducible rfl);rotate_left;(simp only [Act.put,List.setIfInBounds_toArray,List.set_cons_zero,List.set_cons_succ,i64_w,i32_w];rfl))
      (refine hdS_ (v:=?_) (a':=?_) rfl rfl (by kernel_rfl) (Or.inl ⟨by kernel_rfl,?_⟩) hHeld ?_ ?_;rotate_left;(rintro w' hS';go_simp;(try with_reducible rfl));rotate_left;(simp only [Act.put,List.setIfInBounds_toArray,List.set_cons_zero,List.set_cons_succ,i64_w,i32_w];rfl))
      iterate 2 (refine hd_ (v:=?_) (a':=?_) rfl rfl (by kernel_rfl) (Or.inl ⟨by kernel_rfl,?_⟩) ?_ ?_;rotate_left;(intro w';go_simp;with_reducible rfl);rotate_left;(simp only [Act.put,List.setIfInBounds_toArray,List.set_cons_zero,List.set_cons_succ,i64_w,i32_w];rfl))
      refine oneO_ (N:=some 32) rfl rfl (by kernel_rfl) (by decide) (fun K hK => ?_)
      refine goes_ Tryz.func124 (by kernel_rfl) rfl #[.pointer (some ⟨g,0,none⟩),.int .i64 d] (by rfl) rfl rfl (by (try simp only [List.map_toArray,List.map_cons,List.map_nil]);first | done | rfl) ?_
      refine (HLB.out _ HP3.out.st).mono ?_
      rintro e w5 ⟨⟨_,rfl,zk,zA,zn,zc,zb,zo,zB,zm,zd,rfl⟩,hS5,hK5⟩
      refine ⟨_,rfl,?_⟩
      have HP5:=Aside0.mk (HP3.out.move hS5 hK5)
      clear hS5 hK5
      refine hK.out (Act.put _ (some 32) (.agg #[.int .i64 zk,.slice zA zn zc,.bool zb,.int .i32 zo,.slice zB zm zd])) _ HP5.out.look.2.1.2.2.2.2 (fun hNext => ?_)
      simp only [Act.put,List.setIfInBounds_toArray,List.set_cons_zero,List.set_cons_succ,i64_w,i32_w]
      clear hK hHeld K
      have hHeld:=hNext
      clear hNext
      refine oneO_ (N:=some 33) rfl rfl (by kernel_rfl) (by decide) (fun K hK => ?_)
      refine value_ (w1:=w5.alloc (.cells #[.int .i64 zk,.slice zA zn zc,.bool zb,.int .i32 zo,.slice zB zm zd] 148)) (v:=.slice (some ⟨w5.heap.size,0,none⟩) 1 1) (by rfl) rfl ?_ ?_
      · go_simp
      refine hK.out (Act.put _ (some 33) (.slice (some ⟨w5.heap.size,0,none⟩) 1 1)) _ (HP5.out.more (uj (Below.refl _ _) _)).look.2.1.2.2.2.2 (fun hNext => ?_)
      simp only [Act.put,List.setIfInBounds_toArray,List.set_cons_zero,List.set_cons_succ,i64_w,i32_w]
      clear hK hHeld K
      have hHeld:=hNext
      clear hNext
      refine oneO_ (N:=some 34) rfl rfl (by kernel_rfl) (by decide) (fun K hK => ?_)
      refine Kd.R_append_step (Kd.raw 5) (w0:=w0) w0.heap.size (by rfl) (.tmp 29) (.tmp 33) 146 148 (.agg ub.zc) 64 rfl Tryz.underlying146 um.infoN rfl (by decide) (by decide) (.slice Av rows.length cv) rows [.int .i64 zk,.slice zA zn zc,.bool zb,.int .i32 zo,.slice zB zm zd] [.int .i64 zk,.slice zA zn zc,.bool zb,.int .i32 zo,.slice zB zm zd] (fun k => W.heap.size ≤ k ∧ k ≠ w4.heap.size + 1 ∧ k ≠ W.heap.size) (fun _ => False) (by rfl) (by rfl) ⟨rfl,rfl,by simp [Value.oneCell']⟩ (fun _ hk => hk.elim) (fun k hk => by have h1:=HP5.out.kq.1;have h2:=u3c HP5.out.node;have h3:=u3c HP5.out.res;omega) HP5.out.row HP5.out.st.below HP5.out.st.below.size (by omega) ?_
      intro v6 W6 hR6 hB6 hg6 hat6
      obtain ⟨⟨z1,z2⟩,hc6⟩:=HP5.out.put hR6 hB6 hg6
      have HZ1:=Aside0.mk z1
      obtain ⟨A6,c6,e6⟩:=Kd.R_slice hR6
      subst e6
      simp only [List.length_append,List.length_cons,List.length_nil,Nat.zero_add] at hc6 ⊢
      have HC6:=Aside0.mk hc6
      clear hc6 hR6 hB6 hg6 hat6
      refine hK.out (Act.put _ (some 34) (.slice A6 (rows.length + 1) c6)) _ HZ1.out (fun hNext => ?_)
      simp only [Act.put,List.setIfInBounds_toArray,List.set_cons_zero,List.set_cons_succ,i64_w,i32_w]
      clear hK hHeld K
      have hHeld:=hNext
      clear hNext
      (refine hd_ (v:=?_) (a':=?_) rfl rfl (by kernel_rfl) (Or.inl ⟨by kernel_rfl,?_⟩) ?_ ?_;rotate_left;(intro w';go_simp;with_reducible rfl);rotate_left;(simp only [Act.put,List.setIfInBounds_toArray,List.set_cons_zero,List.set_cons_succ,i64_w,i32_w];rfl))
      refine lastO_ (N:=none) rfl rfl (by kernel_rfl) (by decide) (fun K hK => ?_)
      refine skip_ (w1:=W6.setCell ⟨w4.heap.size + 1,4,none⟩ (.slice A6 (rows.length + 1) c6)) (by rfl) rfl ?_ ?_
      · go_simp
      refine hK.out _ _ ?_
      clear hK K
      refine doneO_ (by kernel_rfl) ?_
      try go_wp2
      go_roundg g1
      case rel => exact ⟨⟨a2,b2⟩,_,rows ++ [[.int .i64 zk,.slice zA zn zc,.bool zb,.int .i32 zo,.slice zB zm zd]],HC6,HF1,⟨by
       cases hb:b2 with
       | true => exact Or.inl rfl
       | false =>
         right
         rcases Nat.lt_or_ge a2 l.length with h8 | h8
         · right
           have h7:=HNK.out
           have h6:=HA2.out.1
           unfold uc.need at h7 ⊢
           simp only
           omega
         · exact Or.inl h8⟩,⟨HA2.out.2,by have h8:=HA2.out;have h7:=HAT.out;(try simp only at h7);rw [List.length_append,List.length_singleton];show _ ≤ a2 + 1;omega⟩,⟨by have:=HKF.out;omega⟩⟩
      case measure => omega
    · have t124:(p == 124) = false:=beq_eq_false_iff_ne.2 h124
      have H124:=Aside0.mk h124
      clear h124
      have HFIN:Aside0 (fin = ⟨ca,false⟩):=⟨by rw [← HF.out];unfold u1f.tl;rw [if_neg (by rintro ⟨_,h9⟩;rw [hp.out] at h9;exact H124.out h9)]⟩
      go_wp2_with (go_at_call 125;(with_reducible refine (ua.calls w0 _ g gp l _ HP.out.st).mono ?_);rintro e wp ⟨rfl,nq,hw⟩;have hB:=um.dB hw;clear hw;rw [hp.out];have hP1:=HP.out.more hB;clear k1 k2 q1 q2 n0 n1 n2 n3 n4 r0 r1 r2 r3 r4 fr0 fr1 fr2 fr3 fr4;obtain ⟨⟨k1,k2,q1,q2⟩,⟨n0,n1,n2,n3,n4⟩,fr,⟨r0,r1,r2,r3,r4⟩⟩:=hP1.look;have fr0:=fr 0;have fr1:=fr 1;have fr2:=fr 2;have fr3:=fr 3;have fr4:=fr 4;clear fr;simp only at k1 k2;have HP1:=Aside0.mk hP1;clear hB hP1)
      refine bodyPost_ret (v:=.agg #[.int .i64 4,.slice none 0 0,.bool false,.int .i32 0,.slice Av rows.length cv]) (by simp [results,Tryz.results106,go_sem,r0,r1,r2,r3,r4,ng2,ng4]) rfl ⟨⟨_,rfl,_,_,_,_,_,_,_,_,_,rfl⟩,?_⟩
      rw [HFIN.out]
      exact HP1.out.fini _ _ _ _ _
theorem u1f.all (f:Nat):(∀ f',f' ≤ f → uc.Sp 135 0 f') ∧ (∀ f',f' ≤ f → uc.Sp 124 1 f') ∧ ∀ f',f' ≤ f → uc.Sp 106 2 f':=by
 induction f with
 | zero =>
   have hA:∀ f',f' ≤ 0 → uc.Sp 135 0 f':=by
    intro f' hf
    obtain rfl:f' = 0:=by omega
    intro w0 W g gp l s d _ _ _ _ hneed hk
    obtain ⟨h1,h2⟩:=hk rfl
    rcases hneed with h9 | h9
    · rw [h1] at h9
      cases h9
    · exact absurd h9 (by unfold uc.need;omega)
   have hP:∀ f',f' ≤ 0 → uc.Sp 124 1 f':=fun f' hf => um.calls f' (fun g hg => hA g (by omega))
   exact ⟨hA,hP,fun f' hf => u1f.calls f' (fun g hg => hP g (by omega))⟩
 | succ f ih =>
   obtain ⟨iA,iP,iL⟩:=ih
   have hA:∀ f',f' ≤ f + 1 → uc.Sp 135 0 f':=by
    intro f' hf
    rcases Nat.lt_or_ge f f' with h9 | h9
    · obtain rfl:f' = f + 1:=by omega
      exact uc.calls f (iL f (Nat.le_refl _))
    · exact iA f' h9
   have hP:∀ f',f' ≤ f + 1 → uc.Sp 124 1 f':=fun f' hf => um.calls f' (fun g hg => hA g (by omega))
   exact ⟨hA,hP,fun f' hf => u1f.calls f' (fun g hg => hP g (by omega))⟩
noncomputable def u2z.l0:Nat → List Int → List (S79) → Int → Int → Option (List Int × Int)
 | 0,_,_,_,_ => none
 | k + 1,x4,x14,x15,x16 => if x16 < x15 then (if 0 ≤ x16 then (if x16 < (x14.length:Int) then ((some (([((u1s x14 x16).f0) % 256,((((u1s x14 x16).f1).size:Int)) % 256]:List Int):List Int)).bind fun y130 => (if x4.length + y130.length < 140737488355328 then ((some (x4 ++ y130:List Int)).bind fun y133 => (if y133.length + ((u1s x14 x16).f1).size < 140737488355328 then ((some (y133 ++ u3d ((u1s x14 x16).f1):List Int)).bind fun y136 => (if y136.length < 140737488355328 then ((some (y136 ++ [((((u1s x14 x16).f2).size:Int)) % 256]:List Int)).bind fun y139 => (if y139.length + ((u1s x14 x16).f2).size < 140737488355328 then (u2z.l0 k (y139 ++ u3d ((u1s x14 x16).f2)) x14 x15 (wrap64 (x16 + 1))) else (none))) else (none))) else (none))) else (none))) else (none)) else (none)) else (some (x4,0))
noncomputable def u2z.f (k:Nat) (l0:List (S79)):Option (List Int × Int):=(u1l.f l0).bind fun t124 => (if t124 = true then (u2z.l0 k (([((l0.length:Int)) % 256]:List Int)) l0 (l0.length:Int) 0) else (some (([]:List Int),1)))
set_option maxHeartbeats 8000000 in
set_option maxRecDepth 100000 in
theorem u2z.calls (k:Nat) (A0:Option Addr) (c0:Nat) (l0:List (S79)) (r1:List Int) (r2:Int) (w:World) (hr0:Kd.C k79 w A0 l0.length l0) (hc0:l0.length ≤ c0) (hG:strings_ToValidUTF8.Gd w) (h:u2z.f k l0 = some (r1,r2)) :
 Calls Tryz.prog 32 #[.slice A0 l0.length c0] w fun e w' => ∃ v0_:Value,e = .returned (.tuple #[v0_,.int .i64 r2]) ∧ Kd.R (Kd.int .u8) 5 w' w.heap.size (fun _ => True) v0_ r1 ∧ Below w.heap.size w w':=by
 have hu79:=Tryz.underlying79
 have HR0:=Aside0.mk hr0
 have HC0:=Aside0.mk hc0
 clear hr0 hc0
 have HG:=Aside0.mk hG
 clear hG
 have HB:=Aside0.mk (Below.refl w.heap.size w)
 have H:((u1l.f l0).bind fun t124 => (if t124 = true then (u2z.l0 k (([((l0.length:Int)) % 256]:List Int)) l0 (l0.length:Int) 0) else (some (([]:List Int),1)))) = some (r1,r2):=h
 clear h
 replace H:=Option.bind_eq_some_iff.mp H
 obtain ⟨t124,A20,H⟩:=H
 replace H:(if t124 = true then (u2z.l0 k (([((l0.length:Int)) % 256]:List Int)) l0 (l0.length:Int) 0) else (some (([]:List Int),1))) = some (r1,r2):=H
 have A2:=Aside0.mk A20
 clear A20
 by_cases c3:t124 = true
 · subst c3
   have H1:(u2z.l0 k (([((l0.length:Int)) % 256]:List Int)) l0 (l0.length:Int) 0) = some (r1,r2):=by rw [if_pos rfl] at H;exact H
   clear H
   have H:=H1
   clear H1
   obtain ⟨y125,hy125⟩:∃ y_:List Int,y_ = (([((l0.length:Int)) % 256]:List Int)):=⟨_,rfl⟩
   replace H:(u2z.l0 k y125 l0 (l0.length:Int) 0) = some (r1,r2):=by first | (rw [hy125];with_reducible exact H) | (have H2_:=(Option.bind_some _ _).symm.trans H;rw [hy125];with_reducible exact H2_) | (have H2_:=(Option.bind_some _ _).symm.trans H;with_reducible exact H2_) | with_reducible exact H | (rw [hy125];exact H) | exact H
   have Ny125:=Aside0.mk hy125
   clear hy125
   have H':=Aside0.mk H
   clear H
   go_enter Tryz.func32,Tryz.ntmps32
   go_wp2_with (first | ((with_reducible refine u4h (f:=36) rfl ?_);refine goesL_ (some 8) rfl rfl Tryz.func36 (by kernel_rfl) rfl #[.slice A0 l0.length c0] rfl (by (try simp only [List.map_toArray,List.map_cons,List.map_nil]);first | done | rfl | (simp only [List.length_drop,List.length_take];rfl)) ?_;(with_reducible refine (u1l.callsP _ _ l0 true _ ?side1 ?side2 ?side3 A2.out).mono ?_);(case side1 => repeat (first | exact HR0.out | (with_reducible refine Kd.C_alloc ?_ _) | (with_reducible refine Kd.C_drewN ?_ _) | (with_reducible refine Kd.C_drew ?_)));(case side2 => exact HC0.out);(case side3 => exact HG.out.below (by repeat (first | (with_reducible first | exact HB.out | apply uj | apply uh | apply uu) | exact HB.out)));rintro e w4 ⟨rfl,hb⟩;refine ⟨_,rfl,?_⟩;have n0_:=Aside0.mk (u2o (by repeat (first | (with_reducible first | exact HB.out | apply uj | apply uh | apply uu) | exact HB.out)) hb);clear HB;have HB:=n0_;clear n0_;(try clear hb);(try clear hb2);(try clear hk);(try clear hi)) | ((with_reducible refine gate_dst (N:=13) rfl ?_);refine Kd.R_lit (Kd.int .u8) _ 5 ?hg (N:=13) ?hd (xs:=([((l0.length:Int)) % 256]:List Int)) (inner:=[.int .u8 (((l0.length:Int)) % 256)]) (ok:=fun _ => True) (okp:=fun _ => True) ?hr ?hp (fun _ hk => hk) trivial (Below.refl _ _) (Nat.le_refl _) (by simp) ?_;(case hd => rfl);(case hg => rfl);(case hr => first | (go_simp;done) | (go_simp;rfl));(case hp => exact (Reps.one (show Kd.M (Kd.int .u8) _ _ _ (((l0.length:Int)) % 256) [.int .u8 (((l0.length:Int)) % 256)] from rfl) (Reps.none _ _)));intro v126 w5 ho6 hb hg_ hnew_;clear hg_ hnew_;(first | rw [← Ny125.out] at ho6 | (simp only [Int.reduceToNat] at ho6;rw [← Ny125.out] at ho6));have n0_:=Aside0.mk (Kd.R_lower ho6 (u2k (by repeat (first | (with_reducible first | exact HB.out | apply uj | apply uh | apply uu) | exact HB.out))));have n1_:=Aside0.mk (u2o (by repeat (first | (with_reducible first | exact HB.out | apply uj | apply uh | apply uu) | exact HB.out)) hb);clear HB;have HO127:=n0_;have HB:=n1_;clear n0_ n1_;clear hb ho6))
   go_loopg [4,16] k (fun kq v4 v16 w' => ∃ (x4_1:List Int) (x16_1:Int),v16 = .int .i64 x16_1 ∧ Aside0 (u2z.l0 kq x4_1 l0 (l0.length:Int) x16_1 = some (r1,r2)) ∧ Aside0 (kq ≤ k) ∧ Aside0 (Kd.R (Kd.int .u8) 5 w' w.heap.size (fun _ => True) v4 x4_1) ∧ Aside0 (Below w.heap.size w w'))
   case atStart => exact ⟨(y125),(0),(by first | rfl | (simp;done) | (simp [*];done)),H',⟨Nat.le_refl _⟩,⟨by (with_reducible repeat (first | apply Kd.R_alloc | apply Kd.R_drewN | apply Kd.R_drew));exact HO127.out⟩,⟨by repeat (first | (with_reducible first | exact HB.out | apply uj | apply uh | apply uu) | exact HB.out)⟩⟩
   case round =>
    clear H'
    try clear p2
    try clear c3
    obtain ⟨x4_1,x16_1,rfl,HA,HK1,HO_4,HB⟩:=hrel
    cases gk with
    | zero => exact absurd HA.out (by simp [u2z.l0])
    | succ k1 =>
      have H:=HA.out
      clear HA
      simp only [u2z.l0] at H
      by_cases c7:x16_1 < (l0.length:Int)
      · rw [if_pos c7] at H
        have c7b0:decide (x16_1 < (l0.length:Int)) = true:=decide_eq_true c7
        clear c7
        by_cases c8:0 ≤ x16_1
        · rw [if_pos c8] at H
          have c8b0:decide (0 ≤ x16_1) = true:=decide_eq_true c8
          clear c8
          by_cases c9:x16_1 < (l0.length:Int)
          · rw [if_pos c9] at H
            have c9b0:decide (x16_1 < (l0.length:Int)) = true:=decide_eq_true c9
            clear c9
            obtain ⟨y130,hy130⟩:∃ y_:List Int,y_ = (([((u1s l0 x16_1).f0) % 256,((((u1s l0 x16_1).f1).size:Int)) % 256]:List Int)):=⟨_,rfl⟩
            replace H:(if x4_1.length + y130.length < 140737488355328 then ((some (x4_1 ++ y130:List Int)).bind fun y133 => (if y133.length + ((u1s l0 x16_1).f1).size < 140737488355328 then ((some (y133 ++ u3d ((u1s l0 x16_1).f1):List Int)).bind fun y136 => (if y136.length < 140737488355328 then ((some (y136 ++ [((((u1s l0 x16_1).f2).size:Int)) % 256]:List Int)).bind fun y139 => (if y139.length + ((u1s l0 x16_1).f2).size < 140737488355328 then (u2z.l0 k1 (y139 ++ u3d ((u1s l0 x16_1).f2)) l0 (l0.length:Int) (wrap64 (x16_1 + 1))) else (none))) else (none))) else (none))) else (none)) = some (r1,r2):=by first | (rw [hy130];with_reducible exact H) | (have H2_:=(Option.bind_some _ _).symm.trans H;rw [hy130];with_reducible exact H2_) | (have H2_:=(Option.bind_some _ _).symm.trans H;with_reducible exact H2_) | with_reducible exact H | (rw [hy130];exact H) | exact H
            have Ny130:=Aside0.mk hy130
            clear hy130
            by_cases c10:x4_1.length + y130.length < 140737488355328
            · rw [if_pos c10] at H
              have LMc10:=Aside0.mk c10
              clear c10
              obtain ⟨y133,hy133⟩:∃ y_:List Int,y_ = (x4_1 ++ y130):=⟨_,rfl⟩
              replace H:(if y133.length + ((u1s l0 x16_1).f1).size < 140737488355328 then ((some (y133 ++ u3d ((u1s l0 x16_1).f1):List Int)).bind fun y136 => (if y136.length < 140737488355328 then ((some (y136 ++ [((((u1s l0 x16_1).f2).size:Int)) % 256]:List Int)).bind fun y139 => (if y139.length + ((u1s l0 x16_1).f2).size < 140737488355328 then (u2z.l0 k1 (y139 ++ u3d ((u1s l0 x16_1).f2)) l0 (l0.length:Int) (wrap64 (x16_1 + 1))) else (none))) else (none))) else (none)) = some (r1,r2):=by first | (rw [hy133];with_reducible exact H) | (have H2_:=(Option.bind_some _ _).symm.trans H;rw [hy133];with_reducible exact H2_) | (have H2_:=(Option.bind_some _ _).symm.trans H;with_reducible exact H2_) | with_reducible exact H | (rw [hy133];exact H) | exact H
              have Ny133:=Aside0.mk hy133
              clear hy133
              by_cases c11:y133.length + ((u1s l0 x16_1).f1).size < 140737488355328
              · rw [if_pos c11] at H
                have LMc11:=Aside0.mk c11
                clear c11
                obtain ⟨y136,hy136⟩:∃ y_:List Int,y_ = (y133 ++ u3d ((u1s l0 x16_1).f1)):=⟨_,rfl⟩
                replace H:(if y136.length < 140737488355328 then ((some (y136 ++ [((((u1s l0 x16_1).f2).size:Int)) % 256]:List Int)).bind fun y139 => (if y139.length + ((u1s l0 x16_1).f2).size < 140737488355328 then (u2z.l0 k1 (y139 ++ u3d ((u1s l0 x16_1).f2)) l0 (l0.length:Int) (wrap64 (x16_1 + 1))) else (none))) else (none)) = some (r1,r2):=by first | (rw [hy136];with_reducible exact H) | (have H2_:=(Option.bind_some _ _).symm.trans H;rw [hy136];with_reducible exact H2_) | (have H2_:=(Option.bind_some _ _).symm.trans H;with_reducible exact H2_) | with_reducible exact H | (rw [hy136];exact H) | exact H
                have Ny136:=Aside0.mk hy136
                clear hy136
                by_cases c12:y136.length < 140737488355328
                · rw [if_pos c12] at H
                  have LMc12:=Aside0.mk c12
                  clear c12
                  obtain ⟨y139,hy139⟩:∃ y_:List Int,y_ = (y136 ++ [((((u1s l0 x16_1).f2).size:Int)) % 256]):=⟨_,rfl⟩
                  replace H:(if y139.length + ((u1s l0 x16_1).f2).size < 140737488355328 then (u2z.l0 k1 (y139 ++ u3d ((u1s l0 x16_1).f2)) l0 (l0.length:Int) (wrap64 (x16_1 + 1))) else (none)) = some (r1,r2):=by first | (rw [hy139];with_reducible exact H) | (have H2_:=(Option.bind_some _ _).symm.trans H;rw [hy139];with_reducible exact H2_) | (have H2_:=(Option.bind_some _ _).symm.trans H;with_reducible exact H2_) | with_reducible exact H | (rw [hy139];exact H) | exact H
                  have Ny139:=Aside0.mk hy139
                  clear hy139
                  by_cases c13:y139.length + ((u1s l0 x16_1).f2).size < 140737488355328
                  · rw [if_pos c13] at H
                    have LMc13:=Aside0.mk c13
                    clear c13
                    obtain ⟨y142,hy142⟩:∃ y_:List Int,y_ = (y139 ++ u3d ((u1s l0 x16_1).f2)):=⟨_,rfl⟩
                    replace H:(u2z.l0 k1 y142 l0 (l0.length:Int) (wrap64 (x16_1 + 1))) = some (r1,r2):=by first | (rw [hy142];with_reducible exact H) | (have H2_:=(Option.bind_some _ _).symm.trans H;rw [hy142];with_reducible exact H2_) | (have H2_:=(Option.bind_some _ _).symm.trans H;with_reducible exact H2_) | with_reducible exact H | (rw [hy142];exact H) | exact H
                    have Ny142:=Aside0.mk hy142
                    clear hy142
                    have H':=Aside0.mk H
                    clear H
                    have p128:0 ≤ (x16_1:Int):=of_decide_eq_true (by first | (with_reducible assumption) | assumption)
                    have q128:x16_1 < (l0.length:Int):=of_decide_eq_true (by first | (with_reducible assumption) | assumption)
                    obtain ⟨ad128,e128,hx128_0,hx128_1,hx128_2⟩:=at_T79 HR0.out x16_1 p128 q128
                    cases e128
                    replace hx128_0:=(HB.out.cell (World.block_lt_of_cell? w _ hx128_0)).trans hx128_0
                    replace hx128_1:=(HB.out.cell (World.block_lt_of_cell? w _ hx128_1)).trans hx128_1
                    replace hx128_2:=(HB.out.cell (World.block_lt_of_cell? w _ hx128_2)).trans hx128_2
                    replace p128:=eq_true p128
                    replace q128:=eq_true q128
                    go_wp2_with (first | ((with_reducible refine gate_dst (N:=6) rfl ?_);refine box_event ?hg (N:=6) ?hd (cs:=#[.int .i64 0,.string (⟨#[]⟩:ByteArray),.string (⟨#[]⟩:ByteArray)]) (t:=79) ?hr ?_;(case hd => rfl);(case hg => rfl);(case hr => first | (go_simp;done) | (go_simp;rfl));intro gb129 hg w14 hbox hb;have n0_:=Aside0.mk (Kd.R_below (by (with_reducible repeat (first | apply Kd.R_alloc | apply Kd.R_drewN | apply Kd.R_drew));exact HO_4.out) hb);have n1_:=Aside0.mk (u2o (by repeat (first | (with_reducible first | exact HB.out | apply uj | apply uh | apply uu) | exact HB.out)) hb);have n2_:=Aside0.mk (hbox);have n3_:=Aside0.mk ((by rw [hg];exact (u2k (by repeat (first | (with_reducible first | exact HB.out | apply uj | apply uh | apply uu) | exact HB.out))):w.heap.size ≤ gb129));have n4_:=Aside0.mk ((by rw [hg];exact (u2k (by repeat (first | (with_reducible first | exact HB.out | apply uj | apply uh | apply uu) | exact HB.out))):w.heap.size ≤ gb129));clear HO_4;clear HB;have HO_4:=n0_;have HB:=n1_;have BK129:=n2_;have GW129:=n3_;have GE129:=n4_;clear n0_ n1_ n2_ n3_ n4_;clear hb hbox hg;have hcz15_0:w14.cell? ⟨gb129,0,none⟩ = some (.int .i64 0):=(uk BK129.out 0).trans rfl;have hcz15_1:w14.cell? ⟨gb129,1,none⟩ = some (.string (⟨#[]⟩:ByteArray)):=(uk BK129.out 1).trans rfl;have hcz15_2:w14.cell? ⟨gb129,2,none⟩ = some (.string (⟨#[]⟩:ByteArray)):=(uk BK129.out 2).trans rfl;have hfz15_0:=ut BK129.out 0;have hfz15_1:=ut BK129.out 1;have hfz15_2:=ut BK129.out 2) | ((with_reducible refine gate_dst (N:=28) rfl ?_);refine Kd.R_lit (Kd.int .u8) _ 5 ?hg (N:=28) ?hd (xs:=([((u1s l0 x16_1).f0) % 256,((((u1s l0 x16_1).f1).size:Int)) % 256]:List Int)) (inner:=[.int .u8 (((u1s l0 x16_1).f0) % 256),.int .u8 (((((u1s l0 x16_1).f1).size:Int)) % 256)]) (ok:=fun _ => True) (okp:=fun _ => True) ?hr ?hp (fun _ hk => hk) trivial (Below.refl _ _) (Nat.le_refl _) (by simp) ?_;(case hd => rfl);(case hg => rfl);(case hr => first | (go_simp;done) | (go_simp;rfl));(case hp => exact (Reps.one (show Kd.M (Kd.int .u8) _ _ _ (((u1s l0 x16_1).f0) % 256) [.int .u8 (((u1s l0 x16_1).f0) % 256)] from rfl) (Reps.one (show Kd.M (Kd.int .u8) _ _ _ (((((u1s l0 x16_1).f1).size:Int)) % 256) [.int .u8 (((((u1s l0 x16_1).f1).size:Int)) % 256)] from rfl) (Reps.none _ _))));intro v131 w16 ho17 hb hg_ hnew_;clear hg_ hnew_;(first | rw [← Ny130.out] at ho17 | (simp only [Int.reduceToNat] at ho17;rw [← Ny130.out] at ho17));have n0_:=Aside0.mk (Kd.R_elder' (by (with_reducible repeat (first | apply Kd.R_alloc | apply Kd.R_drewN | apply Kd.R_drew));exact (Kd.R_mono (Kd.R_far (p:=⟨gb129,2,none⟩) (Kd.R_far (p:=⟨gb129,1,none⟩) (Kd.R_far (p:=⟨gb129,0,none⟩) (Kd.R_types HO_4.out BK129.out (by decide)) (fun _ hk => hk.2) (.int .i64 ((u1s l0 x16_1).f0))) (fun _ hk => hk.2) (.string ((u1s l0 x16_1).f1))) (fun _ hk => hk.2) (.string ((u1s l0 x16_1).f2))) (fun _ h_ => h_.1))) (Kd.R_base ho17) hb);have n1_:=Aside0.mk (Kd.R_lower (Kd.R_new' ho17 (Kd.R_lt (by (with_reducible repeat (first | apply Kd.R_alloc | apply Kd.R_drewN | apply Kd.R_drew));exact (Kd.R_mono (Kd.R_far (p:=⟨gb129,2,none⟩) (Kd.R_far (p:=⟨gb129,1,none⟩) (Kd.R_far (p:=⟨gb129,0,none⟩) (Kd.R_types HO_4.out BK129.out (by decide)) (fun _ hk => hk.2) (.int .i64 ((u1s l0 x16_1).f0))) (fun _ hk => hk.2) (.string ((u1s l0 x16_1).f1))) (fun _ hk => hk.2) (.string ((u1s l0 x16_1).f2))) (fun _ h_ => h_.1))))) (u2k (by repeat (first | (with_reducible first | exact HB.out | apply uj | apply uh | apply uu | refine u2r ?_ GE129.out) | exact HB.out))));have n2_:=Aside0.mk (u1h (g:=gb129) (o:=.cells #[.int .i64 ((u1s l0 x16_1).f0),.string ((u1s l0 x16_1).f1),.string ((u1s l0 x16_1).f2)] 79 (0,0)) (by (with_reducible repeat (first | refine u2p ?_ _ | refine u2e ?_ | refine uo ?_ _));refine u4i (cs:=#[.int .i64 ((u1s l0 x16_1).f0),.string ((u1s l0 x16_1).f1),.string (⟨#[]⟩:ByteArray)]) ?_ 2 _ rfl;(with_reducible repeat (first | refine u2p ?_ _ | refine u2e ?_ | refine uo ?_ _));refine u4i (cs:=#[.int .i64 ((u1s l0 x16_1).f0),.string (⟨#[]⟩:ByteArray),.string (⟨#[]⟩:ByteArray)]) ?_ 1 _ rfl;(with_reducible repeat (first | refine u2p ?_ _ | refine u2e ?_ | refine uo ?_ _));refine u4i (cs:=#[.int .i64 0,.string (⟨#[]⟩:ByteArray),.string (⟨#[]⟩:ByteArray)]) ?_ 0 _ rfl;(with_reducible repeat (first | refine u2p ?_ _ | refine u2e ?_ | refine uo ?_ _));exact BK129.out) hb);have n3_:=Aside0.mk (u2o (by repeat (first | (with_reducible first | exact HB.out | apply uj | apply uh | apply uu | refine u2r ?_ GE129.out) | exact HB.out)) hb);clear HO_4;clear BK129;clear HB;have HO_4:=n0_;have HO132:=n1_;have BK129:=n2_;have HB:=n3_;clear n0_ n1_ n2_ n3_;clear hb ho17;obtain ⟨Ao19,co19,eo19⟩:=Kd.R_slice HO132.out;subst eo19) | ((with_reducible refine u3b (b:=.append) (xs:=#[.tmp 20,.tmp 28]) rfl ?_);at_builtin;refine Kd.R_append_rows (Kd.int .u8) (w0:=w) w.heap.size rfl (.tmp 20) (.tmp 28) 22 5 (.int .u8 0) 1 rfl Tryz.underlying22 info5 rfl (by decide) (by omega) u4 x4_1 y130 _ _ _ (fun k_ => some k_ ≠ (.slice Ao19 y130.length co19:Value).ownBlock) (fun _ => False) rfl rfl ?aO ?aR (fun _ _ h => h) (fun _ h => h.elim) ?aF ?aB ?aS ?aL ?_;(case aR => repeat (first | exact (Kd.R_reads' HO132.out).2.2 | (with_reducible refine Kd.C_alloc ?_ _) | (with_reducible refine Kd.C_drewN ?_ _) | (with_reducible refine Kd.C_drew ?_)));(case aB => exact (by repeat (first | (with_reducible first | exact HB.out | apply uj | apply uh | apply uu | refine u2r ?_ GE129.out) | exact HB.out)));(case aF => exact (fun k_ hk => Kd.fresh' (Kd.R_lt (by (with_reducible repeat (first | apply Kd.R_alloc | apply Kd.R_drewN | apply Kd.R_drew));exact HO132.out)) k_ hk));(case aO => exact (by (with_reducible repeat (first | apply Kd.R_alloc | apply Kd.R_drewN | apply Kd.R_drew));exact Kd.R_mono HO_4.out (fun _ hk => hk.2)));(case aS => exact (u2k (by repeat (first | (with_reducible first | exact HB.out | apply uj | apply uh | apply uu | refine u2r ?_ GE129.out) | exact HB.out))));(case aL => have:=LMc10.out;omega);intro v134 w18 ho hb hg hat;rw [← Ny133.out] at ho;have n0_:=Aside0.mk (blk_grown (g:=gb129) (o:=.cells #[.int .i64 ((u1s l0 x16_1).f0),.string ((u1s l0 x16_1).f1),.string ((u1s l0 x16_1).f2)] 79 (0,0)) (by (with_reducible repeat (first | refine u2p ?_ _ | refine u2e ?_ | refine uo ?_ _));exact BK129.out) hg (Kd.R_ne HO_4.out BK129.out (by decide)));have n1_:=Aside0.mk (Kd.R_after (ok:=(fun _ => True)) (by (with_reducible repeat (first | apply Kd.R_alloc | apply Kd.R_drewN | apply Kd.R_drew));exact HO132.out) hg hat);have n2_:=Aside0.mk (hb);have n3_:=Aside0.mk (ho);clear BK129;clear HO132;clear HB;clear HO_4;have BK129:=n0_;have HO132:=n1_;have HB:=n2_;have HO135:=n3_;clear n0_ n1_ n2_ n3_;clear ho hb hg hat;have hcz20_0:w18.cell? ⟨gb129,0,none⟩ = some (.int .i64 ((u1s l0 x16_1).f0)):=(uk BK129.out 0).trans rfl;have hcz20_1:w18.cell? ⟨gb129,1,none⟩ = some (.string ((u1s l0 x16_1).f1)):=(uk BK129.out 1).trans rfl;have hcz20_2:w18.cell? ⟨gb129,2,none⟩ = some (.string ((u1s l0 x16_1).f2)):=(uk BK129.out 2).trans rfl;have hfz20_0:=ut BK129.out 0;have hfz20_1:=ut BK129.out 1;have hfz20_2:=ut BK129.out 2) | (at_builtin;refine print_append_str (w0:=w) w.heap.size rfl (.tmp 30) _ 22 9 5 rfl Tryz.underlying22 Tryz.underlying9 info5 v134 y133 ((u1s l0 x16_1).f1) rfl rfl ?aO ?aB ?aS ?aL ?_;(case aB => exact (by repeat (first | (with_reducible first | exact HB.out | apply uj | apply uh | apply uu | refine u2r ?_ GE129.out) | exact HB.out)));(case aO => exact (Kd.own_of_R (by (with_reducible repeat (first | apply Kd.R_alloc | apply Kd.R_drewN | apply Kd.R_drew));exact Kd.R_mono HO135.out (fun _ hk => trivial))));(case aS => exact (u2k (by repeat (first | (with_reducible first | exact HB.out | apply uj | apply uh | apply uu | refine u2r ?_ GE129.out) | exact HB.out))));(case aL => have:=LMc11.out;omega);intro v137 w21 ho0 hb hg;have ho:=Kd.R_of_own (h1:=fun _ => rfl) (ok:=fun _ => True) ho0 (fun _ _ => trivial);clear ho0;have hat:=True.intro;rw [← Ny136.out] at ho;change Kd.R (Kd.int .u8) 5 w21 w.heap.size (fun _ => True) v137 y136 at ho;have n0_:=Aside0.mk (blk_grown (g:=gb129) (o:=.cells #[.int .i64 ((u1s l0 x16_1).f0),.string ((u1s l0 x16_1).f1),.string ((u1s l0 x16_1).f2)] 79 (0,0)) (by (with_reducible repeat (first | refine u2p ?_ _ | refine u2e ?_ | refine uo ?_ _));exact BK129.out) hg (Kd.R_ne HO135.out BK129.out (by decide)));have n1_:=Aside0.mk (hb);have n2_:=Aside0.mk (ho);clear BK129;clear HB;clear HO135;have BK129:=n0_;have HB:=n1_;have HO138:=n2_;clear n0_ n1_ n2_;clear ho hb hg hat;have hcz22_0:w21.cell? ⟨gb129,0,none⟩ = some (.int .i64 ((u1s l0 x16_1).f0)):=(uk BK129.out 0).trans rfl;have hcz22_1:w21.cell? ⟨gb129,1,none⟩ = some (.string ((u1s l0 x16_1).f1)):=(uk BK129.out 1).trans rfl;have hcz22_2:w21.cell? ⟨gb129,2,none⟩ = some (.string ((u1s l0 x16_1).f2)):=(uk BK129.out 2).trans rfl;have hfz22_0:=ut BK129.out 0;have hfz22_1:=ut BK129.out 1;have hfz22_2:=ut BK129.out 2) | ((with_reducible refine u3b (b:=.append) (xs:=#[.tmp 34,.tmp 39]) rfl ?_);at_builtin;refine Kd.R_append (Kd.int .u8) (w0:=w) w.heap.size rfl (.tmp 34) (.tmp 39) 22 5 (.int .u8 0) 1 rfl Tryz.underlying22 info5 rfl (by decide) (by omega) v137 y136 (((((u1s l0 x16_1).f2).size:Int)) % 256) [.int .u8 (((((u1s l0 x16_1).f2).size:Int)) % 256)] (fun _ => True) (fun _ => False) rfl rfl ?aP (fun _ hk => hk.elim) ?aF ?aO ?aB ?aS ?aL ?_;(case aP => exact rfl);(case aB => exact (by repeat (first | (with_reducible first | exact HB.out | apply uj | apply uh | apply uu | refine u2r ?_ GE129.out) | exact HB.out)));(case aF => exact (fun _ _ => trivial));(case aO => exact (by (with_reducible repeat (first | apply Kd.R_alloc | apply Kd.R_drewN | apply Kd.R_drew));exact HO138.out));(case aS => exact (u2k (by repeat (first | (with_reducible first | exact HB.out | apply uj | apply uh | apply uu | refine u2r ?_ GE129.out) | exact HB.out))));(case aL => have:=LMc12.out;omega);intro v140 w23 ho hb hg hat;rw [← Ny139.out] at ho;have n0_:=Aside0.mk (blk_grown (g:=gb129) (o:=.cells #[.int .i64 ((u1s l0 x16_1).f0),.string ((u1s l0 x16_1).f1),.string ((u1s l0 x16_1).f2)] 79 (0,0)) (by (with_reducible repeat (first | refine u2p ?_ _ | refine u2e ?_ | refine uo ?_ _));exact BK129.out) hg (Kd.R_ne HO138.out BK129.out (by decide)));have n1_:=Aside0.mk (hb);have n2_:=Aside0.mk (ho);clear BK129;clear HB;clear HO138;have BK129:=n0_;have HB:=n1_;have HO141:=n2_;clear n0_ n1_ n2_;clear ho hb hg hat;have hcz24_0:w23.cell? ⟨gb129,0,none⟩ = some (.int .i64 ((u1s l0 x16_1).f0)):=(uk BK129.out 0).trans rfl;have hcz24_1:w23.cell? ⟨gb129,1,none⟩ = some (.string ((u1s l0 x16_1).f1)):=(uk BK129.out 1).trans rfl;have hcz24_2:w23.cell? ⟨gb129,2,none⟩ = some (.string ((u1s l0 x16_1).f2)):=(uk BK129.out 2).trans rfl;have hfz24_0:=ut BK129.out 0;have hfz24_1:=ut BK129.out 1;have hfz24_2:=ut BK129.out 2) | (at_builtin;refine print_append_str (w0:=w) w.heap.size rfl (.tmp 41) _ 22 9 5 rfl Tryz.underlying22 Tryz.underlying9 info5 v140 y139 ((u1s l0 x16_1).f2) rfl rfl ?aO ?aB ?aS ?aL ?_;(case aB => exact (by repeat (first | (with_reducible first | exact HB.out | apply uj | apply uh | apply uu | refine u2r ?_ GE129.out) | exact HB.out)));(case aO => exact (Kd.own_of_R (by (with_reducible repeat (first | apply Kd.R_alloc | apply Kd.R_drewN | apply Kd.R_drew));exact HO141.out)));(case aS => exact (u2k (by repeat (first | (with_reducible first | exact HB.out | apply uj | apply uh | apply uu | refine u2r ?_ GE129.out) | exact HB.out))));(case aL => have:=LMc13.out;omega);intro v143 w25 ho0 hb hg;have ho:=Kd.R_of_own (h1:=fun _ => rfl) (ok:=fun _ => True) ho0 (fun _ _ => trivial);clear ho0;have hat:=True.intro;rw [← Ny142.out] at ho;change Kd.R (Kd.int .u8) 5 w25 w.heap.size (fun _ => True) v143 y142 at ho;have n0_:=Aside0.mk (blk_grown (g:=gb129) (o:=.cells #[.int .i64 ((u1s l0 x16_1).f0),.string ((u1s l0 x16_1).f1),.string ((u1s l0 x16_1).f2)] 79 (0,0)) (by (with_reducible repeat (first | refine u2p ?_ _ | refine u2e ?_ | refine uo ?_ _));exact BK129.out) hg (Kd.R_ne HO141.out BK129.out (by decide)));have n1_:=Aside0.mk (hb);have n2_:=Aside0.mk (ho);clear BK129;clear HB;clear HO141;have BK129:=n0_;have HB:=n1_;have HO144:=n2_;clear n0_ n1_ n2_;clear ho hb hg hat))
                    go_roundg k1
                    case measure => have:=HK1.out;omega
                    case rel => exact ⟨(y142),(wrap64 (x16_1 + 1)),(by first | rfl | (simp;done) | (simp [*];done)),H',⟨by have:=HK1.out;omega⟩,⟨by (with_reducible repeat (first | apply Kd.R_alloc | apply Kd.R_drewN | apply Kd.R_drew));exact HO144.out⟩,⟨by repeat (first | (with_reducible first | exact HB.out | apply uj | apply uh | apply uu | refine u2r ?_ GE129.out) | exact HB.out)⟩⟩
                  · rw [if_neg c13] at H
                    exact absurd H (by simp)
                · rw [if_neg c12] at H
                  exact absurd H (by simp)
              · rw [if_neg c11] at H
                exact absurd H (by simp)
            · rw [if_neg c10] at H
              exact absurd H (by simp)
          · rw [if_neg c9] at H
            exact absurd H (by simp)
        · rw [if_neg c8] at H
          exact absurd H (by simp)
      · rw [if_neg c7] at H
        have c7b0:decide (x16_1 < (l0.length:Int)) = false:=decide_eq_false c7
        clear c7
        simp only [Option.some.injEq,Prod.mk.injEq] at H
        obtain ⟨rfl,rfl⟩:=H
        go_wp2
        go_ret2
        exact ⟨_,by first | rfl | (simp [u2x,u2w] <;> rfl) | (simp [*,u2x,u2w] <;> rfl),by (with_reducible repeat (first | apply Kd.R_alloc | apply Kd.R_drewN | apply Kd.R_drew));exact HO_4.out,by repeat (first | (with_reducible first | exact HB.out | apply uj | apply uh | apply uu) | exact HB.out)⟩
 · replace c3:=Bool.eq_false_iff.mpr c3
   subst c3
   have H1:(some (([]:List Int),1)) = some (r1,r2):=by rw [if_neg (show ¬ (false = true) by decide)] at H;exact H
   clear H
   have H:=H1
   clear H1
   simp only [Option.some.injEq,Prod.mk.injEq] at H
   obtain ⟨rfl,rfl⟩:=H
   go_enter Tryz.func32,Tryz.ntmps32
   go_wp2_with (first | ((with_reducible refine u4h (f:=36) rfl ?_);refine goesL_ (some 8) rfl rfl Tryz.func36 (by kernel_rfl) rfl #[.slice A0 l0.length c0] rfl (by (try simp only [List.map_toArray,List.map_cons,List.map_nil]);first | done | rfl | (simp only [List.length_drop,List.length_take];rfl)) ?_;(with_reducible refine (u1l.callsP _ _ l0 false _ ?side1 ?side2 ?side3 A2.out).mono ?_);(case side1 => repeat (first | exact HR0.out | (with_reducible refine Kd.C_alloc ?_ _) | (with_reducible refine Kd.C_drewN ?_ _) | (with_reducible refine Kd.C_drew ?_)));(case side2 => exact HC0.out);(case side3 => exact HG.out.below (by repeat (first | (with_reducible first | exact HB.out | apply uj | apply uh | apply uu) | exact HB.out)));rintro e w26 ⟨rfl,hb⟩;refine ⟨_,rfl,?_⟩;have n0_:=Aside0.mk (u2o (by repeat (first | (with_reducible first | exact HB.out | apply uj | apply uh | apply uu) | exact HB.out)) hb);clear HB;have HB:=n0_;clear n0_;(try clear hb);(try clear hb2);(try clear hk);(try clear hi)))
   go_ret2
   exact ⟨_,by first | rfl | (simp [u2x,u2w] <;> rfl) | (simp [*,u2x,u2w] <;> rfl),by first | exact Kd.R_nil _ _ _ _ _ | exact Kd.N_nil _ _ _ _ _ | exact Kd.V_nil _ _ _ _ _ | exact Kd.Q_nil _ _ _ _ _ | exact Kd.S_nil _ _ _ _ _,by repeat (first | (with_reducible first | exact HB.out | apply uj | apply uh | apply uu) | exact HB.out)⟩
end Go.Proofs.YtgnehcgaplnfkaaGreatDoor.PAll
