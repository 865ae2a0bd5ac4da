/- Texts of this seat, joined in the order in which they build. -/
import Derived.Test.YtmcpeifhapekoaaGreatDoorBw1
import Derived.Deep.Slices
import Derived.ChangeSame
import Derived.WideShapes
import Derived.OpenShut
import Derived.SizedLaws
import Derived.Test.YtmcpeifhapekoaaGreatDoorRows
import Derived.Lib.LaidU8
import Derived.Lib.LaidTab
import Derived.LaidMore
import Derived.MakeChecks
import Derived.Handed
import Derived.Laws.Cover4
import Derived.Lib.MapLaws
namespace Go.Proofs.YtmcpeifhapekoaaGreatDoor.PAll
open Go.RowKit Go.Proofs.YtmcpeifhapekoaaGreatDoorW.PrintWords Go.Proofs.YtmcpeifhapekoaaGreatDoorW.PrintLast Go.Proofs.YtmcpeifhapekoaaGreatDoorW.PrintMore
attribute [local go_sem] max2_int min2_int max_two min_two max_three min_three max_four min_four
set_option linter.unusedVariables false
set_option linter.unusedSimpArgs false
def u2i.f (a0:ByteArray) (a1:ByteArray):Option (ByteArray × Bool):=(u1w.f a0 a1).bind fun t106 => (if t106 = true then (if 0 ≤ (a1.size:Int) then (if (a1.size:Int) ≤ (a0.size:Int) then (some (a0.extract ((a1.size:Int):Int).toNat a0.size,true)) else (none)) else (none)) else (some (a0,false)))
set_option maxHeartbeats 8000000 in
set_option maxRecDepth 100000 in
theorem u2i.calls (a0:ByteArray) (a1:ByteArray) (r1:ByteArray) (r2:Bool) (w:World) (h:u2i.f a0 a1 = some (r1,r2)) :
 Calls Tryz.prog 140 #[.string a0,.string a1] w fun e w' => e = .returned (.tuple #[.string r1,.bool r2]) ∧ uy w w':=by
 have H:((u1w.f a0 a1).bind fun t106 => (if t106 = true then (if 0 ≤ (a1.size:Int) then (if (a1.size:Int) ≤ (a0.size:Int) then (some (a0.extract ((a1.size:Int):Int).toNat a0.size,true)) else (none)) else (none)) else (some (a0,false)))) = some (r1,r2):=h
 clear h
 replace H:=Option.bind_eq_some_iff.mp H
 obtain ⟨t106,A30,H⟩:=H
 replace H:(if t106 = true then (if 0 ≤ (a1.size:Int) then (if (a1.size:Int) ≤ (a0.size:Int) then (some (a0.extract ((a1.size:Int):Int).toNat a0.size,true)) else (none)) else (none)) else (some (a0,false))) = some (r1,r2):=H
 have A3:=Aside0.mk A30
 clear A30
 by_cases c4:t106 = true
 · subst c4
   have H1:(if 0 ≤ (a1.size:Int) then (if (a1.size:Int) ≤ (a0.size:Int) then (some (a0.extract ((a1.size:Int):Int).toNat a0.size,true)) else (none)) else (none)) = some (r1,r2):=by rw [if_pos rfl] at H;exact H
   clear H
   have H:=H1
   clear H1
   by_cases c5:0 ≤ (a1.size:Int)
   · rw [if_pos c5] at H
     have c5b0:=eq_true c5
     have c5b1:decide (0 ≤ (a1.size:Int)) = true:=decide_eq_true c5
     clear c5
     by_cases c6:(a1.size:Int) ≤ (a0.size:Int)
     · rw [if_pos c6] at H
       have c6b0:=eq_true c6
       have c6b1:decide ((a1.size:Int) ≤ (a0.size:Int)) = true:=decide_eq_true c6
       clear c6
       simp only [Option.some.injEq,Prod.mk.injEq] at H
       obtain ⟨rfl,rfl⟩:=H
       go_enter Tryz.func140,Tryz.ntmps140
       go_wp2_with (first | ((with_reducible refine u2w (f:=51) rfl ?_);refine goesL_ (some 8) rfl rfl Tryz.func51 (by kernel_rfl) rfl #[.string a0,.string a1] rfl (by (try simp only [List.map_toArray,List.map_cons,List.map_nil]);first | done | rfl | (simp only [List.length_drop,List.length_take];rfl)) ?_;(with_reducible refine (u1w.calls a0 a1 true _ A3.out).mono ?_);rintro e w' ⟨rfl,⟨nd,rfl⟩⟩;refine ⟨_,rfl,?_⟩))
       go_ret2
       exact ⟨by first | rfl | (simp;done) | (simp [*];done),by repeat (first | exact uy.refl _ | apply uy.step)⟩
     · rw [if_neg c6] at H
       exact absurd H (by simp)
   · rw [if_neg c5] at H
     exact absurd H (by simp)
 · replace c4:=Bool.eq_false_iff.mpr c4
   subst c4
   have H1:(some (a0,false)) = some (r1,r2):=by rw [if_neg (show ¬ (false = true) by decide)] at H;exact H
   clear H
   have H:=H1
   clear H1
   simp only [Option.some.injEq,Prod.mk.injEq] at H
   obtain ⟨rfl,rfl⟩:=H
   go_enter Tryz.func140,Tryz.ntmps140
   go_wp2_with (first | ((with_reducible refine u2w (f:=51) rfl ?_);refine goesL_ (some 8) rfl rfl Tryz.func51 (by kernel_rfl) rfl #[.string a0,.string a1] rfl (by (try simp only [List.map_toArray,List.map_cons,List.map_nil]);first | done | rfl | (simp only [List.length_drop,List.length_take];rfl)) ?_;(with_reducible refine (u1w.calls a0 a1 false _ A3.out).mono ?_);rintro e w' ⟨rfl,⟨nd,rfl⟩⟩;refine ⟨_,rfl,?_⟩))
   go_ret2
   exact ⟨by first | rfl | (simp;done) | (simp [*];done),by repeat (first | exact uy.refl _ | apply uy.step)⟩
def u1o.f (a0:ByteArray) (a1:ByteArray):Option (ByteArray × Bool):=(u2i.f a0 a1).bind fun bt107 => (some (bt107.1,bt107.2))
set_option maxHeartbeats 8000000 in
set_option maxRecDepth 100000 in
theorem u1o.calls (a0:ByteArray) (a1:ByteArray) (r1:ByteArray) (r2:Bool) (w:World) (h:u1o.f a0 a1 = some (r1,r2)) :
 Calls Tryz.prog 117 #[.string a0,.string a1] w fun e w' => e = .returned (.tuple #[.string r1,.bool r2]) ∧ uy w w':=by
 have H:((u2i.f a0 a1).bind fun bt107 => (some (bt107.1,bt107.2))) = some (r1,r2):=h
 clear h
 replace H:=Option.bind_eq_some_iff.mp H
 obtain ⟨⟨t107,t108⟩,A30,H⟩:=H
 replace H:(some (t107,t108)) = some (r1,r2):=H
 have A3:=Aside0.mk A30
 clear A30
 simp only [Option.some.injEq,Prod.mk.injEq] at H
 obtain ⟨rfl,rfl⟩:=H
 go_enter Tryz.func117,Tryz.ntmps117
 go_wp2_with (first | ((with_reducible refine u2w (f:=140) rfl ?_);refine goesL_ (some 8) rfl rfl Tryz.func140 (by kernel_rfl) rfl #[.string a0,.string a1] rfl (by (try simp only [List.map_toArray,List.map_cons,List.map_nil]);first | done | rfl | (simp only [List.length_drop,List.length_take];rfl)) ?_;(with_reducible refine (u2i.calls a0 a1 t107 t108 _ A3.out).mono ?_);rintro e w' ⟨rfl,⟨nd,rfl⟩⟩;refine ⟨_,rfl,?_⟩))
 go_ret2
 exact ⟨by first | rfl | (simp;done) | (simp [*];done),by repeat (first | exact uy.refl _ | apply uy.step)⟩
def u2r.idx (p:S66 → Bool) (l:List S66):Int:=match l.findIdx? p with | none => -1 | some i => (i:Int)
theorem u2r.idx_hit (p:S66 → Bool) (l:List S66) (x:Nat) (hx:x < l.length) (hp:p l[x] = true) (hn:∀ j (hj:j < x),p (l[j]'(by omega)) = false):u2r.idx p l = (x:Int):=by
 unfold u2r.idx
 have h:l.findIdx? p = some x:=List.findIdx?_eq_some_iff_getElem.2 ⟨hx,hp,fun j hj => by rw [hn j hj];exact Bool.false_ne_true⟩
 rw [h]
theorem u2r.idx_miss (p:S66 → Bool) (l:List S66) (hn:∀ j (hj:j < l.length),p l[j] = false):u2r.idx p l = -1:=by
 unfold u2r.idx
 have h:l.findIdx? p = none:=List.findIdx?_eq_none_iff.2 (fun x hx => by
  obtain ⟨j,hj,rfl⟩:=List.getElem_of_mem hx
  exact hn j hj)
 rw [h]
set_option maxHeartbeats 2000000 in
set_option maxRecDepth 100000 in
theorem u2r.calls (A:Option Addr) (c:Nat) (l:List S66) (fn:Nat) (lb:Array Value) (p:S66 → Bool) (w:World) (hr:Kd.C k66 w A l.length l) (hm:l.length ≤ 9223372036854775807) (eg:∀ args W,(callFunc fn args).run Tryz.prog W = .ok (.enter fn args) W)
 (hp:∀ (W:World) (x:S66),Below w.heap.size w W → x ∈ l → Calls Tryz.prog fn (#[.agg #[.string x.f0,.string x.f1]] ++ lb) W fun e w' => e = .returned (.bool (p x)) ∧ Below W.heap.size W w') :
 Calls Tryz.prog 106 #[.slice A l.length c,.func (.func fn) #[] lb] w fun e w' => e = .returned (.int .i64 (u2r.idx p l)) ∧ Below w.heap.size w w':=by
 have HR:=Aside0.mk hr
 have HP:=Aside0.mk hp
 clear hr hp
 have hu41:=Tryz.underlying66
 go_enter Tryz.func106,Tryz.ntmps106
 go_wp2
 go_loopg [8] (l.length) (fun kq v8 wr => ∃ (x:Nat),x ≤ l.length ∧ v8 = .int .i64 x ∧ Aside0 (∀ j (hj:j < x) (hl:j < l.length),p l[j] = false) ∧ l.length ≤ kq + x ∧ Below w.heap.size w wr)
 case atStart => exact ⟨0,by omega,rfl,⟨fun j hj => absurd hj (by omega)⟩,by omega,Below.refl _ _⟩
 case round =>
  obtain ⟨x,hx,rfl,HN,hk,hB⟩:=hrel
  have HB:=Aside0.mk hB
  clear hB
  by_cases hlt:x < l.length
  · obtain ⟨ad,e,hc0,hc1⟩:=at_T66 HR.out (x:Int) (by omega) (by omega)
    subst e
    obtain ⟨y,hy⟩:∃ y,l[x] = y:=⟨_,rfl⟩
    have hx9:un l (x:Int) = y:=by rw [← hy];simp [un,List.getD_eq_getElem?_getD,hlt]
    have hd0:wr.cell? (ad.add (x * 2)) = some (.string y.f0):=(HB.out.cell (World.block_lt_of_cell? w _ (by simpa using hc0))).trans (by simpa [hx9] using hc0)
    have hd1:wr.cell? ⟨(ad.add (x * 2)).block,(ad.add (x * 2)).off + 1,none⟩ = some (.string y.f1):=(HB.out.cell (World.block_lt_of_cell? w _ (by simpa using hc1))).trans (by simpa [hx9] using hc1)
    have HT:=Aside0.mk (HP.out wr y HB.out (by rw [← hy];exact List.getElem_mem hlt))
    clear hc0 hc1 hx9
    cases hb:p y with
    | true =>
      rw [hb] at HT
      have HE:Aside0 (u2r.idx p l = (x:Int)):=⟨u2r.idx_hit p l x hlt (by rw [hy];exact hb) (fun j hj => HN.out j hj (by omega))⟩
      clear hy
      go_wp2_with (go_at_fn fn;refine HT.out.mono ?_;rintro e W1 ⟨rfl,hb1⟩)
      go_ret
      exact ⟨by rw [HE.out];rfl,HB.out.trans (hb1.mono HB.out.size)⟩
    | false =>
      rw [hb] at HT
      have HY:=Aside0.mk hy
      have HBB:=Aside0.mk hb
      clear hy hb
      obtain ⟨g1,rfl⟩:∃ g1,gk = g1 + 1:=⟨gk - 1,by omega⟩
      go_wp2_with (go_at_fn fn;refine HT.out.mono ?_;rintro e W1 ⟨rfl,hb1⟩)
      go_roundg g1
      case rel =>
       refine ⟨x + 1,by omega,by go_num,⟨fun j hj hl => ?_⟩,by omega,HB.out.trans (hb1.mono HB.out.size)⟩
       by_cases hjx:j = x
       · subst hjx
         rw [HY.out]
         exact HBB.out
       · exact HN.out j (by omega) hl
      case measure => omega
  · have HE:Aside0 (u2r.idx p l = -1):=⟨u2r.idx_miss p l (fun j hj => HN.out j (by omega) hj)⟩
    go_wp2
    go_ret
    exact ⟨by rw [HE.out];rfl,HB.out⟩
def u2p.f (a0:ByteArray):Option Bool:=some (Base.plainTextB a0)
def u2p.badB (r:Int):Bool:=decide (r < 32) || decide (r = 127) || decide (r = 65533)
set_option maxHeartbeats 1000000 in
set_option maxRecDepth 100000 in
theorem u2p.calls (a0:ByteArray) (r:Bool) (w:World) (h:u2p.f a0 = some r) :
 Calls Tryz.prog 112 #[.string a0] w fun e w' => e = .returned (.bool r) ∧ Below w.heap.size w w':=by
 obtain rfl:Base.plainTextB a0 = r:=by simpa [u2p.f] using h
 clear h
 go_enter Tryz.func112,Tryz.ntmps112
 go_wp2
 go_loopw [] (fun wr => ∃ (pos fuel:Nat),wr.heap[w.heap.size]? = some (.stringIter a0 pos) ∧ Below w.heap.size w wr ∧ Aside0 (Base.plainTextB a0 = (Base.runesFrom a0 fuel pos).all (fun r => !u2p.badB r)) ∧ a0.size ≤ fuel + pos)
  (fun wr => a0.size - wr.iterPos w.heap.size)
 case atStart =>
  refine ⟨0,a0.size,?_,(Below.refl _ w).alloc (Nat.le_refl _) _,⟨rfl⟩,by omega⟩
  have:=World.iter_heap w a0 0
  simpa using this
 case round =>
  obtain ⟨pos,fuel,hit,hbw,HE,hfu⟩:=hrel
  have hsz:w.heap.size < wr.heap.size:=(Array.getElem?_eq_some_iff.1 hit).1
  by_cases hp:pos < a0.size
  · have hnx:∀ ty,(Instr.next (.pointer (some ⟨w.heap.size,0,none⟩)) true ty).run Tryz.prog wr = _:=fun ty => Lib.run_next_any_at wr w.heap.size a0 pos ty hit hp
    have hwd:=Base.width_pos a0 pos hp
    have hd1:=decode_le a0 pos
    have hit2:=Lib.iterAt_heap wr w.heap.size a0 pos (pos + (Utf8.decode a0 pos).2) hit
    have hbw2:=Lib.below_iterAt hbw (k:=w.heap.size) (by omega) a0 (pos + (Utf8.decode a0 pos).2)
    obtain ⟨f,rfl⟩:∃ f,fuel = f + 1:=⟨fuel - 1,by omega⟩
    have hst:=Base.runesFrom_step a0 f pos hp
    rw [hst] at HE
    clear hst
    have hbad:Aside0 (u2p.badB ((Utf8.decode a0 pos).1:Int) = true ↔ ((Utf8.decode a0 pos).1 < 32 ∨ (Utf8.decode a0 pos).1 = 127 ∨ (Utf8.decode a0 pos).1 = 65533)):=⟨by
     simp only [u2p.badB,Bool.or_eq_true,decide_eq_true_eq]
     omega⟩
    by_cases h1:(Utf8.decode a0 pos).1 < 32
    · go_wp2
      go_ret
      have h2:=HE.out
      rw [List.all_cons,hbad.out.2 (.inl h1)] at h2
      exact ⟨by rw [h2];rfl,hbw2⟩
    · by_cases h3:(Utf8.decode a0 pos).1 = 127
      · have hb3:(((Utf8.decode a0 pos).1:Int) == 127) = true:=by simp;omega
        have H3:=Aside0.mk h3
        clear h3
        go_wp2
        go_ret
        have h2:=HE.out
        rw [List.all_cons,hbad.out.2 (.inr (.inl H3.out))] at h2
        exact ⟨by rw [h2];rfl,hbw2⟩
      · have hb3:(((Utf8.decode a0 pos).1:Int) == 127) = false:=by simp;omega
        by_cases h4:(Utf8.decode a0 pos).1 = 65533
        · have hb4:(((Utf8.decode a0 pos).1:Int) == 65533) = true:=by simp;omega
          have H4:=Aside0.mk h4
          clear h4
          go_wp2
          go_ret
          have h2:=HE.out
          rw [List.all_cons,hbad.out.2 (.inr (.inr H4.out))] at h2
          exact ⟨by rw [h2];rfl,hbw2⟩
        · have hb4:(((Utf8.decode a0 pos).1:Int) == 65533) = false:=by simp;omega
          have hgood:u2p.badB ((Utf8.decode a0 pos).1:Int) = false:=by
           cases hq:u2p.badB ((Utf8.decode a0 pos).1:Int) with
           | false => rfl
           | true => have:=hbad.out.1 hq;omega
          have Hg:=Aside0.mk hgood
          clear hgood
          go_wp2
          go_roundw
          case rel =>
           refine ⟨pos + (Utf8.decode a0 pos).2,f,by simpa using hit2,hbw2,⟨?_⟩,by omega⟩
           have h2:=HE.out
           rw [List.all_cons,Hg.out,Bool.not_false,Bool.true_and] at h2
           exact h2
          case measure =>
           simp only [World.iterPos,hit2,hit]
           omega
  · have hnx:∀ ty,(Instr.next (.pointer (some ⟨w.heap.size,0,none⟩)) true ty).run Tryz.prog wr = _:=fun ty => Lib.run_next_end_at wr w.heap.size a0 pos ty hit hp
    have h1:=HE.out
    rw [Base.runesFrom_end a0 fuel pos hp,List.all_nil] at h1
    have H1:=Aside0.mk h1
    clear h1 HE
    go_wp2
    go_ret
    exact ⟨by rw [H1.out];rfl,hbw⟩
def u2q.f (a0:ByteArray):Option (Bool):=if (a0.size:Int) ≥ 1 then (if (a0.size:Int) ≤ 40 then ((u2p.f a0).bind fun t123 => (some t123)) else (some false)) else (some false)
set_option maxHeartbeats 8000000 in
set_option maxRecDepth 100000 in
theorem u2q.calls (a0:ByteArray) (r:Bool) (w:World) (h:u2q.f a0 = some r) :
 Calls Tryz.prog 70 #[.string a0] w fun e w' => e = .returned (.bool r) ∧ Below w.heap.size w w':=by
 have HB:=Aside0.mk (Below.refl w.heap.size w)
 have H:(if (a0.size:Int) ≥ 1 then (if (a0.size:Int) ≤ 40 then ((u2p.f a0).bind fun t123 => (some t123)) else (some false)) else (some false)) = some r:=h
 clear h
 by_cases c2:(a0.size:Int) ≥ 1
 · rw [if_pos c2] at H
   have c2b0:decide (1 ≤ (a0.size:Int)) = true:=decide_eq_true c2
   have c2b1:decide (1 ≤ a0.size) = true:=decide_eq_true (by omega)
   clear c2
   by_cases c3:(a0.size:Int) ≤ 40
   · rw [if_pos c3] at H
     have c3b0:decide ((a0.size:Int) ≤ 40) = true:=decide_eq_true c3
     have c3b1:decide (a0.size ≤ 40) = true:=decide_eq_true (by omega)
     clear c3
     replace H:=Option.bind_eq_some_iff.mp H
     obtain ⟨t123,A40,H⟩:=H
     replace H:(some t123) = some r:=H
     have A4:=Aside0.mk A40
     clear A40
     obtain rfl:=Option.some.inj H
     go_enter Tryz.func70,Tryz.ntmps70
     go_wp2_with (first | (go_at_call 112;(with_reducible refine (u2p.calls a0 t123 _ A4.out).mono ?_);rintro e w5 ⟨rfl,hb⟩;have n0_:=Aside0.mk (u1c (by repeat (first | (with_reducible first | exact HB.out | apply ud | apply ub | apply uf) | exact HB.out)) hb);clear HB;have HB:=n0_;clear n0_;(try clear hb);(try clear hb2);(try clear hk);(try clear hi)))
     go_ret
     exact ⟨by first | rfl | (simp [u1x,u1y] <;> rfl) | (simp [*,u1x,u1y] <;> rfl),by repeat (first | (with_reducible first | exact HB.out | apply ud | apply ub | apply uf) | exact HB.out)⟩
   · rw [if_neg c3] at H
     have c3b0:decide ((a0.size:Int) ≤ 40) = false:=decide_eq_false c3
     have c3b1:decide (a0.size ≤ 40) = false:=decide_eq_false (by omega)
     clear c3
     obtain rfl:=Option.some.inj H
     go_enter Tryz.func70,Tryz.ntmps70
     go_wp2
     go_ret
     exact ⟨by first | rfl | (simp [u1x,u1y] <;> rfl) | (simp [*,u1x,u1y] <;> rfl),by repeat (first | (with_reducible first | exact HB.out | apply ud | apply ub | apply uf) | exact HB.out)⟩
 · rw [if_neg c2] at H
   have c2b0:decide (1 ≤ (a0.size:Int)) = false:=decide_eq_false c2
   have c2b1:decide (1 ≤ a0.size) = false:=decide_eq_false (by omega)
   clear c2
   obtain rfl:=Option.some.inj H
   go_enter Tryz.func70,Tryz.ntmps70
   go_wp2
   go_ret
   exact ⟨by first | rfl | (simp [u1x,u1y] <;> rfl) | (simp [*,u1x,u1y] <;> rfl),by repeat (first | (with_reducible first | exact HB.out | apply ud | apply ub | apply uf) | exact HB.out)⟩
def u2x.f (a0:ByteArray):Option Bool:=some (Base.valueB a0)
theorem u2x.plain_is (x:Int):labels_plain.f x = some (Base.plainB x):=by
 unfold labels_plain.f Base.plainB
 by_cases h1:x ≥ 32
 · rw [if_pos h1]
   by_cases h2:x = 127
   · simp [h1,h2]
   · rw [if_neg h2]
     by_cases h3:x = 65533 <;> simp [h1,h2,h3]
 · rw [if_neg h1]
   simp only [ge_iff_le] at h1
   simp [h1]
set_option maxHeartbeats 1000000 in
set_option maxRecDepth 100000 in
theorem u2x.calls (a0:ByteArray) (r:Bool) (w:World) (h:u2x.f a0 = some r) :
 Calls Tryz.prog 60 #[.string a0] w fun e w' => e = .returned (.bool r) ∧ Below w.heap.size w w':=by
 obtain rfl:Base.valueB a0 = r:=by simpa [u2x.f] using h
 clear h
 go_enter Tryz.func60,Tryz.ntmps60
 go_wp2
 go_loopw [] (fun wr => ∃ (pos fuel:Nat),wr.heap[w.heap.size]? = some (.stringIter a0 pos) ∧ Below w.heap.size w wr ∧ Aside0 ((Base.runesOf a0).all Base.plainB = (Base.runesFrom a0 fuel pos).all Base.plainB) ∧ a0.size ≤ fuel + pos)
  (fun wr => a0.size - wr.iterPos w.heap.size)
 case atStart =>
  refine ⟨0,a0.size,?_,(Below.refl _ w).alloc (Nat.le_refl _) _,⟨rfl⟩,by omega⟩
  have:=World.iter_heap w a0 0
  simpa using this
 case round =>
  obtain ⟨pos,fuel,hit,hbw,HE,hfu⟩:=hrel
  have hsz:w.heap.size < wr.heap.size:=(Array.getElem?_eq_some_iff.1 hit).1
  by_cases hp:pos < a0.size
  · have hnx:∀ ty,(Instr.next (.pointer (some ⟨w.heap.size,0,none⟩)) true ty).run Tryz.prog wr = _:=fun ty => Lib.run_next_any_at wr w.heap.size a0 pos ty hit hp
    have hwd:=Base.width_pos a0 pos hp
    have hd1:=decode_le a0 pos
    have hit2:=Lib.iterAt_heap wr w.heap.size a0 pos (pos + (Utf8.decode a0 pos).2) hit
    have hbw2:=Lib.below_iterAt hbw (k:=w.heap.size) (by omega) a0 (pos + (Utf8.decode a0 pos).2)
    obtain ⟨f,rfl⟩:∃ f,fuel = f + 1:=⟨fuel - 1,by omega⟩
    have hst:=Base.runesFrom_step a0 f pos hp
    rw [hst] at HE
    clear hst
    cases hpl:Base.plainB ((Utf8.decode a0 pos).1:Int) with
    | true =>
      go_wp2_with (go_at_call 105;refine (labels_plain.calls _ _ _ (u2x.plain_is _)).mono ?_;rintro e W1 ⟨rfl,⟨nd,rfl⟩⟩)
      go_roundw
      case rel =>
       refine ⟨pos + (Utf8.decode a0 pos).2,f,by simpa using hit2,ub hbw2 nd,⟨?_⟩,by omega⟩
       have h1:=HE.out
       rw [List.all_cons,hpl,Bool.true_and] at h1
       exact h1
      case measure =>
       have e1:((wr.iterAt w.heap.size a0 (pos + (Utf8.decode a0 pos).2)).drewN nd).heap[w.heap.size]? = some (.stringIter a0 (pos + (Utf8.decode a0 pos).2)):=by simpa using hit2
       simp only [World.iterPos,e1,hit]
       omega
    | false =>
      go_wp2_with (go_at_call 105;refine (labels_plain.calls _ _ _ (u2x.plain_is _)).mono ?_;rintro e W1 ⟨rfl,⟨nd,rfl⟩⟩)
      go_ret
      have h1:=HE.out
      rw [List.all_cons,hpl,Bool.false_and] at h1
      refine ⟨?_,ub hbw2 nd⟩
      simp [Base.valueB,h1]
  · have hnx:∀ ty,(Instr.next (.pointer (some ⟨w.heap.size,0,none⟩)) true ty).run Tryz.prog wr = _:=fun ty => Lib.run_next_end_at wr w.heap.size a0 pos ty hit hp
    have h1:=HE.out
    rw [Base.runesFrom_end a0 fuel pos hp,List.all_nil] at h1
    have H1:=Aside0.mk h1
    clear h1 HE
    go_wp2
    all_goals
     go_ret
     refine ⟨?_,hbw⟩
     have h1:=H1.out
     have hz:=Base.toList_nil a0
     first
      | (have he:a0.toList = []:=by assumption
         have h0:a0.size = 0:=hz.1 he
         simp [Base.valueB,h1,h0,he];done)
      | (have he:¬ a0.toList = []:=by assumption
         have h0:0 < a0.size:=by
          rcases Nat.eq_zero_or_pos a0.size with h | h
          · exact absurd (hz.2 h) he
          · exact h
         have hi:a0.toList.isEmpty = false:=by
          cases hl:a0.toList with
          | nil => exact absurd hl he
          | cons _ _ => rfl
         have hd:decide ((a0.size:Int) ≤ 40) = decide (a0.size ≤ 40):=by
          rw [Bool.eq_iff_iff]
          simp only [decide_eq_true_eq]
          omega
         simp [Base.valueB,h1,h0,hi,hd];done)
def u2v.idx (p:S34 → Bool) (l:List S34):Int:=match l.findIdx? p with | none => -1 | some i => (i:Int)
theorem u2v.idx_hit (p:S34 → Bool) (l:List S34) (x:Nat) (hx:x < l.length) (hp:p l[x] = true) (hn:∀ j (hj:j < x),p (l[j]'(by omega)) = false):u2v.idx p l = (x:Int):=by
 unfold u2v.idx
 have h:l.findIdx? p = some x:=List.findIdx?_eq_some_iff_getElem.2 ⟨hx,hp,fun j hj => by rw [hn j hj];exact Bool.false_ne_true⟩
 rw [h]
theorem u2v.idx_miss (p:S34 → Bool) (l:List S34) (hn:∀ j (hj:j < l.length),p l[j] = false):u2v.idx p l = -1:=by
 unfold u2v.idx
 have h:l.findIdx? p = none:=List.findIdx?_eq_none_iff.2 (fun x hx => by
  obtain ⟨j,hj,rfl⟩:=List.getElem_of_mem hx
  exact hn j hj)
 rw [h]
theorem u2v.idx_any (p:S34 → Bool) (l:List S34):decide (0 ≤ u2v.idx p l) = l.any p:=by
 unfold u2v.idx
 cases h:l.findIdx? p with
 | none =>
   have h2:=List.findIdx?_eq_none_iff.1 h
   have:l.any p = false:=by
    rw [List.any_eq_false]
    intro x hx
    rw [h2 x hx]
    exact Bool.false_ne_true
   rw [this]
   rfl
 | some i =>
   obtain ⟨hi,h2,_⟩:=List.findIdx?_eq_some_iff_getElem.1 h
   have:l.any p = true:=List.any_eq_true.2 ⟨_,List.getElem_mem hi,h2⟩
   rw [this]
   exact decide_eq_true (by show (0:Int) ≤ (i:Int);omega)
set_option maxHeartbeats 2000000 in
set_option maxRecDepth 100000 in
theorem u2v.calls (A:Option Addr) (c:Nat) (l:List S34) (fn:Nat) (lb:Array Value) (p:S34 → Bool) (w:World) (hr:Kd.C k34 w A l.length l) (hm:l.length ≤ 9223372036854775807) (eg:∀ args W,(callFunc fn args).run Tryz.prog W = .ok (.enter fn args) W)
 (hp:∀ (W:World) (x:S34),Below w.heap.size w W → x ∈ l → Calls Tryz.prog fn (#[.agg #[.string x.f0,.string x.f1,.string x.f2]] ++ lb) W fun e w' => e = .returned (.bool (p x)) ∧ Below W.heap.size W w') :
 Calls Tryz.prog 42 #[.slice A l.length c,.func (.func fn) #[] lb] w fun e w' => e = .returned (.int .i64 (u2v.idx p l)) ∧ Below w.heap.size w w':=by
 have HR:=Aside0.mk hr
 have HP:=Aside0.mk hp
 clear hr hp
 have hu41:=Tryz.underlying34
 go_enter Tryz.func42,Tryz.ntmps42
 go_wp2
 go_loopg [8] (l.length) (fun kq v8 wr => ∃ (x:Nat),x ≤ l.length ∧ v8 = .int .i64 x ∧ Aside0 (∀ j (hj:j < x) (hl:j < l.length),p l[j] = false) ∧ l.length ≤ kq + x ∧ Below w.heap.size w wr)
 case atStart => exact ⟨0,by omega,rfl,⟨fun j hj => absurd hj (by omega)⟩,by omega,Below.refl _ _⟩
 case round =>
  obtain ⟨x,hx,rfl,HN,hk,hB⟩:=hrel
  have HB:=Aside0.mk hB
  clear hB
  by_cases hlt:x < l.length
  · obtain ⟨ad,e,hc0,hc1,hc2⟩:=at_T34 HR.out (x:Int) (by omega) (by omega)
    subst e
    obtain ⟨y,hy⟩:∃ y,l[x] = y:=⟨_,rfl⟩
    have hx9:rd_T34 l (x:Int) = y:=by rw [← hy];simp [rd_T34,List.getD_eq_getElem?_getD,hlt]
    have hd0:wr.cell? (ad.add (x * 3)) = some (.string y.f0):=(HB.out.cell (World.block_lt_of_cell? w _ (by simpa using hc0))).trans (by simpa [hx9] using hc0)
    have hd1:wr.cell? ⟨(ad.add (x * 3)).block,(ad.add (x * 3)).off + 1,none⟩ = some (.string y.f1):=(HB.out.cell (World.block_lt_of_cell? w _ (by simpa using hc1))).trans (by simpa [hx9] using hc1)
    have hd2:wr.cell? ⟨(ad.add (x * 3)).block,(ad.add (x * 3)).off + 2,none⟩ = some (.string y.f2):=(HB.out.cell (World.block_lt_of_cell? w _ (by simpa using hc2))).trans (by simpa [hx9] using hc2)
    have HT:=Aside0.mk (HP.out wr y HB.out (by rw [← hy];exact List.getElem_mem hlt))
    clear hc0 hc1 hc2 hx9
    cases hb:p y with
    | true =>
      rw [hb] at HT
      have HE:Aside0 (u2v.idx p l = (x:Int)):=⟨u2v.idx_hit p l x hlt (by rw [hy];exact hb) (fun j hj => HN.out j hj (by omega))⟩
      clear hy
      go_wp2_with (go_at_fn fn;refine HT.out.mono ?_;rintro e W1 ⟨rfl,hb1⟩)
      go_ret
      exact ⟨by rw [HE.out];rfl,HB.out.trans (hb1.mono HB.out.size)⟩
    | false =>
      rw [hb] at HT
      have HY:=Aside0.mk hy
      have HBB:=Aside0.mk hb
      clear hy hb
      obtain ⟨g1,rfl⟩:∃ g1,gk = g1 + 1:=⟨gk - 1,by omega⟩
      go_wp2_with (go_at_fn fn;refine HT.out.mono ?_;rintro e W1 ⟨rfl,hb1⟩)
      go_roundg g1
      case rel =>
       refine ⟨x + 1,by omega,by go_num,⟨fun j hj hl => ?_⟩,by omega,HB.out.trans (hb1.mono HB.out.size)⟩
       by_cases hjx:j = x
       · subst hjx
         rw [HY.out]
         exact HBB.out
       · exact HN.out j (by omega) hl
      case measure => omega
  · have HE:Aside0 (u2v.idx p l = -1):=⟨u2v.idx_miss p l (fun j hj => HN.out j (by omega) hj)⟩
    go_wp2
    go_ret
    exact ⟨by rw [HE.out];rfl,HB.out⟩
set_option maxHeartbeats 2000000 in
theorem api_Meta_15.calls (A:Option Addr) (c:Nat) (l:List S34) (fn:Nat) (lb:Array Value) (p:S34 → Bool) (w:World) (hr:Kd.C k34 w A l.length l) (hm:l.length ≤ 9223372036854775807) (eg:∀ args W,(callFunc fn args).run Tryz.prog W = .ok (.enter fn args) W)
 (hp:∀ (W:World) (x:S34),Below w.heap.size w W → x ∈ l → Calls Tryz.prog fn (#[.agg #[.string x.f0,.string x.f1,.string x.f2]] ++ lb) W fun e w' => e = .returned (.bool (p x)) ∧ Below W.heap.size W w') :
 Calls Tryz.prog 15 #[.slice A l.length c,.func (.func fn) #[] lb] w fun e w' => e = .returned (.bool (l.any p)) ∧ Below w.heap.size w w':=by
 have HI:=Aside0.mk (u2v.calls A c l fn lb p w hr hm eg hp)
 rw [← u2v.idx_any p l]
 clear hr hp eg
 generalize u2v.idx p l = z at *
 go_enter Tryz.func15,Tryz.ntmps15
 go_wp2_with (go_at_call 42;(with_reducible refine HI.out.mono ?_);rintro e W1 ⟨rfl,hb⟩)
 go_ret
 exact ⟨rfl,hb⟩
def u3a.idx (p:S53 → Bool) (l:List S53):Int:=match l.findIdx? p with | none => -1 | some i => (i:Int)
theorem u3a.idx_hit (p:S53 → Bool) (l:List S53) (x:Nat) (hx:x < l.length) (hp:p l[x] = true) (hn:∀ j (hj:j < x),p (l[j]'(by omega)) = false):u3a.idx p l = (x:Int):=by
 unfold u3a.idx
 have h:l.findIdx? p = some x:=List.findIdx?_eq_some_iff_getElem.2 ⟨hx,hp,fun j hj => by rw [hn j hj];exact Bool.false_ne_true⟩
 rw [h]
theorem u3a.idx_miss (p:S53 → Bool) (l:List S53) (hn:∀ j (hj:j < l.length),p l[j] = false):u3a.idx p l = -1:=by
 unfold u3a.idx
 have h:l.findIdx? p = none:=List.findIdx?_eq_none_iff.2 (fun x hx => by
  obtain ⟨j,hj,rfl⟩:=List.getElem_of_mem hx
  exact hn j hj)
 rw [h]
theorem u3a.idx_any (p:S53 → Bool) (l:List S53):decide (0 ≤ u3a.idx p l) = l.any p:=by
 unfold u3a.idx
 cases h:l.findIdx? p with
 | none =>
   have h2:=List.findIdx?_eq_none_iff.1 h
   have:l.any p = false:=by
    rw [List.any_eq_false]
    intro x hx
    rw [h2 x hx]
    exact Bool.false_ne_true
   rw [this]
   rfl
 | some i =>
   obtain ⟨hi,h2,_⟩:=List.findIdx?_eq_some_iff_getElem.1 h
   have:l.any p = true:=List.any_eq_true.2 ⟨_,List.getElem_mem hi,h2⟩
   rw [this]
   exact decide_eq_true (by show (0:Int) ≤ (i:Int);omega)
set_option maxHeartbeats 2000000 in
set_option maxRecDepth 100000 in
theorem u3a.calls (A:Option Addr) (c:Nat) (l:List S53) (fn:Nat) (lb:Array Value) (p:S53 → Bool) (w:World) (hr:Kd.C k53 w A l.length l) (hm:l.length ≤ 9223372036854775807) (eg:∀ args W,(callFunc fn args).run Tryz.prog W = .ok (.enter fn args) W)
 (hp:∀ (W:World) (x:S53) (A1:Option Addr) (c1:Nat),x.f0.length ≤ c1 → Kd.C k66 W A1 x.f0.length x.f0 → Below w.heap.size w W → x ∈ l → Calls Tryz.prog fn (#[.agg #[.slice A1 x.f0.length c1,.int .i64 x.f1,.int .u64 x.f2]] ++ lb) W fun e w' => e = .returned (.bool (p x)) ∧ Below W.heap.size W w') :
 Calls Tryz.prog 61 #[.slice A l.length c,.func (.func fn) #[] lb] w fun e w' => e = .returned (.int .i64 (u3a.idx p l)) ∧ Below w.heap.size w w':=by
 have HR:=Aside0.mk hr
 have HP:=Aside0.mk hp
 clear hr hp
 have hu41:=Tryz.underlying53
 go_enter Tryz.func61,Tryz.ntmps61
 go_wp2
 go_loopg [8] (l.length) (fun kq v8 wr => ∃ (x:Nat),x ≤ l.length ∧ v8 = .int .i64 x ∧ Aside0 (∀ j (hj:j < x) (hl:j < l.length),p l[j] = false) ∧ l.length ≤ kq + x ∧ Below w.heap.size w wr)
 case atStart => exact ⟨0,by omega,rfl,⟨fun j hj => absurd hj (by omega)⟩,by omega,Below.refl _ _⟩
 case round =>
  obtain ⟨x,hx,rfl,HN,hk,hB⟩:=hrel
  have HB:=Aside0.mk hB
  clear hB
  by_cases hlt:x < l.length
  · obtain ⟨ad,A1,c1,e,hc0,hc1,hc2,gl,gc⟩:=at_T53 HR.out (x:Int) (by omega) (by omega)
    subst e
    obtain ⟨y,hy⟩:∃ y,l[x] = y:=⟨_,rfl⟩
    have hx9:rd_T53 l (x:Int) = y:=by rw [← hy];simp [rd_T53,List.getD_eq_getElem?_getD,hlt]
    have hd0:wr.cell? (ad.add (x * 3)) = some (.slice A1 y.f0.length c1):=(HB.out.cell (World.block_lt_of_cell? w _ (by simpa using hc0))).trans (by simpa [hx9] using hc0)
    have hd1:wr.cell? ⟨(ad.add (x * 3)).block,(ad.add (x * 3)).off + 1,none⟩ = some (.int .i64 y.f1):=(HB.out.cell (World.block_lt_of_cell? w _ (by simpa using hc1))).trans (by simpa [hx9] using hc1)
    have hd2:wr.cell? ⟨(ad.add (x * 3)).block,(ad.add (x * 3)).off + 2,none⟩ = some (.int .u64 y.f2):=(HB.out.cell (World.block_lt_of_cell? w _ (by simpa using hc2))).trans (by simpa [hx9] using hc2)
    have HT:=Aside0.mk (HP.out wr y A1 c1 (by rw [← hx9];exact gl) (by rw [← hx9];exact Kd.C_below gc HB.out) HB.out (by rw [← hy];exact List.getElem_mem hlt))
    clear hc0 hc1 hc2 gl gc hx9
    cases hb:p y with
    | true =>
      rw [hb] at HT
      have HE:Aside0 (u3a.idx p l = (x:Int)):=⟨u3a.idx_hit p l x hlt (by rw [hy];exact hb) (fun j hj => HN.out j hj (by omega))⟩
      clear hy
      go_wp2_with (go_at_fn fn;refine HT.out.mono ?_;rintro e W1 ⟨rfl,hb1⟩)
      go_ret
      exact ⟨by rw [HE.out];rfl,HB.out.trans (hb1.mono HB.out.size)⟩
    | false =>
      rw [hb] at HT
      have HY:=Aside0.mk hy
      have HBB:=Aside0.mk hb
      clear hy hb
      obtain ⟨g1,rfl⟩:∃ g1,gk = g1 + 1:=⟨gk - 1,by omega⟩
      go_wp2_with (go_at_fn fn;refine HT.out.mono ?_;rintro e W1 ⟨rfl,hb1⟩)
      go_roundg g1
      case rel =>
       refine ⟨x + 1,by omega,by go_num,⟨fun j hj hl => ?_⟩,by omega,HB.out.trans (hb1.mono HB.out.size)⟩
       by_cases hjx:j = x
       · subst hjx
         rw [HY.out]
         exact HBB.out
       · exact HN.out j (by omega) hl
      case measure => omega
  · have HE:Aside0 (u3a.idx p l = -1):=⟨u3a.idx_miss p l (fun j hj => HN.out j (by omega) hj)⟩
    go_wp2
    go_ret
    exact ⟨by rw [HE.out];rfl,HB.out⟩
set_option maxHeartbeats 2000000 in
theorem api_Row_34.calls (A:Option Addr) (c:Nat) (l:List S53) (fn:Nat) (lb:Array Value) (p:S53 → Bool) (w:World) (hr:Kd.C k53 w A l.length l) (hm:l.length ≤ 9223372036854775807) (eg:∀ args W,(callFunc fn args).run Tryz.prog W = .ok (.enter fn args) W)
 (hp:∀ (W:World) (x:S53) (A1:Option Addr) (c1:Nat),x.f0.length ≤ c1 → Kd.C k66 W A1 x.f0.length x.f0 → Below w.heap.size w W → x ∈ l → Calls Tryz.prog fn (#[.agg #[.slice A1 x.f0.length c1,.int .i64 x.f1,.int .u64 x.f2]] ++ lb) W fun e w' => e = .returned (.bool (p x)) ∧ Below W.heap.size W w') :
 Calls Tryz.prog 34 #[.slice A l.length c,.func (.func fn) #[] lb] w fun e w' => e = .returned (.bool (l.any p)) ∧ Below w.heap.size w w':=by
 have HI:=Aside0.mk (u3a.calls A c l fn lb p w hr hm eg hp)
 rw [← u3a.idx_any p l]
 clear hr hp eg
 generalize u3a.idx p l = z at *
 go_enter Tryz.func34,Tryz.ntmps34
 go_wp2_with (go_at_call 61;(with_reducible refine HI.out.mono ?_);rintro e W1 ⟨rfl,hb⟩)
 go_ret
 exact ⟨rfl,hb⟩
structure ua.St (w0 W:World) (g:Nat) (s:List UInt8):Prop where
 below:Below w0.heap.size w0 W
 base:w0.heap.size ≤ g
 cells:W.heap[g]? = some (.cells #[.string (Base.ofL s)] 87 (0,0))
theorem ua.St.lt {w0 W:World} {g:Nat} {s:List UInt8} (h:ua.St w0 W g s):g < W.heap.size:=u2u h.cells
theorem ua.St.keep {w0 W W':World} {g:Nat} {s:List UInt8} (h:ua.St w0 W g s) (hb:Below w0.heap.size w0 W') (hk:W'.heap[g]? = W.heap[g]?):ua.St w0 W' g s:=⟨hb,h.base,hk.trans h.cells⟩
theorem ua.St.more {w0 W W':World} {g:Nat} {s:List UInt8} (h:ua.St w0 W g s) (hb:Below W.heap.size W W'):ua.St w0 W' g s:=h.keep (uo h.below h.below.size hb) (hb.block g h.lt)
theorem ua.St.drew {w0 W:World} {g:Nat} {s:List UInt8} (h:ua.St w0 W g s) (n:Nat):ua.St w0 (W.drewN n) g s:=h.more (ub (Below.refl _ _) n)
theorem ua.St.look {w0 W:World} {g:Nat} {s:List UInt8} (h:ua.St w0 W g s):W.cell? ⟨g,0,none⟩ = some (.string (Base.ofL s)) ∧ W.frozen? ⟨g,0,none⟩ = false:=by
 have h0:=um h.cells 0
 simp only [List.size_toArray,List.length_cons,List.length_nil,List.getElem?_toArray,List.getElem?_cons_zero,List.getElem?_cons_succ] at h0
 exact ⟨h0,uk h.cells 0⟩
theorem ua.St.set {w0 W:World} {g:Nat} {s:List UInt8} (h:ua.St w0 W g s) (t:List UInt8):ua.St w0 (W.setCell ⟨g,0,none⟩ (.string (Base.ofL t))) g t :=
 ⟨h.below.setCell h.base _,h.base,by rw [blk_set h.cells];rfl⟩
def ua.pk (s:List UInt8):Int:=match s with
 | [] => 0
 | c :: _ => (c.toNat:Int)
theorem ua.head (c:UInt8) (r:List UInt8):∃ hp:0 < (Base.ofL (c :: r)).size,(((Base.ofL (c :: r))[0]'hp).toNat:Int) = c.toNat ∧ (Base.ofL (c :: r)).toList.isEmpty = false:=by
 have hs:(Base.ofL (c :: r)).size = r.length + 1:=by rw [← u2f,Base.ofL_data];rfl
 refine ⟨by omega,rfl,?_⟩
 rw [ByteArray.toList_eq,Base.ofL_data]
 rfl
theorem ua.calls (w0 W:World) (g:Nat) (s:List UInt8) (h:ua.St w0 W g s):Calls Tryz.prog 47 #[.pointer (some ⟨g,0,none⟩)] W fun e W' => e = .returned (.int .u8 (ua.pk s)) ∧ uy W W':=by
 obtain ⟨h0,f0⟩:=h.look
 clear h
 cases s with
 | nil =>
   have he:(Base.ofL []).toList.isEmpty = true:=by rw [ByteArray.toList_eq,Base.ofL_data];rfl
   go_enter Tryz.func47,Tryz.ntmps47
   go_wp2
   go_ret
   exact ⟨rfl,0,rfl⟩
 | cons c r =>
   obtain ⟨hp,hc,he⟩:=ua.head c r
   obtain ⟨x,hx⟩:∃ x:ByteArray,x = Base.ofL (c :: r):=⟨_,rfl⟩
   have hp1:1 ≤ (Base.ofL (c :: r)).size:=hp
   go_enter Tryz.func47,Tryz.ntmps47
   go_wp2
   go_ret
   exact ⟨rfl,0,rfl⟩
theorem ua.look2 {W:World} {b t:Nat} {u v:Value} (h:W.heap[b]? = some (.cells #[u,v] t (0,0))):W.cell? ⟨b,0,none⟩ = some u ∧ W.cell? ⟨b,1,none⟩ = some v ∧ W.frozen? ⟨b,0,none⟩ = false ∧ W.frozen? ⟨b,1,none⟩ = false:=by
 have h0:=um h 0
 have h1:=um h 1
 simp only [List.size_toArray,List.length_cons,List.length_nil,List.getElem?_toArray,List.getElem?_cons_zero,List.getElem?_cons_succ] at h0 h1
 exact ⟨h0,h1,uk h 0,uk h 1⟩
theorem ua.new_at (W:World) (o:Obj):(W.alloc o).heap[W.heap.size]? = some o:=by
 show (W.heap.push o)[W.heap.size]? = some o
 simp
theorem ua.new_old {W:World} {b:Nat} {o:Obj} (h:W.heap[b]? = some o) (o2:Obj):(W.alloc o2).heap[b]? = some o:=(Below.heap_alloc W o2 b (u2u h)).trans h
theorem ua.below_at {W W':World} {b:Nat} {o:Obj} (hb:Below W.heap.size W W') (h:W.heap[b]? = some o):W'.heap[b]? = some o:=(hb.block b (u2u h)).trans h
theorem ua.kept_at {W W':World} {g b:Nat} {o:Obj} (hk:u1q W W' g none) (hne:b ≠ g) (h:W.heap[b]? = some o):W'.heap[b]? = some o:=hk.blk h hne (by simp)
theorem ua.St.one_more {w0 W:World} {g:Nat} {s:List UInt8} (h:ua.St w0 W g s) (o:Obj):ua.St w0 (W.alloc o) g s:=h.more (Below.alloc (Below.refl _ _) (Nat.le_refl _) o)
theorem ua.St.far {w0 W:World} {g:Nat} {s:List UInt8} (h:ua.St w0 W g s) {p:Addr} (hb:w0.heap.size ≤ p.block) (hp:¬ g = p.block) (u:Value):ua.St w0 (W.setCell p u) g s :=
 h.keep (h.below.setCell hb u) (Below.heap_setCell W p u g hp)
theorem ua.keep_new {w W:World} {g:Nat} (h:u1q w W g none) {p:Addr} (hp:w.heap.size ≤ p.block) (u:Value):u1q w (W.setCell p u) g none :=
 ⟨by have:=h.1;simpa using this,fun i hi hg hr => (Below.heap_setCell W p u i (by omega)).trans (h.2 i hi hg hr)⟩
theorem ua.keep_from {w W1:World} {g:Nat} {o:Obj} (h:u1q (w.alloc o) W1 g none):u1q w W1 g none:=(keep_alloc (u1q.refl w g none) o).trans h (Or.inl rfl)
theorem ua.keep_then {w W1 W2:World} {g:Nat} (h:u1q w W1 g none) (k:u1q W1 W2 g none):u1q w W2 g none:=h.trans k (Or.inl rfl)
theorem u1n.cut_yes (c:UInt8) (r:List UInt8):u1o.f (Base.ofL (c :: r)) (⟨#[c]⟩:ByteArray) = some (Base.ofL r,true):=by
 have hs:(Base.ofL (c :: r)).size = r.length + 1:=by rw [← u2f,Base.ofL_data];rfl
 have h1:((Base.ofL (c :: r)).extract 0 1).toList = [c]:=by
  rw [ByteArray.toList_eq,Base.extract_list,Base.ofL_data]
  rfl
 have h2:(((Base.ofL (c :: r)).size:Int) ≥ 1):=by omega
 have h3:((1:Int) ≤ ((Base.ofL (c :: r)).size:Int)):=by omega
 have h4:(Base.ofL (c :: r)).extract 1 (Base.ofL (c :: r)).size = Base.ofL r:=Base.ext_data (by rw [Base.extract_rest,Base.ofL_data,Base.ofL_data];rfl)
 simp [u1o.f,u2i.f,u1w.f,Base.size1,h1,h2,h3,h4,ByteArray.toList_eq]
theorem u1n.cut_no (c:UInt8) (s:List UInt8) (h:∀ r,s ≠ c :: r):u1o.f (Base.ofL s) (⟨#[c]⟩:ByteArray) = some (Base.ofL s,false):=by
 by_cases h2:(((Base.ofL s).size:Int) ≥ 1)
 · have h3:((1:Int) ≤ ((Base.ofL s).size:Int)):=by omega
   have h1:¬ List.take 1 (Base.ofL s).data.toList = [c]:=by
    rw [Base.ofL_data]
    cases s with
    | nil => simp
    | cons x q =>
      intro e
      have:x = c:=by simpa using e
      subst this
      exact h q rfl
   simp [u1o.f,u2i.f,u1w.f,Base.size1,h1,h2,h3,ByteArray.toList_eq]
 · have h3:¬ ((1:Int) ≤ ((Base.ofL s).size:Int)):=by omega
   simp [u1o.f,u2i.f,u1w.f,Base.size1,h3]
theorem u1n.calls_ok (w0 W:World) (g:Nat) (c:UInt8) (r:List UInt8) (h:ua.St w0 W g (c :: r)):Calls Tryz.prog 82 #[.pointer (some ⟨g,0,none⟩),.string (⟨#[c]⟩:ByteArray)] W fun e W' => e = .returned (.tuple #[]) ∧ ua.St w0 W' g r ∧ u1q W W' g none:=by
 have HS:=Aside0.mk h
 obtain ⟨h0,f0⟩:=h.look
 clear h
 have HC:=Aside0.mk (u1n.cut_yes c r)
 go_enter Tryz.func82,Tryz.ntmps82
 go_wp2_with (first | (go_at_call 117;refine (u1o.calls _ _ _ _ _ HC.out).mono ?_;rintro e W1 ⟨rfl,⟨nd,rfl⟩⟩) | (go_at_call 83;refine (u2e.calls_ok _).mono ?_;rintro e W1 ⟨rfl,rfl⟩))
 go_end0
 exact ⟨rfl,(HS.out.drew nd).set r,(u1q.of_below (ub (Below.refl _ _) nd) g none).set_ 0 _⟩
theorem u1n.calls_no (w0 W:World) (g:Nat) (c:UInt8) (s:List UInt8) (hs:∀ r,s ≠ c :: r) (h:ua.St w0 W g s):Calls Tryz.prog 82 #[.pointer (some ⟨g,0,none⟩),.string (⟨#[c]⟩:ByteArray)] W fun e W' => e = .panicked (u2l.chain 280) ∧ Below w0.heap.size w0 W':=by
 have HS:=Aside0.mk h
 obtain ⟨h0,f0⟩:=h.look
 clear h
 have HC:=Aside0.mk (u1n.cut_no c s hs)
 go_enter Tryz.func82,Tryz.ntmps82
 go_wp2_with (first | (go_at_call 117;refine (u1o.calls _ _ _ _ _ HC.out).mono ?_;rintro e W1 ⟨rfl,⟨nd,rfl⟩⟩) | (go_at_call 83;refine (u2e.calls_no _).mono ?_;rintro e W1 ⟨rfl,rfl⟩))
 exact ⟨rfl,rfl,(HS.out.drew nd).below⟩
def text_known.f (a0:ByteArray):Option (Bool):=if a0.toList = ([99,111,117,110,116,101,114]:List UInt8) then (some true) else (if a0.toList = ([103,97,117,103,101]:List UInt8) then (some true) else (if a0.toList = ([104,105,115,116,111,103,114,97,109]:List UInt8) then (some true) else (if a0.toList = ([115,117,109,109,97,114,121]:List UInt8) then (some true) else (if a0.toList = ([117,110,116,121,112,101,100]:List UInt8) then (some true) else (some false)))))
set_option maxHeartbeats 8000000 in
set_option maxRecDepth 100000 in
theorem text_known.calls (a0:ByteArray) (r:Bool) (w:World) (h:text_known.f a0 = some r) :
 Calls Tryz.prog 30 #[.string a0] w fun e w' => e = .returned (.bool r) ∧ uy w w':=by
 have H:(if a0.toList = ([99,111,117,110,116,101,114]:List UInt8) then (some true) else (if a0.toList = ([103,97,117,103,101]:List UInt8) then (some true) else (if a0.toList = ([104,105,115,116,111,103,114,97,109]:List UInt8) then (some true) else (if a0.toList = ([115,117,109,109,97,114,121]:List UInt8) then (some true) else (if a0.toList = ([117,110,116,121,112,101,100]:List UInt8) then (some true) else (some false)))))) = some r:=h
 clear h
 by_cases c2:a0.toList = ([99,111,117,110,116,101,114]:List UInt8)
 · rw [if_pos c2] at H
   have c2b0:(a0.toList == ([99,111,117,110,116,101,114]:List UInt8)) = true:=beq_iff_eq.mpr c2
   have c2b1:(a0.toList != ([99,111,117,110,116,101,114]:List UInt8)) = false:=bne_eq_false_iff_eq.mpr c2
   clear c2
   obtain rfl:=Option.some.inj H
   go_enter Tryz.func30,Tryz.ntmps30
   go_wp2
   go_ret
   exact ⟨by first | rfl | (simp;done) | (simp [*];done),by repeat (first | exact uy.refl _ | apply uy.step)⟩
 · rw [if_neg c2] at H
   have c2b0:(a0.toList == ([99,111,117,110,116,101,114]:List UInt8)) = false:=beq_eq_false_iff_ne.mpr c2
   have c2b1:(a0.toList != ([99,111,117,110,116,101,114]:List UInt8)) = true:=bne_iff_ne.mpr c2
   by_cases c3:a0.toList = ([103,97,117,103,101]:List UInt8)
   · rw [if_pos c3] at H
     have c3b0:(a0.toList == ([103,97,117,103,101]:List UInt8)) = true:=beq_iff_eq.mpr c3
     have c3b1:(a0.toList != ([103,97,117,103,101]:List UInt8)) = false:=bne_eq_false_iff_eq.mpr c3
     clear c3
     obtain rfl:=Option.some.inj H
     go_enter Tryz.func30,Tryz.ntmps30
     go_wp2
     go_ret
     exact ⟨by first | rfl | (simp;done) | (simp [*];done),by repeat (first | exact uy.refl _ | apply uy.step)⟩
   · rw [if_neg c3] at H
     have c3b0:(a0.toList == ([103,97,117,103,101]:List UInt8)) = false:=beq_eq_false_iff_ne.mpr c3
     have c3b1:(a0.toList != ([103,97,117,103,101]:List UInt8)) = true:=bne_iff_ne.mpr c3
     by_cases c4:a0.toList = ([104,105,115,116,111,103,114,97,109]:List UInt8)
     · rw [if_pos c4] at H
       have c4b0:(a0.toList == ([104,105,115,116,111,103,114,97,109]:List UInt8)) = true:=beq_iff_eq.mpr c4
       have c4b1:(a0.toList != ([104,105,115,116,111,103,114,97,109]:List UInt8)) = false:=bne_eq_false_iff_eq.mpr c4
       clear c4
       obtain rfl:=Option.some.inj H
       go_enter Tryz.func30,Tryz.ntmps30
       go_wp2
       go_ret
       exact ⟨by first | rfl | (simp;done) | (simp [*];done),by repeat (first | exact uy.refl _ | apply uy.step)⟩
     · rw [if_neg c4] at H
       have c4b0:(a0.toList == ([104,105,115,116,111,103,114,97,109]:List UInt8)) = false:=beq_eq_false_iff_ne.mpr c4
       have c4b1:(a0.toList != ([104,105,115,116,111,103,114,97,109]:List UInt8)) = true:=bne_iff_ne.mpr c4
       by_cases c5:a0.toList = ([115,117,109,109,97,114,121]:List UInt8)
       · rw [if_pos c5] at H
         have c5b0:(a0.toList == ([115,117,109,109,97,114,121]:List UInt8)) = true:=beq_iff_eq.mpr c5
         have c5b1:(a0.toList != ([115,117,109,109,97,114,121]:List UInt8)) = false:=bne_eq_false_iff_eq.mpr c5
         clear c5
         obtain rfl:=Option.some.inj H
         go_enter Tryz.func30,Tryz.ntmps30
         go_wp2
         go_ret
         exact ⟨by first | rfl | (simp;done) | (simp [*];done),by repeat (first | exact uy.refl _ | apply uy.step)⟩
       · rw [if_neg c5] at H
         have c5b0:(a0.toList == ([115,117,109,109,97,114,121]:List UInt8)) = false:=beq_eq_false_iff_ne.mpr c5
         have c5b1:(a0.toList != ([115,117,109,109,97,114,121]:List UInt8)) = true:=bne_iff_ne.mpr c5
         by_cases c6:a0.toList = ([117,110,116,121,112,101,100]:List UInt8)
         · rw [if_pos c6] at H
           have c6b0:(a0.toList == ([117,110,116,121,112,101,100]:List UInt8)) = true:=beq_iff_eq.mpr c6
           have c6b1:(a0.toList != ([117,110,116,121,112,101,100]:List UInt8)) = false:=bne_eq_false_iff_eq.mpr c6
           clear c6
           obtain rfl:=Option.some.inj H
           go_enter Tryz.func30,Tryz.ntmps30
           go_wp2
           go_ret
           exact ⟨by first | rfl | (simp;done) | (simp [*];done),by repeat (first | exact uy.refl _ | apply uy.step)⟩
         · rw [if_neg c6] at H
           have c6b0:(a0.toList == ([117,110,116,121,112,101,100]:List UInt8)) = false:=beq_eq_false_iff_ne.mpr c6
           have c6b1:(a0.toList != ([117,110,116,121,112,101,100]:List UInt8)) = true:=bne_iff_ne.mpr c6
           obtain rfl:=Option.some.inj H
           go_enter Tryz.func30,Tryz.ntmps30
           go_wp2
           go_ret
           exact ⟨by first | rfl | (simp;done) | (simp [*];done),by repeat (first | exact uy.refl _ | apply uy.step)⟩
def u1i.Gd (w:World):Prop:=Lib.TabIs Tryz.prog w "internal/strconv.uint64pow10" .u64 Lib.pow10Tab
theorem u1i.Gd.below {w w':World} (h:u1i.Gd w) (hb:Below w.heap.size w w'):u1i.Gd w':=by
 unfold u1i.Gd Lib.TabIs World.var? at *
 cases hg:Tryz.prog.globalNamed "internal/strconv.uint64pow10" with
 | none => simp [hg] at h
 | some g =>
   simp only [hg,Option.bind_some] at h ⊢
   have hlt:g < w.heap.size:=by
    rcases Nat.lt_or_ge g w.heap.size with h' | h'
    · exact h'
    · rw [Array.getElem?_eq_none h'] at h;simp at h
   rw [hb.block g hlt]
   exact h
theorem u1i.below_grow (w:World) (k:Nat) (os:Array Obj):Below w.heap.size w (Sort.grow (w.drewN k) os):=by
 refine ⟨rfl,rfl,rfl,?_,fun j hj => ?_⟩
 · simp [Sort.grow,World.drewN]
 · simp only [Sort.grow,World.drewN]
   rw [Array.getElem?_append_left hj]
theorem u1i.itoa (n:Int) (h0 : -9223372036854775808 ≤ n) (h1:n ≤ 9223372036854775807) (w:World) (hG:u1i.Gd w) :
 Calls Tryz.prog 69 #[.int .i64 n] w fun e w' => e = .returned (.string ⟨(Lib.itoa n).toArray⟩) ∧ Below w.heap.size w w' :=
 (Tryz.strconv_Itoa n h0 h1 w hG).mono fun e w' ⟨he,k,os,hw⟩ => ⟨he,by rw [hw];exact u1i.below_grow w k os⟩
theorem u1i.holds_zero (w:World) (T:TypeId) (nd:Nat) (hs:nd ≤ 24):Sort.Holds (fun (b:UInt8) => Value.int .u8 (b.toNat:Int)) (w.alloc (.cells Lib.zeros24 T)) w.heap.size 0 (Array.replicate nd (0:UInt8)):=fun j hj => by
 have hj':j < nd:=by simpa using hj
 refine ⟨?_,World.frozen?_alloc_new _ _ _ _⟩
 rw [World.cell?_alloc_new,Lib.zeros24_at _ (by omega),getElem!_pos _ j hj]
 simp
open Go.Sort Go.Lib in
set_option maxHeartbeats 6400000 in
set_option maxRecDepth 100000 in
theorem u1i.inner (u:Nat) (hu64:u < 18446744073709551616) (w:World) (hG:u1i.Gd w) :
 Calls Tryz.prog 110 #[.int .u64 u,.int .i64 10] w fun e w' => e = .returned (.string ⟨(Lib.decDigits u).toArray⟩) ∧ Below w.heap.size w w':=by
 by_cases hs:u < 100
 · have hq:decide ((u:Int) < 100) = true:=decide_eq_true (by omega)
   have hw:wrap64 (u:Int) = (u:Int):=by unfold wrap64;omega
   go_enter Tryz.func110,Tryz.ntmps110
   go_wp2_with (go_at_call 135;(with_reducible refine (Tryz.strconv_small u hs _).mono ?_);rintro e w' ⟨rfl,rfl⟩)
   go_ret
   exact ⟨rfl,Below.refl _ _⟩
 · have hu1:1 ≤ u:=by omega
   have hq:decide ((u:Int) < 100) = false:=decide_eq_false (by omega)
   have hnd20:Lib.nDigits u ≤ 20:=by have:=Lib.numDigits_eq u hu1 hu64;split at this <;> omega
   have hal:Tryz.prog.arrayLen 175 = 24:=by kernel_rfl
   have hsl1:∀ W,(Instr.sliceAt 175 (.pointer (some ⟨w.heap.size,0,none⟩)) none (some (.int .i64 (Lib.nDigits u:Int))) none).run Tryz.prog W = .ok (.slice (some ⟨w.heap.size,0,none⟩) (Lib.nDigits u) 24) W:=fun W => by
    rw [run_sliceAt_array_h W 175 ⟨w.heap.size,0,none⟩ (by kernel_rfl) .i64 (Lib.nDigits u:Int) (by omega) (by rw [hal];omega)]
    rw [hal]
    go_simp
   have hH0:=u1i.holds_zero w 175 (Lib.nDigits u) (by omega)
   have hfmt:=Tryz.strconv_formatBase10 w.heap.size 0 24 u (Array.replicate (Lib.nDigits u) 0) (w.alloc (.cells Lib.zeros24 175)) hH0 (by rw [Array.size_replicate];exact Lib.lt_pow_nDigits u) hu64 (by rw [Array.size_replicate];omega)
   rw [Array.size_replicate] at hfmt
   have HH0:=Aside0.mk hH0
   have HFM:=Aside0.mk hfmt
   have HGG:=Aside0.mk hG
   clear hH0 hal hfmt hG
   go_enter Tryz.func110,Tryz.ntmps110
   go_wp2_with (first
    | (go_at_call 136;refine (Tryz.strconv_numDigits u hu1 hu64 _ (Lib.tabIs_alloc HGG.out _)).mono ?_;rintro e w' ⟨rfl,rfl⟩))
   go_at_call 137
   refine HFM.out.mono ?_
   rintro e w' ⟨rfl,k,v',dk,rfl,hF⟩
   have hcv:(convert 22 9 (.slice (some ⟨w.heap.size,0,none⟩) (Lib.nDigits u) 24)).run Tryz.prog ((putRow (fun (b:UInt8) => Value.int .u8 (b.toNat:Int)) (w.alloc (.cells Lib.zeros24 175)) w.heap.size 0 dk).drewN k) = .ok (.string ⟨(Lib.decDigits u).toArray⟩) ((putRow (fun (b:UInt8) => Value.int .u8 (b.toNat:Int)) (w.alloc (.cells Lib.zeros24 175)) w.heap.size 0 dk).drewN k):=by
    have h:=run_convert_bytes_back (P:=Tryz.prog) ((putRow (fun (b:UInt8) => Value.int .u8 (b.toNat:Int)) (w.alloc (.cells Lib.zeros24 175)) w.heap.size 0 dk).drewN k) 22 9 5 ⟨w.heap.size,0,none⟩ 24 (Lib.decDigits u) Tryz.underlying22 Tryz.underlying5 Tryz.underlying9 (fun j hj => by
     rw [Lib.row_is_numeral hF j hj,Lib.add_plain,World.cell?_drewN]
     exact cell?_putRow (fun (b:UInt8) => Value.int .u8 (b.toNat:Int)) _ w.heap.size 0 _ dk HH0.out (by rw [hF.size,Array.size_replicate]) j (by rw [hF.size];rw [Lib.decDigits_length] at hj;exact hj))
    rw [Lib.decDigits_length] at h
    exact h
   go_wp2
   go_ret
   refine ⟨rfl,?_⟩
   have hf:∃ os,(putRow (fun (b:UInt8) => Value.int .u8 (b.toNat:Int)) (w.alloc (.cells Lib.zeros24 175)) w.heap.size 0 dk).drewN k = grow (w.drewN k) os:=by
    rw [alloc_eq_grow]
    obtain ⟨os',_,e⟩:=putRow_grow_new (fun (b:UInt8) => Value.int .u8 (b.toNat:Int)) w #[.cells Lib.zeros24 175] w.heap.size 0 dk (Nat.le_refl _)
    exact ⟨os',by rw [e];rfl⟩
   obtain ⟨os,e⟩:=hf
   have h9:=u1i.below_grow w k os
   rw [← e] at h9
   exact h9
theorem u1i.calls (u:Nat) (hu64:u < 18446744073709551616) (w:World) (hG:u1i.Gd w) :
 Calls Tryz.prog 68 #[.int .u64 u,.int .i64 10] w fun e w' => e = .returned (.string ⟨(Lib.decDigits u).toArray⟩) ∧ Below w.heap.size w w':=by
 have HG:=Aside0.mk hG
 clear hG
 go_enter Tryz.func68,Tryz.ntmps68
 go_wp2_with (go_at_call 110;(with_reducible refine (u1i.inner u hu64 _ HG.out).mono ?_);rintro e w' ⟨rfl,hb⟩)
 go_ret
 exact ⟨rfl,hb⟩
def u2h.get (a1:ByteArray):List S66 → ByteArray
 | [] => ⟨#[]⟩
 | x :: r => if x.f0.toList = a1.toList then x.f1 else u2h.get a1 r
def u2h.f (l0:List S66) (a1:ByteArray):Option ByteArray:=some (u2h.get a1 l0)
theorem u2h.get_hit (a1:ByteArray) (l:List S66):∀ x:Nat,x < l.length → (∀ j:Nat,j < x → ¬ (un l j).f0.toList = a1.toList) → (un l x).f0.toList = a1.toList → u2h.get a1 l = (un l x).f1:=by
 induction l with
 | nil => intro x hx;simp at hx
 | cons y r ih =>
   intro x hx hn he
   cases x with
   | zero =>
     have he':y.f0.toList = a1.toList:=he
     simp only [u2h.get]
     rw [if_pos he']
     rfl
   | succ x =>
     have h0:¬ y.f0.toList = a1.toList:=hn 0 (by omega)
     simp only [u2h.get]
     rw [if_neg h0]
     exact ih x (by simpa using hx) (fun j hj => hn (j + 1) (by omega)) he
theorem u2h.get_miss (a1:ByteArray) (l:List S66):(∀ j:Nat,j < l.length → ¬ (un l j).f0.toList = a1.toList) → u2h.get a1 l = ⟨#[]⟩:=by
 induction l with
 | nil => intro _;rfl
 | cons y r ih =>
   intro hn
   have h0:¬ y.f0.toList = a1.toList:=hn 0 (by simp)
   simp only [u2h.get]
   rw [if_neg h0]
   exact ih (fun j hj => hn (j + 1) (by simpa using hj))
set_option maxHeartbeats 400000 in
theorem u2h.test (n v nm:ByteArray) (g:Nat) (w:World) (hg:w.cell? ⟨g,0,none⟩ = some (.string nm)) :
 Calls Tryz.prog 107 #[.agg #[.string n,.string v],.pointer (some ⟨g,0,none⟩)] w fun e w' => e = .returned (.bool (n.toList == nm.toList)) ∧ Below w.heap.size w w':=by
 have hlt:=World.block_lt_of_cell? w _ hg
 have hne:g ≠ w.heap.size:=by simp only at hlt;omega
 go_enter Tryz.func107,Tryz.ntmps107
 go_wp2
 go_ret
 exact ⟨rfl,(Below.refl _ w).alloc (Nat.le_refl _) _⟩
set_option maxHeartbeats 1000000 in
theorem u2h.index (A:Option Addr) (c:Nat) (l:List S66) (nm:ByteArray) (g:Nat) (w:World) (hr:Kd.C k66 w A l.length l) (hm:l.length ≤ 9223372036854775807) (hg:w.cell? ⟨g,0,none⟩ = some (.string nm)) :
 Calls Tryz.prog 106 #[.slice A l.length c,.func (.func 107) #[] #[.pointer (some ⟨g,0,none⟩)]] w fun e w' =>
  ((∃ x:Nat,x < l.length ∧ e = .returned (.int .i64 x) ∧ (∀ j:Nat,j < x → ¬ (un l j).f0.toList = nm.toList) ∧ (un l x).f0.toList = nm.toList) ∨
   (e = .returned (.int .i64 (-1)) ∧ ∀ j:Nat,j < l.length → ¬ (un l j).f0.toList = nm.toList)) ∧ Below w.heap.size w w':=by
 have HR:=Aside0.mk hr
 have HG:=Aside0.mk hg
 have hgl:=World.block_lt_of_cell? w _ hg
 clear hr hg
 have hu41:=Tryz.underlying66
 go_enter Tryz.func106,Tryz.ntmps106
 go_wp2
 go_loopg [8] (l.length) (fun kq v8 wr => ∃ (x:Nat),x ≤ l.length ∧ v8 = .int .i64 x ∧ Aside0 (∀ j:Nat,j < x → ¬ (un l j).f0.toList = nm.toList) ∧ l.length ≤ kq + x ∧ Below w.heap.size w wr)
 case atStart => exact ⟨0,by omega,rfl,⟨fun j hj => absurd hj (by omega)⟩,by omega,Below.refl _ _⟩
 case round =>
  obtain ⟨x,hx,rfl,HN,hk,hB⟩:=hrel
  have HB:=Aside0.mk hB
  clear hB
  by_cases hlt:x < l.length
  · obtain ⟨ad,e,hc0,hc1⟩:=at_T66 HR.out (x:Int) (by omega) (by omega)
    subst e
    have hd0:wr.cell? (ad.add (x * 2)) = some (.string (un l x).f0):=(HB.out.cell (World.block_lt_of_cell? w _ (by simpa using hc0))).trans (by simpa using hc0)
    have hd1:wr.cell? ⟨(ad.add (x * 2)).block,(ad.add (x * 2)).off + 1,none⟩ = some (.string (un l x).f1):=(HB.out.cell (World.block_lt_of_cell? w _ (by simpa using hc1))).trans (by simpa using hc1)
    clear hc0 hc1
    have hg1:wr.cell? ⟨g,0,none⟩ = some (.string nm):=(HB.out.cell (by simpa using hgl)).trans HG.out
    have HT:=Aside0.mk (u2h.test (un l x).f0 (un l x).f1 nm g wr hg1)
    clear hg1
    cases hb:((un l x).f0.toList == nm.toList) with
    | true =>
      rw [hb] at HT
      go_wp2_with (go_at_call 107;refine HT.out.mono ?_;rintro e W1 ⟨rfl,hb1⟩)
      go_ret
      exact ⟨.inl ⟨x,hlt,rfl,HN.out,by simpa using hb⟩,HB.out.trans (hb1.mono HB.out.size)⟩
    | false =>
      rw [hb] at HT
      obtain ⟨g1,rfl⟩:∃ g1,gk = g1 + 1:=⟨gk - 1,by omega⟩
      go_wp2_with (go_at_call 107;refine HT.out.mono ?_;rintro e W1 ⟨rfl,hb1⟩)
      go_roundg g1
      case rel =>
       refine ⟨x + 1,by omega,by go_num,⟨fun j hj => ?_⟩,by omega,HB.out.trans (hb1.mono HB.out.size)⟩
       by_cases hjx:j = x
       · subst hjx
         simpa using hb
       · exact HN.out j (by omega)
      case measure => omega
  · go_wp2
    go_ret
    exact ⟨.inr ⟨rfl,fun j hj => HN.out j (by omega)⟩,HB.out⟩
set_option maxHeartbeats 1000000 in
theorem u2h.calls (A0:Option Addr) (c0:Nat) (l0:List (S66)) (a1:ByteArray) (r:ByteArray) (w:World) (hr0:Kd.C k66 w A0 l0.length l0) (hc0:l0.length ≤ c0) (h:u2h.f l0 a1 = some r) :
 Calls Tryz.prog 63 #[.slice A0 l0.length c0,.string a1] w fun e w' => e = .returned (.string r) ∧ Below w.heap.size w w':=by
 obtain rfl:u2h.get a1 l0 = r:=by simpa [u2h.f] using h
 clear h
 have HR:=Aside0.mk hr0
 clear hr0
 have hm:=HR.out.2.1
 have HI:=fun W (hB:Below w.heap.size w W) (hg:W.cell? ⟨w.heap.size,0,none⟩ = some (.string a1)) => u2h.index A0 c0 l0 a1 w.heap.size W (Kd.C_below HR.out hB) hm hg
 have HI':=Aside0.mk HI
 clear HI
 go_enter Tryz.func63,Tryz.ntmps63
 go_wp2_with fail
 refine (HI'.out _ ((Below.refl _ w).alloc (Nat.le_refl _) _) (by simp)).mono ?_
 rintro e W1 ⟨⟨x,hx,rfl,h1,h2⟩ | ⟨rfl,h1⟩,hb1⟩
 · have hB:Below w.heap.size w W1:=((Below.refl _ w).alloc (Nat.le_refl _) _).trans (hb1.mono (by simp))
   have HB:=Aside0.mk hB
   have H1:=Aside0.mk (u2h.get_hit a1 l0 x hx h1 h2)
   clear h1 h2 hb1 hB
   obtain ⟨ad,e,hc0,hc1⟩:=at_T66 HR.out (x:Int) (by omega) (by omega)
   subst e
   have hd1:W1.cell? ⟨(ad.add (x * 2)).block,(ad.add (x * 2)).off + 1,none⟩ = some (.string (un l0 x).f1):=(HB.out.cell (World.block_lt_of_cell? w _ (by simpa using hc1))).trans (by simpa using hc1)
   clear hc0 hc1
   go_wp2
   go_ret
   exact ⟨by rw [H1.out];rfl,HB.out⟩
 · have hB:Below w.heap.size w W1:=((Below.refl _ w).alloc (Nat.le_refl _) _).trans (hb1.mono (by simp))
   have H1:=Aside0.mk (u2h.get_miss a1 l0 h1)
   clear h1
   go_wp2
   go_ret
   exact ⟨by rw [H1.out];rfl,hB⟩
def u1u.l0:Nat → List Int → List Int → Int → Int → Option (Bool)
 | 0,_,_,_,_ => none
 | k + 1,x0,x1,x12,x13 => if x13 < x12 then (if 0 ≤ x13 then (if x13 < (x0.length:Int) then (if x13 < (x1.length:Int) then (if (rd x0 x13) = (rd x1 x13) then (u1u.l0 k x0 x1 x12 (wrap64 (x13 + 1))) else (some false)) else (none)) else (none)) else (none)) else (some true)
def u1u.f (k:Nat) (l0:List Int) (l1:List Int):Option (Bool):=if (l0.length:Int) = (l1.length:Int) then (u1u.l0 k l0 l1 (l0.length:Int) 0) else (some false)
set_option maxHeartbeats 8000000 in
set_option maxRecDepth 100000 in
theorem u1u.calls (k:Nat) (A0:Option Addr) (c0:Nat) (l0:List Int) (A1:Option Addr) (c1:Nat) (l1:List Int) (r:Bool) (w:World) (hr0:Kd.C (Kd.int .u8) w A0 l0.length l0) (hc0:l0.length ≤ c0) (hr1:Kd.C (Kd.int .u8) w A1 l1.length l1) (hc1:l1.length ≤ c1) (h:u1u.f k l0 l1 = some r) :
 Calls Tryz.prog 11 #[.slice A0 l0.length c0,.slice A1 l1.length c1] w fun e w' => e = .returned (.bool r) ∧ uy w w':=by
 have HR0:=Aside0.mk hr0
 have HC0:=Aside0.mk hc0
 clear hr0 hc0
 have HR1:=Aside0.mk hr1
 have HC1:=Aside0.mk hc1
 clear hr1 hc1
 have H:(if (l0.length:Int) = (l1.length:Int) then (u1u.l0 k l0 l1 (l0.length:Int) 0) else (some false)) = some r:=h
 clear h
 by_cases c3:(l0.length:Int) = (l1.length:Int)
 · rw [if_pos c3] at H
   have c3b0:((l0.length:Int) == (l1.length:Int)) = true:=beq_iff_eq.mpr c3
   have c3b1:((l0.length:Int) != (l1.length:Int)) = false:=bne_eq_false_iff_eq.mpr c3
   have c3b2:(l0.length == l1.length) = true:=by first | simpa using c3 | (simp at c3 ⊢;omega)
   clear c3
   have H':=Aside0.mk H
   clear H
   go_enter Tryz.func11,Tryz.ntmps11
   go_wp2
   repeat (go_quiet (fail);try go_wp2)
   go_loopg [13] k (fun kq v13 w' => ∃ (x13_1:Int),v13 = .int .i64 x13_1 ∧ Aside0 (u1u.l0 kq l0 l1 (l0.length:Int) x13_1 = some r) ∧ Aside0 (kq ≤ k) ∧ uy w w')
   case atStart => exact ⟨(0),(by first | rfl | (simp;done) | (simp [*];done)),H',⟨Nat.le_refl _⟩,by repeat (first | exact uy.refl _ | apply uy.step)⟩
   case round =>
    clear H'
    try clear c1
    try clear p2
    try clear c3
    try clear c3b0
    try clear c3b1
    try clear c3b2
    obtain ⟨x13_1,rfl,HA,HK1,⟨m1,rfl⟩⟩:=hrel
    cases gk with
    | zero => exact absurd HA.out (by simp [u1u.l0])
    | succ k1 =>
      have H:=HA.out
      clear HA
      simp only [u1u.l0] at H
      by_cases c4:x13_1 < (l0.length:Int)
      · rw [if_pos c4] at H
        have c4b0:decide (x13_1 < (l0.length:Int)) = true:=decide_eq_true c4
        clear c4
        by_cases c5:0 ≤ x13_1
        · rw [if_pos c5] at H
          have c5b0:decide (0 ≤ x13_1) = true:=decide_eq_true c5
          clear c5
          by_cases c6:x13_1 < (l0.length:Int)
          · rw [if_pos c6] at H
            have c6b0:decide (x13_1 < (l0.length:Int)) = true:=decide_eq_true c6
            clear c6
            by_cases c7:x13_1 < (l1.length:Int)
            · rw [if_pos c7] at H
              have c7b0:decide (x13_1 < (l1.length:Int)) = true:=decide_eq_true c7
              clear c7
              by_cases c8:(rd l0 x13_1) = (rd l1 x13_1)
              · rw [if_pos c8] at H
                have c8b0:((rd l0 x13_1) == (rd l1 x13_1)) = true:=beq_iff_eq.mpr c8
                have c8b1:((rd l0 x13_1) != (rd l1 x13_1)) = false:=bne_eq_false_iff_eq.mpr c8
                clear c8
                have H':=Aside0.mk H
                clear H
                have p253:0 ≤ (x13_1:Int):=of_decide_eq_true (by first | (with_reducible assumption) | assumption)
                have q253:x13_1 < (l0.length:Int):=of_decide_eq_true (by first | (with_reducible assumption) | assumption)
                obtain ⟨ad253,e253,hx253_0⟩:=Kd.at_int HR0.out x13_1 p253 q253
                cases e253
                replace p253:=eq_true p253
                replace q253:=eq_true q253
                have p254:0 ≤ (x13_1:Int):=of_decide_eq_true (by first | (with_reducible assumption) | assumption)
                have q254:x13_1 < (l1.length:Int):=of_decide_eq_true (by first | (with_reducible assumption) | assumption)
                obtain ⟨ad254,e254,hx254_0⟩:=Kd.at_int HR1.out x13_1 p254 q254
                cases e254
                replace p254:=eq_true p254
                replace q254:=eq_true q254
                go_wp2
                repeat (go_quiet (fail);try go_wp2)
                go_roundg k1
                case measure => have:=HK1.out;omega
                case rel => exact ⟨(wrap64 (x13_1 + 1)),(by first | rfl | (simp;done) | (simp [*];done)),H',⟨by have:=HK1.out;omega⟩,by repeat (first | exact uy.refl _ | apply uy.step)⟩
              · rw [if_neg c8] at H
                have c8b0:((rd l0 x13_1) == (rd l1 x13_1)) = false:=beq_eq_false_iff_ne.mpr c8
                have c8b1:((rd l0 x13_1) != (rd l1 x13_1)) = true:=bne_iff_ne.mpr c8
                obtain rfl:=Option.some.inj H
                have p253:0 ≤ (x13_1:Int):=of_decide_eq_true (by first | (with_reducible assumption) | assumption)
                have q253:x13_1 < (l0.length:Int):=of_decide_eq_true (by first | (with_reducible assumption) | assumption)
                obtain ⟨ad253,e253,hx253_0⟩:=Kd.at_int HR0.out x13_1 p253 q253
                cases e253
                replace p253:=eq_true p253
                replace q253:=eq_true q253
                have p254:0 ≤ (x13_1:Int):=of_decide_eq_true (by first | (with_reducible assumption) | assumption)
                have q254:x13_1 < (l1.length:Int):=of_decide_eq_true (by first | (with_reducible assumption) | assumption)
                obtain ⟨ad254,e254,hx254_0⟩:=Kd.at_int HR1.out x13_1 p254 q254
                cases e254
                replace p254:=eq_true p254
                replace q254:=eq_true q254
                go_wp2
                repeat (go_quiet (fail);try go_wp2)
                go_ret
                exact ⟨by first | rfl | (simp;done) | (simp [*];done),by repeat (first | exact uy.refl _ | apply uy.step)⟩
            · rw [if_neg c7] at H
              exact absurd H (by simp)
          · rw [if_neg c6] at H
            exact absurd H (by simp)
        · rw [if_neg c5] at H
          exact absurd H (by simp)
      · rw [if_neg c4] at H
        have c4b0:decide (x13_1 < (l0.length:Int)) = false:=decide_eq_false c4
        clear c4
        obtain rfl:=Option.some.inj H
        go_wp2
        repeat (go_quiet (fail);try go_wp2)
        go_ret
        exact ⟨by first | rfl | (simp;done) | (simp [*];done),by repeat (first | exact uy.refl _ | apply uy.step)⟩
 · rw [if_neg c3] at H
   have c3b0:((l0.length:Int) == (l1.length:Int)) = false:=beq_eq_false_iff_ne.mpr c3
   have c3b1:((l0.length:Int) != (l1.length:Int)) = true:=bne_iff_ne.mpr c3
   have c3b2:(l0.length == l1.length) = false:=by first | simpa using c3 | (simp at c3 ⊢;omega)
   obtain rfl:=Option.some.inj H
   go_enter Tryz.func11,Tryz.ntmps11
   go_wp2
   repeat (go_quiet (fail);try go_wp2)
   go_ret
   exact ⟨by first | rfl | (simp;done) | (simp [*];done),by repeat (first | exact uy.refl _ | apply uy.step)⟩
def u1m.f (a0:ByteArray):Option Bool:=some (Base.nameB a0)
theorem u1m.letter_is (x:Int):labels_letter.f x = some (Base.letterB x):=by
 unfold labels_letter.f Base.letterB
 by_cases h1:x = 95
 · simp [h1]
 · rw [if_neg h1]
   by_cases h2:Go.bits .or .u8 x 32 ≥ 97
   · rw [if_pos h2]
     simp only [ge_iff_le] at h2
     simp [h1,h2]
   · rw [if_neg h2]
     simp only [ge_iff_le] at h2
     simp [h1,h2]
theorem u1m.digit_is (x:Int):labels_digit.f x = some (Base.digitB x):=by
 unfold labels_digit.f Base.digitB
 by_cases h1:x ≥ 48
 · rw [if_pos h1]
   simp only [ge_iff_le] at h1
   simp [h1]
 · rw [if_neg h1]
   simp only [ge_iff_le] at h1
   simp [h1]
def u1m.badB (c:Int):Bool:=!Base.letterB c && !Base.digitB c
set_option maxHeartbeats 400000 in
theorem u1m.test (c:Int) (w:World):Calls Tryz.prog 57 #[.int .u8 c] w fun e w' => e = .returned (.bool (u1m.badB c)) ∧ uy w w':=by
 unfold u1m.badB
 cases hl:Base.letterB c with
 | true =>
   go_enter Tryz.func57,Tryz.ntmps57
   go_wp2_with (go_at_call 55;refine (labels_letter.calls _ _ _ (u1m.letter_is _)).mono ?_;rintro e W1 ⟨rfl,⟨nd,rfl⟩⟩)
   go_ret
   exact ⟨rfl,⟨nd,rfl⟩⟩
 | false =>
   go_enter Tryz.func57,Tryz.ntmps57
   go_wp2_with (first | (go_at_call 55;refine (labels_letter.calls _ _ _ (u1m.letter_is _)).mono ?_;rintro e W1 ⟨rfl,⟨nd,rfl⟩⟩) | (go_at_call 58;refine (labels_digit.calls _ _ _ (u1m.digit_is _)).mono ?_;rintro e W2 ⟨rfl,⟨md,rfl⟩⟩))
   go_ret
   exact ⟨rfl,⟨_,rfl⟩⟩
set_option maxHeartbeats 1000000 in
theorem u1m.index (A:Option Addr) (c:Nat) (l:List Int) (w:World) (hr:Kd.C (Kd.int .u8) w A l.length l) (hm:l.length ≤ 140737488355328) :
 Calls Tryz.prog 104 #[.slice A l.length c,.func (.func 57) #[] #[]] w fun e w' => (∃ i:Int,e = .returned (.int .i64 i) ∧ decide (0 ≤ i) = l.any u1m.badB) ∧ uy w w':=by
 have HR:=Aside0.mk hr
 clear hr
 go_enter Tryz.func104,Tryz.ntmps104
 go_wp2
 go_loopg [8] (l.length) (fun kq v8 w' => ∃ (x:Nat),x ≤ l.length ∧ v8 = .int .i64 x ∧ Aside0 ((l.take x).any u1m.badB = false) ∧ l.length ≤ kq + x ∧ uy w w')
 case atStart => exact ⟨0,by omega,rfl,⟨rfl⟩,by omega,uy.refl _⟩
 case round =>
  obtain ⟨x,hx,rfl,HN,hk,⟨m1,rfl⟩⟩:=hrel
  by_cases hlt:x < l.length
  · obtain ⟨ad,e,hc⟩:=Kd.at_int HR.out (x:Int) (by omega) (by omega)
    subst e
    have hc2:w.cell? (ad.add x) = some (.int .u8 (rd l x)):=by simpa using hc
    clear hc
    have htk:l.take (x + 1) = l.take x ++ [rd l x]:=by
     rw [List.take_succ_eq_append_getElem hlt]
     simp [rd,List.getD_eq_getElem?_getD,hlt]
    have HT:=Aside0.mk htk
    clear htk
    cases hb:u1m.badB (rd l x) with
    | true =>
      go_wp2_with (go_at_call 57;refine (u1m.test _ _).mono ?_;rintro e W1 ⟨rfl,⟨nd,rfl⟩⟩)
      go_ret
      refine ⟨⟨_,rfl,?_⟩,⟨_,rfl⟩⟩
      have h1:l.any u1m.badB = true:=by
       rw [List.any_eq_true]
       refine ⟨rd l x,?_,hb⟩
       have h2:rd l x ∈ l.take (x + 1):=by rw [HT.out];simp
       exact List.mem_of_mem_take h2
      rw [h1]
      simp
    | false =>
      go_wp2_with (go_at_call 57;refine (u1m.test _ _).mono ?_;rintro e W1 ⟨rfl,⟨nd,rfl⟩⟩)
      obtain ⟨g1,rfl⟩:∃ g1,gk = g1 + 1:=⟨gk - 1,by omega⟩
      go_roundg g1
      case rel =>
       refine ⟨x + 1,by omega,by go_num,⟨?_⟩,by omega,⟨_,rfl⟩⟩
       rw [HT.out,List.any_append,HN.out]
       simp [hb]
      case measure => omega
  · go_wp2
    go_ret
    refine ⟨⟨_,rfl,?_⟩,⟨_,rfl⟩⟩
    have h1:=HN.out
    rw [List.take_of_length_le (by omega)] at h1
    rw [h1]
    simp
theorem u1m.contains (A:Option Addr) (c:Nat) (l:List Int) (w:World) (hr:Kd.C (Kd.int .u8) w A l.length l) (hm:l.length ≤ 140737488355328) :
 Calls Tryz.prog 56 #[.slice A l.length c,.func (.func 57) #[] #[]] w fun e w' => e = .returned (.bool (l.any u1m.badB)) ∧ uy w w':=by
 go_enter Tryz.func56,Tryz.ntmps56
 go_wp2_with (go_at_call 104;refine (u1m.index _ _ _ _ hr hm).mono ?_;rintro e W1 ⟨⟨i,rfl,hi⟩,⟨nd,rfl⟩⟩)
 go_ret
 exact ⟨by simp,⟨_,rfl⟩⟩
theorem u1m.contains_n (A:Option Addr) (c n:Nat) (l:List Int) (w:World) (hn:l.length = n) (hr:Kd.C (Kd.int .u8) w A n l) (hm:n ≤ 140737488355328) :
 Calls Tryz.prog 56 #[.slice A n c,.func (.func 57) #[] #[]] w fun e w' => e = .returned (.bool (l.any u1m.badB)) ∧ uy w w':=by
 subst hn
 exact u1m.contains A c l w hr hm
set_option maxHeartbeats 1000000 in
theorem u1m.calls (a0:ByteArray) (r:Bool) (w:World) (h:u1m.f a0 = some r) :
 Calls Tryz.prog 29 #[.string a0] w fun e w' => e = .returned (.bool r) ∧ Below w.heap.size w w':=by
 obtain rfl:Base.nameB a0 = r:=by simpa [u1m.f] using h
 clear h
 by_cases h0:a0.size = 0
 · have he:a0.toList = []:=(Base.toList_nil a0).2 h0
   have hv:Aside0 (Base.nameB a0 = false):=⟨by simp [Base.nameB,h0]⟩
   have hi:a0.toList.isEmpty = true:=by rw [he];rfl
   clear he h0
   go_enter Tryz.func29,Tryz.ntmps29
   go_wp2
   go_ret
   exact ⟨by rw [hv.out];rfl,Below.refl _ _⟩
 · have he:a0.toList.isEmpty = false:=by
    cases hl:a0.toList with
    | nil => exact absurd ((Base.toList_nil a0).1 hl) h0
    | cons _ _ => rfl
   have hen:¬ a0.toList = []:=by intro hl;rw [hl] at he;simp at he
   by_cases h24:a0.size ≤ 24
   · have hp:0 < a0.size:=by omega
     have hbt:((a0[0]'hp).toNat:Int) = bt a0 0:=by simpa using bt_at a0 0 (by simpa using hp)
     have hh:(bytesOf a0).headD 0 = bt a0 0:=by
      rw [← rd_bytesOf]
      cases bytesOf a0 <;> rfl
     have HH:=Aside0.mk hh
     clear hh
     cases hl:Base.letterB (bt a0 0) with
     | false =>
       have hv:Aside0 (Base.nameB a0 = false):=⟨by unfold Base.nameB;rw [HH.out,hl];simp⟩
       go_enter Tryz.func29,Tryz.ntmps29
       go_wp2_with (go_at_call 55;refine (labels_letter.calls _ _ _ (u1m.letter_is _)).mono ?_;rintro e W1 ⟨rfl,⟨nd,rfl⟩⟩)
       go_ret
       exact ⟨by rw [hv.out];rfl,ub (Below.refl _ _) nd⟩
     | true =>
       have kb:=fun W => print_bytes (P:=Tryz.prog) 9 22 5 Tryz.underlying9 Tryz.underlying22 Tryz.underlying5 a0 W
       have hv:Aside0 (Base.nameB a0 = !(bytesOf a0).any u1m.badB):=⟨by
        have h1:(bytesOf a0).all (fun c => Base.letterB c || Base.digitB c) = !(bytesOf a0).any u1m.badB:=by
         rw [List.all_eq_not_any_not]
         congr 2
         funext c
         simp [u1m.badB]
        unfold Base.nameB
        rw [HH.out,hl,h1]
        simp [hp,h24]⟩
       go_enter Tryz.func29,Tryz.ntmps29
       go_wp2_with (go_at_call 55;refine (labels_letter.calls _ _ _ (u1m.letter_is _)).mono ?_;rintro e W1 ⟨rfl,⟨nd,rfl⟩⟩)
       have hr:=bytes_reads (w.drewN nd) 5 a0 (by omega)
       have hc:Kd.C (Kd.int .u8) (Lib.bytesWorld (w.drewN nd) 5 a0) (some ⟨w.heap.size,0,none⟩) a0.size (bytesOf a0):=Kd.C_of_reads (d:=(0:Int)) (h1:=fun _ => rfl) hr
       refine (u1m.contains_n _ _ _ _ _ (bytesOf_length a0) hc (by omega)).mono ?_
       rintro e W2 ⟨rfl,⟨md,rfl⟩⟩
       clear hr hc
       go_wp2
       go_ret
       exact ⟨by rw [hv.out];rfl,ub (bytes_below (ub (Below.refl _ _) nd) (by simp) _ _) md⟩
   · have hv:Aside0 (Base.nameB a0 = false):=⟨by simp [Base.nameB,h24]⟩
     go_enter Tryz.func29,Tryz.ntmps29
     go_wp2
     go_ret
     exact ⟨by rw [hv.out];rfl,Below.refl _ _⟩
def u1f.l0:Nat → Int → ByteArray → Option (ByteArray)
 | 0,_,_ => none
 | k + 1,x0,x3 => if x0 ≥ 10 then (if 0 ≤ (Int.tmod x0 10) then (if (Int.tmod x0 10) ≤ (IntKind.u64.wrap ((Int.tmod x0 10) + 1)) then (if (IntKind.u64.wrap ((Int.tmod x0 10) + 1)) ≤ 10 then (if ((⟨#[48,49,50,51,52,53,54,55,56,57]⟩:ByteArray).extract ((Int.tmod x0 10):Int).toNat ((IntKind.u64.wrap ((Int.tmod x0 10) + 1)):Int).toNat).size + x3.size ≤ 9223372036854775807 then (u1f.l0 k (IntKind.u64.wrap (Int.tdiv x0 10)) (((⟨#[48,49,50,51,52,53,54,55,56,57]⟩:ByteArray).extract ((Int.tmod x0 10):Int).toNat ((IntKind.u64.wrap ((Int.tmod x0 10) + 1)):Int).toNat) ++ x3)) else (none)) else (none)) else (none)) else (none)) else (if 0 ≤ x0 then (if x0 ≤ (IntKind.u64.wrap (x0 + 1)) then (if (IntKind.u64.wrap (x0 + 1)) ≤ 10 then (if ((⟨#[48,49,50,51,52,53,54,55,56,57]⟩:ByteArray).extract (x0:Int).toNat ((IntKind.u64.wrap (x0 + 1)):Int).toNat).size + x3.size ≤ 9223372036854775807 then (some (((⟨#[48,49,50,51,52,53,54,55,56,57]⟩:ByteArray).extract (x0:Int).toNat ((IntKind.u64.wrap (x0 + 1)):Int).toNat) ++ x3)) else (none)) else (none)) else (none)) else (none))
def u1f.f (k:Nat) (a0:Int):Option (ByteArray):=u1f.l0 k a0 (⟨#[]⟩:ByteArray)
set_option maxHeartbeats 8000000 in
set_option maxRecDepth 100000 in
theorem u1f.calls (k:Nat) (a0:Int) (r:ByteArray) (w:World) (h:u1f.f k a0 = some r) :
 Calls Tryz.prog 73 #[.int .u64 a0] w fun e w' => e = .returned (.string r) ∧ uy w w':=by
 have H:(u1f.l0 k a0 (⟨#[]⟩:ByteArray)) = some r:=h
 clear h
 have H':=Aside0.mk H
 clear H
 go_enter Tryz.func73,Tryz.ntmps73
 go_wp2
 go_loopg [0,3] k (fun kq v0 v3 w' => ∃ (x0_1:Int) (x3_1:ByteArray),v0 = .int .u64 x0_1 ∧ v3 = .string x3_1 ∧ Aside0 (u1f.l0 kq x0_1 x3_1 = some r) ∧ Aside0 (kq ≤ k) ∧ uy w w')
 case atStart => exact ⟨(a0),((⟨#[]⟩:ByteArray)),(by first | rfl | (simp;done) | (simp [*];done)),(by first | rfl | (simp;done) | (simp [*];done)),H',⟨Nat.le_refl _⟩,by repeat (first | exact uy.refl _ | apply uy.step)⟩
 case round =>
  clear H'
  obtain ⟨x0_1,x3_1,rfl,rfl,HA,HK1,⟨m1,rfl⟩⟩:=hrel
  cases gk with
  | zero => exact absurd HA.out (by simp [u1f.l0])
  | succ k1 =>
    have H:=HA.out
    clear HA
    simp only [u1f.l0] at H
    by_cases c2:x0_1 ≥ 10
    · rw [if_pos c2] at H
      have c2b0:decide (10 ≤ x0_1) = true:=decide_eq_true c2
      clear c2
      obtain ⟨ji3,hji3⟩:∃ j_:Int,(Int.tmod x0_1 10) = j_:=⟨_,rfl⟩
      replace H:(if 0 ≤ (ji3) then (if (ji3) ≤ (IntKind.u64.wrap ((ji3) + 1)) then (if (IntKind.u64.wrap ((ji3) + 1)) ≤ 10 then (if ((⟨#[48,49,50,51,52,53,54,55,56,57]⟩:ByteArray).extract ((ji3):Int).toNat ((IntKind.u64.wrap ((ji3) + 1)):Int).toNat).size + x3_1.size ≤ 9223372036854775807 then (u1f.l0 k1 (IntKind.u64.wrap (Int.tdiv x0_1 10)) (((⟨#[48,49,50,51,52,53,54,55,56,57]⟩:ByteArray).extract ((ji3):Int).toNat ((IntKind.u64.wrap ((ji3) + 1)):Int).toNat) ++ x3_1)) else (none)) else (none)) else (none)) else (none)) = some r:=by first | (rw [hji3] at H;exact H) | (simp only [hji3] at H ⊢;exact H)
      by_cases c4:0 ≤ (ji3)
      · rw [if_pos c4] at H
        have c4b0:=eq_true c4
        have c4b1:decide (0 ≤ (ji3)) = true:=decide_eq_true c4
        clear c4
        by_cases c5:(ji3) ≤ (IntKind.u64.wrap ((ji3) + 1))
        · rw [if_pos c5] at H
          have c5b0:=eq_true c5
          have c5b1:decide ((ji3) ≤ (IntKind.u64.wrap ((ji3) + 1))) = true:=decide_eq_true c5
          by_cases c6:(IntKind.u64.wrap ((ji3) + 1)) ≤ 10
          · rw [if_pos c6] at H
            have c6b0:=eq_true c6
            have c6b1:decide ((IntKind.u64.wrap ((ji3) + 1)) ≤ 10) = true:=decide_eq_true c6
            by_cases c7:((⟨#[48,49,50,51,52,53,54,55,56,57]⟩:ByteArray).extract ((ji3):Int).toNat ((IntKind.u64.wrap ((ji3) + 1)):Int).toNat).size + x3_1.size ≤ 9223372036854775807
            · rw [if_pos c7] at H
              have c7b0:=eq_true c7
              have c7b1:decide (((⟨#[48,49,50,51,52,53,54,55,56,57]⟩:ByteArray).extract ((ji3):Int).toNat ((IntKind.u64.wrap ((ji3) + 1)):Int).toNat).size + x3_1.size ≤ 9223372036854775807) = true:=decide_eq_true c7
              try have c7b2:(9223372036854775807 < ((⟨#[48,49,50,51,52,53,54,55,56,57]⟩:ByteArray).extract ((ji3):Int).toNat ((IntKind.u64.wrap ((ji3) + 1)):Int).toNat).size + x3_1.size) = False:=eq_false (Nat.not_lt.2 c7)
              try (have c7b3:=c7b2;simp only [ByteArray.size_append,Base.size1,(show ∀ a_ b_:UInt8,(⟨#[a_,b_]⟩:ByteArray).size = 2 from fun _ _ => rfl)] at c7b3)
              have H':=Aside0.mk H
              clear H
              go_wp2
              go_roundg k1
              case measure => have:=HK1.out;omega
              case rel => exact ⟨(IntKind.u64.wrap (Int.tdiv x0_1 10)),(((⟨#[48,49,50,51,52,53,54,55,56,57]⟩:ByteArray).extract ((ji3):Int).toNat ((IntKind.u64.wrap ((ji3) + 1)):Int).toNat) ++ x3_1),(by first | rfl | (simp;done) | (simp [*];done)),(by first | rfl | (simp;done) | (simp only [← hji3] <;> (first | rfl | simp)) | (simp [*];done)),H',⟨by have:=HK1.out;omega⟩,by repeat (first | exact uy.refl _ | apply uy.step)⟩
            · rw [if_neg c7] at H
              exact absurd H (by simp)
          · rw [if_neg c6] at H
            exact absurd H (by simp)
        · rw [if_neg c5] at H
          exact absurd H (by simp)
      · rw [if_neg c4] at H
        exact absurd H (by simp)
    · rw [if_neg c2] at H
      have c2b0:decide (10 ≤ x0_1) = false:=decide_eq_false c2
      clear c2
      by_cases c8:0 ≤ x0_1
      · rw [if_pos c8] at H
        have c8b0:=eq_true c8
        have c8b1:decide (0 ≤ x0_1) = true:=decide_eq_true c8
        clear c8
        by_cases c9:x0_1 ≤ (IntKind.u64.wrap (x0_1 + 1))
        · rw [if_pos c9] at H
          have c9b0:=eq_true c9
          have c9b1:decide (x0_1 ≤ (IntKind.u64.wrap (x0_1 + 1))) = true:=decide_eq_true c9
          by_cases c10:(IntKind.u64.wrap (x0_1 + 1)) ≤ 10
          · rw [if_pos c10] at H
            have c10b0:=eq_true c10
            have c10b1:decide ((IntKind.u64.wrap (x0_1 + 1)) ≤ 10) = true:=decide_eq_true c10
            by_cases c11:((⟨#[48,49,50,51,52,53,54,55,56,57]⟩:ByteArray).extract (x0_1:Int).toNat ((IntKind.u64.wrap (x0_1 + 1)):Int).toNat).size + x3_1.size ≤ 9223372036854775807
            · rw [if_pos c11] at H
              have c11b0:=eq_true c11
              have c11b1:decide (((⟨#[48,49,50,51,52,53,54,55,56,57]⟩:ByteArray).extract (x0_1:Int).toNat ((IntKind.u64.wrap (x0_1 + 1)):Int).toNat).size + x3_1.size ≤ 9223372036854775807) = true:=decide_eq_true c11
              try have c11b2:(9223372036854775807 < ((⟨#[48,49,50,51,52,53,54,55,56,57]⟩:ByteArray).extract (x0_1:Int).toNat ((IntKind.u64.wrap (x0_1 + 1)):Int).toNat).size + x3_1.size) = False:=eq_false (Nat.not_lt.2 c11)
              try (have c11b3:=c11b2;simp only [ByteArray.size_append,Base.size1,(show ∀ a_ b_:UInt8,(⟨#[a_,b_]⟩:ByteArray).size = 2 from fun _ _ => rfl)] at c11b3)
              obtain rfl:=Option.some.inj H
              go_wp2
              go_ret
              exact ⟨by first | rfl | (simp;done) | (simp [*];done),by repeat (first | exact uy.refl _ | apply uy.step)⟩
            · rw [if_neg c11] at H
              exact absurd H (by simp)
          · rw [if_neg c10] at H
            exact absurd H (by simp)
        · rw [if_neg c9] at H
          exact absurd H (by simp)
      · rw [if_neg c8] at H
        exact absurd H (by simp)
def u2c.f (k:Nat) (a0:Int):Option (ByteArray):=if a0 < 0 then ((u1f.f k (IntKind.u64.wrap (-(IntKind.u64.wrap (a0))))).bind fun t306 => (if 1 + t306.size ≤ 9223372036854775807 then (some ((⟨#[45]⟩:ByteArray) ++ t306)) else (none))) else ((u1f.f k (IntKind.u64.wrap (a0))).bind fun t307 => (some t307))
set_option maxHeartbeats 8000000 in
set_option maxRecDepth 100000 in
theorem u2c.calls (k:Nat) (a0:Int) (r:ByteArray) (w:World) (h:u2c.f k a0 = some r) :
 Calls Tryz.prog 74 #[.int .i64 a0] w fun e w' => e = .returned (.string r) ∧ uy w w':=by
 have H:(if a0 < 0 then ((u1f.f k (IntKind.u64.wrap (-(IntKind.u64.wrap (a0))))).bind fun t306 => (if 1 + t306.size ≤ 9223372036854775807 then (some ((⟨#[45]⟩:ByteArray) ++ t306)) else (none))) else ((u1f.f k (IntKind.u64.wrap (a0))).bind fun t307 => (some t307))) = some r:=h
 clear h
 by_cases c2:a0 < 0
 · rw [if_pos c2] at H
   have c2b0:decide (a0 < 0) = true:=decide_eq_true c2
   clear c2
   replace H:=Option.bind_eq_some_iff.mp H
   obtain ⟨t306,A30,H⟩:=H
   replace H:(if 1 + t306.size ≤ 9223372036854775807 then (some ((⟨#[45]⟩:ByteArray) ++ t306)) else (none)) = some r:=H
   have A3:=Aside0.mk A30
   clear A30
   by_cases c4:1 + t306.size ≤ 9223372036854775807
   · rw [if_pos c4] at H
     have c4b0:=eq_true c4
     have c4b1:decide (1 + t306.size ≤ 9223372036854775807) = true:=decide_eq_true c4
     try have c4b2:(9223372036854775807 < 1 + t306.size) = False:=eq_false (Nat.not_lt.2 c4)
     try (have c4b3:=c4b2;simp only [ByteArray.size_append,Base.size1,(show ∀ a_ b_:UInt8,(⟨#[a_,b_]⟩:ByteArray).size = 2 from fun _ _ => rfl)] at c4b3)
     obtain rfl:=Option.some.inj H
     go_enter Tryz.func74,Tryz.ntmps74
     go_wp2_with (first | ((with_reducible refine u2w (f:=73) rfl ?_);refine goesL_ (some 8) rfl rfl Tryz.func73 (by kernel_rfl) rfl #[.int .u64 (IntKind.u64.wrap (-(IntKind.u64.wrap (a0))))] rfl (by (try simp only [List.map_toArray,List.map_cons,List.map_nil]);first | done | rfl | (simp only [List.length_drop,List.length_take];rfl)) ?_;(with_reducible refine (u1f.calls k (IntKind.u64.wrap (-(IntKind.u64.wrap (a0)))) t306 _ A3.out).mono ?_);rintro e w' ⟨rfl,⟨nd,rfl⟩⟩;refine ⟨_,rfl,?_⟩))
     go_ret
     exact ⟨by first | rfl | (simp;done) | (simp [*];done),by repeat (first | exact uy.refl _ | apply uy.step)⟩
   · rw [if_neg c4] at H
     exact absurd H (by simp)
 · rw [if_neg c2] at H
   have c2b0:decide (a0 < 0) = false:=decide_eq_false c2
   clear c2
   replace H:=Option.bind_eq_some_iff.mp H
   obtain ⟨t307,A50,H⟩:=H
   replace H:(some t307) = some r:=H
   have A5:=Aside0.mk A50
   clear A50
   obtain rfl:=Option.some.inj H
   go_enter Tryz.func74,Tryz.ntmps74
   go_wp2_with (first | ((with_reducible refine u2w (f:=73) rfl ?_);refine goesL_ (some 12) rfl rfl Tryz.func73 (by kernel_rfl) rfl #[.int .u64 (IntKind.u64.wrap (a0))] rfl (by (try simp only [List.map_toArray,List.map_cons,List.map_nil]);first | done | rfl | (simp only [List.length_drop,List.length_take];rfl)) ?_;(with_reducible refine (u1f.calls k (IntKind.u64.wrap (a0)) t307 _ A5.out).mono ?_);rintro e w' ⟨rfl,⟨nd,rfl⟩⟩;refine ⟨_,rfl,?_⟩))
   go_ret
   exact ⟨by first | rfl | (simp;done) | (simp [*];done),by repeat (first | exact uy.refl _ | apply uy.step)⟩
def u2j.l0:Nat → ByteArray → List (S66) → Int → Int → Option (ByteArray)
 | 0,_,_,_,_ => none
 | k + 1,x1,x7,x8,x9 => if x9 < x8 then (if 0 ≤ x9 then (if x9 < (x7.length:Int) then (if ((un x7 x9).f0).toList = x1.toList then (some ((un x7 x9).f1)) else (u2j.l0 k x1 x7 x8 (wrap64 (x9 + 1)))) else (none)) else (none)) else (some (⟨#[]⟩:ByteArray))
def u2j.f (k:Nat) (l0:List (S66)) (a1:ByteArray):Option (ByteArray):=u2j.l0 k a1 l0 (l0.length:Int) 0
set_option maxHeartbeats 8000000 in
set_option maxRecDepth 100000 in
theorem u2j.calls (k:Nat) (A0:Option Addr) (c0:Nat) (l0:List (S66)) (a1:ByteArray) (r:ByteArray) (w:World) (hr0:Kd.C k66 w A0 l0.length l0) (hc0:l0.length ≤ c0) (h:u2j.f k l0 a1 = some r) :
 Calls Tryz.prog 71 #[.slice A0 l0.length c0,.string a1] w fun e w' => e = .returned (.string r) ∧ Below w.heap.size w w':=by
 have hu66:=Tryz.underlying66
 have HR0:=Aside0.mk hr0
 have HC0:=Aside0.mk hc0
 clear hr0 hc0
 have HB:=Aside0.mk (Below.refl w.heap.size w)
 have H:(u2j.l0 k a1 l0 (l0.length:Int) 0) = some r:=h
 clear h
 have H':=Aside0.mk H
 clear H
 go_enter Tryz.func71,Tryz.ntmps71
 go_wp2
 go_loopg [9] k (fun kq v9 w' => ∃ (x9_1:Int),v9 = .int .i64 x9_1 ∧ Aside0 (u2j.l0 kq a1 l0 (l0.length:Int) x9_1 = some r) ∧ Aside0 (kq ≤ k) ∧ Aside0 (Below w.heap.size w w'))
 case atStart => exact ⟨(0),(by first | rfl | (simp;done) | (simp [*];done)),H',⟨Nat.le_refl _⟩,⟨by repeat (first | (with_reducible first | exact HB.out | apply ud | apply ub | apply uf) | exact HB.out)⟩⟩
 case round =>
  clear H'
  try clear p2
  obtain ⟨x9_1,rfl,HA,HK1,HB⟩:=hrel
  cases gk with
  | zero => exact absurd HA.out (by simp [u2j.l0])
  | succ k1 =>
    have H:=HA.out
    clear HA
    simp only [u2j.l0] at H
    by_cases c3:x9_1 < (l0.length:Int)
    · rw [if_pos c3] at H
      have c3b0:decide (x9_1 < (l0.length:Int)) = true:=decide_eq_true c3
      clear c3
      by_cases c4:0 ≤ x9_1
      · rw [if_pos c4] at H
        have c4b0:decide (0 ≤ x9_1) = true:=decide_eq_true c4
        clear c4
        by_cases c5:x9_1 < (l0.length:Int)
        · rw [if_pos c5] at H
          have c5b0:decide (x9_1 < (l0.length:Int)) = true:=decide_eq_true c5
          clear c5
          by_cases c6:((un l0 x9_1).f0).toList = a1.toList
          · rw [if_pos c6] at H
            have c6b0:(((un l0 x9_1).f0).toList == a1.toList) = true:=beq_iff_eq.mpr c6
            have c6b1:(((un l0 x9_1).f0).toList != a1.toList) = false:=bne_eq_false_iff_eq.mpr c6
            clear c6
            obtain rfl:=Option.some.inj H
            have p299:0 ≤ (x9_1:Int):=of_decide_eq_true (by first | (with_reducible assumption) | assumption)
            have q299:x9_1 < (l0.length:Int):=of_decide_eq_true (by first | (with_reducible assumption) | assumption)
            obtain ⟨ad299,e299,hx299_0,hx299_1⟩:=at_T66 HR0.out x9_1 p299 q299
            cases e299
            replace hx299_0:=(HB.out.cell (World.block_lt_of_cell? w _ hx299_0)).trans hx299_0
            replace hx299_1:=(HB.out.cell (World.block_lt_of_cell? w _ hx299_1)).trans hx299_1
            replace p299:=eq_true p299
            replace q299:=eq_true q299
            go_wp2_with (first | ((with_reducible refine u2o (N:=6) rfl ?_);refine u2n ?hg (N:=6) ?hd (cs:=#[.string (⟨#[]⟩:ByteArray),.string (⟨#[]⟩:ByteArray)]) (t:=66) ?hr ?_;(case hd => rfl);(case hg => rfl);(case hr => first | (go_simp;done) | (go_simp;rfl));intro gb300 hg w7 hbox hb;have n0_:=Aside0.mk (u1c (by repeat (first | (with_reducible first | exact HB.out | apply ud | apply ub | apply uf) | exact HB.out)) hb);have n1_:=Aside0.mk (hbox);have n2_:=Aside0.mk ((by rw [hg];exact (uz (by repeat (first | (with_reducible first | exact HB.out | apply ud | apply ub | apply uf) | exact HB.out))):w.heap.size ≤ gb300));have n3_:=Aside0.mk ((by rw [hg];exact (uz (by repeat (first | (with_reducible first | exact HB.out | apply ud | apply ub | apply uf) | exact HB.out))):w.heap.size ≤ gb300));clear HB;have HB:=n0_;have BK300:=n1_;have GW300:=n2_;have GE300:=n3_;clear n0_ n1_ n2_ n3_;clear hb hbox hg;have hcz8_0:w7.cell? ⟨gb300,0,none⟩ = some (.string (⟨#[]⟩:ByteArray)):=(um BK300.out 0).trans rfl;have hcz8_1:w7.cell? ⟨gb300,1,none⟩ = some (.string (⟨#[]⟩:ByteArray)):=(um BK300.out 1).trans rfl;have hfz8_0:=uk BK300.out 0;have hfz8_1:=uk BK300.out 1))
            go_ret
            exact ⟨by first | rfl | (simp [u1x,u1y] <;> rfl) | (simp [*,u1x,u1y] <;> rfl),by repeat (first | (with_reducible first | exact HB.out | apply ud | apply ub | apply uf | refine ux ?_ GE300.out) | exact HB.out)⟩
          · rw [if_neg c6] at H
            have c6b0:(((un l0 x9_1).f0).toList == a1.toList) = false:=beq_eq_false_iff_ne.mpr c6
            have c6b1:(((un l0 x9_1).f0).toList != a1.toList) = true:=bne_iff_ne.mpr c6
            have H':=Aside0.mk H
            clear H
            have p299:0 ≤ (x9_1:Int):=of_decide_eq_true (by first | (with_reducible assumption) | assumption)
            have q299:x9_1 < (l0.length:Int):=of_decide_eq_true (by first | (with_reducible assumption) | assumption)
            obtain ⟨ad299,e299,hx299_0,hx299_1⟩:=at_T66 HR0.out x9_1 p299 q299
            cases e299
            replace hx299_0:=(HB.out.cell (World.block_lt_of_cell? w _ hx299_0)).trans hx299_0
            replace hx299_1:=(HB.out.cell (World.block_lt_of_cell? w _ hx299_1)).trans hx299_1
            replace p299:=eq_true p299
            replace q299:=eq_true q299
            go_wp2_with (first | ((with_reducible refine u2o (N:=6) rfl ?_);refine u2n ?hg (N:=6) ?hd (cs:=#[.string (⟨#[]⟩:ByteArray),.string (⟨#[]⟩:ByteArray)]) (t:=66) ?hr ?_;(case hd => rfl);(case hg => rfl);(case hr => first | (go_simp;done) | (go_simp;rfl));intro gb300 hg w9 hbox hb;have n0_:=Aside0.mk (u1c (by repeat (first | (with_reducible first | exact HB.out | apply ud | apply ub | apply uf) | exact HB.out)) hb);have n1_:=Aside0.mk (hbox);have n2_:=Aside0.mk ((by rw [hg];exact (uz (by repeat (first | (with_reducible first | exact HB.out | apply ud | apply ub | apply uf) | exact HB.out))):w.heap.size ≤ gb300));have n3_:=Aside0.mk ((by rw [hg];exact (uz (by repeat (first | (with_reducible first | exact HB.out | apply ud | apply ub | apply uf) | exact HB.out))):w.heap.size ≤ gb300));clear HB;have HB:=n0_;have BK300:=n1_;have GW300:=n2_;have GE300:=n3_;clear n0_ n1_ n2_ n3_;clear hb hbox hg;have hcz10_0:w9.cell? ⟨gb300,0,none⟩ = some (.string (⟨#[]⟩:ByteArray)):=(um BK300.out 0).trans rfl;have hcz10_1:w9.cell? ⟨gb300,1,none⟩ = some (.string (⟨#[]⟩:ByteArray)):=(um BK300.out 1).trans rfl;have hfz10_0:=uk BK300.out 0;have hfz10_1:=uk BK300.out 1))
            go_roundg k1
            case measure => have:=HK1.out;omega
            case rel => exact ⟨(wrap64 (x9_1 + 1)),(by first | rfl | (simp;done) | (simp [*];done)),H',⟨by have:=HK1.out;omega⟩,⟨by repeat (first | (with_reducible first | exact HB.out | apply ud | apply ub | apply uf | refine ux ?_ GE300.out) | exact HB.out)⟩⟩
        · rw [if_neg c5] at H
          exact absurd H (by simp)
      · rw [if_neg c4] at H
        exact absurd H (by simp)
    · rw [if_neg c3] at H
      have c3b0:decide (x9_1 < (l0.length:Int)) = false:=decide_eq_false c3
      clear c3
      obtain rfl:=Option.some.inj H
      go_wp2
      go_ret
      exact ⟨by first | rfl | (simp [u1x,u1y] <;> rfl) | (simp [*,u1x,u1y] <;> rfl),by repeat (first | (with_reducible first | exact HB.out | apply ud | apply ub | apply uf) | exact HB.out)⟩
end Go.Proofs.YtmcpeifhapekoaaGreatDoor.PAll
namespace Go.Proofs.YtmcpeifhapekoaaGreatDoor.Opens
open Go.Deep Go.Proofs.YtmcpeifhapekoaaGreatDoor.PAll Go.Proofs.YtmcpeifhapekoaaGreatDoorW.PrintWords Go.Proofs.YtmcpeifhapekoaaGreatDoorW.PrintLast Go.ChangeShapes
set_option linter.unusedVariables false
def Opens {α:Type} (P:Program) (t:TypeId) (d:Kd α) (Q:α → Prop):Prop :=
 ∀ (H:Type) (enc:TypeId × Value → H) (w:World) (fuel:Nat) (cs:List Value) (x:DataW H × List MemPlace),
   DataW.trod enc P w 0 (fun _ => true) true fuel t cs = some x → (∀ n ∈ x.1.weights P t,n ≤ reachBytes) → ∃ v,d.K w v cs ∧ Q v
theorem opens_string {P:Program} {t:TypeId} (ht:P.underlying t = some .string):Opens P t Kd.string (fun s => s.size ≤ 140737488351232):=by
 intro H enc w fuel cs x h hz
 obtain ⟨s,rfl,rfl,hs⟩:=DataW.trod_string ht h
 refine ⟨s,rfl,?_⟩
 have:=hz s.data.toList.length (by simp [DataW.weights])
 rwa [u2f] at this
theorem opens_int {P:Program} {t:TypeId} {k:IntKind} (ht:P.underlying t = some (.int k)):Opens P t (Kd.int k) (fun n => (Lit.int k n).wf = true):=by
 intro H enc w fuel cs x h _
 obtain ⟨n,rfl,_,hn⟩:=DataW.trod_int ht h
 exact ⟨n,rfl,hn⟩
theorem opens_iso {α β:Type} {P:Program} {t:TypeId} {d:Kd α} {Q:α → Prop} (f:β → α) (g:α → β) (hg:∀ a,f (g a) = a) (hd:Opens P t d Q):Opens P t (Kd.iso d f) (fun x => Q (f x)):=by
 intro H enc w fuel cs x h hz
 obtain ⟨v,h1,h2⟩:=hd H enc w fuel cs x h hz
 exact ⟨g v,by show d.K w (f (g v)) cs;rw [hg];exact h1,by show Q (f (g v));rw [hg];exact h2⟩
def OpensF {α:Type} (P:Program) (fs:List Field) (o:Nat) (d:Kd α) (Q:α → Prop):Prop :=
 ∀ (H:Type) (enc:TypeId × Value → H) (w:World) (fuel:Nat) (cs:List Value) (ys:List (DataW H × List MemPlace)),
   cs.length = o + d.sz → ys.length = fs.length → (∀ (i:Nat) (f:Field),fs[i]? = some f → DataW.trod enc P w 0 (fun _ => true) true fuel f.type ((cs.drop f.offset).take (P.cellsOf f.type)) = ys[i]?) →
   (∀ n ∈ DataW.weightsEach P (fs.map (·.type)) (ys.map (·.1)),n ≤ reachBytes) → ∃ v,d.K w v (cs.drop o) ∧ Q v
theorem opensF_one {α:Type} {P:Program} {f:Field} {o:Nat} {d:Kd α} {Q:α → Prop} (hd:Opens P f.type d Q) (ho:f.offset = o) (hc:P.cellsOf f.type = d.sz):OpensF P [f] o d Q:=by
 intro H enc w fuel cs ys hl hy h hz
 match ys,hy with
 | [y],_ =>
   have h0:=h 0 f rfl
   simp only [List.getElem?_cons_zero] at h0
   rw [ho,hc,List.take_of_length_le (by rw [List.length_drop];omega)] at h0
   exact hd H enc w fuel _ y h0 (fun n hn => hz n (by simp [DataW.weightsEach,hn]))
theorem opensF_cons {α β:Type} {P:Program} {f:Field} {fs:List Field} {o:Nat} {d0:Kd α} {d1:Kd β} {Q0:α → Prop} {Q1:β → Prop} (h0:Opens P f.type d0 Q0) (h1:OpensF P fs (o + d0.sz) d1 Q1) (ho:f.offset = o) (hc:P.cellsOf f.type = d0.sz) :
 OpensF P (f :: fs) o (Kd.pair d0 d1) (fun p => Q0 p.1 ∧ Q1 p.2):=by
 intro H enc w fuel cs ys hl hy h hz
 have hsz:(Kd.pair d0 d1).sz = d0.sz + d1.sz:=rfl
 rw [hsz] at hl
 match ys,hy with
 | y :: ys,hy =>
   have g0:=h 0 f rfl
   simp only [List.getElem?_cons_zero] at g0
   rw [ho,hc] at g0
   obtain ⟨v0,k0,q0⟩:=h0 H enc w fuel _ y g0 (fun n hn => hz n (by simp [DataW.weightsEach,hn]))
   obtain ⟨v1,k1,q1⟩:=h1 H enc w fuel cs ys (by omega) (by simpa using hy) (fun i g hg => by
    have:=h (i + 1) g (by simpa using hg)
    simpa using this) (fun n hn => hz n (by simp only [List.map_cons,DataW.weightsEach,List.mem_append];exact Or.inr hn))
   refine ⟨(v0,v1),⟨_,_,?_,k0,k1⟩,q0,q1⟩
   rw [← List.drop_drop,List.take_append_drop]
theorem opens_struct {α:Type} {P:Program} {t:TypeId} {fs:List Field} {d:Kd α} {Q:α → Prop} (ht:P.underlying t = some (.struct fs.toArray)) (h:OpensF P fs 0 d Q) (hc:P.cellsOf t = d.sz):Opens P t d Q:=by
 intro H enc w fuel cs x hx hz
 obtain ⟨xs,n,_,rfl,hl,hlen,hf⟩:=DataW.trod_struct ht hx
 have h2:=h H enc w n cs xs (by omega) (by simpa using hlen) (fun i f hi => hf i f (by simpa using hi)) (fun m hm => hz m (by simp only [DataW.weights,ht];simpa using hm))
 simpa using h2
theorem weightsAll_mem {H:Type} {P:Program} {e:TypeId}:∀ {l:List (DataW H)} {d:DataW H},d ∈ l → ∀ n ∈ d.weights P e,n ∈ DataW.weightsAll P e l
 | a :: l,d,hd,n,hn => by
   simp only [DataW.weightsAll,List.mem_append]
   rcases List.mem_cons.1 hd with rfl | hd
   · exact Or.inl hn
   · exact Or.inr (weightsAll_mem hd n hn)
theorem opens_slice_at {α:Type} [Inhabited α] {P:Program} {t e:TypeId} {d:Kd α} {Q:α → Prop} {B:Nat} (hd:Opens P e d Q) (ht:P.underlying t = some (.slice e)) (hsz:P.cellsOf e = d.sz) (hB:P.bytesOf e = B)
 {H:Type} {enc:TypeId × Value → H} {w:World} {fuel:Nat} {cs:List Value} {x:DataW H × List MemPlace} (h:DataW.trod enc P w 0 (fun _ => true) true fuel t cs = some x) (hz:∀ n ∈ x.1.weights P t,n ≤ reachBytes) :
 ∃ (A:Option Addr) (c:Nat) (xs:List α),cs = [.slice A xs.length c] ∧ xs.length ≤ c ∧ c ≤ maxLen ∧ d.C w A xs.length xs ∧ xs.length * B ≤ 140737488351232 ∧ ∀ y ∈ xs,Q y:=by
 rcases open_slice ht h with ⟨rfl,_⟩ | ⟨a,len,cap,m,n,D,Pl,rfl,hb,hl,hm,hme,hx,hel⟩
 · exact ⟨none,0,[],rfl,Nat.le_refl _,Nat.zero_le _,⟨rfl,Nat.zero_le _,fun h => absurd h (by simp)⟩,by simp,fun y hy => by cases hy⟩
 · have hlm:len ≤ m:=by
    rw [hme]
    simp
    exact hl
   subst hx
   simp only [DataW.weights,ht] at hz
   obtain ⟨V,hV⟩:=choose_lt (α:=α) (n:=len) (p:=fun i v => Q v ∧ ∃ cs',w.cells? 0 (a.add (i * P.cellsOf e)) (P.cellsOf e) = some cs' ∧ d.K w v cs') (fun i hi => by
    obtain ⟨cs',h1,h2⟩:=hel i (by omega)
    obtain ⟨v,hv,hq⟩:=hd _ _ _ _ _ _ h2 (fun k hk => hz k (List.mem_cons_of_mem _ (List.mem_append_left _ (weightsAll_mem (List.mem_map.2 ⟨i,List.mem_range.2 hi,rfl⟩) k hk))))
    exact ⟨v,hq,cs',h1,hv⟩)
   have hlen:((List.range len).map V).length = len:=by simp
   have hbulk:len * B ≤ 140737488351232:=by
    have h9:=hz _ (List.mem_cons_self ..)
    rw [hB] at h9
    have h8:len ≤ ((List.range len).map D).length + ((List.range (m - len)).map fun j => D (len + j)).length:=by simp
    exact Nat.le_trans (Nat.mul_le_mul_right _ h8) h9
   refine ⟨some a,cap,(List.range len).map V,by rw [hlen],by rw [hlen];exact hl,hm,?_,by rw [hlen];exact hbulk,?_⟩
   · refine ⟨rfl,by rw [hlen];have:maxLen ≤ 9223372036854775807:=by decide
                    omega,fun _ => ⟨a,rfl,fun j p hp => ?_⟩⟩
     have hj:j < len:=by
      have:=(List.getElem?_eq_some_iff.1 hp).1
      omega
     simp [hj] at hp
     subst hp
     obtain ⟨_,cs',h1,h2⟩:=hV j hj
     obtain ⟨_,hl',hc⟩:=World.cells?_some h1
     refine ⟨cs',by rw [hl',hsz],h2,fun i u hu => ?_⟩
     have hi:i < P.cellsOf e:=by
      have:=(List.getElem?_eq_some_iff.1 hu).1
      omega
     have e2:=hc i hi
     rw [hu] at e2
     rw [← e2,← hsz,Go.Deep.add_add]
   · intro y hy
     simp only [List.mem_map,List.mem_range] at hy
     obtain ⟨i,hi,rfl⟩:=hy
     exact (hV i hi).1
theorem opens_slice {α:Type} [Inhabited α] {P:Program} {t e:TypeId} {d:Kd α} {Q:α → Prop} {B:Nat} (n:Nat) (hd:Opens P e d Q) (ht:P.underlying t = some (.slice e)) (hsz:P.cellsOf e = d.sz) (hB:P.bytesOf e = B) :
 Opens P t (Kd.slice n d) (fun xs => xs.length * B ≤ 140737488351232 ∧ ∀ y ∈ xs,Q y):=by
 intro H enc w fuel cs x h hz
 obtain ⟨A,c,xs,rfl,h1,h2,h3,h4,h5⟩:=opens_slice_at hd ht hsz hB h hz
 exact ⟨xs,⟨A,c,rfl,h1,h3⟩,h4,h5⟩
theorem open_slice_arg {α:Type} [Inhabited α] {P:Program} {t e:TypeId} {d:Kd α} {Q:α → Prop} {B:Nat} (hd:Opens P e d Q) (ht:P.underlying t = some (.slice e)) (hsz:P.cellsOf e = d.sz) (hB:P.bytesOf e = B)
 {H:Type} {enc:TypeId × Value → H} {W w:World} {r:Reach} {b0:Nat} {v:Value} {x:DataW H} {p:List MemPlace} {ts:List TypeId} {ds:List (DataW H)} {j:Nat}
 (hsized:(DataW.weightsEach P ts ds).all (· ≤ reachBytes) = true) (hj:ts[j]? = some t) (hx:ds[j]? = some x) (hval:Value.okWide P W r b0 t v) (h:DataW.Trod enc P w 0 (fun _ => true) true t v x p) :
 ∃ (A:Option Addr) (c:Nat) (xs:List α),v = .slice A xs.length c ∧ xs.length ≤ c ∧ c ≤ maxLen ∧ d.C w A xs.length xs ∧ xs.length * B ≤ 140737488351232 ∧ ∀ y ∈ xs,Q y:=by
 obtain ⟨a,len,cap,rfl⟩:=Go.WideShapes.okWide_slice ht hval
 obtain ⟨fuel,h⟩:=h
 obtain ⟨A,c,xs,e,h1,h2,h3,h4,h5⟩:=opens_slice_at hd ht hsz hB h (fun n hn => by
  have h9:=List.all_eq_true.1 hsized n (DataW.weights_mem_each hj hx n hn)
  simpa using h9)
 injection e with e
 exact ⟨A,c,xs,e,h1,h2,h3,h4,h5⟩
instance:Inhabited S66:=⟨z66⟩
theorem opens_label:Opens Tryz.prog 66 k66 (fun x => x.f0.size ≤ 140737488351232 ∧ x.f1.size ≤ 140737488351232) :=
 opens_iso (d:=Kd.pair Kd.string Kd.string) (fun x:S66 => (x.f0,x.f1)) (fun p => ⟨p.1,p.2⟩) (fun _ => rfl)
  (opens_struct Tryz.underlying66 (opensF_cons (opens_string Tryz.underlying9) (opensF_one (opens_string Tryz.underlying9) rfl (by kernel_rfl)) rfl (by kernel_rfl)) (by kernel_rfl))
end Go.Proofs.YtmcpeifhapekoaaGreatDoor.Opens
namespace Go.Proofs.YtmcpeifhapekoaaGreatDoor.Opens
open Go.Deep Go.Lib Go.Proofs.YtmcpeifhapekoaaGreatDoor.PAll Go.Proofs.YtmcpeifhapekoaaGreatDoorW.PrintWords Go.Proofs.YtmcpeifhapekoaaGreatDoorW.PrintLast Go.ChangeShapes
set_option linter.unusedVariables false
instance:Inhabited S34:=⟨z34⟩
instance:Inhabited S53:=⟨z53⟩
theorem opens_meta:Opens Tryz.prog 34 k34 (fun x => x.f0.size ≤ 140737488351232 ∧ x.f1.size ≤ 140737488351232 ∧ x.f2.size ≤ 140737488351232) :=
 opens_iso (d:=Kd.pair Kd.string (Kd.pair Kd.string Kd.string)) (fun x:S34 => (x.f0,x.f1,x.f2)) (fun p => ⟨p.1,p.2.1,p.2.2⟩) (fun _ => rfl)
  (opens_struct Tryz.underlying34 (opensF_cons (opens_string Tryz.underlying9) (opensF_cons (opens_string Tryz.underlying9) (opensF_one (opens_string Tryz.underlying9) rfl (by kernel_rfl)) rfl (by kernel_rfl)) rfl (by kernel_rfl)) (by kernel_rfl))
theorem opens_row:Opens Tryz.prog 53 k53 (fun x => (x.f0.length * 32 ≤ 140737488351232 ∧ ∀ y ∈ x.f0,y.f0.size ≤ 140737488351232 ∧ y.f1.size ≤ 140737488351232) ∧ (Lit.int .i64 x.f1).wf = true ∧ (Lit.int .u64 x.f2).wf = true) :=
 opens_iso (d:=Kd.pair (Kd.slice 66 k66) (Kd.pair (Kd.int .i64) (Kd.int .u64))) (fun x:S53 => (x.f0,x.f1,x.f2)) (fun p => ⟨p.1,p.2.1,p.2.2⟩) (fun _ => rfl)
  (opens_struct Tryz.underlying53 (opensF_cons (opens_slice _ opens_label Tryz.underlying50 (by kernel_rfl) (by kernel_rfl)) (opensF_cons (opens_int Tryz.underlying3) (opensF_one (opens_int Tryz.underlying51) rfl (by kernel_rfl)) rfl (by kernel_rfl)) rfl (by kernel_rfl)) (by kernel_rfl))
theorem pow10_data:(Rows.laid_internal_strconv_uint64pow10:DataW Unit) = tabData .u64 pow10Tab:=by kernel_rfl
theorem pow_of_row {W:World} {l:List (String × DataW Unit)} (hL:laidMetH Tryz.prog l W) (hp:(l.all fun x => x.2.handleName?.isNone) = true) (h1:("internal/strconv.uint64pow10",Rows.laid_internal_strconv_uint64pow10) ∈ l):u1i.Gd W:=by
 have hL2:laidMet Tryz.prog l W:=by rw [← MakeChecks.laidMetH_plain _ _ _ hp];exact hL
 have h:=laidMet.reads hL2 h1
 rw [pow10_data] at h
 obtain ⟨g,t,cs,fuel,p,hg,hty,hvar,hd⟩:=h
 have hg2:Tryz.prog.globalNamed "internal/strconv.uint64pow10" = some 1:=by kernel_rfl
 obtain rfl:=Option.some.inj (hg2.symm.trans hg)
 have ht2:(Tryz.prog.globals[1]?).map (·.type) = some 187:=by kernel_rfl
 obtain rfl:=Option.some.inj (ht2.symm.trans hty)
 unfold u1i.Gd TabIs
 rw [hvar,← cells_of_tab (n:=20) (by kernel_rfl) Tryz.underlying51 (by kernel_rfl) (by kernel_rfl) hd]
end Go.Proofs.YtmcpeifhapekoaaGreatDoor.Opens
namespace Go.Proofs.YtmcpeifhapekoaaGreatDoor.PAll
open Go.RowKit Go.Proofs.YtmcpeifhapekoaaGreatDoorW.PrintWords Go.Proofs.YtmcpeifhapekoaaGreatDoorW.PrintLast Go.Proofs.YtmcpeifhapekoaaGreatDoorW.PrintMore
attribute [local go_sem] max2_int min2_int max_two min_two max_three min_three max_four min_four
set_option linter.unusedVariables false
set_option linter.unusedSimpArgs false
def u2g.l0:Nat → ByteArray → List ByteArray → Int → Int → Option (Bool)
 | 0,_,_,_,_ => none
 | k + 1,x0,x5,x6,x7 => if x7 < x6 then (if 0 ≤ x7 then (if x7 < (x5.length:Int) then (if x0.toList = (rdOf ByteArray.empty x5 x7).toList then (some true) else (u2g.l0 k x0 x5 x6 (wrap64 (x7 + 1)))) else (none)) else (none)) else (some false)
def u2g.f (k:Nat) (a0:ByteArray):Option (Bool):=(some (([(⟨#[99,111,117,110,116,101,114]⟩:ByteArray),(⟨#[103,97,117,103,101]⟩:ByteArray),(⟨#[104,105,115,116,111,103,114,97,109]⟩:ByteArray),(⟨#[115,117,109,109,97,114,121]⟩:ByteArray),(⟨#[117,110,116,121,112,101,100]⟩:ByteArray)]:List ByteArray):List ByteArray)).bind fun y109 => (u2g.l0 k a0 y109 (y109.length:Int) 0)
set_option maxHeartbeats 8000000 in
set_option maxRecDepth 100000 in
theorem u2g.calls (k:Nat) (a0:ByteArray) (r:Bool) (w:World) (h:u2g.f k a0 = some r) :
 Calls Tryz.prog 38 #[.string a0] w fun e w' => e = .returned (.bool r) ∧ Below w.heap.size w w':=by
 have HB:=Aside0.mk (Below.refl w.heap.size w)
 have H:((some (([(⟨#[99,111,117,110,116,101,114]⟩:ByteArray),(⟨#[103,97,117,103,101]⟩:ByteArray),(⟨#[104,105,115,116,111,103,114,97,109]⟩:ByteArray),(⟨#[115,117,109,109,97,114,121]⟩:ByteArray),(⟨#[117,110,116,121,112,101,100]⟩:ByteArray)]:List ByteArray):List ByteArray)).bind fun y109 => (u2g.l0 k a0 y109 (y109.length:Int) 0)) = some r:=h
 clear h
 obtain ⟨y109,hy109⟩:∃ y_:List ByteArray,y_ = (([(⟨#[99,111,117,110,116,101,114]⟩:ByteArray),(⟨#[103,97,117,103,101]⟩:ByteArray),(⟨#[104,105,115,116,111,103,114,97,109]⟩:ByteArray),(⟨#[115,117,109,109,97,114,121]⟩:ByteArray),(⟨#[117,110,116,121,112,101,100]⟩:ByteArray)]:List ByteArray)):=⟨_,rfl⟩
 replace H:(u2g.l0 k a0 y109 (y109.length:Int) 0) = some r:=by first | (rw [hy109];with_reducible exact H) | (have H2_:=(Option.bind_some _ _).symm.trans H;rw [hy109];with_reducible exact H2_) | (have H2_:=(Option.bind_some _ _).symm.trans H;with_reducible exact H2_) | with_reducible exact H | (rw [hy109];exact H) | exact H
 have Ny109:=Aside0.mk hy109
 clear hy109
 have H':=Aside0.mk H
 clear H
 go_enter Tryz.func38,Tryz.ntmps38
 go_wp2_with (first | ((with_reducible refine u2o (N:=5) rfl ?_);refine Kd.R_lit Kd.string _ 9 ?hg (N:=5) ?hd (xs:=([(⟨#[99,111,117,110,116,101,114]⟩:ByteArray),(⟨#[103,97,117,103,101]⟩:ByteArray),(⟨#[104,105,115,116,111,103,114,97,109]⟩:ByteArray),(⟨#[115,117,109,109,97,114,121]⟩:ByteArray),(⟨#[117,110,116,121,112,101,100]⟩:ByteArray)]:List ByteArray)) (inner:=[.string (⟨#[99,111,117,110,116,101,114]⟩:ByteArray),.string (⟨#[103,97,117,103,101]⟩:ByteArray),.string (⟨#[104,105,115,116,111,103,114,97,109]⟩:ByteArray),.string (⟨#[115,117,109,109,97,114,121]⟩:ByteArray),.string (⟨#[117,110,116,121,112,101,100]⟩:ByteArray)]) (ok:=fun _ => True) (okp:=fun _ => True) ?hr ?hp (fun _ hk => hk) trivial (Below.refl _ _) (Nat.le_refl _) (by simp) ?_;(case hd => rfl);(case hg => rfl);(case hr => first | (go_simp;done) | (go_simp;rfl));(case hp => exact (Reps.one (show Kd.M Kd.string _ _ _ (⟨#[99,111,117,110,116,101,114]⟩:ByteArray) [.string (⟨#[99,111,117,110,116,101,114]⟩:ByteArray)] from rfl) (Reps.one (show Kd.M Kd.string _ _ _ (⟨#[103,97,117,103,101]⟩:ByteArray) [.string (⟨#[103,97,117,103,101]⟩:ByteArray)] from rfl) (Reps.one (show Kd.M Kd.string _ _ _ (⟨#[104,105,115,116,111,103,114,97,109]⟩:ByteArray) [.string (⟨#[104,105,115,116,111,103,114,97,109]⟩:ByteArray)] from rfl) (Reps.one (show Kd.M Kd.string _ _ _ (⟨#[115,117,109,109,97,114,121]⟩:ByteArray) [.string (⟨#[115,117,109,109,97,114,121]⟩:ByteArray)] from rfl) (Reps.one (show Kd.M Kd.string _ _ _ (⟨#[117,110,116,121,112,101,100]⟩:ByteArray) [.string (⟨#[117,110,116,121,112,101,100]⟩:ByteArray)] from rfl) (Reps.none _ _)))))));intro v110 w2 ho3 hb hg_ hnew_;clear hg_ hnew_;(first | rw [← Ny109.out] at ho3 | (simp only [Int.reduceToNat] at ho3;rw [← Ny109.out] at ho3));have n0_:=Aside0.mk (Kd.R_lower ho3 (uz (by repeat (first | (with_reducible first | exact HB.out | apply ud | apply ub | apply uf) | exact HB.out))));have n1_:=Aside0.mk (u1c (by repeat (first | (with_reducible first | exact HB.out | apply ud | apply ub | apply uf) | exact HB.out)) hb);clear HB;have HO111:=n0_;have HB:=n1_;clear n0_ n1_;clear hb ho3;obtain ⟨Ao4,co4,eo4⟩:=Kd.R_slice HO111.out;subst eo4))
 go_loopg [7] k (fun kq v7 w' => ∃ (x7_1:Int),v7 = .int .i64 x7_1 ∧ Aside0 (u2g.l0 kq a0 y109 (y109.length:Int) x7_1 = some r) ∧ Aside0 (kq ≤ k) ∧ Aside0 (Kd.R Kd.string 9 w' w.heap.size (fun _ => True) (.slice Ao4 y109.length co4) y109) ∧ Aside0 (Below w.heap.size w w'))
 case atStart => exact ⟨(0),(by first | rfl | (simp;done) | (simp [*];done)),H',⟨Nat.le_refl _⟩,⟨by (with_reducible repeat (first | apply Kd.R_alloc | apply Kd.R_drewN | apply Kd.R_drew));exact HO111.out⟩,⟨by repeat (first | (with_reducible first | exact HB.out | apply ud | apply ub | apply uf) | exact HB.out)⟩⟩
 case round =>
  clear H'
  try clear p2
  try clear c3
  obtain ⟨x7_1,rfl,HA,HK1,HO_5,HB⟩:=hrel
  cases gk with
  | zero => exact absurd HA.out (by simp [u2g.l0])
  | succ k1 =>
    have H:=HA.out
    clear HA
    simp only [u2g.l0] at H
    by_cases c5:x7_1 < (y109.length:Int)
    · rw [if_pos c5] at H
      have c5b0:decide (x7_1 < (y109.length:Int)) = true:=decide_eq_true c5
      clear c5
      by_cases c6:0 ≤ x7_1
      · rw [if_pos c6] at H
        have c6b0:decide (0 ≤ x7_1) = true:=decide_eq_true c6
        clear c6
        by_cases c7:x7_1 < (y109.length:Int)
        · rw [if_pos c7] at H
          have c7b0:decide (x7_1 < (y109.length:Int)) = true:=decide_eq_true c7
          clear c7
          by_cases c8:a0.toList = (rdOf ByteArray.empty y109 x7_1).toList
          · rw [if_pos c8] at H
            have c8b0:(a0.toList == (rdOf ByteArray.empty y109 x7_1).toList) = true:=beq_iff_eq.mpr c8
            have c8b1:(a0.toList != (rdOf ByteArray.empty y109 x7_1).toList) = false:=bne_eq_false_iff_eq.mpr c8
            clear c8
            obtain rfl:=Option.some.inj H
            have p112:0 ≤ (x7_1:Int):=of_decide_eq_true (by first | (with_reducible assumption) | assumption)
            have q112:x7_1 < (y109.length:Int):=of_decide_eq_true (by first | (with_reducible assumption) | assumption)
            obtain ⟨ad112,e112,hx112_0⟩:=Kd.at_string (Kd.R_reads' HO_5.out).2.2 x7_1 p112 q112
            cases e112
            replace p112:=eq_true p112
            replace q112:=eq_true q112
            go_wp2
            go_ret
            exact ⟨by first | rfl | (simp [u1x,u1y] <;> rfl) | (simp [*,u1x,u1y] <;> rfl),by repeat (first | (with_reducible first | exact HB.out | apply ud | apply ub | apply uf) | exact HB.out)⟩
          · rw [if_neg c8] at H
            have c8b0:(a0.toList == (rdOf ByteArray.empty y109 x7_1).toList) = false:=beq_eq_false_iff_ne.mpr c8
            have c8b1:(a0.toList != (rdOf ByteArray.empty y109 x7_1).toList) = true:=bne_iff_ne.mpr c8
            have H':=Aside0.mk H
            clear H
            have p112:0 ≤ (x7_1:Int):=of_decide_eq_true (by first | (with_reducible assumption) | assumption)
            have q112:x7_1 < (y109.length:Int):=of_decide_eq_true (by first | (with_reducible assumption) | assumption)
            obtain ⟨ad112,e112,hx112_0⟩:=Kd.at_string (Kd.R_reads' HO_5.out).2.2 x7_1 p112 q112
            cases e112
            replace p112:=eq_true p112
            replace q112:=eq_true q112
            go_wp2
            go_roundg k1
            case measure => have:=HK1.out;omega
            case rel => exact ⟨(wrap64 (x7_1 + 1)),(by first | rfl | (simp;done) | (simp [*];done)),H',⟨by have:=HK1.out;omega⟩,⟨by (with_reducible repeat (first | apply Kd.R_alloc | apply Kd.R_drewN | apply Kd.R_drew));exact HO_5.out⟩,⟨by repeat (first | (with_reducible first | exact HB.out | apply ud | apply ub | apply uf) | exact HB.out)⟩⟩
        · rw [if_neg c7] at H
          exact absurd H (by simp)
      · rw [if_neg c6] at H
        exact absurd H (by simp)
    · rw [if_neg c5] at H
      have c5b0:decide (x7_1 < (y109.length:Int)) = false:=decide_eq_false c5
      clear c5
      obtain rfl:=Option.some.inj H
      go_wp2
      go_ret
      exact ⟨by first | rfl | (simp [u1x,u1y] <;> rfl) | (simp [*,u1x,u1y] <;> rfl),by repeat (first | (with_reducible first | exact HB.out | apply ud | apply ub | apply uf) | exact HB.out)⟩
end Go.Proofs.YtmcpeifhapekoaaGreatDoor.PAll
namespace Go.Proofs.YtmcpeifhapekoaaGreatDoor.Tx
open Go.RowKit Go.Proofs.YtmcpeifhapekoaaGreatDoor.PAll Go.Proofs.YtmcpeifhapekoaaGreatDoorW.PrintWords Go.Proofs.YtmcpeifhapekoaaGreatDoorW.PrintLast
set_option linter.unusedVariables false
set_option linter.unusedSimpArgs false
abbrev Lb:=S66
abbrev B8:=List UInt8
def wordC (c:UInt8):Bool:=Base.letterB (c.toNat:Int) || Base.digitB (c.toNat:Int)
def blankC (c:UInt8):Bool:=decide (c = 32) || decide (c = 9)
def decC (c:UInt8):Bool:=decide (48 ≤ c.toNat) && decide (c.toNat ≤ 57)
def hexC (c:UInt8):Bool:=decC c || (decide (97 ≤ c.toNat) && decide (c.toNat ≤ 102))
def digC (h:Bool) (c:UInt8):Bool:=if h then hexC c else decC c
def digV (c:UInt8):Int:=if 97 ≤ c.toNat then (c.toNat:Int) - 87 else (c.toNat:Int) - 48
def numL (base:Int):B8 → Int → Option Int
 | [],n => some n
 | c :: r,n => if n ≤ (18446744073709551615 - digV c) / base then numL base r (n * base + digV c) else none
def digitsP (h:Bool) (most:Nat) (s:B8):Option (B8 × B8) :=
 if (s.takeWhile (digC h)) ≠ [] ∧ (s.takeWhile (digC h)).length ≤ most then some (s.takeWhile (digC h),s.dropWhile (digC h)) else none
def valueD (h:Bool) (most:Nat) (base:Int) (s:B8):Option (Int × B8):=(digitsP h most s).bind fun p => (numL base p.1 0).map fun n => (n,p.2)
def valueP (s:B8):Option (Int × B8):=match s with
 | 48 :: 120 :: r => valueD true 16 16 r
 | _ => valueD false 20 10 s
def timeP (s:B8):Option (Int × B8):=match s with
 | 45 :: r => (valueD false 19 10 r).bind fun p => if p.1 ≤ 9223372036854775808 then some (-p.1,p.2) else none
 | _ => (valueD false 19 10 s).bind fun p => if p.1 < 9223372036854775808 then some p else none
def nameP (s:B8):Option (ByteArray × B8):=if Base.nameB (Base.ofL (s.takeWhile wordC)) = true then some (Base.ofL (s.takeWhile wordC),s.dropWhile wordC) else none
def expectP (p:B8) (s:B8):Option B8:=if p.isPrefixOf s = true then some (s.drop p.length) else none
def quotedP (s:B8):Option (ByteArray × B8):=match s with
 | [] => none
 | c :: r => if c = 34 then (Base.unqL r []).map fun p => (Base.ofL p.1,p.2) else none
def valP (s:B8):Option (ByteArray × B8):=(expectP [61] s).bind quotedP
def labelP (s:B8):Option (Lb × B8):=(nameP s).bind fun p => (valP p.2).map fun q => (⟨p.1,q.1⟩,q.2)
def labelsP:Nat → List Lb → B8 → Option (List Lb × B8)
 | 0,_,_ => none
 | n + 1,acc,s => match s with
   | 44 :: r => if acc.length ≤ 8 then (labelP r).bind fun p => labelsP n (acc ++ [p.1]) p.2 else none
   | _ => some (acc,s)
def bracesP (s:B8):Option (List Lb × B8):=(expectP [123] s).bind fun r => (labelP r).bind fun p => (labelsP s.length [p.1] p.2).bind fun q => (expectP [125] q.2).map fun t => (q.1,t)
def less (a b:ByteArray):Bool:=Op.bytesLess a.data.toList b.data.toList
def insR (x:Lb):List Lb → List Lb
 | [] => [x]
 | y :: r => if less x.f0 y.f0 = true then y :: insR x r else x :: y :: r
def sortP (l:List Lb):List Lb:=(l.foldl (fun r x => insR x r) []).reverse
def metric:ByteArray:=Base.ofL [95,95,110,97,109,101,95,95]
def headP (s:B8):Option (List Lb × B8):=match s with
 | [] => some ([],[])
 | c :: r => if wordC c = true then (nameP s).map fun p => ([⟨metric,p.1⟩],p.2) else some ([],s)
def restP (l:List Lb) (s:B8):Option (List Lb × B8):=match s with
 | 123 :: _ => (bracesP s).map fun q => (l ++ q.1,q.2)
 | _ => some (l,s)
def labsP (s:B8):Option (List Lb × B8):=(headP s).bind fun p => restP p.1 p.2
def endP (s:B8) (now:Int):Option (Int × Int) :=
 if s.takeWhile blankC = [] then none else (valueP (s.dropWhile blankC)).bind fun p =>
  if p.2.dropWhile blankC = [] then some (now,p.1) else if p.2.takeWhile blankC = [] then none else
   (timeP (p.2.dropWhile blankC)).bind fun q => if q.2.dropWhile blankC = [] then some (q.1,p.1) else none
abbrev Rw:=S53
abbrev Me:=ByteArray × ByteArray × ByteArray
def helpW:B8:=[35,32,72,69,76,80,32]
def typeW:B8:=[35,32,84,89,80,69,32]
def kinds:List B8:=[[99,111,117,110,116,101,114],[103,97,117,103,101],[104,105,115,116,111,103,114,97,109],[115,117,109,109,97,114,121],[117,110,116,121,112,101,100]]
def knownL (s:B8):Bool:=kinds.contains s
def plainL (s:B8):Bool:=s.all fun c => decide (32 ≤ c.toNat)
def me0:Me:=(Base.ofL [],Base.ofL [],Base.ofL [])
def remarkP (s:B8):Option Me:=if (helpW.isPrefixOf s || typeW.isPrefixOf s) = true then
    (nameP (s.drop 7)).bind fun p => (expectP [32] p.2).bind fun r => if typeW.isPrefixOf s = true then (if knownL r = true then some (p.1,Base.ofL r,Base.ofL []) else none) else if plainL r = true then some (p.1,Base.ofL [],Base.ofL r) else none
 else some me0
def sampleP (can:List Lb → Bool) (s:B8) (now:Int):Option Rw:=(labsP s).bind fun p => if can (sortP p.1) = true then (endP p.2 now).map fun q => ⟨sortP p.1,q.1,q.2⟩ else none
def readP (can:List Lb → Bool) (s:B8) (now:Int):Option Rw × Me × Int :=
 if s.length > 1000 then (none,me0,4) else if s.contains 10 = true then (none,me0,280) else match s with
  | 35 :: _ => (match remarkP s with | none => (none,me0,280) | some m => (none,m,0))
  | _ => if s.all blankC = true then (none,me0,0) else match sampleP can s now with | none => (none,me0,280) | some r => (some r,me0,0)
theorem tw_step {α:Type} (p:α → Bool):∀ (s:List α) (i:Nat) (h:i ≤ (s.takeWhile p).length) (hi:i < s.length),(p s[i] = true → i + 1 ≤ (s.takeWhile p).length) ∧ (p s[i] = false → i = (s.takeWhile p).length)
 | c :: s,i,h,hi => by
   by_cases hc:p c = true
   · rw [List.takeWhile_cons,if_pos hc,List.length_cons] at h ⊢
     cases i with
     | zero => exact ⟨fun _ => by omega,fun h9 => by rw [List.getElem_cons_zero,hc] at h9;cases h9⟩
     | succ i =>
       obtain ⟨g1,g2⟩:=tw_step p s i (by omega) (by rw [List.length_cons] at hi;omega)
       rw [List.getElem_cons_succ]
       exact ⟨fun h9 => by have:=g1 h9;omega,fun h9 => by have:=g2 h9;omega⟩
   · rw [List.takeWhile_cons,if_neg hc,List.length_nil] at h ⊢
     obtain rfl:i = 0:=by omega
     rw [List.getElem_cons_zero]
     exact ⟨fun h9 => absurd h9 hc,fun _ => rfl⟩
theorem tw_le {α:Type} (p:α → Bool):∀ s:List α,(s.takeWhile p).length ≤ s.length
 | [] => Nat.le_refl _
 | c :: s => by
   have:=tw_le p s
   rw [List.takeWhile_cons]
   split
   · rw [List.length_cons,List.length_cons]
     omega
   · exact Nat.zero_le _
theorem tw_take {α:Type} (p:α → Bool):∀ s:List α,s.take (s.takeWhile p).length = s.takeWhile p ∧ s.drop (s.takeWhile p).length = s.dropWhile p
 | [] => ⟨rfl,rfl⟩
 | c :: s => by
   obtain ⟨h1,h2⟩:=tw_take p s
   rw [List.takeWhile_cons,List.dropWhile_cons]
   by_cases hc:p c = true
   · rw [if_pos hc,if_pos hc,List.length_cons,List.take_succ_cons,List.drop_succ_cons,h1,h2]
     exact ⟨rfl,rfl⟩
   · rw [if_neg hc,if_neg hc]
     exact ⟨rfl,rfl⟩
theorem cut_ofL (s:B8) (n:Nat) (h:n ≤ s.length):(Base.ofL s).extract 0 n = Base.ofL (s.take n) ∧ (Base.ofL s).extract n (Base.ofL s).size = Base.ofL (s.drop n) ∧ (Base.ofL s).size = s.length:=by
 refine ⟨Base.ext_data ?_,Base.ext_data ?_,?_⟩
 · rw [Base.extract_list,Base.ofL_data,Base.ofL_data,List.drop_zero,Nat.sub_zero]
 · rw [Base.extract_rest,Base.ofL_data,Base.ofL_data]
 · rw [← u2f,Base.ofL_data]
theorem insR_pass (x:Lb):∀ (A R:List Lb),(∀ y ∈ A,less x.f0 y.f0 = true) → insR x (A ++ R) = A ++ insR x R
 | [],R,_ => rfl
 | y :: A,R,h => by
   rw [List.cons_append,List.cons_append]
   conv => lhs;unfold insR
   rw [if_pos (h y (List.mem_cons_self ..)),insR_pass x A R (fun z hz => h z (List.mem_cons_of_mem _ hz))]
theorem insR_stop (x:Lb) (R:List Lb) (h:∀ y,R.head? = some y → ¬ less x.f0 y.f0 = true):insR x R = x :: R:=by
 cases R with
 | nil => rfl
 | cons y R =>
   unfold insR
   rw [if_neg (h y rfl)]
def sortedTo (l:List Lb) (i:Nat):List Lb:=((l.take i).foldl (fun r x => insR x r) []).reverse
theorem sortedTo_all (l:List Lb):sortedTo l l.length = sortP l:=by
 unfold sortedTo sortP
 rw [List.take_length]
theorem sortedTo_next (l:List Lb) (i:Nat) (hi:i < l.length) (a b:List Lb) (hab:sortedTo l i = a ++ b) (hb:∀ y ∈ b,less l[i].f0 y.f0 = true) (ha:∀ y,a.getLast? = some y → ¬ less l[i].f0 y.f0 = true):sortedTo l (i + 1) = a ++ l[i] :: b:=by
 unfold sortedTo at hab ⊢
 rw [List.take_succ_eq_append_getElem hi,List.foldl_append]
 have e:(l.take i).foldl (fun r x => insR x r) [] = b.reverse ++ a.reverse:=by
  rw [← List.reverse_append,← hab,List.reverse_reverse]
 rw [e]
 show (insR l[i] (b.reverse ++ a.reverse)).reverse = _
 rw [insR_pass _ _ _ (fun y hy => hb y (List.mem_reverse.1 hy)),insR_stop _ _ (fun y hy => ha y (by rw [List.head?_reverse] at hy;exact hy))]
 simp
theorem sortedTo_len (l:List Lb) (i:Nat) (hi:i ≤ l.length):(sortedTo l i).length = i:=by
 have ins_len:∀ (x:Lb) (r:List Lb),(insR x r).length = r.length + 1:=fun x r => by
  induction r with
  | nil => rfl
  | cons y r ih =>
    unfold insR
    split
    · rw [List.length_cons,ih,List.length_cons]
    · rfl
 have:∀ (m r:List Lb),(m.foldl (fun r x => insR x r) r).length = r.length + m.length:=fun m => by
  induction m with
  | nil => exact fun r => rfl
  | cons x m ih =>
    intro r
    rw [List.foldl_cons,ih,ins_len,List.length_cons]
    omega
 unfold sortedTo
 rw [List.length_reverse,this,List.length_take,List.length_nil]
 omega
theorem vr_nat (s:ByteArray) (pos:Nat):∃ c:Nat,((Utf8.decode s pos).1:Int) = (c:Int) ∧ c ≤ 1114111 ∧ (c < 55296 ∨ 57344 ≤ c):=by
 refine ⟨_,rfl,?_⟩
 rw [Lib.decode_N]
 rcases Lib.decodeN_shape (s.data.toList.length - pos) (s.data.toList.getD pos 0).toNat (s.data.toList.getD (pos + 1) 0).toNat (s.data.toList.getD (pos + 2) 0).toNat (s.data.toList.getD (pos + 3) 0).toNat with ⟨c,e⟩ | ⟨c1,c2,c3,cv,e⟩ | ⟨c1,c2,c3,c4,cv,cs,e⟩ | ⟨c1,c2,c3,c4,c5,cv,cw,e⟩ | e
 all_goals (rw [e];dsimp only;omega)
theorem of_nat (n:Nat) (h:n < 256):(UInt8.ofNat n).toNat = n:=by
 rw [UInt8.toNat_ofNat']
 omega
theorem rune_bytes {c:Nat} (h1:c ≤ 1114111) (h2:c < 55296 ∨ 57344 ≤ c) (h0:32 ≤ c):∀ b ∈ Lib.encodeRune (c:Int),32 ≤ b.toNat:=by
 intro b hb
 unfold Lib.encodeRune at hb
 have hl:∀ (l:List Int),b ∈ l.map (fun n => UInt8.ofNat n.toNat) → (∀ n ∈ l,32 ≤ n ∧ n < 256) → 32 ≤ b.toNat:=by
  intro l h g
  obtain ⟨n,hn,rfl⟩:=List.mem_map.1 h
  have:=g n hn
  rw [of_nat _ (by omega)]
  omega
 by_cases c1:c < 128
 · rw [Lib.encodeRuneZ_one (by omega) (by omega)] at hb
   exact hl _ hb (fun n hn => by simp at hn;omega)
 · by_cases c2:c < 2048
   · rw [Lib.encodeRuneZ_two (by omega) (by omega)] at hb
     exact hl _ hb (fun n hn => by simp at hn;omega)
   · by_cases c3:c < 65536
     · rw [Lib.encodeRuneZ_three (by omega)] at hb
       exact hl _ hb (fun n hn => by simp at hn;omega)
     · rw [Lib.encodeRuneZ_four (by omega) (by omega)] at hb
       exact hl _ hb (fun n hn => by simp at hn;omega)
theorem plain_from (s:ByteArray):∀ (f pos:Nat),s.size - pos ≤ f → (∀ r ∈ Base.runesFrom s f pos,32 ≤ r ∧ r ≠ 65533) → ∀ b ∈ s.data.toList.drop pos,32 ≤ b.toNat:=by
 intro f
 induction f with
 | zero =>
   intro pos h hn b hb
   rw [List.drop_eq_nil_of_le (by rw [u2f];omega)] at hb
   cases hb
 | succ f ih =>
   intro pos h hn b hb
   by_cases hlt:pos < s.size
   · have hw:=Base.width_pos s pos hlt
     rw [Base.runesFrom_step s f pos hlt] at hn
     have hr:=hn _ (List.mem_cons_self ..)
     have hne:s.data.toList.drop pos ≠ []:=fun h9 => by
      have:=List.drop_eq_nil_iff.1 h9
      rw [u2f] at this
      omega
     have h1:=Lib.encode_decode (s.data.toList.drop pos) hne (fun h9 => hr.2 (by rw [Lib.decodeL_drop] at h9;rw [h9.1];rfl))
     rw [Lib.decodeL_drop] at h1
     obtain ⟨c,hc,hc1,hc2⟩:=vr_nat s pos
     rw [← List.take_append_drop (Utf8.decode s pos).2 (s.data.toList.drop pos),← h1] at hb
     rcases List.mem_append.1 hb with hb | hb
     · rw [hc] at hb hr
       exact rune_bytes hc1 hc2 (by omega) b hb
     · rw [List.drop_drop] at hb
       exact ih _ (by omega) (fun r hr => hn r (List.mem_cons_of_mem _ hr)) b hb
   · rw [List.drop_eq_nil_of_le (by rw [u2f];omega)] at hb
     cases hb
theorem value_bytes {s:ByteArray} (h:Base.valueB s = true):∀ b ∈ s.data.toList,32 ≤ b.toNat:=by
 unfold Base.valueB at h
 rw [Bool.and_eq_true,Bool.and_eq_true,List.all_eq_true] at h
 have:=plain_from s s.size 0 (by omega) (fun r hr => by
  have h9:=h.1.1 r hr
  unfold Base.plainB at h9
  simp only [Bool.and_eq_true,decide_eq_true_eq,Bool.not_eq_true',decide_eq_false_iff_not] at h9
  exact ⟨h9.1.1,h9.2⟩)
 simpa using this
end Go.Proofs.YtmcpeifhapekoaaGreatDoor.Tx
namespace Go.Proofs.YtmcpeifhapekoaaGreatDoor.PAll
open Go.RowKit Go.Proofs.YtmcpeifhapekoaaGreatDoorW.PrintWords Go.Proofs.YtmcpeifhapekoaaGreatDoorW.PrintLast Go.Proofs.YtmcpeifhapekoaaGreatDoorW.PrintMore
attribute [local go_sem] max2_int min2_int max_two min_two max_three min_three max_four min_four
set_option linter.unusedVariables false
set_option linter.unusedSimpArgs false
def u2s.badB (c:Int):Bool:=decide (c < 32)
theorem u2s.test (c:Int) (w:World):Calls Tryz.prog 59 #[.int .u8 c] w fun e w' => e = .returned (.bool (u2s.badB c)) ∧ uy w w':=by
 unfold u2s.badB
 go_enter Tryz.func59,Tryz.ntmps59
 go_wp2
 go_ret
 exact ⟨rfl,⟨0,rfl⟩⟩
set_option maxHeartbeats 1000000 in
theorem u2s.index (A:Option Addr) (c:Nat) (l:List Int) (w:World) (hr:Kd.C (Kd.int .u8) w A l.length l) (hm:l.length ≤ 140737488355328) :
 Calls Tryz.prog 104 #[.slice A l.length c,.func (.func 59) #[] #[]] w fun e w' => (∃ i:Int,e = .returned (.int .i64 i) ∧ decide (0 ≤ i) = l.any u2s.badB) ∧ uy w w':=by
 have HR:=Aside0.mk hr
 clear hr
 go_enter Tryz.func104,Tryz.ntmps104
 go_wp2
 go_loopg [8] (l.length) (fun kq v8 w' => ∃ (x:Nat),x ≤ l.length ∧ v8 = .int .i64 x ∧ Aside0 ((l.take x).any u2s.badB = false) ∧ l.length ≤ kq + x ∧ uy w w')
 case atStart => exact ⟨0,by omega,rfl,⟨rfl⟩,by omega,uy.refl _⟩
 case round =>
  obtain ⟨x,hx,rfl,HN,hk,⟨m1,rfl⟩⟩:=hrel
  by_cases hlt:x < l.length
  · obtain ⟨ad,e,hc⟩:=Kd.at_int HR.out (x:Int) (by omega) (by omega)
    subst e
    have hc2:w.cell? (ad.add x) = some (.int .u8 (rd l x)):=by simpa using hc
    clear hc
    have htk:l.take (x + 1) = l.take x ++ [rd l x]:=by
     rw [List.take_succ_eq_append_getElem hlt]
     simp [rd,List.getD_eq_getElem?_getD,hlt]
    have HT:=Aside0.mk htk
    clear htk
    cases hb:u2s.badB (rd l x) with
    | true =>
      go_wp2_with (go_at_call 59;refine (u2s.test _ _).mono ?_;rintro e W1 ⟨rfl,⟨nd,rfl⟩⟩)
      go_ret
      refine ⟨⟨_,rfl,?_⟩,⟨_,rfl⟩⟩
      have h1:l.any u2s.badB = true:=by
       rw [List.any_eq_true]
       refine ⟨rd l x,?_,hb⟩
       have h2:rd l x ∈ l.take (x + 1):=by rw [HT.out];simp
       exact List.mem_of_mem_take h2
      rw [h1]
      simp
    | false =>
      go_wp2_with (go_at_call 59;refine (u2s.test _ _).mono ?_;rintro e W1 ⟨rfl,⟨nd,rfl⟩⟩)
      obtain ⟨g1,rfl⟩:∃ g1,gk = g1 + 1:=⟨gk - 1,by omega⟩
      go_roundg g1
      case rel =>
       refine ⟨x + 1,by omega,by go_num,⟨?_⟩,by omega,⟨_,rfl⟩⟩
       rw [HT.out,List.any_append,HN.out]
       simp [hb]
      case measure => omega
  · go_wp2
    go_ret
    refine ⟨⟨_,rfl,?_⟩,⟨_,rfl⟩⟩
    have h1:=HN.out
    rw [List.take_of_length_le (by omega)] at h1
    rw [h1]
    simp
theorem u2s.contains (A:Option Addr) (c:Nat) (l:List Int) (w:World) (hr:Kd.C (Kd.int .u8) w A l.length l) (hm:l.length ≤ 140737488355328) :
 Calls Tryz.prog 56 #[.slice A l.length c,.func (.func 59) #[] #[]] w fun e w' => e = .returned (.bool (l.any u2s.badB)) ∧ uy w w':=by
 go_enter Tryz.func56,Tryz.ntmps56
 go_wp2_with (go_at_call 104;refine (u2s.index _ _ _ _ hr hm).mono ?_;rintro e W1 ⟨⟨i,rfl,hi⟩,⟨nd,rfl⟩⟩)
 go_ret
 exact ⟨by simp,⟨_,rfl⟩⟩
theorem u2s.contains_n (A:Option Addr) (c n:Nat) (l:List Int) (w:World) (hn:l.length = n) (hr:Kd.C (Kd.int .u8) w A n l) (hm:n ≤ 140737488355328) :
 Calls Tryz.prog 56 #[.slice A n c,.func (.func 59) #[] #[]] w fun e w' => e = .returned (.bool (l.any u2s.badB)) ∧ uy w w':=by
 subst hn
 exact u2s.contains A c l w hr hm
set_option maxHeartbeats 1000000 in
theorem u2s.calls (s:List UInt8) (hl:s.length ≤ 140737488351232) (w:World) :
 Calls Tryz.prog 31 #[.string (Base.ofL s)] w fun e w' => e = .returned (.bool (Tx.plainL s)) ∧ Below w.heap.size w w':=by
 obtain ⟨a0,ha⟩:∃ a0,a0 = Base.ofL s:=⟨_,rfl⟩
 have hsz:a0.size = s.length:=by rw [ha];exact (Tx.cut_ofL s 0 (by omega)).2.2
 have HV:Aside0 (Tx.plainL s = !(bytesOf a0).any u2s.badB):=⟨by
  unfold Tx.plainL bytesOf
  rw [ha,Base.ofL_data,List.all_eq_not_any_not,List.any_map]
  congr 2
  funext c
  unfold u2s.badB
  simp only [Function.comp]
  rw [Bool.eq_iff_iff]
  simp
  omega⟩
 rw [← ha,HV.out]
 clear HV ha
 have hsz2:a0.size ≤ 140737488351232:=by omega
 clear hsz hl
 have kb:=fun W => print_bytes (P:=Tryz.prog) 9 22 5 Tryz.underlying9 Tryz.underlying22 Tryz.underlying5 a0 W
 have hr:=Aside0.mk (bytes_reads w 5 a0 (by omega))
 have hc:Aside0 (Kd.C (Kd.int .u8) (Lib.bytesWorld w 5 a0) (some ⟨w.heap.size,0,none⟩) a0.size (bytesOf a0)):=⟨Kd.C_of_reads (d:=(0:Int)) (h1:=fun _ => rfl) hr.out⟩
 go_enter Tryz.func31,Tryz.ntmps31
 go_wp2_with (go_at_call 56;refine (u2s.contains_n _ _ _ _ _ (bytesOf_length a0) hc.out (by omega)).mono ?_;rintro e W2 ⟨rfl,⟨md,rfl⟩⟩)
 go_ret
 exact ⟨rfl,ub (bytes_below (Below.refl _ _) (Nat.le_refl _) _ _) md⟩
theorem u1d.fin_named:∀ n:Fin 256,text_named.f (n.val:Int) = some (Tx.wordC (UInt8.ofNat n.val)):=by decide +kernel
theorem u1d.fin_blank:∀ n:Fin 256,text_blank.f (n.val:Int) = some (Tx.blankC (UInt8.ofNat n.val)):=by decide +kernel
theorem u1d.is_named (c:UInt8):text_named.f (c.toNat:Int) = some (Tx.wordC c):=by
 have:=u1d.fin_named ⟨c.toNat,c.toNat_lt⟩
 rwa [UInt8.ofNat_toNat] at this
theorem u1d.is_blank (c:UInt8):text_blank.f (c.toNat:Int) = some (Tx.blankC c):=by
 have:=u1d.fin_blank ⟨c.toNat,c.toNat_lt⟩
 rwa [UInt8.ofNat_toNat] at this
theorem u1d.test_named (c:UInt8) (z:Int) (hz:(c.toNat:Int) = z) (W:World):Calls Tryz.prog 91 #[.int .u8 z] W fun e W' => e = .returned (.bool (Tx.wordC c)) ∧ uy W W':=by
 subst hz
 exact text_named.calls _ _ _ (u1d.is_named c)
theorem u1d.test_blank (c:UInt8) (z:Int) (hz:(c.toNat:Int) = z) (W:World):Calls Tryz.prog 97 #[.int .u8 z] W fun e W' => e = .returned (.bool (Tx.blankC c)) ∧ uy W W':=by
 subst hz
 exact text_blank.calls _ _ _ (u1d.is_blank c)
set_option maxRecDepth 100000 in
theorem u1d.test_dig (hxb:Bool) (hb:Nat) (c:UInt8) (z:Int) (hz:(c.toNat:Int) = z) (W:World) (hcb:W.heap[hb]? = some (.cells #[.bool hxb] 4 (0,0))):Calls Tryz.prog 147 #[.int .u8 z,.pointer (some ⟨hb,0,none⟩)] W fun e W' => e = .returned (.bool (Tx.digC hxb c)) ∧ uy W W':=by
 subst hz
 have h0:=um hcb 0
 simp only [List.size_toArray,List.length_cons,List.length_nil,List.getElem?_toArray,List.getElem?_cons_zero] at h0
 clear hcb
 obtain ⟨n,hn⟩:∃ n:Nat,n = c.toNat:=⟨_,rfl⟩
 have HB:Aside0 (Tx.digC hxb c = if hxb = true then ((decide (48 ≤ n) && decide (n ≤ 57)) || (decide (97 ≤ n) && decide (n ≤ 102))) else (decide (48 ≤ n) && decide (n ≤ 57))):=⟨by rw [hn];rfl⟩
 rw [HB.out,← hn]
 clear hn HB
 by_cases h1:48 ≤ n
 · by_cases h2:n ≤ 57
   · have h3:¬ 97 ≤ n:=by omega
     cases hxb <;> (go_enter Tryz.func147,Tryz.ntmps147;go_wp2;go_ret;exact ⟨by first | (simp [h1,h2];done) | (simp [h1,h2];omega),0,rfl⟩)
   · by_cases h3:97 ≤ n
     · by_cases h4:n ≤ 102
       · cases hxb <;> (go_enter Tryz.func147,Tryz.ntmps147;go_wp2;go_ret;exact ⟨by first | (simp [h1,h2,h3,h4];done) | (simp [h1,h2,h3,h4];omega),0,rfl⟩)
       · cases hxb <;> (go_enter Tryz.func147,Tryz.ntmps147;go_wp2;go_ret;exact ⟨by first | (simp [h1,h2,h3,h4];done) | (simp [h1,h2,h3,h4];omega),0,rfl⟩)
     · cases hxb <;> (go_enter Tryz.func147,Tryz.ntmps147;go_wp2;go_ret;exact ⟨by first | (simp [h1,h2,h3];done) | (simp [h1,h2,h3];omega),0,rfl⟩)
 · have h3:¬ 97 ≤ n:=by omega
   cases hxb <;> (go_enter Tryz.func147,Tryz.ntmps147;go_wp2;go_ret;exact ⟨by first | (simp [h1,h3];done) | (simp [h1,h3];omega),0,rfl⟩)
theorem u1d.fin (p:UInt8 → Bool) {w0 W:World} {g:Nat} {s:List UInt8} (h:ua.St w0 W g s) (x n:Nat) (hx:x = (s.takeWhile p).length):Ending.returned (.string ((Base.ofL s).extract 0 x)) = .returned (.string (Base.ofL (s.takeWhile p))) ∧
 ua.St w0 ((W.drewN n).setCell ⟨g,0,none⟩ (.string ((Base.ofL s).extract x s.length))) g (s.dropWhile p) ∧ u1q W ((W.drewN n).setCell ⟨g,0,none⟩ (.string ((Base.ofL s).extract x s.length))) g none:=by
 have hle:=Tx.tw_le p s
 obtain ⟨c1,c2,c3⟩:=Tx.cut_ofL s x (by omega)
 obtain ⟨t1,t2⟩:=Tx.tw_take p s
 rw [← hx] at t1 t2
 rw [c3] at c2
 rw [c1,c2,t1,t2]
 exact ⟨rfl,(h.drew n).set _,(u1q.of_below (ub (Below.refl _ _) n) g none).set_ 0 _⟩
set_option maxHeartbeats 1000000 in
set_option maxRecDepth 100000 in
theorem u1d.calls_named (w0 W:World) (g:Nat) (s:List UInt8) (hl:s.length ≤ 4611686018427387904) (h:ua.St w0 W g s) :
 Calls Tryz.prog 96 #[.pointer (some ⟨g,0,none⟩),.func (.func 91) #[] #[]] W fun e W' => e = .returned (.string (Base.ofL (s.takeWhile Tx.wordC))) ∧ ua.St w0 W' g (s.dropWhile Tx.wordC) ∧ u1q W W' g none:=by
 have HS:=Aside0.mk h
 obtain ⟨h0,f0⟩:=h.look
 clear h
 have hsz:(Base.ofL s).size = s.length:=(Tx.cut_ofL s 0 (by omega)).2.2
 go_enter Tryz.func96,Tryz.ntmps96
 go_wp2
 go_loopg [5] (s.length) (fun kq vn wr => ∃ (x:Nat),x ≤ (s.takeWhile Tx.wordC).length ∧ vn = .int .i64 x ∧ s.length ≤ kq + x ∧ uy W wr)
 case atStart => exact ⟨0,by omega,rfl,by omega,uy.refl _⟩
 case round =>
  obtain ⟨x,hx,rfl,hk,⟨m1,rfl⟩⟩:=hrel
  have hle:=Tx.tw_le Tx.wordC s
  by_cases hlt:x < s.length
  · have hst:=Tx.tw_step Tx.wordC s x hx hlt
    obtain ⟨z,HZ⟩:∃ z:Int,Aside0 ((s[x].toNat:Int) = z):=⟨_,⟨rfl⟩⟩
    have hbt:(((Base.ofL s)[x]'(by rw [hsz];exact hlt)).toNat:Int) = z:=HZ.out
    cases hp:Tx.wordC s[x] with
    | true =>
      have hx1:=hst.1 hp
      clear hst
      go_wp2_with (go_at_call 91;refine (u1d.test_named _ _ HZ.out _).mono ?_;rintro e W1 ⟨rfl,⟨nd,rfl⟩⟩)
      obtain ⟨g1,rfl⟩:∃ g1,gk = g1 + 1:=⟨gk - 1,by omega⟩
      go_roundg g1
      case rel => exact ⟨x + 1,hx1,by go_num,by omega,⟨_,rfl⟩⟩
      case measure => omega
    | false =>
      have HX:=Aside0.mk (hst.2 hp)
      clear hst
      go_wp2_with (go_at_call 91;refine (u1d.test_named _ _ HZ.out _).mono ?_;rintro e W1 ⟨rfl,⟨nd,rfl⟩⟩)
      go_ret
      exact u1d.fin Tx.wordC HS.out x _ HX.out
  · have HX:Aside0 (x = (s.takeWhile Tx.wordC).length):=⟨by omega⟩
    go_wp2
    go_ret
    exact u1d.fin Tx.wordC HS.out x _ HX.out
set_option maxHeartbeats 1000000 in
set_option maxRecDepth 100000 in
theorem u1d.calls_blank (w0 W:World) (g:Nat) (s:List UInt8) (hl:s.length ≤ 4611686018427387904) (h:ua.St w0 W g s) :
 Calls Tryz.prog 96 #[.pointer (some ⟨g,0,none⟩),.func (.func 97) #[] #[]] W fun e W' => e = .returned (.string (Base.ofL (s.takeWhile Tx.blankC))) ∧ ua.St w0 W' g (s.dropWhile Tx.blankC) ∧ u1q W W' g none:=by
 have HS:=Aside0.mk h
 obtain ⟨h0,f0⟩:=h.look
 clear h
 have hsz:(Base.ofL s).size = s.length:=(Tx.cut_ofL s 0 (by omega)).2.2
 go_enter Tryz.func96,Tryz.ntmps96
 go_wp2
 go_loopg [5] (s.length) (fun kq vn wr => ∃ (x:Nat),x ≤ (s.takeWhile Tx.blankC).length ∧ vn = .int .i64 x ∧ s.length ≤ kq + x ∧ uy W wr)
 case atStart => exact ⟨0,by omega,rfl,by omega,uy.refl _⟩
 case round =>
  obtain ⟨x,hx,rfl,hk,⟨m1,rfl⟩⟩:=hrel
  have hle:=Tx.tw_le Tx.blankC s
  by_cases hlt:x < s.length
  · have hst:=Tx.tw_step Tx.blankC s x hx hlt
    obtain ⟨z,HZ⟩:∃ z:Int,Aside0 ((s[x].toNat:Int) = z):=⟨_,⟨rfl⟩⟩
    have hbt:(((Base.ofL s)[x]'(by rw [hsz];exact hlt)).toNat:Int) = z:=HZ.out
    cases hp:Tx.blankC s[x] with
    | true =>
      have hx1:=hst.1 hp
      clear hst
      go_wp2_with (go_at_call 97;refine (u1d.test_blank _ _ HZ.out _).mono ?_;rintro e W1 ⟨rfl,⟨nd,rfl⟩⟩)
      obtain ⟨g1,rfl⟩:∃ g1,gk = g1 + 1:=⟨gk - 1,by omega⟩
      go_roundg g1
      case rel => exact ⟨x + 1,hx1,by go_num,by omega,⟨_,rfl⟩⟩
      case measure => omega
    | false =>
      have HX:=Aside0.mk (hst.2 hp)
      clear hst
      go_wp2_with (go_at_call 97;refine (u1d.test_blank _ _ HZ.out _).mono ?_;rintro e W1 ⟨rfl,⟨nd,rfl⟩⟩)
      go_ret
      exact u1d.fin Tx.blankC HS.out x _ HX.out
  · have HX:Aside0 (x = (s.takeWhile Tx.blankC).length):=⟨by omega⟩
    go_wp2
    go_ret
    exact u1d.fin Tx.blankC HS.out x _ HX.out
set_option maxHeartbeats 1000000 in
set_option maxRecDepth 100000 in
theorem u1d.calls_dig (hxb:Bool) (hb:Nat) (w0 W:World) (g:Nat) (s:List UInt8) (hl:s.length ≤ 4611686018427387904) (hcb:W.heap[hb]? = some (.cells #[.bool hxb] 4 (0,0))) (hbg:hb ≠ g) (h:ua.St w0 W g s) :
 Calls Tryz.prog 96 #[.pointer (some ⟨g,0,none⟩),.func (.func 147) #[] #[.pointer (some ⟨hb,0,none⟩)]] W fun e W' => e = .returned (.string (Base.ofL (s.takeWhile (Tx.digC hxb)))) ∧ ua.St w0 W' g (s.dropWhile (Tx.digC hxb)) ∧ u1q W W' g none:=by
 have HS:=Aside0.mk h
 have HB:=Aside0.mk hcb
 clear hcb
 obtain ⟨h0,f0⟩:=h.look
 clear h
 have hsz:(Base.ofL s).size = s.length:=(Tx.cut_ofL s 0 (by omega)).2.2
 go_enter Tryz.func96,Tryz.ntmps96
 go_wp2
 go_loopg [5] (s.length) (fun kq vn wr => ∃ (x:Nat),x ≤ (s.takeWhile (Tx.digC hxb)).length ∧ vn = .int .i64 x ∧ s.length ≤ kq + x ∧ uy W wr)
 case atStart => exact ⟨0,by omega,rfl,by omega,uy.refl _⟩
 case round =>
  obtain ⟨x,hx,rfl,hk,⟨m1,rfl⟩⟩:=hrel
  have hle:=Tx.tw_le (Tx.digC hxb) s
  by_cases hlt:x < s.length
  · have hst:=Tx.tw_step (Tx.digC hxb) s x hx hlt
    obtain ⟨z,HZ⟩:∃ z:Int,Aside0 ((s[x].toNat:Int) = z):=⟨_,⟨rfl⟩⟩
    have hbt:(((Base.ofL s)[x]'(by rw [hsz];exact hlt)).toNat:Int) = z:=HZ.out
    cases hp:(Tx.digC hxb) s[x] with
    | true =>
      have hx1:=hst.1 hp
      clear hst
      go_wp2_with (go_at_call 147;refine (u1d.test_dig hxb hb _ _ HZ.out _ (by exact HB.out)).mono ?_;rintro e W1 ⟨rfl,⟨nd,rfl⟩⟩)
      obtain ⟨g1,rfl⟩:∃ g1,gk = g1 + 1:=⟨gk - 1,by omega⟩
      go_roundg g1
      case rel => exact ⟨x + 1,hx1,by go_num,by omega,⟨_,rfl⟩⟩
      case measure => omega
    | false =>
      have HX:=Aside0.mk (hst.2 hp)
      clear hst
      go_wp2_with (go_at_call 147;refine (u1d.test_dig hxb hb _ _ HZ.out _ (by exact HB.out)).mono ?_;rintro e W1 ⟨rfl,⟨nd,rfl⟩⟩)
      go_ret
      exact u1d.fin (Tx.digC hxb) HS.out x _ HX.out
  · have HX:Aside0 (x = (s.takeWhile (Tx.digC hxb)).length):=⟨by omega⟩
    go_wp2
    go_ret
    exact u1d.fin (Tx.digC hxb) HS.out x _ HX.out
theorem u2m.calls_ok (w0 W:World) (g:Nat) (s:List UInt8) (hl:s.length ≤ 4611686018427387904) (n:ByteArray) (r:List UInt8) (hn:Tx.nameP s = some (n,r)) (h:ua.St w0 W g s) :
 Calls Tryz.prog 81 #[.pointer (some ⟨g,0,none⟩)] W fun e W' => e = .returned (.string n) ∧ ua.St w0 W' g r ∧ u1q W W' g none:=by
 unfold Tx.nameP at hn
 split at hn
 · rename_i hN
   obtain ⟨rfl,rfl⟩:=Prod.mk.inj (Option.some.inj hn)
   have HS:=Aside0.mk h
   have HN:Aside0 (u1m.f (Base.ofL (s.takeWhile Tx.wordC)) = some true):=⟨congrArg some hN⟩
   clear h hN hn
   go_enter Tryz.func81,Tryz.ntmps81
   go_wp2_with (first
    | (go_at_call 96;(with_reducible refine (u1d.calls_named w0 _ g s hl HS.out).mono ?_);rintro e W1 ⟨rfl,hs1,hk1⟩;have HS1:=Aside0.mk hs1;have HK1:=Aside0.mk hk1;clear hs1 hk1)
    | (go_at_call 29;(with_reducible refine (u1m.calls _ true _ HN.out).mono ?_);rintro e W2 ⟨rfl,hb⟩;have HB:=Aside0.mk hb;clear hb)
    | (go_at_call 83;(with_reducible refine (u2e.calls_ok _).mono ?_);rintro e W3 ⟨rfl,rfl⟩))
   go_ret
   exact ⟨rfl,HS1.out.more HB.out,HK1.out.trans (u1q.of_below HB.out g none) (Or.inl rfl)⟩
 · cases hn
theorem u2m.calls_no (w0 W:World) (g:Nat) (s:List UInt8) (hl:s.length ≤ 4611686018427387904) (hn:Tx.nameP s = none) (h:ua.St w0 W g s) :
 Calls Tryz.prog 81 #[.pointer (some ⟨g,0,none⟩)] W fun e W' => e = .panicked (u2l.chain 280) ∧ Below w0.heap.size w0 W':=by
 unfold Tx.nameP at hn
 split at hn
 · cases hn
 · rename_i hN
   have HS:=Aside0.mk h
   have HN:Aside0 (u1m.f (Base.ofL (s.takeWhile Tx.wordC)) = some false):=⟨congrArg some (show Base.nameB (Base.ofL (s.takeWhile Tx.wordC)) = false by simpa using hN)⟩
   clear h hN hn
   go_enter Tryz.func81,Tryz.ntmps81
   go_wp2_with (first
    | (go_at_call 96;(with_reducible refine (u1d.calls_named w0 _ g s hl HS.out).mono ?_);rintro e W1 ⟨rfl,hs1,hk1⟩;have HS1:=Aside0.mk hs1;clear hs1 hk1)
    | (go_at_call 29;(with_reducible refine (u1m.calls _ false _ HN.out).mono ?_);rintro e W2 ⟨rfl,hb⟩;have HB:=Aside0.mk hb;clear hb)
    | (go_at_call 83;(with_reducible refine (u2e.calls_no _).mono ?_);rintro e W3 ⟨rfl,rfl⟩))
   exact ⟨rfl,rfl,(HS1.out.more HB.out).below⟩
theorem u1l.txt (d:List UInt8):(Base.ofL d).size = d.length ∧ (d ≠ [] → (Base.ofL d).toList.isEmpty = false ∧ ¬ (Base.ofL d).toList = []) ∧ (d = [] → (Base.ofL d).toList.isEmpty = true ∧ (Base.ofL d).toList = []):=by
 refine ⟨(Tx.cut_ofL d 0 (by omega)).2.2,fun h => ?_,fun h => ?_⟩
 · rw [ByteArray.toList_eq,Base.ofL_data]
   cases d with
   | nil => exact absurd rfl h
   | cons c r => exact ⟨rfl,fun e => by cases e⟩
 · rw [ByteArray.toList_eq,Base.ofL_data,h]
   exact ⟨rfl,rfl⟩
set_option maxRecDepth 100000 in
set_option maxHeartbeats 1000000 in
theorem u1l.calls_ok (w0 W:World) (g:Nat) (hxb:Bool) (most:Nat) (s:List UInt8) (hl:s.length ≤ 1000) (hm:most ≤ 1000) (d r:List UInt8) (hd:Tx.digitsP hxb most s = some (d,r)) (h:ua.St w0 W g s) :
 Calls Tryz.prog 126 #[.pointer (some ⟨g,0,none⟩),.int .i64 (most:Int),.bool hxb] W fun e W' => e = .returned (.string (Base.ofL d)) ∧ ua.St w0 W' g r ∧ u1q W W' g none:=by
 have hmf:∀ (fn:Fn) (first cap:Array Value) (w:World),(Instr.makeFunc fn first cap).run Tryz.prog w = .ok (.func fn first cap) w:=fun _ _ _ _ => rfl
 unfold Tx.digitsP at hd
 split at hd
 · rename_i hc
   obtain ⟨rfl,rfl⟩:=Prod.mk.inj (Option.some.inj hd)
   have HS:=Aside0.mk h
   have HG:=Aside0.mk h.lt
   obtain ⟨t1,t2,_⟩:=u1l.txt (s.takeWhile (Tx.digC hxb))
   obtain ⟨t3,t4⟩:=t2 hc.1
   have t5:decide (((s.takeWhile (Tx.digC hxb)).length:Int) ≤ (most:Int)) = true:=decide_eq_true (by have:=hc.2;omega)
   have t6:decide ((s.takeWhile (Tx.digC hxb)).length ≤ most) = true:=decide_eq_true hc.2
   clear h hd t2 hc
   go_enter Tryz.func126,Tryz.ntmps126
   go_wp2_with (first
    | (go_at_call 96;(with_reducible refine (u1d.calls_dig hxb W.heap.size w0 _ g s (by omega) (by exact ua.new_at W _) (by have:=HG.out;omega) (by exact HS.out.one_more _)).mono ?_);rintro e W1 ⟨rfl,hs1,hk1⟩;have HS1:=Aside0.mk hs1;have HK1:=Aside0.mk hk1;clear hs1 hk1)
    | (go_at_call 83;(with_reducible refine (u2e.calls_ok _).mono ?_);rintro e W3 ⟨rfl,rfl⟩))
   go_ret
   exact ⟨rfl,HS1.out,ua.keep_from HK1.out⟩
 · cases hd
set_option maxRecDepth 100000 in
set_option maxHeartbeats 1000000 in
theorem u1l.calls_no (w0 W:World) (g:Nat) (hxb:Bool) (most:Nat) (s:List UInt8) (hl:s.length ≤ 1000) (hm:most ≤ 1000) (hd:Tx.digitsP hxb most s = none) (h:ua.St w0 W g s) :
 Calls Tryz.prog 126 #[.pointer (some ⟨g,0,none⟩),.int .i64 (most:Int),.bool hxb] W fun e W' => e = .panicked (u2l.chain 280) ∧ Below w0.heap.size w0 W':=by
 have hmf:∀ (fn:Fn) (first cap:Array Value) (w:World),(Instr.makeFunc fn first cap).run Tryz.prog w = .ok (.func fn first cap) w:=fun _ _ _ _ => rfl
 unfold Tx.digitsP at hd
 split at hd
 · cases hd
 · rename_i hc
   have HS:=Aside0.mk h
   have HG:=Aside0.mk h.lt
   clear h hd
   by_cases he:s.takeWhile (Tx.digC hxb) = []
   · obtain ⟨t1,_,t2⟩:=u1l.txt (s.takeWhile (Tx.digC hxb))
     obtain ⟨t3,t4⟩:=t2 he
     clear t2 t1 hc he
     go_enter Tryz.func126,Tryz.ntmps126
     go_wp2_with (first
      | (go_at_call 96;(with_reducible refine (u1d.calls_dig hxb W.heap.size w0 _ g s (by omega) (by exact ua.new_at W _) (by have:=HG.out;omega) (by exact HS.out.one_more _)).mono ?_);rintro e W1 ⟨rfl,hs1,hk1⟩;have HS1:=Aside0.mk hs1;clear hs1 hk1)
      | (go_at_call 83;(with_reducible refine (u2e.calls_no _).mono ?_);rintro e W3 ⟨rfl,rfl⟩))
     exact ⟨rfl,rfl,HS1.out.below⟩
   · obtain ⟨t1,t2,_⟩:=u1l.txt (s.takeWhile (Tx.digC hxb))
     obtain ⟨t3,t4⟩:=t2 he
     have hgt:¬ (s.takeWhile (Tx.digC hxb)).length ≤ most:=fun h9 => hc ⟨he,h9⟩
     have t5:decide (((s.takeWhile (Tx.digC hxb)).length:Int) ≤ (most:Int)) = false:=decide_eq_false (by omega)
     have t6:decide ((s.takeWhile (Tx.digC hxb)).length ≤ most) = false:=decide_eq_false hgt
     clear t2 hc he
     go_enter Tryz.func126,Tryz.ntmps126
     go_wp2_with (first
      | (go_at_call 96;(with_reducible refine (u1d.calls_dig hxb W.heap.size w0 _ g s (by omega) (by exact ua.new_at W _) (by have:=HG.out;omega) (by exact HS.out.one_more _)).mono ?_);rintro e W1 ⟨rfl,hs1,hk1⟩;have HS1:=Aside0.mk hs1;clear hs1 hk1)
      | (go_at_call 83;(with_reducible refine (u2e.calls_no _).mono ?_);rintro e W3 ⟨rfl,rfl⟩))
     exact ⟨rfl,rfl,HS1.out.below⟩
theorem u1l.ok_at (most:Nat) (mi:Int) (hmi:(most:Int) = mi) (w0 W:World) (g:Nat) (hxb:Bool) (s:List UInt8) (hl:s.length ≤ 1000) (hm:most ≤ 1000) (d r:List UInt8) (hd:Tx.digitsP hxb most s = some (d,r)) (h:ua.St w0 W g s) :
 Calls Tryz.prog 126 #[.pointer (some ⟨g,0,none⟩),.int .i64 mi,.bool hxb] W fun e W' => e = .returned (.string (Base.ofL d)) ∧ ua.St w0 W' g r ∧ u1q W W' g none:=by
 subst hmi
 exact u1l.calls_ok w0 W g hxb most s hl hm d r hd h
theorem u1l.no_at (most:Nat) (mi:Int) (hmi:(most:Int) = mi) (w0 W:World) (g:Nat) (hxb:Bool) (s:List UInt8) (hl:s.length ≤ 1000) (hm:most ≤ 1000) (hd:Tx.digitsP hxb most s = none) (h:ua.St w0 W g s) :
 Calls Tryz.prog 126 #[.pointer (some ⟨g,0,none⟩),.int .i64 mi,.bool hxb] W fun e W' => e = .panicked (u2l.chain 280) ∧ Below w0.heap.size w0 W':=by
 subst hmi
 exact u1l.calls_no w0 W g hxb most s hl hm hd h
def ug.Pr (w0 W:World) (g:Nat) (bs:List Int):Prop:=w0.heap.size ≤ g ∧ ∃ v:Value,W.heap[g]? = some (.cells #[v] 76 (0,0)) ∧ Kd.R (Kd.int .u8) 5 W w0.heap.size (fun _ => True) v bs
def ug.Stay (W W':World):Prop:=∀ (k t:Nat) (cells:Array Value),W.heap[k]? = some (.cells cells t (0,0)) → t ≠ 76 → t ≠ 5 → W'.heap[k]? = W.heap[k]?
theorem ug.Stay.refl (W:World):ug.Stay W W:=fun _ _ _ _ _ _ => rfl
theorem ug.Stay.trans {a b c:World} (h:ug.Stay a b) (h2:ug.Stay b c):ug.Stay a c:=fun k t cells hk h1 h8 => (h2 k t cells ((h k t cells hk h1 h8).trans hk) h1 h8).trans (h k t cells hk h1 h8)
theorem ug.Stay.below {W W':World} (h:Below W.heap.size W W'):ug.Stay W W':=fun k t cells hk _ _ => h.block k (u2u hk)
theorem ug.Stay.set {W:World} {g:Nat} {v:Value} {t:Nat} (hg:W.heap[g]? = some (.cells #[v] t (0,0))) (ht:t = 76 ∨ t = 5) (o:Nat) (x:Value):ug.Stay W (W.setCell ⟨g,o,none⟩ x):=fun k t2 cells hk h1 h8 => by
 refine Below.heap_setCell _ ⟨g,o,none⟩ _ k (fun e => ?_)
 subst e
 rw [hg] at hk
 injection hk with hk
 injection hk with _ hk _
 rcases ht with h | h
 · exact h1 (hk.symm.trans h)
 · exact h8 (hk.symm.trans h)
theorem ug.Stay.grown {W W':World} {v:Value} {xs:List Int} {b:Nat} {ok:Nat → Prop} (hr:Kd.R (Kd.int .u8) 5 W b ok v xs) (h:W.grownBy W' v.ownBlock):ug.Stay W W':=fun k t cells hk h1 h8 => (u3i hk h (Kd.R_ne hr hk (fun e => h8 e.symm))).trans hk.symm
theorem ug.Pr.more {w0 W W':World} {g:Nat} {bs:List Int} (h:ug.Pr w0 W g bs) (hb:Below W.heap.size W W'):ug.Pr w0 W' g bs:=by
 obtain ⟨h0,v,h1,h2⟩:=h
 exact ⟨h0,v,ua.below_at hb h1,Kd.R_below h2 hb⟩
theorem ug.info8:(Tryz.prog.info? 5).map (fun i => (i.zero,i.size,i.bytes)) = some (some (.int .u8 0),1,1):=by kernel_rfl
theorem ug.R_of {W:World} {base:Nat} {v:Value} {xs:List Int} (h:W.ownsRow base 5 1 v xs.length (nums .u8 xs)):Kd.R (Kd.int .u8) 5 W base (fun _ => True) v xs:=Kd.R_of_own (enc:=Value.int .u8) (h1:=fun _ => rfl) h (fun _ _ => trivial)
def ug.parts (l:List ByteArray):List Int:=l.flatMap bytesOf
theorem ug.parts_next (l:List ByteArray) (i:Nat) (h:i < l.length):ug.parts (l.take (i + 1)) = ug.parts (l.take i) ++ bytesOf l[i]:=by
 unfold ug.parts
 rw [List.take_succ_eq_append_getElem h,List.flatMap_append]
 simp
theorem ug.parts_le (l:List ByteArray) (i:Nat):(ug.parts (l.take i)).length ≤ (ug.parts l).length:=by
 have h:ug.parts l = ug.parts (l.take i) ++ ug.parts (l.drop i):=by
  unfold ug.parts
  rw [← List.flatMap_append,List.take_append_drop]
 rw [h,List.length_append]
 omega
theorem ug.put {w0 W:World} {g:Nat} {v v2:Value} {bs:List Int} (h0:w0.heap.size ≤ g) (hg:W.heap[g]? = some (.cells #[v] 76 (0,0))) (hr:Kd.R (Kd.int .u8) 5 W w0.heap.size (fun _ => True) v2 bs):ug.Pr w0 (W.setCell ⟨g,0,none⟩ v2) g bs :=
 ⟨h0,v2,blk_set hg 0 v2,Kd.R_set hr hg (by decide) 0 v2⟩
set_option maxRecDepth 100000 in
set_option maxHeartbeats 4000000 in
theorem ug.calls (w0 W:World) (g b:Nat) (bs:List Int) (l:List ByteArray) (h:ug.Pr w0 W g bs) (hB:Below w0.heap.size w0 W) (hp:W.heap[b]? = some (.cells (l.map Value.string).toArray 9 (0,0))) (hn:l.length ≤ 10) (hl:bs.length + (ug.parts l).length ≤ 100000000) :
 Calls Tryz.prog 62 #[.pointer (some ⟨g,0,none⟩),.slice (some ⟨b,0,none⟩) l.length l.length] W fun e W' => e = .returned (.tuple #[]) ∧ ug.Pr w0 W' g (bs ++ ug.parts l ++ [10]) ∧ Below w0.heap.size w0 W' ∧ ug.Stay W W' ∧ W.heap.size ≤ W'.heap.size:=by
 have HP:=Aside0.mk h
 have HB:=Aside0.mk hB
 have HPA:=Aside0.mk hp
 clear h hB hp
 go_enter Tryz.func62,Tryz.ntmps62
 go_wp2
 go_loopw [8] (fun v8 wr => ∃ i:Nat,v8 = .int .i64 (i:Int) ∧ i ≤ l.length ∧ Aside0 (ug.Pr w0 wr g (bs ++ ug.parts (l.take i))) ∧ Aside0 (Below w0.heap.size w0 wr) ∧ Aside0 (ug.Stay W wr) ∧ Aside0 (W.heap.size ≤ wr.heap.size)) (fun v8 _ => l.length - (intOf v8).toNat)
 case atStart => exact ⟨0,rfl,Nat.zero_le _,⟨by simpa [ug.parts] using HP.out⟩,HB,⟨ug.Stay.refl _⟩,⟨Nat.le_refl _⟩⟩
 case round =>
  obtain ⟨i,rfl,hi,HR,HBR,HS,HZ⟩:=hrel
  obtain ⟨cur,hcur⟩:∃ cur,bs ++ ug.parts (l.take i) = cur:=⟨_,rfl⟩
  rw [hcur] at HR
  have HC:=Aside0.mk hcur
  clear hcur
  have hst:=HS.out b 9 _ HPA.out (by decide) (by decide)
  have HPW:=Aside0.mk (hst.trans HPA.out)
  obtain ⟨h0,v,hg,hr⟩:=HR.out
  have HG:=Aside0.mk hg
  have HV:=Aside0.mk hr
  have z0:=(um hg 0).trans rfl
  have z1:=uk hg 0
  have H0:=Aside0.mk h0
  obtain ⟨A,c,ev⟩:=Kd.R_slice hr
  subst ev
  clear hst hg hr h0
  by_cases hlt:i < l.length
  · obtain ⟨s,hs⟩:∃ s,l[i] = s:=⟨_,rfl⟩
    have hc:wr.cell? ⟨b,i,none⟩ = some (.string s):=(um HPW.out i).trans (by simp [hlt,hs])
    have hq:decide ((i:Int) < (l.length:Int)) = true:=decide_eq_true (by omega)
    have hq2:(i:Int) < (l.length:Int):=by omega
    have hle:cur.length + s.size ≤ 100000000:=by
     rw [← HC.out]
     have h1:=ug.parts_next l i hlt
     have h2:=ug.parts_le l (i + 1)
     rw [h1,hs,List.length_append,bytesOf_length] at h2
     rw [List.length_append]
     omega
    have HN:Aside0 (bs ++ ug.parts (l.take (i + 1)) = cur ++ bytesOf s):=⟨by rw [← HC.out,ug.parts_next l i hlt,hs,List.append_assoc]⟩
    clear hs
    go_wp2_with ((with_reducible refine u3f (b:=.append) (xs:=#[.tmp 16,.tmp 17]) rfl ?_);at_builtin;go_loud (refine print_append_str (w0:=w0) w0.heap.size rfl (.tmp 16) (.tmp 17) 22 9 5 rfl Tryz.underlying22 Tryz.underlying9 ug.info8 _ cur s rfl rfl (by exact Kd.own_of_R HV.out) (by exact HBR.out) ?hb ?hl ?_;(case hb => exact HBR.out.size);(case hl => omega);intro v2 W2 hown hb2 hg2;have HV2:=Aside0.mk (ug.R_of hown);have HB2:=Aside0.mk hb2;have HG2:=Aside0.mk (u3i HG.out hg2 (Kd.R_ne HV.out HG.out (by decide)));have HS2:=Aside0.mk (ug.Stay.grown HV.out hg2);have y0:=(um HG2.out 0).trans rfl;have y1:=uk HG2.out 0;have HZ2:=Aside0.mk hg2.size;clear hown hb2 hg2 z0 z1;obtain ⟨A2,c2,e2⟩:=Kd.R_slice HV2.out;subst e2))
    go_roundw
    case rel => exact ⟨i + 1,by go_num,by omega,⟨by rw [HN.out];exact ug.put H0.out HG2.out (by have h:=HV2.out;rw [List.length_append] at h;exact h)⟩,⟨HB2.out.setCell H0.out _⟩,⟨HS.out.trans (HS2.out.trans (ug.Stay.set HG2.out (Or.inl rfl) 0 _))⟩,⟨by have:=HZ.out;have:=HZ2.out;simp;omega⟩⟩
    case measure => simp [intOf];omega
  · have hq:decide ((i:Int) < (l.length:Int)) = false:=decide_eq_false (by omega)
    have hq2:decide (i < l.length) = false:=decide_eq_false hlt
    have HN:Aside0 (cur = bs ++ ug.parts l):=⟨by rw [← HC.out,List.take_of_length_le (by omega)]⟩
    have hle:cur.length + 1 ≤ 140737488355328:=by
     rw [HN.out,List.length_append]
     omega
    clear hlt
    go_wp2_with ((with_reducible refine u3f (b:=.append) (xs:=#[.tmp 26,.tmp 27]) rfl ?_);at_builtin;go_loud (refine print_append_num (w0:=w0) w0.heap.size rfl (.tmp 26) (.tmp 27) 22 5 .u8 1 rfl Tryz.underlying22 ug.info8 (by decide) _ cur 10 rfl rfl (by exact Kd.own_of_R HV.out) (by exact HBR.out) ?hb ?hl ?_;(case hb => exact HBR.out.size);(case hl => omega);intro v2 W2 hown hb2 hg2 hat2;have HV2:=Aside0.mk (ug.R_of hown);have HB2:=Aside0.mk hb2;have HG2:=Aside0.mk (u3i HG.out hg2 (Kd.R_ne HV.out HG.out (by decide)));have HS2:=Aside0.mk (ug.Stay.grown HV.out hg2);have y0:=(um HG2.out 0).trans rfl;have y1:=uk HG2.out 0;have HZ2:=Aside0.mk hg2.size;clear hown hb2 hg2 hat2 z0 z1;obtain ⟨A2,c2,e2⟩:=Kd.R_slice HV2.out;subst e2))
    go_end0
    refine ⟨rfl,by rw [← HN.out];exact ug.put H0.out HG2.out (by have h:=HV2.out;rw [List.length_append] at h;exact h),HB2.out.setCell H0.out _,HS.out.trans (HS2.out.trans (ug.Stay.set HG2.out (Or.inl rfl) 0 _)),?_⟩
    have:=HZ.out
    have:=HZ2.out
    simp
    omega
theorem ug.four (w0 W:World) (g z:Nat) (bs:List Int) (a b c d:ByteArray) (hz:z = W.heap.size) (h:ug.Pr w0 W g bs) (hB:Below w0.heap.size w0 W) (hl:bs.length + (ug.parts [a,b,c,d]).length ≤ 100000000) :
 Calls Tryz.prog 62 #[.pointer (some ⟨g,0,none⟩),.slice (some ⟨z,0,none⟩) 4 4] (W.alloc (.cells #[.string a,.string b,.string c,.string d] 9)) fun e W' => e = .returned (.tuple #[]) ∧ ug.Pr w0 W' g (bs ++ ug.parts [a,b,c,d] ++ [10]) ∧ Below w0.heap.size w0 W' ∧ ug.Stay W W' ∧ W.heap.size ≤ W'.heap.size:=by
 subst hz
 have hb:=ud (Below.refl W.heap.size W) (.cells #[.string a,.string b,.string c,.string d] 9)
 refine (ug.calls w0 (W.alloc (.cells #[.string a,.string b,.string c,.string d] 9)) g W.heap.size bs [a,b,c,d] (h.more hb) (ud hB _) (ua.new_at _ _) (by simp) hl).mono fun e W' ⟨h1,h2,h3,h4,h5⟩ => ⟨h1,h2,h3,(ug.Stay.below hb).trans h4,Nat.le_trans hb.size h5⟩
theorem ug.six (w0 W:World) (g z:Nat) (bs:List Int) (a b c d x y:ByteArray) (hz:z = W.heap.size) (h:ug.Pr w0 W g bs) (hB:Below w0.heap.size w0 W) (hl:bs.length + (ug.parts [a,b,c,d,x,y]).length ≤ 100000000) :
 Calls Tryz.prog 62 #[.pointer (some ⟨g,0,none⟩),.slice (some ⟨z,0,none⟩) 6 6] (W.alloc (.cells #[.string a,.string b,.string c,.string d,.string x,.string y] 9)) fun e W' => e = .returned (.tuple #[]) ∧ ug.Pr w0 W' g (bs ++ ug.parts [a,b,c,d,x,y] ++ [10]) ∧ Below w0.heap.size w0 W' ∧ ug.Stay W W' ∧ W.heap.size ≤ W'.heap.size:=by
 subst hz
 have hb:=ud (Below.refl W.heap.size W) (.cells #[.string a,.string b,.string c,.string d,.string x,.string y] 9)
 refine (ug.calls w0 (W.alloc (.cells #[.string a,.string b,.string c,.string d,.string x,.string y] 9)) g W.heap.size bs [a,b,c,d,x,y] (h.more hb) (ud hB _) (ua.new_at _ _) (by simp) hl).mono fun e W' ⟨h1,h2,h3,h4,h5⟩ => ⟨h1,h2,h3,(ug.Stay.below hb).trans h4,Nat.le_trans hb.size h5⟩
def u1a.dig (z:Int):Int:=if 97 ≤ z then z - 87 else z - 48
def u1a.num (base:Int):List Int → Int → Option Int
 | [],n => some n
 | c :: r,n => if n ≤ (18446744073709551615 - u1a.dig c) / base then u1a.num base r (n * base + u1a.dig c) else none
theorem u1a.u64_id (x:Int) (h0:0 ≤ x) (h1:x ≤ 18446744073709551615):IntKind.u64.wrap x = x:=by
 unfold IntKind.wrap
 simp only [IntKind.signed,IntKind.bits,Bool.false_and,Bool.false_eq_true,if_false]
 omega
theorem u1a.quo {base d:Int} (hb:base = 10 ∨ base = 16) (h0:0 ≤ d) (h1:d ≤ 15):IntKind.u64.wrap ((18446744073709551615 - d).tdiv base) = (18446744073709551615 - d) / base:=by
 rw [Int.tdiv_eq_ediv_of_nonneg (by omega)]
 rcases hb with rfl | rfl <;> exact u1a.u64_id _ (by omega) (by omega)
theorem u1a.fits {base d m:Int} (hb:base = 10 ∨ base = 16) (h0:0 ≤ d) (h1:d ≤ 15) (hm:0 ≤ m) (h:m ≤ (18446744073709551615 - d) / base):0 ≤ m * base + d ∧ m * base + d ≤ 18446744073709551615 ∧ IntKind.u64.wrap (m * base) = m * base ∧ IntKind.u64.wrap (m * base + d) = m * base + d:=by
 rcases hb with rfl | rfl <;> exact ⟨by omega,by omega,u1a.u64_id _ (by omega) (by omega),u1a.u64_id _ (by omega) (by omega)⟩
theorem u1a.rd_at (l:List Int) (x:Nat) (h:x < l.length):rd l (x:Int) ∈ l ∧ l.drop x = rd l (x:Int) :: l.drop (x + 1):=by
 have e:rd l (x:Int) = l[x]:=by simp [rd,List.getD_eq_getElem?_getD,h]
 rw [e]
 exact ⟨List.getElem_mem h,List.drop_eq_getElem_cons h⟩
theorem u1a.add_at (b x:Nat):(⟨b,0,none⟩:Addr).add ((x:Int).toNat) = ⟨b,x,none⟩:=by
 rw [show (x:Int).toNat = x from rfl]
 unfold Addr.add
 split
 · rename_i h
   rw [h]
 · simp
set_option maxRecDepth 100000 in
set_option maxHeartbeats 1000000 in
theorem u1a.calls_ok (s:ByteArray) (base:Int) (hb:base = 10 ∨ base = 16) (hs:s.size ≤ 1000) (hd:∀ c ∈ bytesOf s,(48 ≤ c ∧ c ≤ 57) ∨ (97 ≤ c ∧ c ≤ 102)) (n:Int) (hn:u1a.num base (bytesOf s) 0 = some n) (w:World) :
 Calls Tryz.prog 125 #[.string s,.int .u64 base] w fun e w' => e = .returned (.int .u64 n) ∧ Below w.heap.size w w':=by
 have kb:=fun W => print_bytes (P:=Tryz.prog) 9 22 5 Tryz.underlying9 Tryz.underlying22 Tryz.underlying5 s W
 have HD:=Aside0.mk hd
 have HN:=Aside0.mk hn
 have HBs:=Aside0.mk hb
 have hlen:=bytesOf_length s
 have HR:=Aside0.mk (bytes_reads w 5 s (by omega))
 have h0b:(base == 0) = false:=beq_eq_false_iff_ne.2 (by omega)
 have h0c:¬ base = 0:=by omega
 clear hd hn hb
 go_enter Tryz.func125,Tryz.ntmps125
 go_wp2
 go_loopg [5,12] (s.size) (fun kq v5 v12 wr => ∃ (x:Nat) (m:Int),x ≤ s.size ∧ v12 = .int .i64 x ∧ v5 = .int .u64 m ∧ Aside0 (u1a.num base ((bytesOf s).drop x) m = some n) ∧ Aside0 (0 ≤ m ∧ m ≤ 18446744073709551615) ∧ s.size ≤ kq + x ∧ uy (Lib.bytesWorld w 5 s) wr)
 case atStart => exact ⟨0,0,by omega,rfl,rfl,⟨by simpa using HN.out⟩,⟨by omega⟩,by omega,uy.refl _⟩
 case round =>
  clear HN
  obtain ⟨x,m,hx,rfl,rfl,HN,HM,hk,⟨m1,rfl⟩⟩:=hrel
  by_cases hlt:x < s.size
  · obtain ⟨ad,e,hc⟩:=Kd.at_int (Kd.C_of_reads (d:=(0:Int)) (h1:=fun _ => rfl) HR.out) (x:Int) (by omega) (by omega)
    obtain rfl:ad = ⟨w.heap.size,0,none⟩:=by injection e with e;exact e.symm
    clear e
    obtain ⟨hmem,hdrop⟩:=u1a.rd_at (bytesOf s) x (by omega)
    obtain ⟨z,HZ⟩:∃ z:Int,Aside0 (rd (bytesOf s) (x:Int) = z):=⟨_,⟨rfl⟩⟩
    rw [HZ.out] at hc hdrop hmem
    rw [u1a.add_at] at hc
    have hz:=HD.out z hmem
    rw [hdrop] at HN
    clear hdrop hmem
    by_cases h97:97 ≤ z
    · have h102:z ≤ 102:=by omega
      have h48:48 ≤ z:=by omega
      have hdz:u1a.dig z = (z - 97 + 10):=by unfold u1a.dig;rw [if_pos h97];omega
      have hq:=u1a.quo (d:=(z - 97 + 10)) HBs.out (by omega) (by omega)
      unfold u1a.num at HN
      rw [hdz] at HN
      have HQ:=Aside0.mk hq
      clear hz hdz hq
      by_cases hle:m ≤ (18446744073709551615 - (z - 97 + 10)) / base
      · have HF:=Aside0.mk (u1a.fits (d:=(z - 97 + 10)) HBs.out (by omega) (by omega) HM.out.1 hle)
        have HT:Aside0 (decide (m ≤ IntKind.u64.wrap ((18446744073709551615 - (z - 97 + 10)).tdiv base)) = true):=⟨by rw [HQ.out];exact decide_eq_true hle⟩
        rw [if_pos hle] at HN
        clear hle
        go_wp2_with (go_at_call 83;(with_reducible refine (u2e.calls_yes _ HT.out _).mono ?_);rintro e W3 ⟨rfl,rfl⟩)
        obtain ⟨g1,rfl⟩:∃ g1,gk = g1 + 1:=⟨gk - 1,by omega⟩
        go_roundg g1
        case rel =>
         obtain ⟨f1,f2,f3,f4⟩:=HF.out
         exact ⟨x + 1,m * base + (z - 97 + 10),by omega,by go_num,by first | (rw [f3,f4];done) | (rw [f4];done) | (simp only [f3,f4];done),HN,⟨⟨f1,f2⟩⟩,by omega,⟨_,rfl⟩⟩
        case measure => omega
      · have HT:Aside0 (decide (m ≤ IntKind.u64.wrap ((18446744073709551615 - (z - 97 + 10)).tdiv base)) = false):=⟨by rw [HQ.out];exact decide_eq_false hle⟩
        rw [if_neg hle] at HN
        clear hle
        cases HN.out
    · have h102:z ≤ 57:=by omega
      have h48:48 ≤ z:=by omega
      have hdz:u1a.dig z = (z - 48):=by unfold u1a.dig;rw [if_neg h97]
      have hq:=u1a.quo (d:=(z - 48)) HBs.out (by omega) (by omega)
      unfold u1a.num at HN
      rw [hdz] at HN
      have HQ:=Aside0.mk hq
      clear hz hdz hq
      by_cases hle:m ≤ (18446744073709551615 - (z - 48)) / base
      · have HF:=Aside0.mk (u1a.fits (d:=(z - 48)) HBs.out (by omega) (by omega) HM.out.1 hle)
        have HT:Aside0 (decide (m ≤ IntKind.u64.wrap ((18446744073709551615 - (z - 48)).tdiv base)) = true):=⟨by rw [HQ.out];exact decide_eq_true hle⟩
        rw [if_pos hle] at HN
        clear hle
        go_wp2_with (go_at_call 83;(with_reducible refine (u2e.calls_yes _ HT.out _).mono ?_);rintro e W3 ⟨rfl,rfl⟩)
        obtain ⟨g1,rfl⟩:∃ g1,gk = g1 + 1:=⟨gk - 1,by omega⟩
        go_roundg g1
        case rel =>
         obtain ⟨f1,f2,f3,f4⟩:=HF.out
         exact ⟨x + 1,m * base + (z - 48),by omega,by go_num,by first | (rw [f3,f4];done) | (rw [f4];done) | (simp only [f3,f4];done),HN,⟨⟨f1,f2⟩⟩,by omega,⟨_,rfl⟩⟩
        case measure => omega
      · have HT:Aside0 (decide (m ≤ IntKind.u64.wrap ((18446744073709551615 - (z - 48)).tdiv base)) = false):=⟨by rw [HQ.out];exact decide_eq_false hle⟩
        rw [if_neg hle] at HN
        clear hle
        cases HN.out
  · have HE:Aside0 (m = n):=⟨by
     have h1:=HN.out
     rw [List.drop_eq_nil_of_le (by omega)] at h1
     exact Option.some.inj h1⟩
    go_wp2
    go_ret
    exact ⟨by rw [HE.out];rfl,ub (bytes_below (Below.refl _ _) (Nat.le_refl _) _ _) m1⟩
set_option maxRecDepth 100000 in
set_option maxHeartbeats 1000000 in
theorem u1a.calls_no (s:ByteArray) (base:Int) (hb:base = 10 ∨ base = 16) (hs:s.size ≤ 1000) (hd:∀ c ∈ bytesOf s,(48 ≤ c ∧ c ≤ 57) ∨ (97 ≤ c ∧ c ≤ 102)) (hn:u1a.num base (bytesOf s) 0 = none) (w:World) :
 Calls Tryz.prog 125 #[.string s,.int .u64 base] w fun e w' => e = .panicked (u2l.chain 280) ∧ Below w.heap.size w w':=by
 have kb:=fun W => print_bytes (P:=Tryz.prog) 9 22 5 Tryz.underlying9 Tryz.underlying22 Tryz.underlying5 s W
 have HD:=Aside0.mk hd
 have HN:=Aside0.mk hn
 have HBs:=Aside0.mk hb
 have hlen:=bytesOf_length s
 have HR:=Aside0.mk (bytes_reads w 5 s (by omega))
 have h0b:(base == 0) = false:=beq_eq_false_iff_ne.2 (by omega)
 have h0c:¬ base = 0:=by omega
 clear hd hn hb
 go_enter Tryz.func125,Tryz.ntmps125
 go_wp2
 go_loopg [5,12] (s.size) (fun kq v5 v12 wr => ∃ (x:Nat) (m:Int),x ≤ s.size ∧ v12 = .int .i64 x ∧ v5 = .int .u64 m ∧ Aside0 (u1a.num base ((bytesOf s).drop x) m = none) ∧ Aside0 (0 ≤ m ∧ m ≤ 18446744073709551615) ∧ s.size ≤ kq + x ∧ uy (Lib.bytesWorld w 5 s) wr)
 case atStart => exact ⟨0,0,by omega,rfl,rfl,⟨by simpa using HN.out⟩,⟨by omega⟩,by omega,uy.refl _⟩
 case round =>
  clear HN
  obtain ⟨x,m,hx,rfl,rfl,HN,HM,hk,⟨m1,rfl⟩⟩:=hrel
  by_cases hlt:x < s.size
  · obtain ⟨ad,e,hc⟩:=Kd.at_int (Kd.C_of_reads (d:=(0:Int)) (h1:=fun _ => rfl) HR.out) (x:Int) (by omega) (by omega)
    obtain rfl:ad = ⟨w.heap.size,0,none⟩:=by injection e with e;exact e.symm
    clear e
    obtain ⟨hmem,hdrop⟩:=u1a.rd_at (bytesOf s) x (by omega)
    obtain ⟨z,HZ⟩:∃ z:Int,Aside0 (rd (bytesOf s) (x:Int) = z):=⟨_,⟨rfl⟩⟩
    rw [HZ.out] at hc hdrop hmem
    rw [u1a.add_at] at hc
    have hz:=HD.out z hmem
    rw [hdrop] at HN
    clear hdrop hmem
    by_cases h97:97 ≤ z
    · have h102:z ≤ 102:=by omega
      have h48:48 ≤ z:=by omega
      have hdz:u1a.dig z = (z - 97 + 10):=by unfold u1a.dig;rw [if_pos h97];omega
      have hq:=u1a.quo (d:=(z - 97 + 10)) HBs.out (by omega) (by omega)
      unfold u1a.num at HN
      rw [hdz] at HN
      have HQ:=Aside0.mk hq
      clear hz hdz hq
      by_cases hle:m ≤ (18446744073709551615 - (z - 97 + 10)) / base
      · have HF:=Aside0.mk (u1a.fits (d:=(z - 97 + 10)) HBs.out (by omega) (by omega) HM.out.1 hle)
        have HT:Aside0 (decide (m ≤ IntKind.u64.wrap ((18446744073709551615 - (z - 97 + 10)).tdiv base)) = true):=⟨by rw [HQ.out];exact decide_eq_true hle⟩
        rw [if_pos hle] at HN
        clear hle
        go_wp2_with (go_at_call 83;(with_reducible refine (u2e.calls_yes _ HT.out _).mono ?_);rintro e W3 ⟨rfl,rfl⟩)
        obtain ⟨g1,rfl⟩:∃ g1,gk = g1 + 1:=⟨gk - 1,by omega⟩
        go_roundg g1
        case rel =>
         obtain ⟨f1,f2,f3,f4⟩:=HF.out
         exact ⟨x + 1,m * base + (z - 97 + 10),by omega,by go_num,by first | (rw [f3,f4];done) | (rw [f4];done) | (simp only [f3,f4];done),HN,⟨⟨f1,f2⟩⟩,by omega,⟨_,rfl⟩⟩
        case measure => omega
      · have HT:Aside0 (decide (m ≤ IntKind.u64.wrap ((18446744073709551615 - (z - 97 + 10)).tdiv base)) = false):=⟨by rw [HQ.out];exact decide_eq_false hle⟩
        rw [if_neg hle] at HN
        clear hle
        go_wp2_with (go_at_call 83;(with_reducible refine (u2e.calls_not _ HT.out _).mono ?_);rintro e W3 ⟨rfl,rfl⟩)
        exact ⟨rfl,rfl,ub (bytes_below (Below.refl _ _) (Nat.le_refl _) _ _) m1⟩
    · have h102:z ≤ 57:=by omega
      have h48:48 ≤ z:=by omega
      have hdz:u1a.dig z = (z - 48):=by unfold u1a.dig;rw [if_neg h97]
      have hq:=u1a.quo (d:=(z - 48)) HBs.out (by omega) (by omega)
      unfold u1a.num at HN
      rw [hdz] at HN
      have HQ:=Aside0.mk hq
      clear hz hdz hq
      by_cases hle:m ≤ (18446744073709551615 - (z - 48)) / base
      · have HF:=Aside0.mk (u1a.fits (d:=(z - 48)) HBs.out (by omega) (by omega) HM.out.1 hle)
        have HT:Aside0 (decide (m ≤ IntKind.u64.wrap ((18446744073709551615 - (z - 48)).tdiv base)) = true):=⟨by rw [HQ.out];exact decide_eq_true hle⟩
        rw [if_pos hle] at HN
        clear hle
        go_wp2_with (go_at_call 83;(with_reducible refine (u2e.calls_yes _ HT.out _).mono ?_);rintro e W3 ⟨rfl,rfl⟩)
        obtain ⟨g1,rfl⟩:∃ g1,gk = g1 + 1:=⟨gk - 1,by omega⟩
        go_roundg g1
        case rel =>
         obtain ⟨f1,f2,f3,f4⟩:=HF.out
         exact ⟨x + 1,m * base + (z - 48),by omega,by go_num,by first | (rw [f3,f4];done) | (rw [f4];done) | (simp only [f3,f4];done),HN,⟨⟨f1,f2⟩⟩,by omega,⟨_,rfl⟩⟩
        case measure => omega
      · have HT:Aside0 (decide (m ≤ IntKind.u64.wrap ((18446744073709551615 - (z - 48)).tdiv base)) = false):=⟨by rw [HQ.out];exact decide_eq_false hle⟩
        rw [if_neg hle] at HN
        clear hle
        go_wp2_with (go_at_call 83;(with_reducible refine (u2e.calls_not _ HT.out _).mono ?_);rintro e W3 ⟨rfl,rfl⟩)
        exact ⟨rfl,rfl,ub (bytes_below (Below.refl _ _) (Nat.le_refl _) _ _) m1⟩
  · have h1:=HN.out
    rw [List.drop_eq_nil_of_le (by omega)] at h1
    cases h1
theorem u1a.num_is (base:Int):∀ (d:List UInt8) (n:Int),u1a.num base (d.map fun c => (c.toNat:Int)) n = Tx.numL base d n
 | [],n => rfl
 | c :: d,n => by
   have e:u1a.dig (c.toNat:Int) = Tx.digV c:=by
    unfold u1a.dig Tx.digV
    by_cases h:97 ≤ c.toNat
    · rw [if_pos h,if_pos (by omega)]
    · rw [if_neg h,if_neg (by omega)]
   rw [List.map_cons]
   unfold u1a.num Tx.numL
   rw [e,u1a.num_is base d]
theorem u1a.bytes_ofL (d:List UInt8):bytesOf (Base.ofL d) = d.map fun c => (c.toNat:Int):=by
 unfold bytesOf
 rw [Base.ofL_data]
theorem u1a.bytes_hex {d:List UInt8} (hd:∀ c ∈ d,Tx.hexC c = true):∀ c ∈ bytesOf (Base.ofL d),(48 ≤ c ∧ c ≤ 57) ∨ (97 ≤ c ∧ c ≤ 102):=by
 rw [u1a.bytes_ofL]
 intro z hz
 obtain ⟨c,hc,rfl⟩:=List.mem_map.1 hz
 have h:=hd c hc
 unfold Tx.hexC Tx.decC at h
 simp only [Bool.or_eq_true,Bool.and_eq_true,decide_eq_true_eq] at h
 omega
theorem u1a.says (d:List UInt8) (base:Int) (hb:base = 10 ∨ base = 16) (hs:d.length ≤ 1000) (hd:∀ c ∈ d,Tx.hexC c = true) (n:Int) (hn:Tx.numL base d 0 = some n) (w:World) :
 Calls Tryz.prog 125 #[.string (Base.ofL d),.int .u64 base] w fun e w' => e = .returned (.int .u64 n) ∧ Below w.heap.size w w' :=
 u1a.calls_ok (Base.ofL d) base hb (by rw [(Tx.cut_ofL d 0 (by omega)).2.2];exact hs) (u1a.bytes_hex hd) n (by rw [u1a.bytes_ofL,u1a.num_is];exact hn) w
theorem u1a.says_no (d:List UInt8) (base:Int) (hb:base = 10 ∨ base = 16) (hs:d.length ≤ 1000) (hd:∀ c ∈ d,Tx.hexC c = true) (hn:Tx.numL base d 0 = none) (w:World) :
 Calls Tryz.prog 125 #[.string (Base.ofL d),.int .u64 base] w fun e w' => e = .panicked (u2l.chain 280) ∧ Below w.heap.size w w' :=
 u1a.calls_no (Base.ofL d) base hb (by rw [(Tx.cut_ofL d 0 (by omega)).2.2];exact hs) (u1a.bytes_hex hd) (by rw [u1a.bytes_ofL,u1a.num_is];exact hn) w
theorem u1g.cut_pre (p s:List UInt8):u1o.f (Base.ofL s) (Base.ofL p) = if p.isPrefixOf s = true then some (Base.ofL (s.drop p.length),true) else some (Base.ofL s,false):=by
 have hs:(Base.ofL s).size = s.length:=(Tx.cut_ofL s 0 (by omega)).2.2
 have hp:(Base.ofL p).size = p.length:=(Tx.cut_ofL p 0 (by omega)).2.2
 unfold u1o.f u2i.f u1w.f
 rw [hs,hp]
 by_cases h:p.length ≤ s.length
 · have e1:((Base.ofL s).extract 0 ((p.length:Int)).toNat).toList = s.take p.length:=by
    rw [ByteArray.toList_eq,Base.extract_list,Base.ofL_data]
    simp
   have e2:(Base.ofL p).toList = p:=by rw [ByteArray.toList_eq,Base.ofL_data]
   have e3:(Base.ofL s).extract ((p.length:Int)).toNat s.length = Base.ofL (s.drop p.length):=by
    have:=(Tx.cut_ofL s p.length h).2.1
    rw [hs] at this
    simpa using this
   have e4:(s.take p.length == p) = p.isPrefixOf s:=by
    rw [Bool.eq_iff_iff,beq_iff_eq,List.isPrefixOf_iff_prefix]
    constructor
    · intro e
      rw [← e]
      exact List.take_prefix _ _
    · intro e
      exact (List.prefix_iff_eq_take.1 e).symm
   rw [if_pos (by omega),if_pos (by omega),if_pos (by omega),e1,e2,e4,e3]
   cases p.isPrefixOf s <;> simp [h]
 · have e5:p.isPrefixOf s = false:=by
    cases e:p.isPrefixOf s with
    | false => rfl
    | true => exact absurd (List.IsPrefix.length_le (List.isPrefixOf_iff_prefix.1 e)) h
   rw [if_neg (by omega),e5]
   rfl
theorem u1g.dig_all {h:Bool} {s:List UInt8}:∀ c ∈ s.takeWhile (Tx.digC h),Tx.hexC c = true:=by
 intro c hc
 have h1:Tx.digC h c = true:=by
  have:=List.all_takeWhile (p:=Tx.digC h) (l:=s)
  exact List.all_eq_true.1 this c hc
 unfold Tx.digC at h1
 cases h with
 | true => simpa using h1
 | false =>
   have h2:Tx.decC c = true:=by simpa using h1
   unfold Tx.hexC
   rw [h2]
   rfl
theorem u1g.dig_is {h:Bool} {most:Nat} {s d r:List UInt8} (hd:Tx.digitsP h most s = some (d,r)):(∀ c ∈ d,Tx.hexC c = true) ∧ d.length ≤ most ∧ r.length ≤ s.length:=by
 unfold Tx.digitsP at hd
 split at hd
 · rename_i hc
   obtain ⟨rfl,rfl⟩:=Prod.mk.inj (Option.some.inj hd)
   refine ⟨u1g.dig_all,hc.2,?_⟩
   have h1:=congrArg List.length (List.takeWhile_append_dropWhile (p:=Tx.digC h) (l:=s))
   rw [List.length_append] at h1
   omega
 · cases hd
set_option maxRecDepth 100000 in
set_option maxHeartbeats 1000000 in
theorem u1g.hex_ok (w0 W:World) (g:Nat) (s:List UInt8) (hl:s.length ≤ 1000) (q:List UInt8) (hs:s = 48 :: 120 :: q) (n:Int) (r:List UInt8) (hv:Tx.valueD true 16 16 q = some (n,r)) (h:ua.St w0 W g s) :
 Calls Tryz.prog 98 #[.pointer (some ⟨g,0,none⟩)] W fun e W' => e = .returned (.int .u64 n) ∧ ua.St w0 W' g r ∧ u1q W W' g none:=by
 unfold Tx.valueD at hv
 obtain ⟨⟨d,r'⟩,hd,hv⟩:=Option.bind_eq_some_iff.1 hv
 obtain ⟨n',hn,hv⟩:=Option.map_eq_some_iff.1 hv
 obtain ⟨rfl,rfl⟩:=Prod.mk.inj hv
 simp only at hn
 obtain ⟨ha,hdl,hrl⟩:=u1g.dig_is hd
 have HA:=Aside0.mk ha
 have HD:=Aside0.mk hd
 have HN:=Aside0.mk hn
 have hq:q.length ≤ 1000:=by rw [hs,List.length_cons,List.length_cons] at hl;omega
 have HC:Aside0 (u1o.f (Base.ofL (48 :: 120 :: q)) (⟨#[48,120]⟩:ByteArray) = some (Base.ofL q,true)):=⟨by
  have e:=u1g.cut_pre [48,120] s
  rw [hs,if_pos (by simp [List.isPrefixOf])] at e
  exact e⟩
 subst hs
 have HS:=Aside0.mk h
 obtain ⟨h0,f0⟩:=h.look
 clear h
 clear ha hd hn hv
 go_enter Tryz.func98,Tryz.ntmps98
 go_wp2_with (first
  | (go_at_call 117;(with_reducible refine (u1o.calls _ _ _ _ _ HC.out).mono ?_);rintro e W1 ⟨rfl,⟨nd,rfl⟩⟩)
  | (go_at_call 126;(with_reducible refine (u1l.ok_at 16 16 rfl w0 _ g true q (by omega) (by omega) d r' HD.out (by exact (HS.out.drew nd).set q)).mono ?_);rintro e W2 ⟨rfl,hs2,hk2⟩;have HS2:=Aside0.mk hs2;have HK2:=Aside0.mk hk2;clear hs2 hk2)
  | (go_at_call 125;(with_reducible refine (u1a.says d 16 (by omega) (by omega) HA.out n' HN.out _).mono ?_);rintro e W3 ⟨rfl,hb3⟩;have HB3:=Aside0.mk hb3;clear hb3))
 go_ret
 exact ⟨rfl,HS2.out.more HB3.out,ua.keep_then ((u1q.of_below (ub (Below.refl _ _) nd) g none).set_ 0 _) (ua.keep_then HK2.out (u1q.of_below HB3.out g none))⟩
set_option maxRecDepth 100000 in
set_option maxHeartbeats 1000000 in
theorem u1g.hex_no (w0 W:World) (g:Nat) (s:List UInt8) (hl:s.length ≤ 1000) (q:List UInt8) (hs:s = 48 :: 120 :: q) (hv:Tx.valueD true 16 16 q = none) (h:ua.St w0 W g s) :
 Calls Tryz.prog 98 #[.pointer (some ⟨g,0,none⟩)] W fun e W' => e = .panicked (u2l.chain 280) ∧ Below w0.heap.size w0 W':=by
 unfold Tx.valueD at hv
 have hq:q.length ≤ 1000:=by rw [hs,List.length_cons,List.length_cons] at hl;omega
 have HC:Aside0 (u1o.f (Base.ofL (48 :: 120 :: q)) (⟨#[48,120]⟩:ByteArray) = some (Base.ofL q,true)):=⟨by
  have e:=u1g.cut_pre [48,120] s
  rw [hs,if_pos (by simp [List.isPrefixOf])] at e
  exact e⟩
 subst hs
 have HS:=Aside0.mk h
 obtain ⟨h0,f0⟩:=h.look
 clear h
 cases hd:Tx.digitsP true 16 q with
 | none =>
   have HD:=Aside0.mk hd
   clear hd hv
   go_enter Tryz.func98,Tryz.ntmps98
   go_wp2_with (first
    | (go_at_call 117;(with_reducible refine (u1o.calls _ _ _ _ _ HC.out).mono ?_);rintro e W1 ⟨rfl,⟨nd,rfl⟩⟩)
    | (go_at_call 126;(with_reducible refine (u1l.no_at 16 16 rfl w0 _ g true q (by omega) (by omega) HD.out (by exact (HS.out.drew nd).set q)).mono ?_);rintro e W2 ⟨rfl,hb2⟩))
   exact ⟨rfl,rfl,hb2⟩
 | some p =>
   obtain ⟨d,r⟩:=p
   rw [hd] at hv
   have hn:Tx.numL 16 d 0 = none:=by simpa using hv
   obtain ⟨ha,hdl,hrl⟩:=u1g.dig_is hd
   have HA:=Aside0.mk ha
   have HD:=Aside0.mk hd
   have HN:=Aside0.mk hn
   clear ha hd hn hv
   go_enter Tryz.func98,Tryz.ntmps98
   go_wp2_with (first
    | (go_at_call 117;(with_reducible refine (u1o.calls _ _ _ _ _ HC.out).mono ?_);rintro e W1 ⟨rfl,⟨nd,rfl⟩⟩)
    | (go_at_call 126;(with_reducible refine (u1l.ok_at 16 16 rfl w0 _ g true q (by omega) (by omega) d r HD.out (by exact (HS.out.drew nd).set q)).mono ?_);rintro e W2 ⟨rfl,hs2,hk2⟩;have HS2:=Aside0.mk hs2;have HK2:=Aside0.mk hk2;clear hs2 hk2)
    | (go_at_call 125;(with_reducible refine (u1a.says_no d 16 (by omega) (by omega) HA.out HN.out _).mono ?_);rintro e W3 ⟨rfl,hb3⟩))
   exact ⟨rfl,rfl,(HS2.out.more hb3).below⟩
set_option maxRecDepth 100000 in
set_option maxHeartbeats 1000000 in
theorem u1g.dec_ok (w0 W:World) (g:Nat) (s:List UInt8) (hl:s.length ≤ 1000) (hs:([48,120]:List UInt8).isPrefixOf s = false) (n:Int) (r:List UInt8) (hv:Tx.valueD false 20 10 s = some (n,r)) (h:ua.St w0 W g s) :
 Calls Tryz.prog 98 #[.pointer (some ⟨g,0,none⟩)] W fun e W' => e = .returned (.int .u64 n) ∧ ua.St w0 W' g r ∧ u1q W W' g none:=by
 unfold Tx.valueD at hv
 obtain ⟨⟨d,r'⟩,hd,hv⟩:=Option.bind_eq_some_iff.1 hv
 obtain ⟨n',hn,hv⟩:=Option.map_eq_some_iff.1 hv
 obtain ⟨rfl,rfl⟩:=Prod.mk.inj hv
 simp only at hn
 obtain ⟨ha,hdl,hrl⟩:=u1g.dig_is hd
 have HA:=Aside0.mk ha
 have HD:=Aside0.mk hd
 have HN:=Aside0.mk hn
 have HC:Aside0 (u1o.f (Base.ofL s) (⟨#[48,120]⟩:ByteArray) = some (Base.ofL s,false)):=⟨by
  have e:=u1g.cut_pre [48,120] s
  rw [if_neg (by rw [hs];decide)] at e
  exact e⟩
 clear hs
 have HS:=Aside0.mk h
 obtain ⟨h0,f0⟩:=h.look
 clear h
 clear ha hd hn hv
 go_enter Tryz.func98,Tryz.ntmps98
 go_wp2_with (first
  | (go_at_call 117;(with_reducible refine (u1o.calls _ _ _ _ _ HC.out).mono ?_);rintro e W1 ⟨rfl,⟨nd,rfl⟩⟩)
  | (go_at_call 126;(with_reducible refine (u1l.ok_at 20 20 rfl w0 _ g false s (by omega) (by omega) d r' HD.out (by exact HS.out.drew nd)).mono ?_);rintro e W2 ⟨rfl,hs2,hk2⟩;have HS2:=Aside0.mk hs2;have HK2:=Aside0.mk hk2;clear hs2 hk2)
  | (go_at_call 125;(with_reducible refine (u1a.says d 10 (by omega) (by omega) HA.out n' HN.out _).mono ?_);rintro e W3 ⟨rfl,hb3⟩;have HB3:=Aside0.mk hb3;clear hb3))
 go_ret
 exact ⟨rfl,HS2.out.more HB3.out,ua.keep_then (u1q.of_below (ub (Below.refl _ _) nd) g none) (ua.keep_then HK2.out (u1q.of_below HB3.out g none))⟩
set_option maxRecDepth 100000 in
set_option maxHeartbeats 1000000 in
theorem u1g.dec_no (w0 W:World) (g:Nat) (s:List UInt8) (hl:s.length ≤ 1000) (hs:([48,120]:List UInt8).isPrefixOf s = false) (hv:Tx.valueD false 20 10 s = none) (h:ua.St w0 W g s) :
 Calls Tryz.prog 98 #[.pointer (some ⟨g,0,none⟩)] W fun e W' => e = .panicked (u2l.chain 280) ∧ Below w0.heap.size w0 W':=by
 unfold Tx.valueD at hv
 have HC:Aside0 (u1o.f (Base.ofL s) (⟨#[48,120]⟩:ByteArray) = some (Base.ofL s,false)):=⟨by
  have e:=u1g.cut_pre [48,120] s
  rw [if_neg (by rw [hs];decide)] at e
  exact e⟩
 clear hs
 have HS:=Aside0.mk h
 obtain ⟨h0,f0⟩:=h.look
 clear h
 cases hd:Tx.digitsP false 20 s with
 | none =>
   have HD:=Aside0.mk hd
   clear hd hv
   go_enter Tryz.func98,Tryz.ntmps98
   go_wp2_with (first
    | (go_at_call 117;(with_reducible refine (u1o.calls _ _ _ _ _ HC.out).mono ?_);rintro e W1 ⟨rfl,⟨nd,rfl⟩⟩)
    | (go_at_call 126;(with_reducible refine (u1l.no_at 20 20 rfl w0 _ g false s (by omega) (by omega) HD.out (by exact HS.out.drew nd)).mono ?_);rintro e W2 ⟨rfl,hb2⟩))
   exact ⟨rfl,rfl,hb2⟩
 | some p =>
   obtain ⟨d,r⟩:=p
   rw [hd] at hv
   have hn:Tx.numL 10 d 0 = none:=by simpa using hv
   obtain ⟨ha,hdl,hrl⟩:=u1g.dig_is hd
   have HA:=Aside0.mk ha
   have HD:=Aside0.mk hd
   have HN:=Aside0.mk hn
   clear ha hd hn hv
   go_enter Tryz.func98,Tryz.ntmps98
   go_wp2_with (first
    | (go_at_call 117;(with_reducible refine (u1o.calls _ _ _ _ _ HC.out).mono ?_);rintro e W1 ⟨rfl,⟨nd,rfl⟩⟩)
    | (go_at_call 126;(with_reducible refine (u1l.ok_at 20 20 rfl w0 _ g false s (by omega) (by omega) d r HD.out (by exact HS.out.drew nd)).mono ?_);rintro e W2 ⟨rfl,hs2,hk2⟩;have HS2:=Aside0.mk hs2;have HK2:=Aside0.mk hk2;clear hs2 hk2)
    | (go_at_call 125;(with_reducible refine (u1a.says_no d 10 (by omega) (by omega) HA.out HN.out _).mono ?_);rintro e W3 ⟨rfl,hb3⟩))
   exact ⟨rfl,rfl,(HS2.out.more hb3).below⟩
theorem u1g.value_is (s:List UInt8):(∃ q,s = 48 :: 120 :: q ∧ Tx.valueP s = Tx.valueD true 16 16 q) ∨ (([48,120]:List UInt8).isPrefixOf s = false ∧ Tx.valueP s = Tx.valueD false 20 10 s):=by
 by_cases h:∃ q,s = 48 :: 120 :: q
 · obtain ⟨q,rfl⟩:=h
   exact Or.inl ⟨q,rfl,rfl⟩
 · refine Or.inr ⟨?_,?_⟩
   · cases e:([48,120]:List UInt8).isPrefixOf s with
     | false => rfl
     | true =>
       obtain ⟨t,ht⟩:=List.isPrefixOf_iff_prefix.1 e
       exact absurd ⟨t,ht.symm⟩ h
   · unfold Tx.valueP
     split
     · exact absurd ⟨_,rfl⟩ h
     · rfl
theorem u1g.calls_ok (w0 W:World) (g:Nat) (s:List UInt8) (hl:s.length ≤ 1000) (n:Int) (r:List UInt8) (hv:Tx.valueP s = some (n,r)) (h:ua.St w0 W g s) :
 Calls Tryz.prog 98 #[.pointer (some ⟨g,0,none⟩)] W fun e W' => e = .returned (.int .u64 n) ∧ ua.St w0 W' g r ∧ u1q W W' g none:=by
 rcases u1g.value_is s with ⟨q,hq,e⟩ | ⟨hq,e⟩
 · exact u1g.hex_ok w0 W g s hl q hq n r (e ▸ hv) h
 · exact u1g.dec_ok w0 W g s hl hq n r (e ▸ hv) h
theorem u1g.calls_no (w0 W:World) (g:Nat) (s:List UInt8) (hl:s.length ≤ 1000) (hv:Tx.valueP s = none) (h:ua.St w0 W g s) :
 Calls Tryz.prog 98 #[.pointer (some ⟨g,0,none⟩)] W fun e W' => e = .panicked (u2l.chain 280) ∧ Below w0.heap.size w0 W':=by
 rcases u1g.value_is s with ⟨q,hq,e⟩ | ⟨hq,e⟩
 · exact u1g.hex_no w0 W g s hl q hq (e ▸ hv) h
 · exact u1g.dec_no w0 W g s hl hq (e ▸ hv) h
def u1r.l0:Nat → ByteArray → ByteArray → Int → Option (ByteArray)
 | 0,_,_,_ => none
 | k + 1,x0,x3,x4 => if x4 < (x0.size:Int) then (if 0 ≤ x4 then (if (bt x0 x4) = 34 then (if x3.size + 1 ≤ 9223372036854775807 then (if x4 ≤ (wrap64 (x4 + 1)) then (if (wrap64 (x4 + 1)) ≤ (x0.size:Int) then (if (x3 ++ (⟨#[92]⟩:ByteArray)).size + (x0.extract (x4:Int).toNat ((wrap64 (x4 + 1)):Int).toNat).size ≤ 9223372036854775807 then (u1r.l0 k x0 ((x3 ++ (⟨#[92]⟩:ByteArray)) ++ (x0.extract (x4:Int).toNat ((wrap64 (x4 + 1)):Int).toNat)) (wrap64 (x4 + 1))) else (none)) else (none)) else (none)) else (none)) else (if (bt x0 x4) = 92 then (if x3.size + 1 ≤ 9223372036854775807 then (if x4 ≤ (wrap64 (x4 + 1)) then (if (wrap64 (x4 + 1)) ≤ (x0.size:Int) then (if (x3 ++ (⟨#[92]⟩:ByteArray)).size + (x0.extract (x4:Int).toNat ((wrap64 (x4 + 1)):Int).toNat).size ≤ 9223372036854775807 then (u1r.l0 k x0 ((x3 ++ (⟨#[92]⟩:ByteArray)) ++ (x0.extract (x4:Int).toNat ((wrap64 (x4 + 1)):Int).toNat)) (wrap64 (x4 + 1))) else (none)) else (none)) else (none)) else (none)) else (if x4 ≤ (wrap64 (x4 + 1)) then (if (wrap64 (x4 + 1)) ≤ (x0.size:Int) then (if x3.size + (x0.extract (x4:Int).toNat ((wrap64 (x4 + 1)):Int).toNat).size ≤ 9223372036854775807 then (u1r.l0 k x0 (x3 ++ (x0.extract (x4:Int).toNat ((wrap64 (x4 + 1)):Int).toNat)) (wrap64 (x4 + 1))) else (none)) else (none)) else (none)))) else (none)) else (if x3.size + 1 ≤ 9223372036854775807 then (some (x3 ++ (⟨#[34]⟩:ByteArray))) else (none))
def u1r.f (k:Nat) (a0:ByteArray):Option (ByteArray):=u1r.l0 k a0 (⟨#[34]⟩:ByteArray) 0
set_option maxHeartbeats 8000000 in
set_option maxRecDepth 100000 in
theorem u1r.calls (k:Nat) (a0:ByteArray) (r:ByteArray) (w:World) (h:u1r.f k a0 = some r) :
 Calls Tryz.prog 113 #[.string a0] w fun e w' => e = .returned (.string r) ∧ uy w w':=by
 have H:(u1r.l0 k a0 (⟨#[34]⟩:ByteArray) 0) = some r:=h
 clear h
 have H':=Aside0.mk H
 clear H
 go_enter Tryz.func113,Tryz.ntmps113
 go_wp2
 go_loopg [3,4] k (fun kq v3 v4 w' => ∃ (x3_1:ByteArray) (x4_1:Int),v3 = .string x3_1 ∧ v4 = .int .i64 x4_1 ∧ Aside0 (u1r.l0 kq a0 x3_1 x4_1 = some r) ∧ Aside0 (kq ≤ k) ∧ uy w w')
 case atStart => exact ⟨((⟨#[34]⟩:ByteArray)),(0),(by first | rfl | (simp;done) | (simp [*];done)),(by first | rfl | (simp;done) | (simp [*];done)),H',⟨Nat.le_refl _⟩,by repeat (first | exact uy.refl _ | apply uy.step)⟩
 case round =>
  clear H'
  try clear c1
  obtain ⟨x3_1,x4_1,rfl,rfl,HA,HK1,⟨m1,rfl⟩⟩:=hrel
  cases gk with
  | zero => exact absurd HA.out (by simp [u1r.l0])
  | succ k1 =>
    have H:=HA.out
    clear HA
    simp only [u1r.l0] at H
    by_cases c2:x4_1 < (a0.size:Int)
    · rw [if_pos c2] at H
      have c2b0:decide (x4_1 < (a0.size:Int)) = true:=decide_eq_true c2
      clear c2
      by_cases c3:0 ≤ x4_1
      · rw [if_pos c3] at H
        have c3b0:decide (0 ≤ x4_1) = true:=decide_eq_true c3
        clear c3
        by_cases c5:(bt a0 x4_1) = 34
        · rw [if_pos c5] at H
          have c5b0:((bt a0 x4_1) == 34) = true:=beq_iff_eq.mpr c5
          have c5b1:((bt a0 x4_1) != 34) = false:=bne_eq_false_iff_eq.mpr c5
          clear c5
          by_cases c6:x3_1.size + 1 ≤ 9223372036854775807
          · rw [if_pos c6] at H
            have c6b0:=eq_true c6
            have c6b1:decide (x3_1.size + 1 ≤ 9223372036854775807) = true:=decide_eq_true c6
            try have c6b2:(9223372036854775807 < x3_1.size + 1) = False:=eq_false (Nat.not_lt.2 c6)
            try (have c6b3:=c6b2;simp only [ByteArray.size_append,Base.size1,(show ∀ a_ b_:UInt8,(⟨#[a_,b_]⟩:ByteArray).size = 2 from fun _ _ => rfl)] at c6b3)
            have c7b0:=eq_true (of_decide_eq_true (by first | (with_reducible assumption) | assumption):0 ≤ x4_1)
            by_cases c8:x4_1 ≤ (wrap64 (x4_1 + 1))
            · rw [if_pos c8] at H
              have c8b0:=eq_true c8
              have c8b1:decide (x4_1 ≤ (wrap64 (x4_1 + 1))) = true:=decide_eq_true c8
              by_cases c9:(wrap64 (x4_1 + 1)) ≤ (a0.size:Int)
              · rw [if_pos c9] at H
                have c9b0:=eq_true c9
                have c9b1:decide ((wrap64 (x4_1 + 1)) ≤ (a0.size:Int)) = true:=decide_eq_true c9
                by_cases c10:(x3_1 ++ (⟨#[92]⟩:ByteArray)).size + (a0.extract (x4_1:Int).toNat ((wrap64 (x4_1 + 1)):Int).toNat).size ≤ 9223372036854775807
                · rw [if_pos c10] at H
                  have c10b0:=eq_true c10
                  have c10b1:decide ((x3_1 ++ (⟨#[92]⟩:ByteArray)).size + (a0.extract (x4_1:Int).toNat ((wrap64 (x4_1 + 1)):Int).toNat).size ≤ 9223372036854775807) = true:=decide_eq_true c10
                  try have c10b2:(9223372036854775807 < (x3_1 ++ (⟨#[92]⟩:ByteArray)).size + (a0.extract (x4_1:Int).toNat ((wrap64 (x4_1 + 1)):Int).toNat).size) = False:=eq_false (Nat.not_lt.2 c10)
                  try (have c10b3:=c10b2;simp only [ByteArray.size_append,Base.size1,(show ∀ a_ b_:UInt8,(⟨#[a_,b_]⟩:ByteArray).size = 2 from fun _ _ => rfl)] at c10b3)
                  try (have c10b4:(9223372036854775807 < (x3_1 ++ (⟨#[92]⟩:ByteArray)).size + (((wrap64 (x4_1 + 1))).toNat - (x4_1).toNat)) = False:=eq_false (by have h4_:=c10;simp only [ByteArray.size_extract,ByteArray.size_append,Base.size1] at h4_;omega))
                  have H':=Aside0.mk H
                  clear H
                  have p4:0 ≤ (x4_1:Int):=of_decide_eq_true (by first | (with_reducible assumption) | assumption)
                  have q4:x4_1 < (a0.size:Int):=of_decide_eq_true (by first | (with_reducible assumption) | assumption)
                  have hx4:=bt_at a0 x4_1
                  replace p4:=eq_true p4
                  replace q4:=eq_true q4
                  go_wp2
                  go_roundg k1
                  case measure => have:=HK1.out;omega
                  case rel => exact ⟨((x3_1 ++ (⟨#[92]⟩:ByteArray)) ++ (a0.extract (x4_1:Int).toNat ((wrap64 (x4_1 + 1)):Int).toNat)),(wrap64 (x4_1 + 1)),(by first | rfl | (simp;done) | (simp [*];done)),(by first | rfl | (simp;done) | (simp [*];done)),H',⟨by have:=HK1.out;omega⟩,by repeat (first | exact uy.refl _ | apply uy.step)⟩
                · rw [if_neg c10] at H
                  exact absurd H (by simp)
              · rw [if_neg c9] at H
                exact absurd H (by simp)
            · rw [if_neg c8] at H
              exact absurd H (by simp)
          · rw [if_neg c6] at H
            exact absurd H (by simp)
        · rw [if_neg c5] at H
          have c5b0:((bt a0 x4_1) == 34) = false:=beq_eq_false_iff_ne.mpr c5
          have c5b1:((bt a0 x4_1) != 34) = true:=bne_iff_ne.mpr c5
          by_cases c12:(bt a0 x4_1) = 92
          · rw [if_pos c12] at H
            have c12b0:((bt a0 x4_1) == 92) = true:=beq_iff_eq.mpr c12
            have c12b1:((bt a0 x4_1) != 92) = false:=bne_eq_false_iff_eq.mpr c12
            clear c12
            by_cases c13:x3_1.size + 1 ≤ 9223372036854775807
            · rw [if_pos c13] at H
              have c13b0:=eq_true c13
              have c13b1:decide (x3_1.size + 1 ≤ 9223372036854775807) = true:=decide_eq_true c13
              try have c13b2:(9223372036854775807 < x3_1.size + 1) = False:=eq_false (Nat.not_lt.2 c13)
              try (have c13b3:=c13b2;simp only [ByteArray.size_append,Base.size1,(show ∀ a_ b_:UInt8,(⟨#[a_,b_]⟩:ByteArray).size = 2 from fun _ _ => rfl)] at c13b3)
              have c14b0:=eq_true (of_decide_eq_true (by first | (with_reducible assumption) | assumption):0 ≤ x4_1)
              by_cases c15:x4_1 ≤ (wrap64 (x4_1 + 1))
              · rw [if_pos c15] at H
                have c15b0:=eq_true c15
                have c15b1:decide (x4_1 ≤ (wrap64 (x4_1 + 1))) = true:=decide_eq_true c15
                by_cases c16:(wrap64 (x4_1 + 1)) ≤ (a0.size:Int)
                · rw [if_pos c16] at H
                  have c16b0:=eq_true c16
                  have c16b1:decide ((wrap64 (x4_1 + 1)) ≤ (a0.size:Int)) = true:=decide_eq_true c16
                  by_cases c17:(x3_1 ++ (⟨#[92]⟩:ByteArray)).size + (a0.extract (x4_1:Int).toNat ((wrap64 (x4_1 + 1)):Int).toNat).size ≤ 9223372036854775807
                  · rw [if_pos c17] at H
                    have c17b0:=eq_true c17
                    have c17b1:decide ((x3_1 ++ (⟨#[92]⟩:ByteArray)).size + (a0.extract (x4_1:Int).toNat ((wrap64 (x4_1 + 1)):Int).toNat).size ≤ 9223372036854775807) = true:=decide_eq_true c17
                    try have c17b2:(9223372036854775807 < (x3_1 ++ (⟨#[92]⟩:ByteArray)).size + (a0.extract (x4_1:Int).toNat ((wrap64 (x4_1 + 1)):Int).toNat).size) = False:=eq_false (Nat.not_lt.2 c17)
                    try (have c17b3:=c17b2;simp only [ByteArray.size_append,Base.size1,(show ∀ a_ b_:UInt8,(⟨#[a_,b_]⟩:ByteArray).size = 2 from fun _ _ => rfl)] at c17b3)
                    try (have c17b4:(9223372036854775807 < (x3_1 ++ (⟨#[92]⟩:ByteArray)).size + (((wrap64 (x4_1 + 1))).toNat - (x4_1).toNat)) = False:=eq_false (by have h4_:=c17;simp only [ByteArray.size_extract,ByteArray.size_append,Base.size1] at h4_;omega))
                    have H':=Aside0.mk H
                    clear H
                    have p4:0 ≤ (x4_1:Int):=of_decide_eq_true (by first | (with_reducible assumption) | assumption)
                    have q4:x4_1 < (a0.size:Int):=of_decide_eq_true (by first | (with_reducible assumption) | assumption)
                    have hx4:=bt_at a0 x4_1
                    replace p4:=eq_true p4
                    replace q4:=eq_true q4
                    have p11:0 ≤ (x4_1:Int):=of_decide_eq_true (by first | (with_reducible assumption) | assumption)
                    have q11:x4_1 < (a0.size:Int):=of_decide_eq_true (by first | (with_reducible assumption) | assumption)
                    have hx11:=bt_at a0 x4_1
                    replace p11:=eq_true p11
                    replace q11:=eq_true q11
                    go_wp2
                    go_roundg k1
                    case measure => have:=HK1.out;omega
                    case rel => exact ⟨((x3_1 ++ (⟨#[92]⟩:ByteArray)) ++ (a0.extract (x4_1:Int).toNat ((wrap64 (x4_1 + 1)):Int).toNat)),(wrap64 (x4_1 + 1)),(by first | rfl | (simp;done) | (simp [*];done)),(by first | rfl | (simp;done) | (simp [*];done)),H',⟨by have:=HK1.out;omega⟩,by repeat (first | exact uy.refl _ | apply uy.step)⟩
                  · rw [if_neg c17] at H
                    exact absurd H (by simp)
                · rw [if_neg c16] at H
                  exact absurd H (by simp)
              · rw [if_neg c15] at H
                exact absurd H (by simp)
            · rw [if_neg c13] at H
              exact absurd H (by simp)
          · rw [if_neg c12] at H
            have c12b0:((bt a0 x4_1) == 92) = false:=beq_eq_false_iff_ne.mpr c12
            have c12b1:((bt a0 x4_1) != 92) = true:=bne_iff_ne.mpr c12
            have c18b0:=eq_true (of_decide_eq_true (by first | (with_reducible assumption) | assumption):0 ≤ x4_1)
            by_cases c19:x4_1 ≤ (wrap64 (x4_1 + 1))
            · rw [if_pos c19] at H
              have c19b0:=eq_true c19
              have c19b1:decide (x4_1 ≤ (wrap64 (x4_1 + 1))) = true:=decide_eq_true c19
              by_cases c20:(wrap64 (x4_1 + 1)) ≤ (a0.size:Int)
              · rw [if_pos c20] at H
                have c20b0:=eq_true c20
                have c20b1:decide ((wrap64 (x4_1 + 1)) ≤ (a0.size:Int)) = true:=decide_eq_true c20
                by_cases c21:x3_1.size + (a0.extract (x4_1:Int).toNat ((wrap64 (x4_1 + 1)):Int).toNat).size ≤ 9223372036854775807
                · rw [if_pos c21] at H
                  have c21b0:=eq_true c21
                  have c21b1:decide (x3_1.size + (a0.extract (x4_1:Int).toNat ((wrap64 (x4_1 + 1)):Int).toNat).size ≤ 9223372036854775807) = true:=decide_eq_true c21
                  try have c21b2:(9223372036854775807 < x3_1.size + (a0.extract (x4_1:Int).toNat ((wrap64 (x4_1 + 1)):Int).toNat).size) = False:=eq_false (Nat.not_lt.2 c21)
                  try (have c21b3:=c21b2;simp only [ByteArray.size_append,Base.size1,(show ∀ a_ b_:UInt8,(⟨#[a_,b_]⟩:ByteArray).size = 2 from fun _ _ => rfl)] at c21b3)
                  try (have c21b4:(9223372036854775807 < x3_1.size + (((wrap64 (x4_1 + 1))).toNat - (x4_1).toNat)) = False:=eq_false (by have h4_:=c21;simp only [ByteArray.size_extract,ByteArray.size_append,Base.size1] at h4_;omega))
                  have H':=Aside0.mk H
                  clear H
                  have p4:0 ≤ (x4_1:Int):=of_decide_eq_true (by first | (with_reducible assumption) | assumption)
                  have q4:x4_1 < (a0.size:Int):=of_decide_eq_true (by first | (with_reducible assumption) | assumption)
                  have hx4:=bt_at a0 x4_1
                  replace p4:=eq_true p4
                  replace q4:=eq_true q4
                  have p11:0 ≤ (x4_1:Int):=of_decide_eq_true (by first | (with_reducible assumption) | assumption)
                  have q11:x4_1 < (a0.size:Int):=of_decide_eq_true (by first | (with_reducible assumption) | assumption)
                  have hx11:=bt_at a0 x4_1
                  replace p11:=eq_true p11
                  replace q11:=eq_true q11
                  go_wp2
                  go_roundg k1
                  case measure => have:=HK1.out;omega
                  case rel => exact ⟨(x3_1 ++ (a0.extract (x4_1:Int).toNat ((wrap64 (x4_1 + 1)):Int).toNat)),(wrap64 (x4_1 + 1)),(by first | rfl | (simp;done) | (simp [*];done)),(by first | rfl | (simp;done) | (simp [*];done)),H',⟨by have:=HK1.out;omega⟩,by repeat (first | exact uy.refl _ | apply uy.step)⟩
                · rw [if_neg c21] at H
                  exact absurd H (by simp)
              · rw [if_neg c20] at H
                exact absurd H (by simp)
            · rw [if_neg c19] at H
              exact absurd H (by simp)
      · rw [if_neg c3] at H
        exact absurd H (by simp)
    · rw [if_neg c2] at H
      have c2b0:decide (x4_1 < (a0.size:Int)) = false:=decide_eq_false c2
      clear c2
      by_cases c22:x3_1.size + 1 ≤ 9223372036854775807
      · rw [if_pos c22] at H
        have c22b0:=eq_true c22
        have c22b1:decide (x3_1.size + 1 ≤ 9223372036854775807) = true:=decide_eq_true c22
        try have c22b2:(9223372036854775807 < x3_1.size + 1) = False:=eq_false (Nat.not_lt.2 c22)
        try (have c22b3:=c22b2;simp only [ByteArray.size_append,Base.size1,(show ∀ a_ b_:UInt8,(⟨#[a_,b_]⟩:ByteArray).size = 2 from fun _ _ => rfl)] at c22b3)
        obtain rfl:=Option.some.inj H
        go_wp2
        go_ret
        exact ⟨by first | rfl | (simp;done) | (simp [*];done),by repeat (first | exact uy.refl _ | apply uy.step)⟩
      · rw [if_neg c22] at H
        exact absurd H (by simp)
def uu.f (a0:ByteArray):Option (ByteArray × ByteArray × Int):=if a0.size ≤ 140737488355328 then some (Base.unq a0) else none
theorem uu.cut_yes (c:UInt8) (s:ByteArray) (r:List UInt8) (h:s.data.toList = c :: r):u1o.f s (⟨#[c]⟩:ByteArray) = some (s.extract 1 s.size,true):=by
 have hs:s.size = r.length + 1:=by rw [← u2f,h];rfl
 have h1:(s.extract 0 1).toList = [c]:=by
  rw [ByteArray.toList_eq,Base.extract_list,h]
  rfl
 have h2:((s.size:Int) ≥ 1):=by omega
 have h3:((1:Int) ≤ (s.size:Int)):=by omega
 simp [u1o.f,u2i.f,u1w.f,Base.size1,h1,h2,h3,ByteArray.toList_eq]
theorem uu.cut_no (c:UInt8) (s:ByteArray) (h:∀ r,s.data.toList ≠ c :: r):u1o.f s (⟨#[c]⟩:ByteArray) = some (s,false):=by
 by_cases h2:((s.size:Int) ≥ 1)
 · have h3:((1:Int) ≤ (s.size:Int)):=by omega
   have h1:¬ List.take 1 s.data.toList = [c]:=by
    cases hl:s.data.toList with
    | nil => simp
    | cons x q =>
      intro e
      have:x = c:=by simpa using e
      subst this
      exact h q hl
   simp [u1o.f,u2i.f,u1w.f,Base.size1,h1,h2,h3,ByteArray.toList_eq]
 · have h3:¬ ((1:Int) ≤ (s.size:Int)):=by omega
   simp [u1o.f,u2i.f,u1w.f,Base.size1,h3]
theorem uu.head (x:ByteArray) (c:UInt8) (r:List UInt8) (h:x.data.toList = c :: r):∃ hp:0 < x.size,((x[0]'hp).toNat:Int) = c.toNat ∧ (x.extract 1 x.size).data.toList = r ∧ x.size = r.length + 1 ∧ x.toList.isEmpty = false:=by
 have hs:x.size = r.length + 1:=by rw [← u2f,h];rfl
 have hp:0 < x.size:=by omega
 refine ⟨hp,?_,?_,hs,?_⟩
 · have h1:x.data.toList[0]? = some c:=by rw [h];rfl
   have h2:x.data.toList[0]'(by rw [u2f];exact hp) = c:=by
    rw [List.getElem?_eq_getElem (by rw [u2f];exact hp)] at h1
    exact Option.some.inj h1
   have h3:x[0]'hp = x.data.toList[0]'(by rw [u2f];exact hp):=rfl
   rw [h3,h2]
 · rw [Base.extract_rest,h]
   rfl
 · rw [ByteArray.toList_eq,h]
   rfl
theorem uu.byte_is (c:UInt8):((c.toNat:Int) = 34 ↔ c = 34) ∧ ((c.toNat:Int) = 92 ↔ c = 92):=by
 refine ⟨⟨fun e => UInt8.toNat_inj.1 (by simpa using (by omega:c.toNat = 34)),fun e => by rw [e];rfl⟩,⟨fun e => UInt8.toNat_inj.1 (by simpa using (by omega:c.toNat = 92)),fun e => by rw [e];rfl⟩⟩
theorem uu.info:(Tryz.prog.info? 5).map (fun i => (i.zero,i.size,i.bytes)) = some (some (.int .u8 0),1,1):=by kernel_rfl
def uu.nats (l:List UInt8):List Int:=l.map fun c => (c.toNat:Int)
theorem uu.str_of (l:List UInt8):strOfNums (uu.nats l) = Base.ofL l:=by
 refine Base.ext_data ?_
 rw [strOfNums_data,Base.ofL_data,uu.nats,List.map_map]
 conv => rhs;rw [← List.map_id l]
 refine List.map_congr_left (fun c _ => ?_)
 simp
def uu.out (o:Option (List UInt8 × List UInt8)):ByteArray × ByteArray × Int:=match o with
 | some (a,q) => (Base.ofL a,Base.ofL q,0)
 | none => (⟨#[]⟩,⟨#[]⟩,5)
set_option maxHeartbeats 4000000 in
set_option maxRecDepth 100000 in
theorem uu.calls (a0:ByteArray) (r1:ByteArray) (r2:ByteArray) (r3:Int) (w:World) (h:uu.f a0 = some (r1,r2,r3)) :
 Calls Tryz.prog 144 #[.string a0] w fun e w' => e = .returned (.tuple #[.string r1,.string r2,.int .i64 r3]) ∧ Below w.heap.size w w':=by
 unfold uu.f at h
 by_cases hlim:a0.size ≤ 140737488355328
 · rw [if_pos hlim] at h
   have hu:=Option.some.inj h
   clear h
   by_cases hq:∃ r,a0.data.toList = 34 :: r
   · obtain ⟨r,hr⟩:=hq
     have hu2:uu.out (Base.unqL r []) = (r1,r2,r3):=by
      rw [← hu]
      unfold Base.unq
      rw [hr]
      simp only [uu.out,if_true]
      cases Base.unqL r [] with
      | none => rfl
      | some y => rfl
     have HU:=Aside0.mk hu2
     have HC:=Aside0.mk (uu.cut_yes 34 a0 r hr)
     have hrl:Aside0 ((a0.extract 1 a0.size).data.toList = r):=⟨by rw [Base.extract_rest,hr];rfl⟩
     have hrn:r.length ≤ a0.size:=by rw [← u2f,hr];simp
     clear hu hu2 hr
     go_enter Tryz.func144,Tryz.ntmps144
     go_wp2_with (go_at_call 117;refine (u1o.calls _ _ _ _ _ HC.out).mono ?_;rintro e W1 ⟨rfl,⟨nd,rfl⟩⟩)
     go_loopg [5,7] (r.length) (fun kq v5 v7 wr => ∃ (x:ByteArray) (l acc:List UInt8),v5 = .string x ∧ Aside0 (x.data.toList = l ∧ uu.out (Base.unqL l acc) = (r1,r2,r3) ∧ Kd.R (Kd.int .u8) 5 wr w.heap.size (fun _ => True) v7 (uu.nats acc)) ∧ l.length ≤ kq ∧ acc.length + l.length ≤ r.length ∧ Aside0 (Below w.heap.size w wr))
     case atStart => exact ⟨_,r,[],rfl,⟨hrl.out,HU.out,Kd.R_nil _ _ _ _ _⟩,Nat.le_refl _,by simp,⟨ub (Below.refl _ _) nd⟩⟩
     case round =>
      obtain ⟨x,l,acc,rfl,HR,hk,hal,HB⟩:=hrel
      cases l with
      | nil =>
        have he:x.toList.isEmpty = true:=by rw [ByteArray.toList_eq,HR.out.1];rfl
        have hfin:Aside0 (r1 = ⟨#[]⟩ ∧ r2 = ⟨#[]⟩ ∧ r3 = 5):=⟨by
         have h5:=HR.out.2.1
         rw [Base.unqL_nil] at h5
         obtain ⟨h6,h7⟩:=Prod.mk.inj h5
         obtain ⟨h8,h9⟩:=Prod.mk.inj h7
         exact ⟨h6.symm,h8.symm,h9.symm⟩⟩
        go_wp2
        go_ret3
        exact ⟨by rw [hfin.out.1,hfin.out.2.1,hfin.out.2.2];rfl,HB.out⟩
      | cons c q =>
        obtain ⟨hp,hc,hx2,hxs,he⟩:=uu.head x c q HR.out.1
        have HX2:=Aside0.mk hx2
        have HXS:=Aside0.mk hxs
        have hx1:1 ≤ x.size:=by omega
        clear hx2 hxs
        have hcz:=uu.byte_is c
        obtain ⟨z,hzc⟩:∃ z:Int,Aside0 ((c.toNat:Int) = z):=⟨_,⟨rfl⟩⟩
        rw [hzc.out] at hc hcz
        by_cases h34:c = 34
        · have hz:(z == 34) = true:=by simpa using hcz.1.2 h34
          have hcv:=own_string (P:=Tryz.prog) (src:=22) (dst:=9) (e:=5) (xs:=uu.nats acc) Tryz.underlying22 Tryz.underlying5 Tryz.underlying9 (Kd.own_of_R HR.out.2.2)
          rw [uu.str_of] at hcv
          have hfin:Aside0 (r1 = Base.ofL acc ∧ r2 = Base.ofL q ∧ r3 = 0):=⟨by
           have h5:=HR.out.2.1
           rw [h34,Base.unqL_end] at h5
           obtain ⟨h6,h7⟩:=Prod.mk.inj h5
           obtain ⟨h8,h9⟩:=Prod.mk.inj h7
           exact ⟨h6.symm,h8.symm,h9.symm⟩⟩
          have hrest:Aside0 (x.extract 1 x.size = Base.ofL q):=⟨Base.ext_data (by rw [HX2.out,Base.ofL_data])⟩
          go_wp2
          go_ret3
          exact ⟨by rw [hfin.out.1,hfin.out.2.1,hfin.out.2.2,← hrest.out];rfl,HB.out⟩
        · have hb34:(z == 34) = false:=by
           have:¬ z = 34:=fun e => h34 (hcz.1.1 e)
           simpa using this
          obtain ⟨g1,rfl⟩:∃ g1,gk = g1 + 1:=⟨gk - 1,by simp at hk;omega⟩
          by_cases h92:c = 92
          · have hz:(z == 92) = true:=by simpa using hcz.2.2 h92
            cases q with
            | nil =>
              have he2:(x.extract 1 x.size).toList.isEmpty = true:=by rw [ByteArray.toList_eq,HX2.out];rfl
              have hfin:Aside0 (r1 = ⟨#[]⟩ ∧ r2 = ⟨#[]⟩ ∧ r3 = 5):=⟨by
               have h5:=HR.out.2.1
               rw [h92,Base.unqL_open] at h5
               obtain ⟨h6,h7⟩:=Prod.mk.inj h5
               obtain ⟨h8,h9⟩:=Prod.mk.inj h7
               exact ⟨h6.symm,h8.symm,h9.symm⟩⟩
              go_wp2
              go_ret3
              exact ⟨by rw [hfin.out.1,hfin.out.2.1,hfin.out.2.2];rfl,HB.out⟩
            | cons d q2 =>
              obtain ⟨hp2,hc2,hx22,hxs2,he2⟩:=uu.head (x.extract 1 x.size) d q2 HX2.out
              have HX22:=Aside0.mk hx22
              have HXS2:=Aside0.mk hxs2
              have hx12:1 ≤ (x.extract 1 x.size).size:=by omega
              have hx2s:2 ≤ x.size:=by
               have:=HXS.out
               simp at this
               omega
              have HX23:Aside0 (((x.extract 1 x.size).extract 1 (x.size - 1)).data.toList = q2):=⟨by
               have e1:(x.extract 1 x.size).size = x.size - 1:=by
                have h1:=HXS.out
                have h2:=HXS2.out
                simp at h1
                omega
               have h3:=HX22.out
               rw [e1] at h3
               exact h3⟩
              clear hx22 hxs2
              have hcz2:=uu.byte_is d
              obtain ⟨z2,hzd⟩:∃ z2:Int,Aside0 ((d.toNat:Int) = z2):=⟨_,⟨rfl⟩⟩
              rw [hzd.out] at hc2 hcz2
              by_cases hd:d = 34 ∨ d = 92
              · have hfin:Aside0 (uu.out (Base.unqL q2 (acc ++ [d])) = (r1,r2,r3)):=⟨by
                 have h5:=HR.out.2.1
                 rw [h92,Base.unqL_esc d q2 acc hd] at h5
                 exact h5⟩
                by_cases hd34:d = 34
                · have hz2:(z2 == 34) = true:=by simpa using hcz2.1.2 hd34
                  have hz2b:(z2 != 34) = false:=by simpa using hcz2.1.2 hd34
                  go_wp2_with fail
                  go_quiet (fail)
                  go_wp2_with (at_builtin;refine print_append_num (w0:=w) w.heap.size rfl (.tmp 47) (.tmp 49) 22 5 .u8 1 rfl Tryz.underlying22 uu.info (by decide) _ (uu.nats acc) z2 rfl rfl (by exact pw_own_below (Kd.own_of_R HR.out.2.2) (ub (Below.refl _ _) _)) (by exact ub HB.out _) ?_ ?_ ?_)
                  · have:=HB.out.size;simpa using this
                  · have h8:(uu.nats acc).length = acc.length:=by simp [uu.nats]
                    rw [h8];simp at hal;omega
                  · intro v1 w1 hown hB hg hat
                    have hR1:Kd.R (Kd.int .u8) 5 w1 w.heap.size (fun _ => True) v1 (uu.nats (acc ++ [d])):=by
                     have h9:uu.nats (acc ++ [d]) = uu.nats acc ++ [z2]:=by simp [uu.nats,hzd.out]
                     rw [h9]
                     have e9:∀ y:Int,(uu.nats acc ++ [y]).length = (uu.nats acc).length + 1:=fun y => by simp
                     refine Kd.R_of_own ?_ (fun _ _ => trivial)
                     rw [e9]
                     exact hown
                    have HR1:=Aside0.mk hR1
                    have HB1:=Aside0.mk hB
                    clear hown hg hat hB hR1
                    go_wp2
                    go_roundg g1
                    case rel => exact ⟨_,q2,acc ++ [d],rfl,⟨HX23.out,hfin.out,HR1.out⟩,by simp at hk;omega,by simp at hal ⊢;omega,HB1⟩
                    case measure => omega
                · have hz2:(z2 == 34) = false:=by
                   have:¬ z2 = 34:=fun e => hd34 (hcz2.1.1 e)
                   simpa using this
                  have hz3:(z2 == 92) = true:=by
                   have:d = 92:=by rcases hd with h | h;exact absurd h hd34;exact h
                   simpa using hcz2.2.2 this
                  have hz2b:(z2 != 34) = true:=by
                   have:¬ z2 = 34:=fun e => hd34 (hcz2.1.1 e)
                   simpa using this
                  have hz3b:(z2 != 92) = false:=by
                   have:d = 92:=by rcases hd with h | h;exact absurd h hd34;exact h
                   simpa using hcz2.2.2 this
                  go_wp2_with fail
                  go_quiet (fail)
                  go_wp2_with (at_builtin;refine print_append_num (w0:=w) w.heap.size rfl (.tmp 47) (.tmp 49) 22 5 .u8 1 rfl Tryz.underlying22 uu.info (by decide) _ (uu.nats acc) z2 rfl rfl (by exact pw_own_below (Kd.own_of_R HR.out.2.2) (ub (Below.refl _ _) _)) (by exact ub HB.out _) ?_ ?_ ?_)
                  · have:=HB.out.size;simpa using this
                  · have h8:(uu.nats acc).length = acc.length:=by simp [uu.nats]
                    rw [h8];simp at hal;omega
                  · intro v1 w1 hown hB hg hat
                    have hR1:Kd.R (Kd.int .u8) 5 w1 w.heap.size (fun _ => True) v1 (uu.nats (acc ++ [d])):=by
                     have h9:uu.nats (acc ++ [d]) = uu.nats acc ++ [z2]:=by simp [uu.nats,hzd.out]
                     rw [h9]
                     have e9:∀ y:Int,(uu.nats acc ++ [y]).length = (uu.nats acc).length + 1:=fun y => by simp
                     refine Kd.R_of_own ?_ (fun _ _ => trivial)
                     rw [e9]
                     exact hown
                    have HR1:=Aside0.mk hR1
                    have HB1:=Aside0.mk hB
                    clear hown hg hat hB hR1
                    go_wp2
                    go_roundg g1
                    case rel => exact ⟨_,q2,acc ++ [d],rfl,⟨HX23.out,hfin.out,HR1.out⟩,by simp at hk;omega,by simp at hal ⊢;omega,HB1⟩
                    case measure => omega
              · have hfin:Aside0 (r1 = ⟨#[]⟩ ∧ r2 = ⟨#[]⟩ ∧ r3 = 5):=⟨by
                 have h5:=HR.out.2.1
                 rw [h92,Base.unqL_bad d q2 acc hd] at h5
                 obtain ⟨h6,h7⟩:=Prod.mk.inj h5
                 obtain ⟨h8,h9⟩:=Prod.mk.inj h7
                 exact ⟨h6.symm,h8.symm,h9.symm⟩⟩
                have hz2:(z2 == 34) = false:=by
                 have:¬ z2 = 34:=fun e => hd (.inl (hcz2.1.1 e))
                 simpa using this
                have hz3:(z2 == 92) = false:=by
                 have:¬ z2 = 92:=fun e => hd (.inr (hcz2.2.1 e))
                 simpa using this
                have hz2b:(z2 != 34) = true:=by simpa using hz2
                have hz3b:(z2 != 92) = true:=by simpa using hz3
                go_wp2
                go_ret3
                exact ⟨by rw [hfin.out.1,hfin.out.2.1,hfin.out.2.2];rfl,HB.out⟩
          · have hb92:(z == 92) = false:=by
             have:¬ z = 92:=fun e => h92 (hcz.2.1 e)
             simpa using this
            have hfin:Aside0 (uu.out (Base.unqL q (acc ++ [c])) = (r1,r2,r3)):=⟨by
             have h5:=HR.out.2.1
             rw [Base.unqL_plain c q acc h34 h92] at h5
             exact h5⟩
            go_wp2_with (at_builtin;refine print_append_num (w0:=w) w.heap.size rfl (.tmp 47) (.tmp 49) 22 5 .u8 1 rfl Tryz.underlying22 uu.info (by decide) _ (uu.nats acc) z rfl rfl (by exact Kd.own_of_R HR.out.2.2) (by exact HB.out) ?_ ?_ ?_)
            · have:=HB.out.size;simpa using this
            · have h8:(uu.nats acc).length = acc.length:=by simp [uu.nats]
              rw [h8];simp at hal;omega
            · intro v1 w1 hown hB hg hat
              have hR1:Kd.R (Kd.int .u8) 5 w1 w.heap.size (fun _ => True) v1 (uu.nats (acc ++ [c])):=by
               have h9:uu.nats (acc ++ [c]) = uu.nats acc ++ [z]:=by simp [uu.nats,hzc.out]
               rw [h9]
               have e9:∀ y:Int,(uu.nats acc ++ [y]).length = (uu.nats acc).length + 1:=fun y => by simp
               refine Kd.R_of_own ?_ (fun _ _ => trivial)
               rw [e9]
               exact hown
              have HR1:=Aside0.mk hR1
              have HB1:=Aside0.mk hB
              clear hown hg hat hB hR1
              go_wp2
              go_roundg g1
              case rel => exact ⟨_,q,acc ++ [c],rfl,⟨HX2.out,hfin.out,HR1.out⟩,by simp at hk;omega,by simp at hal ⊢;omega,HB1⟩
              case measure => omega
   · have hcut:=uu.cut_no 34 a0 (fun r hr => hq ⟨r,hr⟩)
     have HC:=Aside0.mk hcut
     have hu2:Aside0 (r1 = ⟨#[]⟩ ∧ r2 = ⟨#[]⟩ ∧ r3 = 5):=⟨by
      unfold Base.unq at hu
      cases hl:a0.data.toList with
      | nil =>
        rw [hl] at hu
        obtain ⟨h6,h7⟩:=Prod.mk.inj hu
        obtain ⟨h8,h9⟩:=Prod.mk.inj h7
        exact ⟨h6.symm,h8.symm,h9.symm⟩
      | cons c q =>
        rw [hl] at hu
        have hc:¬ c = 34:=fun e => hq ⟨q,by rw [hl,e]⟩
        simp only [hc,if_false] at hu
        obtain ⟨h6,h7⟩:=Prod.mk.inj hu
        obtain ⟨h8,h9⟩:=Prod.mk.inj h7
        exact ⟨h6.symm,h8.symm,h9.symm⟩⟩
     clear hcut hu
     go_enter Tryz.func144,Tryz.ntmps144
     go_wp2_with (go_at_call 117;refine (u1o.calls _ _ _ _ _ HC.out).mono ?_;rintro e W1 ⟨rfl,⟨nd,rfl⟩⟩)
     refine wp_loop_rounds 1 ?_
     rw [rounds_succ]
     go_wp2
     go_ret3
     exact ⟨by rw [hu2.out.1,hu2.out.2.1,hu2.out.2.2];rfl,ub (Below.refl _ _) nd⟩
 · rw [if_neg hlim] at h
   exact absurd h (by simp)
set_option maxRecDepth 100000 in
set_option maxHeartbeats 1000000 in
theorem u1j.walk (w0 W:World) (g:Nat) (s:List UInt8) (hl:s.length ≤ 1000) (n:ByteArray) (r:List UInt8) (hn:Tx.nameP s = some (n,r)) (q:List UInt8) (hq:r = 61 :: q) (v:ByteArray) (t:List UInt8) (hv:Base.unq (Base.ofL q) = (v,Base.ofL t,0)) (hql:q.length ≤ 1000)
 (h:ua.St w0 W g s) :
 Calls Tryz.prog 122 #[.pointer (some ⟨g,0,none⟩)] W fun e W' => e = .returned (.agg #[.string n,.string v]) ∧ ua.St w0 W' g t ∧ u1q W W' g none:=by
 have HS:=Aside0.mk h
 have HN:=Aside0.mk hn
 have HG:=Aside0.mk h.lt
 have HU:Aside0 (uu.f (Base.ofL q) = some (v,Base.ofL t,0)):=⟨by
  unfold uu.f
  rw [if_pos (by rw [(Tx.cut_ofL q 0 (by omega)).2.2];omega),hv]⟩
 subst hq
 clear h hn hv
 go_enter Tryz.func122,Tryz.ntmps122
 go_wp2_with (first
  | (go_at_call 81;(with_reducible refine (u2m.calls_ok w0 _ g s (by omega) n (61 :: q) HN.out (by exact HS.out.one_more _)).mono ?_);rintro e W1 ⟨rfl,hs1,hk1⟩;have HS1:=Aside0.mk hs1;have HK1:=Aside0.mk hk1;have HL1:Aside0 (W.heap.size < W1.heap.size):=⟨by have:=hk1.1;simp at this;omega⟩;have B1:=Aside0.mk (ua.kept_at hk1 (by have:=HG.out;omega) (ua.new_at W _));clear hs1 hk1)
  | (go_at_call 82;(with_reducible refine (u1n.calls_ok w0 _ g 61 q (by exact HS1.out.one_more _)).mono ?_);rintro e W2 ⟨rfl,hs2,hk2⟩;have HS2:=Aside0.mk hs2;have HK2:=Aside0.mk hk2;have B2:=Aside0.mk (ua.kept_at hk2 (by have:=HG.out;omega) (ua.new_old B1.out _));have B3:=Aside0.mk (ua.kept_at hk2 (by have:=HG.out;have:=HL1.out;omega) (ua.new_at W1 _));obtain ⟨h0,f0⟩:=hs2.look;clear hs2 hk2)
  | (go_at_call 144;(with_reducible refine (uu.calls _ _ _ _ _ HU.out).mono ?_);rintro e W3 ⟨rfl,hb⟩;clear h0 f0;obtain ⟨h0,f0⟩:=(HS2.out.more hb).look;obtain ⟨a0,a1,a2,a3⟩:=ua.look2 (ua.below_at hb B2.out);obtain ⟨b0,b1,b2,b3⟩:=ua.look2 (ua.below_at hb B3.out);have HB:=Aside0.mk hb;clear hb;have n1:¬ W1.heap.size = g:=(by have:=HG.out;have:=HL1.out;omega);have n2:¬ W.heap.size = g:=(by have:=HG.out;omega);have n3:¬ W.heap.size = W1.heap.size:=(by have:=HL1.out;omega);have n4:¬ g = W1.heap.size:=fun e => n1 e.symm;have n5:¬ g = W.heap.size:=fun e => n2 e.symm;have n6:¬ W1.heap.size = W.heap.size:=fun e => n3 e.symm)
  | (go_at_call 83;(with_reducible refine (u2e.calls_ok _).mono ?_);rintro e W4 ⟨rfl,rfl⟩))
 refine bodyPost_ret (v:=.agg #[.string n,.string v]) (by simp [results,Tryz.results122,go_sem,n1,n2,n3,n4,n5,n6,a0,a1,a2,a3]) rfl ⟨rfl,?_,?_⟩
 · have hw:w0.heap.size ≤ W.heap.size:=HS.out.below.size
   have hw1:w0.heap.size ≤ W1.heap.size:=HS1.out.below.size
   exact ((((HS2.out.more HB.out).far hw1 n4 _).set t).far hw n5 _).far hw n5 _
 · have k4:u1q W W4 g none:=ua.keep_then (ua.keep_from HK1.out) (ua.keep_then (ua.keep_from HK2.out) (u1q.of_below HB.out g none))
   exact ua.keep_new (ua.keep_new ((ua.keep_new k4 (by have:=HL1.out;show W.heap.size ≤ W1.heap.size;omega) _).set_ 0 _) (Nat.le_refl _) _) (Nat.le_refl _) _
theorem u1j.quoted (q:List UInt8):(∀ v t,Tx.quotedP q = some (v,t) → Base.unq (Base.ofL q) = (v,Base.ofL t,0)) ∧ (Tx.quotedP q = none → Base.unq (Base.ofL q) = (⟨#[]⟩,⟨#[]⟩,5)):=by
 unfold Tx.quotedP Base.unq
 rw [Base.ofL_data]
 cases q with
 | nil => exact ⟨fun v t h => (by cases h),fun _ => rfl⟩
 | cons c r =>
   simp only
   by_cases hc:c = 34
   · rw [if_pos hc,if_pos hc]
     cases Base.unqL r [] with
     | none => exact ⟨fun v t h => (by cases h),fun _ => rfl⟩
     | some p =>
       refine ⟨fun v t h => ?_,fun h => by cases h⟩
       obtain ⟨rfl,rfl⟩:=Prod.mk.inj (Option.some.inj h)
       rfl
   · rw [if_neg hc,if_neg hc]
     exact ⟨fun v t h => (by cases h),fun _ => rfl⟩
theorem u1j.name_rest {s r:List UInt8} {n:ByteArray} (h:Tx.nameP s = some (n,r)):r.length ≤ s.length:=by
 unfold Tx.nameP at h
 split at h
 · obtain ⟨_,rfl⟩:=Prod.mk.inj (Option.some.inj h)
   have h1:=congrArg List.length (List.takeWhile_append_dropWhile (p:=Tx.wordC) (l:=s))
   rw [List.length_append] at h1
   omega
 · cases h
theorem u1j.expect_is (c:UInt8) (s:List UInt8):(∀ q,Tx.expectP [c] s = some q → s = c :: q) ∧ (Tx.expectP [c] s = none → ∀ r,s ≠ c :: r):=by
 unfold Tx.expectP
 cases s with
 | nil => exact ⟨fun q h => by simp [List.isPrefixOf] at h,fun _ r h => by cases h⟩
 | cons d t =>
   by_cases hc:c = d
   · subst hc
     exact ⟨fun q h => by simp [List.isPrefixOf] at h;rw [h],fun h => by simp [List.isPrefixOf] at h⟩
   · exact ⟨fun q h => by simp [List.isPrefixOf,hc] at h,fun _ r h => hc (List.cons.inj h).1.symm⟩
theorem u1j.calls_ok (w0 W:World) (g:Nat) (s:List UInt8) (hl:s.length ≤ 1000) (x:Tx.Lb) (t:List UInt8) (hx:Tx.labelP s = some (x,t)) (h:ua.St w0 W g s) :
 Calls Tryz.prog 122 #[.pointer (some ⟨g,0,none⟩)] W fun e W' => e = .returned (.agg #[.string x.f0,.string x.f1]) ∧ ua.St w0 W' g t ∧ u1q W W' g none:=by
 unfold Tx.labelP at hx
 obtain ⟨⟨n,r⟩,hn,hx⟩:=Option.bind_eq_some_iff.1 hx
 obtain ⟨⟨v,t'⟩,hv,hx⟩:=Option.map_eq_some_iff.1 hx
 obtain ⟨rfl,rfl⟩:=Prod.mk.inj hx
 obtain ⟨q,hq,hv⟩:=Option.bind_eq_some_iff.1 hv
 have hr:=u1j.name_rest hn
 have hq2:=(u1j.expect_is 61 r).1 q hq
 subst hq2
 rw [List.length_cons] at hr
 exact u1j.walk w0 W g s hl n _ hn q rfl v t' ((u1j.quoted q).1 v t' hv) (by omega) h
set_option maxRecDepth 100000 in
set_option maxHeartbeats 1000000 in
theorem u1j.calls_no (w0 W:World) (g:Nat) (s:List UInt8) (hl:s.length ≤ 1000) (hx:Tx.labelP s = none) (h:ua.St w0 W g s) :
 Calls Tryz.prog 122 #[.pointer (some ⟨g,0,none⟩)] W fun e W' => e = .panicked (u2l.chain 280) ∧ Below w0.heap.size w0 W':=by
 have HS:=Aside0.mk h
 have HG:=Aside0.mk h.lt
 have HX:=Aside0.mk hx
 clear h hx
 cases hn:Tx.nameP s with
 | none =>
   have HN:=Aside0.mk hn
   clear hn
   go_enter Tryz.func122,Tryz.ntmps122
   go_wp2_with (go_at_call 81;(with_reducible refine (u2m.calls_no w0 _ g s (by omega) HN.out (by exact HS.out.one_more _)).mono ?_);rintro e W1 ⟨rfl,hb1⟩)
   exact ⟨rfl,rfl,hb1⟩
 | some p =>
   obtain ⟨n,r⟩:=p
   have hr:=u1j.name_rest hn
   have HN:=Aside0.mk hn
   cases hq:Tx.expectP [61] r with
   | none =>
     have HQ:=Aside0.mk ((u1j.expect_is 61 r).2 hq)
     clear hn hq
     go_enter Tryz.func122,Tryz.ntmps122
     go_wp2_with (first
      | (go_at_call 81;(with_reducible refine (u2m.calls_ok w0 _ g s (by omega) n r HN.out (by exact HS.out.one_more _)).mono ?_);rintro e W1 ⟨rfl,hs1,hk1⟩;have HS1:=Aside0.mk hs1;clear hs1 hk1)
      | (go_at_call 82;(with_reducible refine (u1n.calls_no w0 _ g 61 r HQ.out (by exact HS1.out.one_more _)).mono ?_);rintro e W2 ⟨rfl,hb2⟩))
     exact ⟨rfl,rfl,hb2⟩
   | some q =>
     have hq2:=(u1j.expect_is 61 r).1 q hq
     subst hq2
     have hv:Tx.quotedP q = none:=by
      have h1:=HX.out
      unfold Tx.labelP Tx.valP at h1
      rw [hn] at h1
      simp only [Option.bind_some] at h1
      rw [hq] at h1
      simpa using h1
     rw [List.length_cons] at hr
     have HU:Aside0 (uu.f (Base.ofL q) = some (⟨#[]⟩,⟨#[]⟩,5)):=⟨by
      unfold uu.f
      rw [if_pos (by rw [(Tx.cut_ofL q 0 (by omega)).2.2];omega),(u1j.quoted q).2 hv]⟩
     clear hn hq hv
     go_enter Tryz.func122,Tryz.ntmps122
     go_wp2_with (first
      | (go_at_call 81;(with_reducible refine (u2m.calls_ok w0 _ g s (by omega) n (61 :: q) HN.out (by exact HS.out.one_more _)).mono ?_);rintro e W1 ⟨rfl,hs1,hk1⟩;have HS1:=Aside0.mk hs1;clear hs1 hk1)
      | (go_at_call 82;(with_reducible refine (u1n.calls_ok w0 _ g 61 q (by exact HS1.out.one_more _)).mono ?_);rintro e W2 ⟨rfl,hs2,hk2⟩;have HS2:=Aside0.mk hs2;obtain ⟨h0,f0⟩:=hs2.look;clear hs2 hk2)
      | (go_at_call 144;(with_reducible refine (uu.calls _ _ _ _ _ HU.out).mono ?_);rintro e W3 ⟨rfl,hb⟩;have HB:=Aside0.mk hb;clear hb)
      | (go_at_call 83;(with_reducible refine (u2e.calls_no _).mono ?_);rintro e W4 ⟨rfl,rfl⟩))
     exact ⟨rfl,rfl,(HS2.out.more HB.out).below⟩
end Go.Proofs.YtmcpeifhapekoaaGreatDoor.PAll
