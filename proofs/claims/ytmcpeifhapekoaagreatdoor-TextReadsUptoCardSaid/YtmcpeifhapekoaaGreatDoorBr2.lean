/- Texts of this seat, joined in the order in which they build. -/
import Derived.Test.YtmcpeifhapekoaaGreatDoorBr1
import Derived.Test.YtmcpeifhapekoaaGreatDoorRows
import Derived.LaidMore
import Derived.MakeChecks
import Derived.Handed
import Derived.HandedShaped
import Derived.JoinedCond
namespace Go.Proofs.YtmcpeifhapekoaaGreatDoor.PAll
open Go.RowKit Go.Proofs.YtmcpeifhapekoaaGreatDoorW.PrintWords Go.Proofs.YtmcpeifhapekoaaGreatDoorW.PrintLast Go.Proofs.YtmcpeifhapekoaaGreatDoorW.PrintMore
attribute [local go_sem] u3q u3r max_two min_two u3l u3k u3s u3p
set_option linter.unusedVariables false
set_option linter.unusedSimpArgs false
def u1z.f (a0:ByteArray) (a1:ByteArray):Option (ByteArray × Bool):=(u2s.f a0 a1).bind fun bt107 => (some (bt107.1,bt107.2))
set_option maxHeartbeats 8000000 in
set_option maxRecDepth 100000 in
theorem u1z.calls (a0:ByteArray) (a1:ByteArray) (r1:ByteArray) (r2:Bool) (w:World) (h:u1z.f a0 a1 = some (r1,r2)) :
 Calls Tryz.prog 117 #[.string a0,.string a1] w fun e w' => e = .returned (.tuple #[.string r1,.bool r2]) ∧ us w w':=by
 have H:((u2s.f a0 a1).bind fun bt107 => (some (bt107.1,bt107.2))) = some (r1,r2):=h
 clear h
 replace H:=Option.bind_eq_some_iff.mp H
 obtain ⟨⟨t107,t108⟩,A30,H⟩:=H
 replace H:(some (t107,t108)) = some (r1,r2):=H
 have A3:=Aside0.mk A30
 clear A30
 simp only [Option.some.injEq,Prod.mk.injEq] at H
 obtain ⟨rfl,rfl⟩:=H
 go_enter Tryz.func117,Tryz.ntmps117
 go_wp2_with (first | ((with_reducible refine u1u (f:=140) rfl ?_);refine u3e (some 8) rfl rfl Tryz.func140 (by kernel_rfl) rfl #[.string a0,.string a1] rfl (by (try simp only [List.map_toArray,List.map_cons,List.map_nil]);first | done | rfl | (simp only [List.length_drop,List.length_take];rfl)) ?_;(with_reducible refine (u2s.calls a0 a1 t107 t108 _ A3.out).mono ?_);rintro e w' ⟨rfl,⟨nd,rfl⟩⟩;refine ⟨_,rfl,?_⟩))
 go_ret2
 exact ⟨by first | rfl | (simp;done) | (simp [*];done),by repeat (first | exact us.refl _ | apply us.step)⟩
def u2w.f (a0:ByteArray):Option Bool:=some (Base.plainTextB a0)
def u2w.badB (r:Int):Bool:=decide (r < 32) || decide (r = 127) || decide (r = 65533)
set_option maxHeartbeats 1000000 in
set_option maxRecDepth 100000 in
theorem u2w.calls (a0:ByteArray) (r:Bool) (w:World) (h:u2w.f a0 = some r) :
 Calls Tryz.prog 112 #[.string a0] w fun e w' => e = .returned (.bool r) ∧ Below w.heap.size w w':=by
 obtain rfl:Base.plainTextB a0 = r:=by simpa [u2w.f] using h
 clear h
 go_enter Tryz.func112,Tryz.ntmps112
 go_wp2
 go_loopw [] (fun wr => ∃ (pos fuel:Nat),wr.heap[w.heap.size]? = some (.stringIter a0 pos) ∧ Below w.heap.size w wr ∧ Aside0 (Base.plainTextB a0 = (Base.runesFrom a0 fuel pos).all (fun r => !u2w.badB r)) ∧ a0.size ≤ fuel + pos)
  (fun wr => a0.size - wr.iterPos w.heap.size)
 case atStart =>
  refine ⟨0,a0.size,?_,(Below.refl _ w).alloc (Nat.le_refl _) _,⟨rfl⟩,by omega⟩
  have:=World.iter_heap w a0 0
  simpa using this
 case round =>
  obtain ⟨pos,fuel,hit,hbw,HE,hfu⟩:=hrel
  have hsz:w.heap.size < wr.heap.size:=(Array.getElem?_eq_some_iff.1 hit).1
  by_cases hp:pos < a0.size
  · have hnx:∀ ty,(Instr.next (.pointer (some ⟨w.heap.size,0,none⟩)) true ty).run Tryz.prog wr = _:=fun ty => Lib.run_next_any_at wr w.heap.size a0 pos ty hit hp
    have hwd:=Base.width_pos a0 pos hp
    have hd1:=decode_le a0 pos
    have hit2:=Lib.iterAt_heap wr w.heap.size a0 pos (pos + (Utf8.decode a0 pos).2) hit
    have hbw2:=Lib.below_iterAt hbw (k:=w.heap.size) (by omega) a0 (pos + (Utf8.decode a0 pos).2)
    obtain ⟨f,rfl⟩:∃ f,fuel = f + 1:=⟨fuel - 1,by omega⟩
    have hst:=Base.runesFrom_step a0 f pos hp
    rw [hst] at HE
    clear hst
    have hbad:Aside0 (u2w.badB ((Utf8.decode a0 pos).1:Int) = true ↔ ((Utf8.decode a0 pos).1 < 32 ∨ (Utf8.decode a0 pos).1 = 127 ∨ (Utf8.decode a0 pos).1 = 65533)):=⟨by
     simp only [u2w.badB,Bool.or_eq_true,decide_eq_true_eq]
     omega⟩
    by_cases h1:(Utf8.decode a0 pos).1 < 32
    · go_wp2
      go_ret
      have h2:=HE.out
      rw [List.all_cons,hbad.out.2 (.inl h1)] at h2
      exact ⟨by rw [h2];rfl,hbw2⟩
    · by_cases h3:(Utf8.decode a0 pos).1 = 127
      · have hb3:(((Utf8.decode a0 pos).1:Int) == 127) = true:=by simp;omega
        have H3:=Aside0.mk h3
        clear h3
        go_wp2
        go_ret
        have h2:=HE.out
        rw [List.all_cons,hbad.out.2 (.inr (.inl H3.out))] at h2
        exact ⟨by rw [h2];rfl,hbw2⟩
      · have hb3:(((Utf8.decode a0 pos).1:Int) == 127) = false:=by simp;omega
        by_cases h4:(Utf8.decode a0 pos).1 = 65533
        · have hb4:(((Utf8.decode a0 pos).1:Int) == 65533) = true:=by simp;omega
          have H4:=Aside0.mk h4
          clear h4
          go_wp2
          go_ret
          have h2:=HE.out
          rw [List.all_cons,hbad.out.2 (.inr (.inr H4.out))] at h2
          exact ⟨by rw [h2];rfl,hbw2⟩
        · have hb4:(((Utf8.decode a0 pos).1:Int) == 65533) = false:=by simp;omega
          have hgood:u2w.badB ((Utf8.decode a0 pos).1:Int) = false:=by
           cases hq:u2w.badB ((Utf8.decode a0 pos).1:Int) with
           | false => rfl
           | true => have:=hbad.out.1 hq;omega
          have Hg:=Aside0.mk hgood
          clear hgood
          go_wp2
          go_roundw
          case rel =>
           refine ⟨pos + (Utf8.decode a0 pos).2,f,by simpa using hit2,hbw2,⟨?_⟩,by omega⟩
           have h2:=HE.out
           rw [List.all_cons,Hg.out,Bool.not_false,Bool.true_and] at h2
           exact h2
          case measure =>
           simp only [World.iterPos,hit2,hit]
           omega
  · have hnx:∀ ty,(Instr.next (.pointer (some ⟨w.heap.size,0,none⟩)) true ty).run Tryz.prog wr = _:=fun ty => Lib.run_next_end_at wr w.heap.size a0 pos ty hit hp
    have h1:=HE.out
    rw [Base.runesFrom_end a0 fuel pos hp,List.all_nil] at h1
    have H1:=Aside0.mk h1
    clear h1 HE
    go_wp2
    go_ret
    exact ⟨by rw [H1.out];rfl,hbw⟩
def u3a.f (a0:ByteArray):Option (Bool):=if (a0.size:Int) ≥ 1 then (if (a0.size:Int) ≤ 40 then ((u2w.f a0).bind fun t123 => (some t123)) else (some false)) else (some false)
set_option maxHeartbeats 8000000 in
set_option maxRecDepth 100000 in
theorem u3a.calls (a0:ByteArray) (r:Bool) (w:World) (h:u3a.f a0 = some r) :
 Calls Tryz.prog 70 #[.string a0] w fun e w' => e = .returned (.bool r) ∧ Below w.heap.size w w':=by
 have HB:=Aside0.mk (Below.refl w.heap.size w)
 have H:(if (a0.size:Int) ≥ 1 then (if (a0.size:Int) ≤ 40 then ((u2w.f a0).bind fun t123 => (some t123)) else (some false)) else (some false)) = some r:=h
 clear h
 by_cases c2:(a0.size:Int) ≥ 1
 · rw [if_pos c2] at H
   have c2b0:decide (1 ≤ (a0.size:Int)) = true:=decide_eq_true c2
   have c2b1:decide (1 ≤ a0.size) = true:=decide_eq_true (by omega)
   clear c2
   by_cases c3:(a0.size:Int) ≤ 40
   · rw [if_pos c3] at H
     have c3b0:decide ((a0.size:Int) ≤ 40) = true:=decide_eq_true c3
     have c3b1:decide (a0.size ≤ 40) = true:=decide_eq_true (by omega)
     clear c3
     replace H:=Option.bind_eq_some_iff.mp H
     obtain ⟨t123,A40,H⟩:=H
     replace H:(some t123) = some r:=H
     have A4:=Aside0.mk A40
     clear A40
     obtain rfl:=Option.some.inj H
     go_enter Tryz.func70,Tryz.ntmps70
     go_wp2_with (first | (go_at_call 112;(with_reducible refine (u2w.calls a0 t123 _ A4.out).mono ?_);rintro e w5 ⟨rfl,hb⟩;have n0_:=Aside0.mk (u1h (by repeat (first | (with_reducible first | exact HB.out | apply uc | apply ub | apply ud) | exact HB.out)) hb);clear HB;have HB:=n0_;clear n0_;(try clear hb);(try clear hb2);(try clear hk);(try clear hi)))
     go_ret
     exact ⟨by first | rfl | (simp [u1k,u1l] <;> rfl) | (simp [*,u1k,u1l] <;> rfl),by repeat (first | (with_reducible first | exact HB.out | apply uc | apply ub | apply ud) | exact HB.out)⟩
   · rw [if_neg c3] at H
     have c3b0:decide ((a0.size:Int) ≤ 40) = false:=decide_eq_false c3
     have c3b1:decide (a0.size ≤ 40) = false:=decide_eq_false (by omega)
     clear c3
     obtain rfl:=Option.some.inj H
     go_enter Tryz.func70,Tryz.ntmps70
     go_wp2
     go_ret
     exact ⟨by first | rfl | (simp [u1k,u1l] <;> rfl) | (simp [*,u1k,u1l] <;> rfl),by repeat (first | (with_reducible first | exact HB.out | apply uc | apply ub | apply ud) | exact HB.out)⟩
 · rw [if_neg c2] at H
   have c2b0:decide (1 ≤ (a0.size:Int)) = false:=decide_eq_false c2
   have c2b1:decide (1 ≤ a0.size) = false:=decide_eq_false (by omega)
   clear c2
   obtain rfl:=Option.some.inj H
   go_enter Tryz.func70,Tryz.ntmps70
   go_wp2
   go_ret
   exact ⟨by first | rfl | (simp [u1k,u1l] <;> rfl) | (simp [*,u1k,u1l] <;> rfl),by repeat (first | (with_reducible first | exact HB.out | apply uc | apply ub | apply ud) | exact HB.out)⟩
def u3i.f (a0:ByteArray):Option Bool:=some (Base.valueB a0)
theorem u3i.plain_is (x:Int):labels_plain.f x = some (Base.plainB x):=by
 unfold labels_plain.f Base.plainB
 by_cases h1:x ≥ 32
 · rw [if_pos h1]
   by_cases h2:x = 127
   · simp [h1,h2]
   · rw [if_neg h2]
     by_cases h3:x = 65533 <;> simp [h1,h2,h3]
 · rw [if_neg h1]
   simp only [ge_iff_le] at h1
   simp [h1]
set_option maxHeartbeats 1000000 in
set_option maxRecDepth 100000 in
theorem u3i.calls (a0:ByteArray) (r:Bool) (w:World) (h:u3i.f a0 = some r) :
 Calls Tryz.prog 60 #[.string a0] w fun e w' => e = .returned (.bool r) ∧ Below w.heap.size w w':=by
 obtain rfl:Base.valueB a0 = r:=by simpa [u3i.f] using h
 clear h
 go_enter Tryz.func60,Tryz.ntmps60
 go_wp2
 go_loopw [] (fun wr => ∃ (pos fuel:Nat),wr.heap[w.heap.size]? = some (.stringIter a0 pos) ∧ Below w.heap.size w wr ∧ Aside0 ((Base.runesOf a0).all Base.plainB = (Base.runesFrom a0 fuel pos).all Base.plainB) ∧ a0.size ≤ fuel + pos)
  (fun wr => a0.size - wr.iterPos w.heap.size)
 case atStart =>
  refine ⟨0,a0.size,?_,(Below.refl _ w).alloc (Nat.le_refl _) _,⟨rfl⟩,by omega⟩
  have:=World.iter_heap w a0 0
  simpa using this
 case round =>
  obtain ⟨pos,fuel,hit,hbw,HE,hfu⟩:=hrel
  have hsz:w.heap.size < wr.heap.size:=(Array.getElem?_eq_some_iff.1 hit).1
  by_cases hp:pos < a0.size
  · have hnx:∀ ty,(Instr.next (.pointer (some ⟨w.heap.size,0,none⟩)) true ty).run Tryz.prog wr = _:=fun ty => Lib.run_next_any_at wr w.heap.size a0 pos ty hit hp
    have hwd:=Base.width_pos a0 pos hp
    have hd1:=decode_le a0 pos
    have hit2:=Lib.iterAt_heap wr w.heap.size a0 pos (pos + (Utf8.decode a0 pos).2) hit
    have hbw2:=Lib.below_iterAt hbw (k:=w.heap.size) (by omega) a0 (pos + (Utf8.decode a0 pos).2)
    obtain ⟨f,rfl⟩:∃ f,fuel = f + 1:=⟨fuel - 1,by omega⟩
    have hst:=Base.runesFrom_step a0 f pos hp
    rw [hst] at HE
    clear hst
    cases hpl:Base.plainB ((Utf8.decode a0 pos).1:Int) with
    | true =>
      go_wp2_with (go_at_call 105;refine (labels_plain.calls _ _ _ (u3i.plain_is _)).mono ?_;rintro e W1 ⟨rfl,⟨nd,rfl⟩⟩)
      go_roundw
      case rel =>
       refine ⟨pos + (Utf8.decode a0 pos).2,f,by simpa using hit2,ub hbw2 nd,⟨?_⟩,by omega⟩
       have h1:=HE.out
       rw [List.all_cons,hpl,Bool.true_and] at h1
       exact h1
      case measure =>
       have e1:((wr.iterAt w.heap.size a0 (pos + (Utf8.decode a0 pos).2)).drewN nd).heap[w.heap.size]? = some (.stringIter a0 (pos + (Utf8.decode a0 pos).2)):=by simpa using hit2
       simp only [World.iterPos,e1,hit]
       omega
    | false =>
      go_wp2_with (go_at_call 105;refine (labels_plain.calls _ _ _ (u3i.plain_is _)).mono ?_;rintro e W1 ⟨rfl,⟨nd,rfl⟩⟩)
      go_ret
      have h1:=HE.out
      rw [List.all_cons,hpl,Bool.false_and] at h1
      refine ⟨?_,ub hbw2 nd⟩
      simp [Base.valueB,h1]
  · have hnx:∀ ty,(Instr.next (.pointer (some ⟨w.heap.size,0,none⟩)) true ty).run Tryz.prog wr = _:=fun ty => Lib.run_next_end_at wr w.heap.size a0 pos ty hit hp
    have h1:=HE.out
    rw [Base.runesFrom_end a0 fuel pos hp,List.all_nil] at h1
    have H1:=Aside0.mk h1
    clear h1 HE
    go_wp2
    all_goals
     go_ret
     refine ⟨?_,hbw⟩
     have h1:=H1.out
     have hz:=Base.toList_nil a0
     first
      | (have he:a0.toList = []:=by assumption
         have h0:a0.size = 0:=hz.1 he
         simp [Base.valueB,h1,h0,he];done)
      | (have he:¬ a0.toList = []:=by assumption
         have h0:0 < a0.size:=by
          rcases Nat.eq_zero_or_pos a0.size with h | h
          · exact absurd (hz.2 h) he
          · exact h
         have hi:a0.toList.isEmpty = false:=by
          cases hl:a0.toList with
          | nil => exact absurd hl he
          | cons _ _ => rfl
         have hd:decide ((a0.size:Int) ≤ 40) = decide (a0.size ≤ 40):=by
          rw [Bool.eq_iff_iff]
          simp only [decide_eq_true_eq]
          omega
         simp [Base.valueB,h1,h0,hi,hd];done)
structure ua.St (w0 W:World) (g:Nat) (s:List UInt8):Prop where
 below:Below w0.heap.size w0 W
 base:w0.heap.size ≤ g
 cells:W.heap[g]? = some (.cells #[.string (Base.ofL s)] 87 (0,0))
theorem ua.St.lt {w0 W:World} {g:Nat} {s:List UInt8} (h:ua.St w0 W g s):g < W.heap.size:=u3g h.cells
theorem ua.St.keep {w0 W W':World} {g:Nat} {s:List UInt8} (h:ua.St w0 W g s) (hb:Below w0.heap.size w0 W') (hk:W'.heap[g]? = W.heap[g]?):ua.St w0 W' g s:=⟨hb,h.base,hk.trans h.cells⟩
theorem ua.St.more {w0 W W':World} {g:Nat} {s:List UInt8} (h:ua.St w0 W g s) (hb:Below W.heap.size W W'):ua.St w0 W' g s:=h.keep (u3n h.below h.below.size hb) (hb.block g h.lt)
theorem ua.St.drew {w0 W:World} {g:Nat} {s:List UInt8} (h:ua.St w0 W g s) (n:Nat):ua.St w0 (W.drewN n) g s:=h.more (ub (Below.refl _ _) n)
theorem ua.St.look {w0 W:World} {g:Nat} {s:List UInt8} (h:ua.St w0 W g s):W.cell? ⟨g,0,none⟩ = some (.string (Base.ofL s)) ∧ W.frozen? ⟨g,0,none⟩ = false:=by
 have h0:=uj h.cells 0
 simp only [List.size_toArray,List.length_cons,List.length_nil,List.getElem?_toArray,List.getElem?_cons_zero,List.getElem?_cons_succ] at h0
 exact ⟨h0,uk h.cells 0⟩
theorem ua.St.set {w0 W:World} {g:Nat} {s:List UInt8} (h:ua.St w0 W g s) (t:List UInt8):ua.St w0 (W.setCell ⟨g,0,none⟩ (.string (Base.ofL t))) g t :=
 ⟨h.below.setCell h.base _,h.base,by rw [blk_set h.cells];rfl⟩
def ua.pk (s:List UInt8):Int:=match s with
 | [] => 0
 | c :: _ => (c.toNat:Int)
theorem ua.head (c:UInt8) (r:List UInt8):∃ hp:0 < (Base.ofL (c :: r)).size,(((Base.ofL (c :: r))[0]'hp).toNat:Int) = c.toNat ∧ (Base.ofL (c :: r)).toList.isEmpty = false:=by
 have hs:(Base.ofL (c :: r)).size = r.length + 1:=by rw [← u3j,Base.ofL_data];rfl
 refine ⟨by omega,rfl,?_⟩
 rw [ByteArray.toList_eq,Base.ofL_data]
 rfl
theorem ua.calls (w0 W:World) (g:Nat) (s:List UInt8) (h:ua.St w0 W g s):Calls Tryz.prog 47 #[.pointer (some ⟨g,0,none⟩)] W fun e W' => e = .returned (.int .u8 (ua.pk s)) ∧ us W W':=by
 obtain ⟨h0,f0⟩:=h.look
 clear h
 cases s with
 | nil =>
   have he:(Base.ofL []).toList.isEmpty = true:=by rw [ByteArray.toList_eq,Base.ofL_data];rfl
   go_enter Tryz.func47,Tryz.ntmps47
   go_wp2
   go_ret
   exact ⟨rfl,0,rfl⟩
 | cons c r =>
   obtain ⟨hp,hc,he⟩:=ua.head c r
   obtain ⟨x,hx⟩:∃ x:ByteArray,x = Base.ofL (c :: r):=⟨_,rfl⟩
   have hp1:1 ≤ (Base.ofL (c :: r)).size:=hp
   go_enter Tryz.func47,Tryz.ntmps47
   go_wp2
   go_ret
   exact ⟨rfl,0,rfl⟩
theorem ua.look2 {W:World} {b t:Nat} {u v:Value} (h:W.heap[b]? = some (.cells #[u,v] t (0,0))):W.cell? ⟨b,0,none⟩ = some u ∧ W.cell? ⟨b,1,none⟩ = some v ∧ W.frozen? ⟨b,0,none⟩ = false ∧ W.frozen? ⟨b,1,none⟩ = false:=by
 have h0:=uj h 0
 have h1:=uj h 1
 simp only [List.size_toArray,List.length_cons,List.length_nil,List.getElem?_toArray,List.getElem?_cons_zero,List.getElem?_cons_succ] at h0 h1
 exact ⟨h0,h1,uk h 0,uk h 1⟩
theorem ua.new_at (W:World) (o:Obj):(W.alloc o).heap[W.heap.size]? = some o:=by
 show (W.heap.push o)[W.heap.size]? = some o
 simp
theorem ua.new_old {W:World} {b:Nat} {o:Obj} (h:W.heap[b]? = some o) (o2:Obj):(W.alloc o2).heap[b]? = some o:=(Below.heap_alloc W o2 b (u3g h)).trans h
theorem ua.below_at {W W':World} {b:Nat} {o:Obj} (hb:Below W.heap.size W W') (h:W.heap[b]? = some o):W'.heap[b]? = some o:=(hb.block b (u3g h)).trans h
theorem ua.kept_at {W W':World} {g b:Nat} {o:Obj} (hk:u2a W W' g none) (hne:b ≠ g) (h:W.heap[b]? = some o):W'.heap[b]? = some o:=hk.blk h hne (by simp)
theorem ua.St.one_more {w0 W:World} {g:Nat} {s:List UInt8} (h:ua.St w0 W g s) (o:Obj):ua.St w0 (W.alloc o) g s:=h.more (Below.alloc (Below.refl _ _) (Nat.le_refl _) o)
theorem ua.St.far {w0 W:World} {g:Nat} {s:List UInt8} (h:ua.St w0 W g s) {p:Addr} (hb:w0.heap.size ≤ p.block) (hp:¬ g = p.block) (u:Value):ua.St w0 (W.setCell p u) g s :=
 h.keep (h.below.setCell hb u) (Below.heap_setCell W p u g hp)
theorem ua.keep_new {w W:World} {g:Nat} (h:u2a w W g none) {p:Addr} (hp:w.heap.size ≤ p.block) (u:Value):u2a w (W.setCell p u) g none :=
 ⟨by have:=h.1;simpa using this,fun i hi hg hr => (Below.heap_setCell W p u i (by omega)).trans (h.2 i hi hg hr)⟩
theorem ua.keep_from {w W1:World} {g:Nat} {o:Obj} (h:u2a (w.alloc o) W1 g none):u2a w W1 g none:=(keep_alloc (u2a.refl w g none) o).trans h (Or.inl rfl)
theorem ua.keep_then {w W1 W2:World} {g:Nat} (h:u2a w W1 g none) (k:u2a W1 W2 g none):u2a w W2 g none:=h.trans k (Or.inl rfl)
theorem u1y.cut_yes (c:UInt8) (r:List UInt8):u1z.f (Base.ofL (c :: r)) (⟨#[c]⟩:ByteArray) = some (Base.ofL r,true):=by
 have hs:(Base.ofL (c :: r)).size = r.length + 1:=by rw [← u3j,Base.ofL_data];rfl
 have h1:((Base.ofL (c :: r)).extract 0 1).toList = [c]:=by
  rw [ByteArray.toList_eq,Base.extract_list,Base.ofL_data]
  rfl
 have h2:(((Base.ofL (c :: r)).size:Int) ≥ 1):=by omega
 have h3:((1:Int) ≤ ((Base.ofL (c :: r)).size:Int)):=by omega
 have h4:(Base.ofL (c :: r)).extract 1 (Base.ofL (c :: r)).size = Base.ofL r:=Base.ext_data (by rw [Base.extract_rest,Base.ofL_data,Base.ofL_data];rfl)
 simp [u1z.f,u2s.f,u2b.f,Base.size1,h1,h2,h3,h4,ByteArray.toList_eq]
theorem u1y.cut_no (c:UInt8) (s:List UInt8) (h:∀ r,s ≠ c :: r):u1z.f (Base.ofL s) (⟨#[c]⟩:ByteArray) = some (Base.ofL s,false):=by
 by_cases h2:(((Base.ofL s).size:Int) ≥ 1)
 · have h3:((1:Int) ≤ ((Base.ofL s).size:Int)):=by omega
   have h1:¬ List.take 1 (Base.ofL s).data.toList = [c]:=by
    rw [Base.ofL_data]
    cases s with
    | nil => simp
    | cons x q =>
      intro e
      have:x = c:=by simpa using e
      subst this
      exact h q rfl
   simp [u1z.f,u2s.f,u2b.f,Base.size1,h1,h2,h3,ByteArray.toList_eq]
 · have h3:¬ ((1:Int) ≤ ((Base.ofL s).size:Int)):=by omega
   simp [u1z.f,u2s.f,u2b.f,Base.size1,h3]
theorem u1y.calls_ok (w0 W:World) (g:Nat) (c:UInt8) (r:List UInt8) (h:ua.St w0 W g (c :: r)):Calls Tryz.prog 82 #[.pointer (some ⟨g,0,none⟩),.string (⟨#[c]⟩:ByteArray)] W fun e W' => e = .returned (.tuple #[]) ∧ ua.St w0 W' g r ∧ u2a W W' g none:=by
 have HS:=Aside0.mk h
 obtain ⟨h0,f0⟩:=h.look
 clear h
 have HC:=Aside0.mk (u1y.cut_yes c r)
 go_enter Tryz.func82,Tryz.ntmps82
 go_wp2_with (first | (go_at_call 117;refine (u1z.calls _ _ _ _ _ HC.out).mono ?_;rintro e W1 ⟨rfl,⟨nd,rfl⟩⟩) | (go_at_call 83;refine (u2p.calls_ok _).mono ?_;rintro e W1 ⟨rfl,rfl⟩))
 go_end0
 exact ⟨rfl,(HS.out.drew nd).set r,(u2a.of_below (ub (Below.refl _ _) nd) g none).set_ 0 _⟩
theorem u1y.calls_no (w0 W:World) (g:Nat) (c:UInt8) (s:List UInt8) (hs:∀ r,s ≠ c :: r) (h:ua.St w0 W g s):Calls Tryz.prog 82 #[.pointer (some ⟨g,0,none⟩),.string (⟨#[c]⟩:ByteArray)] W fun e W' => e = .panicked (u2u.chain 280) ∧ Below w0.heap.size w0 W':=by
 have HS:=Aside0.mk h
 obtain ⟨h0,f0⟩:=h.look
 clear h
 have HC:=Aside0.mk (u1y.cut_no c s hs)
 go_enter Tryz.func82,Tryz.ntmps82
 go_wp2_with (first | (go_at_call 117;refine (u1z.calls _ _ _ _ _ HC.out).mono ?_;rintro e W1 ⟨rfl,⟨nd,rfl⟩⟩) | (go_at_call 83;refine (u2p.calls_no _).mono ?_;rintro e W1 ⟨rfl,rfl⟩))
 exact ⟨rfl,rfl,(HS.out.drew nd).below⟩
def u1w.l0:Nat → Int → Int → Option (Int)
 | 0,_,_ => none
 | k + 1,x0,x4 => if x4 < 16 then (if 0 ≤ x4 then (if (bt (⟨#[48,49,50,51,52,53,54,55,56,57,97,98,99,100,101,102]⟩:ByteArray) x4) = x0 then (some x4) else (u1w.l0 k x0 (wrap64 (x4 + 1)))) else (none)) else (some 16)
def u1w.f (k:Nat) (a0:Int):Option (Int):=u1w.l0 k a0 0
theorem u1w.mono_l:∀ k,(∀ y0 y1,LeO (u1w.l0 k y0 y1) (u1w.l0 (k + 1) y0 y1))
 | 0 => fun _ _ r h => by simp [u1w.l0] at h
 | k + 1 => by
   have ih0:=u1w.mono_l k
   · intro y0 y1
     unfold u1w.l0
     repeat' first
     | (with_reducible exact ih0 _ _)
     | (with_reducible exact LeO.refl _)
     | (with_reducible exact LeO.none _)
     | (with_reducible refine LeO.ite ?_ ?_)
     | (with_reducible refine LeO.bind ?_ (fun _ => ?_))
     | exact ih0 _ _
     | exact LeO.none _
     | refine LeO.ite ?_ ?_
     | refine LeO.bind ?_ (fun _ => ?_)
theorem u1w.mono:∀ a0 k,LeO (u1w.f k a0) (u1w.f (k + 1) a0):=by
 intro a0 k
 have ih0:=u1w.mono_l k
 unfold u1w.f
 repeat' first
  | (with_reducible exact ih0 _ _)
  | (with_reducible exact LeO.refl _)
  | (with_reducible exact LeO.none _)
  | (with_reducible refine LeO.ite ?_ ?_)
  | (with_reducible refine LeO.bind ?_ (fun _ => ?_))
  | exact ih0 _ _
  | exact LeO.none _
  | refine LeO.ite ?_ ?_
  | refine LeO.bind ?_ (fun _ => ?_)
set_option maxHeartbeats 8000000 in
set_option maxRecDepth 100000 in
theorem u1w.calls (k:Nat) (a0:Int) (r:Int) (w:World) (h:u1w.f k a0 = some r) :
 Calls Tryz.prog 148 #[.int .u8 a0] w fun e w' => e = .returned (.int .i64 r) ∧ us w w':=by
 have H:(u1w.l0 k a0 0) = some r:=h
 clear h
 have H':=Aside0.mk H
 clear H
 go_enter Tryz.func148,Tryz.ntmps148
 go_wp2
 go_loopg [4] k (fun kq v4 w' => ∃ (x4_1:Int),v4 = .int .i64 x4_1 ∧ Aside0 (u1w.l0 kq a0 x4_1 = some r) ∧ Aside0 (kq ≤ k) ∧ us w w')
 case atStart => exact ⟨(0),(by first | rfl | (simp;done) | (simp [*];done)),H',⟨Nat.le_refl _⟩,by repeat (first | exact us.refl _ | apply us.step)⟩
 case round =>
  clear H'
  try clear c1
  obtain ⟨x4_1,rfl,HA,HK1,⟨m1,rfl⟩⟩:=hrel
  cases gk with
  | zero => exact absurd HA.out (by simp [u1w.l0])
  | succ k1 =>
    have H:=HA.out
    clear HA
    simp only [u1w.l0] at H
    by_cases c2:x4_1 < 16
    · rw [if_pos c2] at H
      have c2b0:decide (x4_1 < 16) = true:=decide_eq_true c2
      clear c2
      by_cases c3:0 ≤ x4_1
      · rw [if_pos c3] at H
        have c3b0:decide (0 ≤ x4_1) = true:=decide_eq_true c3
        clear c3
        by_cases c5:(bt (⟨#[48,49,50,51,52,53,54,55,56,57,97,98,99,100,101,102]⟩:ByteArray) x4_1) = a0
        · rw [if_pos c5] at H
          have c5b0:((bt (⟨#[48,49,50,51,52,53,54,55,56,57,97,98,99,100,101,102]⟩:ByteArray) x4_1) == a0) = true:=beq_iff_eq.mpr c5
          have c5b1:((bt (⟨#[48,49,50,51,52,53,54,55,56,57,97,98,99,100,101,102]⟩:ByteArray) x4_1) != a0) = false:=bne_eq_false_iff_eq.mpr c5
          clear c5
          obtain rfl:=Option.some.inj H
          have p4:0 ≤ (x4_1:Int):=of_decide_eq_true (by first | (with_reducible assumption) | assumption)
          have q4:x4_1 < (16:Int):=of_decide_eq_true (by first | (with_reducible assumption) | assumption)
          have hx4:=bt_at (⟨#[48,49,50,51,52,53,54,55,56,57,97,98,99,100,101,102]⟩:ByteArray) x4_1
          replace p4:=eq_true p4
          replace q4:=eq_true q4
          go_wp2
          go_ret
          exact ⟨by first | rfl | (simp;done) | (simp [*];done),by repeat (first | exact us.refl _ | apply us.step)⟩
        · rw [if_neg c5] at H
          have c5b0:((bt (⟨#[48,49,50,51,52,53,54,55,56,57,97,98,99,100,101,102]⟩:ByteArray) x4_1) == a0) = false:=beq_eq_false_iff_ne.mpr c5
          have c5b1:((bt (⟨#[48,49,50,51,52,53,54,55,56,57,97,98,99,100,101,102]⟩:ByteArray) x4_1) != a0) = true:=bne_iff_ne.mpr c5
          have H':=Aside0.mk H
          clear H
          have p4:0 ≤ (x4_1:Int):=of_decide_eq_true (by first | (with_reducible assumption) | assumption)
          have q4:x4_1 < (16:Int):=of_decide_eq_true (by first | (with_reducible assumption) | assumption)
          have hx4:=bt_at (⟨#[48,49,50,51,52,53,54,55,56,57,97,98,99,100,101,102]⟩:ByteArray) x4_1
          replace p4:=eq_true p4
          replace q4:=eq_true q4
          go_wp2
          go_roundg k1
          case measure => have:=HK1.out;omega
          case rel => exact ⟨(wrap64 (x4_1 + 1)),(by first | rfl | (simp;done) | (simp [*];done)),H',⟨by have:=HK1.out;omega⟩,by repeat (first | exact us.refl _ | apply us.step)⟩
      · rw [if_neg c3] at H
        exact absurd H (by simp)
    · rw [if_neg c2] at H
      have c2b0:decide (x4_1 < 16) = false:=decide_eq_false c2
      clear c2
      obtain rfl:=Option.some.inj H
      go_wp2
      go_ret
      exact ⟨by first | rfl | (simp;done) | (simp [*];done),by repeat (first | exact us.refl _ | apply us.step)⟩
def u1n.l0:Nat → ByteArray → Int → Int → Option (Int)
 | 0,_,_,_ => none
 | k + 1,x0,x1,x5 => if x5 < (x0.size:Int) then (if 0 ≤ x5 then ((u1w.f k (bt x0 x5)).bind fun t183 => (if t183 < x1 then (u1n.l0 k x0 x1 (wrap64 (x5 + 1))) else (some x5))) else (none)) else (some x5)
def u1n.f (k:Nat) (a0:ByteArray) (a1:Int):Option (Int):=u1n.l0 k a0 a1 0
set_option maxHeartbeats 8000000 in
set_option maxRecDepth 100000 in
theorem u1n.calls (k:Nat) (a0:ByteArray) (a1:Int) (r:Int) (w:World) (h:u1n.f k a0 a1 = some r) :
 Calls Tryz.prog 129 #[.string a0,.int .i64 a1] w fun e w' => e = .returned (.int .i64 r) ∧ us w w':=by
 have H:(u1n.l0 k a0 a1 0) = some r:=h
 clear h
 have H':=Aside0.mk H
 clear H
 go_enter Tryz.func129,Tryz.ntmps129
 go_wp2
 go_loopg [5] k (fun kq v5 w' => ∃ (x5_1:Int),v5 = .int .i64 x5_1 ∧ Aside0 (u1n.l0 kq a0 a1 x5_1 = some r) ∧ Aside0 (kq ≤ k) ∧ us w w')
 case atStart => exact ⟨(0),(by first | rfl | (simp;done) | (simp [*];done)),H',⟨Nat.le_refl _⟩,by repeat (first | exact us.refl _ | apply us.step)⟩
 case round =>
  clear H'
  try clear c1
  try clear p2
  obtain ⟨x5_1,rfl,HA,HK1,⟨m1,rfl⟩⟩:=hrel
  cases gk with
  | zero => exact absurd HA.out (by simp [u1n.l0])
  | succ k1 =>
    have H:=HA.out
    clear HA
    simp only [u1n.l0] at H
    by_cases c3:x5_1 < (a0.size:Int)
    · rw [if_pos c3] at H
      have c3b0:decide (x5_1 < (a0.size:Int)) = true:=decide_eq_true c3
      clear c3
      by_cases c4:0 ≤ x5_1
      · rw [if_pos c4] at H
        have c4b0:decide (0 ≤ x5_1) = true:=decide_eq_true c4
        clear c4
        replace H:=Option.bind_eq_some_iff.mp H
        obtain ⟨t183,A60,H⟩:=H
        replace H:(if t183 < a1 then (u1n.l0 k1 a0 a1 (wrap64 (x5_1 + 1))) else (some x5_1)) = some r:=H
        have A6:=Aside0.mk A60
        clear A60
        by_cases c7:t183 < a1
        · rw [if_pos c7] at H
          have c7b0:decide (t183 < a1) = true:=decide_eq_true c7
          clear c7
          have H':=Aside0.mk H
          clear H
          have p5:0 ≤ (x5_1:Int):=of_decide_eq_true (by first | (with_reducible assumption) | assumption)
          have q5:x5_1 < (a0.size:Int):=of_decide_eq_true (by first | (with_reducible assumption) | assumption)
          have hx5:=bt_at a0 x5_1
          replace p5:=eq_true p5
          replace q5:=eq_true q5
          go_wp2_with (first | (go_at_call 148;(with_reducible refine (u1w.calls k1 (bt a0 x5_1) t183 _ A6.out).mono ?_);rintro e w' ⟨rfl,⟨nd,rfl⟩⟩))
          go_roundg k1
          case measure => have:=HK1.out;omega
          case rel => exact ⟨(wrap64 (x5_1 + 1)),(by first | rfl | (simp;done) | (simp [*];done)),H',⟨by have:=HK1.out;omega⟩,by repeat (first | exact us.refl _ | apply us.step)⟩
        · rw [if_neg c7] at H
          have c7b0:decide (t183 < a1) = false:=decide_eq_false c7
          clear c7
          obtain rfl:=Option.some.inj H
          have p5:0 ≤ (x5_1:Int):=of_decide_eq_true (by first | (with_reducible assumption) | assumption)
          have q5:x5_1 < (a0.size:Int):=of_decide_eq_true (by first | (with_reducible assumption) | assumption)
          have hx5:=bt_at a0 x5_1
          replace p5:=eq_true p5
          replace q5:=eq_true q5
          go_wp2_with (first | (go_at_call 148;(with_reducible refine (u1w.calls k1 (bt a0 x5_1) t183 _ A6.out).mono ?_);rintro e w' ⟨rfl,⟨nd,rfl⟩⟩))
          go_ret
          exact ⟨by first | rfl | (simp;done) | (simp [*];done),by repeat (first | exact us.refl _ | apply us.step)⟩
      · rw [if_neg c4] at H
        exact absurd H (by simp)
    · rw [if_neg c3] at H
      have c3b0:decide (x5_1 < (a0.size:Int)) = false:=decide_eq_false c3
      clear c3
      obtain rfl:=Option.some.inj H
      go_wp2
      go_ret
      exact ⟨by first | rfl | (simp;done) | (simp [*];done),by repeat (first | exact us.refl _ | apply us.step)⟩
def text_known.f (a0:ByteArray):Option (Bool):=if a0.toList = ([99,111,117,110,116,101,114]:List UInt8) then (some true) else (if a0.toList = ([103,97,117,103,101]:List UInt8) then (some true) else (if a0.toList = ([104,105,115,116,111,103,114,97,109]:List UInt8) then (some true) else (if a0.toList = ([115,117,109,109,97,114,121]:List UInt8) then (some true) else (if a0.toList = ([117,110,116,121,112,101,100]:List UInt8) then (some true) else (some false)))))
set_option maxHeartbeats 8000000 in
set_option maxRecDepth 100000 in
theorem text_known.calls (a0:ByteArray) (r:Bool) (w:World) (h:text_known.f a0 = some r) :
 Calls Tryz.prog 30 #[.string a0] w fun e w' => e = .returned (.bool r) ∧ us w w':=by
 have H:(if a0.toList = ([99,111,117,110,116,101,114]:List UInt8) then (some true) else (if a0.toList = ([103,97,117,103,101]:List UInt8) then (some true) else (if a0.toList = ([104,105,115,116,111,103,114,97,109]:List UInt8) then (some true) else (if a0.toList = ([115,117,109,109,97,114,121]:List UInt8) then (some true) else (if a0.toList = ([117,110,116,121,112,101,100]:List UInt8) then (some true) else (some false)))))) = some r:=h
 clear h
 by_cases c2:a0.toList = ([99,111,117,110,116,101,114]:List UInt8)
 · rw [if_pos c2] at H
   have c2b0:(a0.toList == ([99,111,117,110,116,101,114]:List UInt8)) = true:=beq_iff_eq.mpr c2
   have c2b1:(a0.toList != ([99,111,117,110,116,101,114]:List UInt8)) = false:=bne_eq_false_iff_eq.mpr c2
   clear c2
   obtain rfl:=Option.some.inj H
   go_enter Tryz.func30,Tryz.ntmps30
   go_wp2
   go_ret
   exact ⟨by first | rfl | (simp;done) | (simp [*];done),by repeat (first | exact us.refl _ | apply us.step)⟩
 · rw [if_neg c2] at H
   have c2b0:(a0.toList == ([99,111,117,110,116,101,114]:List UInt8)) = false:=beq_eq_false_iff_ne.mpr c2
   have c2b1:(a0.toList != ([99,111,117,110,116,101,114]:List UInt8)) = true:=bne_iff_ne.mpr c2
   by_cases c3:a0.toList = ([103,97,117,103,101]:List UInt8)
   · rw [if_pos c3] at H
     have c3b0:(a0.toList == ([103,97,117,103,101]:List UInt8)) = true:=beq_iff_eq.mpr c3
     have c3b1:(a0.toList != ([103,97,117,103,101]:List UInt8)) = false:=bne_eq_false_iff_eq.mpr c3
     clear c3
     obtain rfl:=Option.some.inj H
     go_enter Tryz.func30,Tryz.ntmps30
     go_wp2
     go_ret
     exact ⟨by first | rfl | (simp;done) | (simp [*];done),by repeat (first | exact us.refl _ | apply us.step)⟩
   · rw [if_neg c3] at H
     have c3b0:(a0.toList == ([103,97,117,103,101]:List UInt8)) = false:=beq_eq_false_iff_ne.mpr c3
     have c3b1:(a0.toList != ([103,97,117,103,101]:List UInt8)) = true:=bne_iff_ne.mpr c3
     by_cases c4:a0.toList = ([104,105,115,116,111,103,114,97,109]:List UInt8)
     · rw [if_pos c4] at H
       have c4b0:(a0.toList == ([104,105,115,116,111,103,114,97,109]:List UInt8)) = true:=beq_iff_eq.mpr c4
       have c4b1:(a0.toList != ([104,105,115,116,111,103,114,97,109]:List UInt8)) = false:=bne_eq_false_iff_eq.mpr c4
       clear c4
       obtain rfl:=Option.some.inj H
       go_enter Tryz.func30,Tryz.ntmps30
       go_wp2
       go_ret
       exact ⟨by first | rfl | (simp;done) | (simp [*];done),by repeat (first | exact us.refl _ | apply us.step)⟩
     · rw [if_neg c4] at H
       have c4b0:(a0.toList == ([104,105,115,116,111,103,114,97,109]:List UInt8)) = false:=beq_eq_false_iff_ne.mpr c4
       have c4b1:(a0.toList != ([104,105,115,116,111,103,114,97,109]:List UInt8)) = true:=bne_iff_ne.mpr c4
       by_cases c5:a0.toList = ([115,117,109,109,97,114,121]:List UInt8)
       · rw [if_pos c5] at H
         have c5b0:(a0.toList == ([115,117,109,109,97,114,121]:List UInt8)) = true:=beq_iff_eq.mpr c5
         have c5b1:(a0.toList != ([115,117,109,109,97,114,121]:List UInt8)) = false:=bne_eq_false_iff_eq.mpr c5
         clear c5
         obtain rfl:=Option.some.inj H
         go_enter Tryz.func30,Tryz.ntmps30
         go_wp2
         go_ret
         exact ⟨by first | rfl | (simp;done) | (simp [*];done),by repeat (first | exact us.refl _ | apply us.step)⟩
       · rw [if_neg c5] at H
         have c5b0:(a0.toList == ([115,117,109,109,97,114,121]:List UInt8)) = false:=beq_eq_false_iff_ne.mpr c5
         have c5b1:(a0.toList != ([115,117,109,109,97,114,121]:List UInt8)) = true:=bne_iff_ne.mpr c5
         by_cases c6:a0.toList = ([117,110,116,121,112,101,100]:List UInt8)
         · rw [if_pos c6] at H
           have c6b0:(a0.toList == ([117,110,116,121,112,101,100]:List UInt8)) = true:=beq_iff_eq.mpr c6
           have c6b1:(a0.toList != ([117,110,116,121,112,101,100]:List UInt8)) = false:=bne_eq_false_iff_eq.mpr c6
           clear c6
           obtain rfl:=Option.some.inj H
           go_enter Tryz.func30,Tryz.ntmps30
           go_wp2
           go_ret
           exact ⟨by first | rfl | (simp;done) | (simp [*];done),by repeat (first | exact us.refl _ | apply us.step)⟩
         · rw [if_neg c6] at H
           have c6b0:(a0.toList == ([117,110,116,121,112,101,100]:List UInt8)) = false:=beq_eq_false_iff_ne.mpr c6
           have c6b1:(a0.toList != ([117,110,116,121,112,101,100]:List UInt8)) = true:=bne_iff_ne.mpr c6
           obtain rfl:=Option.some.inj H
           go_enter Tryz.func30,Tryz.ntmps30
           go_wp2
           go_ret
           exact ⟨by first | rfl | (simp;done) | (simp [*];done),by repeat (first | exact us.refl _ | apply us.step)⟩
def u1g.l0:Nat → ByteArray → Int → Int → Int → Option (Int × Bool)
 | 0,_,_,_,_ => none
 | k + 1,x0,x1,x6,x7 => if x7 < (x0.size:Int) then (if 0 ≤ x7 then ((u1w.f k (bt x0 x7)).bind fun t184 => (if x1 = 0 then (none) else (if x6 > (IntKind.u64.wrap (Int.tdiv (IntKind.u64.wrap (18446744073709551615 - (IntKind.u64.wrap (t184)))) x1)) then (some (0,false)) else (u1g.l0 k x0 x1 (IntKind.u64.wrap ((IntKind.u64.wrap (x6 * x1)) + (IntKind.u64.wrap (t184)))) (wrap64 (x7 + 1)))))) else (none)) else (some (x6,true))
def u1g.f (k:Nat) (a0:ByteArray) (a1:Int):Option (Int × Bool):=u1g.l0 k a0 a1 0 0
set_option maxHeartbeats 8000000 in
set_option maxRecDepth 100000 in
theorem u1g.calls (k:Nat) (a0:ByteArray) (a1:Int) (r1:Int) (r2:Bool) (w:World) (h:u1g.f k a0 a1 = some (r1,r2)) :
 Calls Tryz.prog 130 #[.string a0,.int .u64 a1] w fun e w' => e = .returned (.tuple #[.int .u64 r1,.bool r2]) ∧ us w w':=by
 have H:(u1g.l0 k a0 a1 0 0) = some (r1,r2):=h
 clear h
 have H':=Aside0.mk H
 clear H
 go_enter Tryz.func130,Tryz.ntmps130
 go_wp2
 go_loopg [6,7] k (fun kq v6 v7 w' => ∃ (x6_1:Int) (x7_1:Int),v6 = .int .u64 x6_1 ∧ v7 = .int .i64 x7_1 ∧ Aside0 (u1g.l0 kq a0 a1 x6_1 x7_1 = some (r1,r2)) ∧ Aside0 (kq ≤ k) ∧ us w w')
 case atStart => exact ⟨(0),(0),(by first | rfl | (simp;done) | (simp [*];done)),(by first | rfl | (simp;done) | (simp [*];done)),H',⟨Nat.le_refl _⟩,by repeat (first | exact us.refl _ | apply us.step)⟩
 case round =>
  clear H'
  try clear c1
  try clear p2
  obtain ⟨x6_1,x7_1,rfl,rfl,HA,HK1,⟨m1,rfl⟩⟩:=hrel
  cases gk with
  | zero => exact absurd HA.out (by simp [u1g.l0])
  | succ k1 =>
    have H:=HA.out
    clear HA
    simp only [u1g.l0] at H
    by_cases c3:x7_1 < (a0.size:Int)
    · rw [if_pos c3] at H
      have c3b0:decide (x7_1 < (a0.size:Int)) = true:=decide_eq_true c3
      clear c3
      by_cases c4:0 ≤ x7_1
      · rw [if_pos c4] at H
        have c4b0:decide (0 ≤ x7_1) = true:=decide_eq_true c4
        clear c4
        replace H:=Option.bind_eq_some_iff.mp H
        obtain ⟨t184,A60,H⟩:=H
        replace H:(if a1 = 0 then (none) else (if x6_1 > (IntKind.u64.wrap (Int.tdiv (IntKind.u64.wrap (18446744073709551615 - (IntKind.u64.wrap (t184)))) a1)) then (some (0,false)) else (u1g.l0 k1 a0 a1 (IntKind.u64.wrap ((IntKind.u64.wrap (x6_1 * a1)) + (IntKind.u64.wrap (t184)))) (wrap64 (x7_1 + 1))))) = some (r1,r2):=H
        have A6:=Aside0.mk A60
        clear A60
        by_cases c7:a1 = 0
        · rw [if_pos c7] at H
          exact absurd H (by simp)
        · rw [if_neg c7] at H
          have c7b0:(a1 == 0) = false:=beq_eq_false_iff_ne.mpr c7
          have c7b1:(a1 != 0) = true:=bne_iff_ne.mpr c7
          by_cases c8:x6_1 > (IntKind.u64.wrap (Int.tdiv (IntKind.u64.wrap (18446744073709551615 - (IntKind.u64.wrap (t184)))) a1))
          · rw [if_pos c8] at H
            have c8b0:decide ((IntKind.u64.wrap (Int.tdiv (IntKind.u64.wrap (18446744073709551615 - (IntKind.u64.wrap (t184)))) a1)) < x6_1) = true:=decide_eq_true c8
            clear c8
            simp only [Option.some.injEq,Prod.mk.injEq] at H
            obtain ⟨rfl,rfl⟩:=H
            have p5:0 ≤ (x7_1:Int):=of_decide_eq_true (by first | (with_reducible assumption) | assumption)
            have q5:x7_1 < (a0.size:Int):=of_decide_eq_true (by first | (with_reducible assumption) | assumption)
            have hx5:=bt_at a0 x7_1
            replace p5:=eq_true p5
            replace q5:=eq_true q5
            go_wp2_with (first | ((with_reducible refine u1u (f:=148) rfl ?_);refine u3e (some 18) rfl rfl Tryz.func148 (by kernel_rfl) rfl #[.int .u8 (bt a0 x7_1)] rfl (by (try simp only [List.map_toArray,List.map_cons,List.map_nil]);first | done | rfl | (simp only [List.length_drop,List.length_take];rfl)) ?_;(with_reducible refine (u1w.calls k1 (bt a0 x7_1) t184 _ A6.out).mono ?_);rintro e w' ⟨rfl,⟨nd,rfl⟩⟩;refine ⟨_,rfl,?_⟩))
            go_ret2
            exact ⟨by first | rfl | (simp;done) | (simp [*];done),by repeat (first | exact us.refl _ | apply us.step)⟩
          · rw [if_neg c8] at H
            have c8b0:decide ((IntKind.u64.wrap (Int.tdiv (IntKind.u64.wrap (18446744073709551615 - (IntKind.u64.wrap (t184)))) a1)) < x6_1) = false:=decide_eq_false c8
            clear c8
            have H':=Aside0.mk H
            clear H
            have p5:0 ≤ (x7_1:Int):=of_decide_eq_true (by first | (with_reducible assumption) | assumption)
            have q5:x7_1 < (a0.size:Int):=of_decide_eq_true (by first | (with_reducible assumption) | assumption)
            have hx5:=bt_at a0 x7_1
            replace p5:=eq_true p5
            replace q5:=eq_true q5
            go_wp2_with (first | ((with_reducible refine u1u (f:=148) rfl ?_);refine u3e (some 18) rfl rfl Tryz.func148 (by kernel_rfl) rfl #[.int .u8 (bt a0 x7_1)] rfl (by (try simp only [List.map_toArray,List.map_cons,List.map_nil]);first | done | rfl | (simp only [List.length_drop,List.length_take];rfl)) ?_;(with_reducible refine (u1w.calls k1 (bt a0 x7_1) t184 _ A6.out).mono ?_);rintro e w' ⟨rfl,⟨nd,rfl⟩⟩;refine ⟨_,rfl,?_⟩))
            go_roundg k1
            case measure => have:=HK1.out;omega
            case rel => exact ⟨(IntKind.u64.wrap ((IntKind.u64.wrap (x6_1 * a1)) + (IntKind.u64.wrap (t184)))),(wrap64 (x7_1 + 1)),(by first | rfl | (simp;done) | (simp [*];done)),(by first | rfl | (simp;done) | (simp [*];done)),H',⟨by have:=HK1.out;omega⟩,by repeat (first | exact us.refl _ | apply us.step)⟩
      · rw [if_neg c4] at H
        exact absurd H (by simp)
    · rw [if_neg c3] at H
      have c3b0:decide (x7_1 < (a0.size:Int)) = false:=decide_eq_false c3
      clear c3
      simp only [Option.some.injEq,Prod.mk.injEq] at H
      obtain ⟨rfl,rfl⟩:=H
      go_wp2
      go_ret2
      exact ⟨by first | rfl | (simp;done) | (simp [*];done),by repeat (first | exact us.refl _ | apply us.step)⟩
def u1f.l0:Nat → ByteArray → Int → Option (ByteArray × Bool)
 | 0,_,_ => none
 | k + 1,x0,x4 => if x4 < (x0.size:Int) then (if 0 ≤ x4 then (if (bt x0 x4) = 32 then (u1f.l0 k x0 (wrap64 (x4 + 1))) else (if (bt x0 x4) = 9 then (u1f.l0 k x0 (wrap64 (x4 + 1))) else (if x4 ≤ (x0.size:Int) then (some (x0.extract (x4:Int).toNat x0.size,decide (x4 > 0))) else (none)))) else (none)) else (if 0 ≤ x4 then (if x4 ≤ (x0.size:Int) then (some (x0.extract (x4:Int).toNat x0.size,decide (x4 > 0))) else (none)) else (none))
def u1f.f (k:Nat) (a0:ByteArray):Option (ByteArray × Bool):=u1f.l0 k a0 0
set_option maxHeartbeats 8000000 in
set_option maxRecDepth 100000 in
theorem u1f.calls (k:Nat) (a0:ByteArray) (r1:ByteArray) (r2:Bool) (w:World) (h:u1f.f k a0 = some (r1,r2)) :
 Calls Tryz.prog 53 #[.string a0] w fun e w' => e = .returned (.tuple #[.string r1,.bool r2]) ∧ us w w':=by
 have H:(u1f.l0 k a0 0) = some (r1,r2):=h
 clear h
 have H':=Aside0.mk H
 clear H
 go_enter Tryz.func53,Tryz.ntmps53
 go_wp2
 go_loopg [4] k (fun kq v4 w' => ∃ (x4_1:Int),v4 = .int .i64 x4_1 ∧ Aside0 (u1f.l0 kq a0 x4_1 = some (r1,r2)) ∧ Aside0 (kq ≤ k) ∧ us w w')
 case atStart => exact ⟨(0),(by first | rfl | (simp;done) | (simp [*];done)),H',⟨Nat.le_refl _⟩,by repeat (first | exact us.refl _ | apply us.step)⟩
 case round =>
  clear H'
  obtain ⟨x4_1,rfl,HA,HK1,⟨m1,rfl⟩⟩:=hrel
  cases gk with
  | zero => exact absurd HA.out (by simp [u1f.l0])
  | succ k1 =>
    have H:=HA.out
    clear HA
    simp only [u1f.l0] at H
    by_cases c2:x4_1 < (a0.size:Int)
    · rw [if_pos c2] at H
      have c2b0:decide (x4_1 < (a0.size:Int)) = true:=decide_eq_true c2
      clear c2
      by_cases c3:0 ≤ x4_1
      · rw [if_pos c3] at H
        have c3b0:decide (0 ≤ x4_1) = true:=decide_eq_true c3
        clear c3
        by_cases c5:(bt a0 x4_1) = 32
        · rw [if_pos c5] at H
          have c5b0:((bt a0 x4_1) == 32) = true:=beq_iff_eq.mpr c5
          have c5b1:((bt a0 x4_1) != 32) = false:=bne_eq_false_iff_eq.mpr c5
          clear c5
          have H':=Aside0.mk H
          clear H
          have p4:0 ≤ (x4_1:Int):=of_decide_eq_true (by first | (with_reducible assumption) | assumption)
          have q4:x4_1 < (a0.size:Int):=of_decide_eq_true (by first | (with_reducible assumption) | assumption)
          have hx4:=bt_at a0 x4_1
          replace p4:=eq_true p4
          replace q4:=eq_true q4
          go_wp2
          go_roundg k1
          case measure => have:=HK1.out;omega
          case rel => exact ⟨(wrap64 (x4_1 + 1)),(by first | rfl | (simp;done) | (simp [*];done)),H',⟨by have:=HK1.out;omega⟩,by repeat (first | exact us.refl _ | apply us.step)⟩
        · rw [if_neg c5] at H
          have c5b0:((bt a0 x4_1) == 32) = false:=beq_eq_false_iff_ne.mpr c5
          have c5b1:((bt a0 x4_1) != 32) = true:=bne_iff_ne.mpr c5
          by_cases c7:(bt a0 x4_1) = 9
          · rw [if_pos c7] at H
            have c7b0:((bt a0 x4_1) == 9) = true:=beq_iff_eq.mpr c7
            have c7b1:((bt a0 x4_1) != 9) = false:=bne_eq_false_iff_eq.mpr c7
            clear c7
            have H':=Aside0.mk H
            clear H
            have p4:0 ≤ (x4_1:Int):=of_decide_eq_true (by first | (with_reducible assumption) | assumption)
            have q4:x4_1 < (a0.size:Int):=of_decide_eq_true (by first | (with_reducible assumption) | assumption)
            have hx4:=bt_at a0 x4_1
            replace p4:=eq_true p4
            replace q4:=eq_true q4
            have p6:0 ≤ (x4_1:Int):=of_decide_eq_true (by first | (with_reducible assumption) | assumption)
            have q6:x4_1 < (a0.size:Int):=of_decide_eq_true (by first | (with_reducible assumption) | assumption)
            have hx6:=bt_at a0 x4_1
            replace p6:=eq_true p6
            replace q6:=eq_true q6
            go_wp2
            go_roundg k1
            case measure => have:=HK1.out;omega
            case rel => exact ⟨(wrap64 (x4_1 + 1)),(by first | rfl | (simp;done) | (simp [*];done)),H',⟨by have:=HK1.out;omega⟩,by repeat (first | exact us.refl _ | apply us.step)⟩
          · rw [if_neg c7] at H
            have c7b0:((bt a0 x4_1) == 9) = false:=beq_eq_false_iff_ne.mpr c7
            have c7b1:((bt a0 x4_1) != 9) = true:=bne_iff_ne.mpr c7
            have c8b0:=eq_true (of_decide_eq_true (by first | (with_reducible assumption) | assumption):0 ≤ x4_1)
            by_cases c9:x4_1 ≤ (a0.size:Int)
            · rw [if_pos c9] at H
              have c9b0:=eq_true c9
              have c9b1:decide (x4_1 ≤ (a0.size:Int)) = true:=decide_eq_true c9
              clear c9
              simp only [Option.some.injEq,Prod.mk.injEq] at H
              obtain ⟨rfl,rfl⟩:=H
              have p4:0 ≤ (x4_1:Int):=of_decide_eq_true (by first | (with_reducible assumption) | assumption)
              have q4:x4_1 < (a0.size:Int):=of_decide_eq_true (by first | (with_reducible assumption) | assumption)
              have hx4:=bt_at a0 x4_1
              replace p4:=eq_true p4
              replace q4:=eq_true q4
              have p6:0 ≤ (x4_1:Int):=of_decide_eq_true (by first | (with_reducible assumption) | assumption)
              have q6:x4_1 < (a0.size:Int):=of_decide_eq_true (by first | (with_reducible assumption) | assumption)
              have hx6:=bt_at a0 x4_1
              replace p6:=eq_true p6
              replace q6:=eq_true q6
              go_wp2
              go_ret2
              exact ⟨by first | rfl | (simp;done) | (simp [*];done),by repeat (first | exact us.refl _ | apply us.step)⟩
            · rw [if_neg c9] at H
              exact absurd H (by simp)
      · rw [if_neg c3] at H
        exact absurd H (by simp)
    · rw [if_neg c2] at H
      have c2b0:decide (x4_1 < (a0.size:Int)) = false:=decide_eq_false c2
      clear c2
      by_cases c10:0 ≤ x4_1
      · rw [if_pos c10] at H
        have c10b0:=eq_true c10
        have c10b1:decide (0 ≤ x4_1) = true:=decide_eq_true c10
        clear c10
        by_cases c11:x4_1 ≤ (a0.size:Int)
        · rw [if_pos c11] at H
          have c11b0:=eq_true c11
          have c11b1:decide (x4_1 ≤ (a0.size:Int)) = true:=decide_eq_true c11
          clear c11
          simp only [Option.some.injEq,Prod.mk.injEq] at H
          obtain ⟨rfl,rfl⟩:=H
          go_wp2
          go_ret2
          exact ⟨by first | rfl | (simp;done) | (simp [*];done),by repeat (first | exact us.refl _ | apply us.step)⟩
        · rw [if_neg c11] at H
          exact absurd H (by simp)
      · rw [if_neg c10] at H
        exact absurd H (by simp)
def u1q.l0:Nat → List Int → List Int → Int → Int → Option (Bool)
 | 0,_,_,_,_ => none
 | k + 1,x0,x1,x12,x13 => if x13 < x12 then (if 0 ≤ x13 then (if x13 < (x0.length:Int) then (if x13 < (x1.length:Int) then (if (rd x0 x13) = (rd x1 x13) then (u1q.l0 k x0 x1 x12 (wrap64 (x13 + 1))) else (some false)) else (none)) else (none)) else (none)) else (some true)
def u1q.f (k:Nat) (l0:List Int) (l1:List Int):Option (Bool):=if (l0.length:Int) = (l1.length:Int) then (u1q.l0 k l0 l1 (l0.length:Int) 0) else (some false)
set_option maxHeartbeats 8000000 in
set_option maxRecDepth 100000 in
theorem u1q.calls (k:Nat) (A0:Option Addr) (c0:Nat) (l0:List Int) (A1:Option Addr) (c1:Nat) (l1:List Int) (r:Bool) (w:World) (hr0:Kd.C (Kd.int .u8) w A0 l0.length l0) (hc0:l0.length ≤ c0) (hr1:Kd.C (Kd.int .u8) w A1 l1.length l1) (hc1:l1.length ≤ c1) (h:u1q.f k l0 l1 = some r) :
 Calls Tryz.prog 11 #[.slice A0 l0.length c0,.slice A1 l1.length c1] w fun e w' => e = .returned (.bool r) ∧ us w w':=by
 have HR0:=Aside0.mk hr0
 have HC0:=Aside0.mk hc0
 clear hr0 hc0
 have HR1:=Aside0.mk hr1
 have HC1:=Aside0.mk hc1
 clear hr1 hc1
 have H:(if (l0.length:Int) = (l1.length:Int) then (u1q.l0 k l0 l1 (l0.length:Int) 0) else (some false)) = some r:=h
 clear h
 by_cases c3:(l0.length:Int) = (l1.length:Int)
 · rw [if_pos c3] at H
   have c3b0:((l0.length:Int) == (l1.length:Int)) = true:=beq_iff_eq.mpr c3
   have c3b1:((l0.length:Int) != (l1.length:Int)) = false:=bne_eq_false_iff_eq.mpr c3
   have c3b2:(l0.length == l1.length) = true:=by first | simpa using c3 | (simp at c3 ⊢;omega)
   clear c3
   have H':=Aside0.mk H
   clear H
   go_enter Tryz.func11,Tryz.ntmps11
   go_wp2
   repeat (go_quiet (fail);try go_wp2)
   go_loopg [13] k (fun kq v13 w' => ∃ (x13_1:Int),v13 = .int .i64 x13_1 ∧ Aside0 (u1q.l0 kq l0 l1 (l0.length:Int) x13_1 = some r) ∧ Aside0 (kq ≤ k) ∧ us w w')
   case atStart => exact ⟨(0),(by first | rfl | (simp;done) | (simp [*];done)),H',⟨Nat.le_refl _⟩,by repeat (first | exact us.refl _ | apply us.step)⟩
   case round =>
    clear H'
    try clear c1
    try clear p2
    try clear c3
    try clear c3b0
    try clear c3b1
    try clear c3b2
    obtain ⟨x13_1,rfl,HA,HK1,⟨m1,rfl⟩⟩:=hrel
    cases gk with
    | zero => exact absurd HA.out (by simp [u1q.l0])
    | succ k1 =>
      have H:=HA.out
      clear HA
      simp only [u1q.l0] at H
      by_cases c4:x13_1 < (l0.length:Int)
      · rw [if_pos c4] at H
        have c4b0:decide (x13_1 < (l0.length:Int)) = true:=decide_eq_true c4
        clear c4
        by_cases c5:0 ≤ x13_1
        · rw [if_pos c5] at H
          have c5b0:decide (0 ≤ x13_1) = true:=decide_eq_true c5
          clear c5
          by_cases c6:x13_1 < (l0.length:Int)
          · rw [if_pos c6] at H
            have c6b0:decide (x13_1 < (l0.length:Int)) = true:=decide_eq_true c6
            clear c6
            by_cases c7:x13_1 < (l1.length:Int)
            · rw [if_pos c7] at H
              have c7b0:decide (x13_1 < (l1.length:Int)) = true:=decide_eq_true c7
              clear c7
              by_cases c8:(rd l0 x13_1) = (rd l1 x13_1)
              · rw [if_pos c8] at H
                have c8b0:((rd l0 x13_1) == (rd l1 x13_1)) = true:=beq_iff_eq.mpr c8
                have c8b1:((rd l0 x13_1) != (rd l1 x13_1)) = false:=bne_eq_false_iff_eq.mpr c8
                clear c8
                have H':=Aside0.mk H
                clear H
                have p253:0 ≤ (x13_1:Int):=of_decide_eq_true (by first | (with_reducible assumption) | assumption)
                have q253:x13_1 < (l0.length:Int):=of_decide_eq_true (by first | (with_reducible assumption) | assumption)
                obtain ⟨ad253,e253,hx253_0⟩:=Kd.at_int HR0.out x13_1 p253 q253
                cases e253
                replace p253:=eq_true p253
                replace q253:=eq_true q253
                have p254:0 ≤ (x13_1:Int):=of_decide_eq_true (by first | (with_reducible assumption) | assumption)
                have q254:x13_1 < (l1.length:Int):=of_decide_eq_true (by first | (with_reducible assumption) | assumption)
                obtain ⟨ad254,e254,hx254_0⟩:=Kd.at_int HR1.out x13_1 p254 q254
                cases e254
                replace p254:=eq_true p254
                replace q254:=eq_true q254
                go_wp2
                repeat (go_quiet (fail);try go_wp2)
                go_roundg k1
                case measure => have:=HK1.out;omega
                case rel => exact ⟨(wrap64 (x13_1 + 1)),(by first | rfl | (simp;done) | (simp [*];done)),H',⟨by have:=HK1.out;omega⟩,by repeat (first | exact us.refl _ | apply us.step)⟩
              · rw [if_neg c8] at H
                have c8b0:((rd l0 x13_1) == (rd l1 x13_1)) = false:=beq_eq_false_iff_ne.mpr c8
                have c8b1:((rd l0 x13_1) != (rd l1 x13_1)) = true:=bne_iff_ne.mpr c8
                obtain rfl:=Option.some.inj H
                have p253:0 ≤ (x13_1:Int):=of_decide_eq_true (by first | (with_reducible assumption) | assumption)
                have q253:x13_1 < (l0.length:Int):=of_decide_eq_true (by first | (with_reducible assumption) | assumption)
                obtain ⟨ad253,e253,hx253_0⟩:=Kd.at_int HR0.out x13_1 p253 q253
                cases e253
                replace p253:=eq_true p253
                replace q253:=eq_true q253
                have p254:0 ≤ (x13_1:Int):=of_decide_eq_true (by first | (with_reducible assumption) | assumption)
                have q254:x13_1 < (l1.length:Int):=of_decide_eq_true (by first | (with_reducible assumption) | assumption)
                obtain ⟨ad254,e254,hx254_0⟩:=Kd.at_int HR1.out x13_1 p254 q254
                cases e254
                replace p254:=eq_true p254
                replace q254:=eq_true q254
                go_wp2
                repeat (go_quiet (fail);try go_wp2)
                go_ret
                exact ⟨by first | rfl | (simp;done) | (simp [*];done),by repeat (first | exact us.refl _ | apply us.step)⟩
            · rw [if_neg c7] at H
              exact absurd H (by simp)
          · rw [if_neg c6] at H
            exact absurd H (by simp)
        · rw [if_neg c5] at H
          exact absurd H (by simp)
      · rw [if_neg c4] at H
        have c4b0:decide (x13_1 < (l0.length:Int)) = false:=decide_eq_false c4
        clear c4
        obtain rfl:=Option.some.inj H
        go_wp2
        repeat (go_quiet (fail);try go_wp2)
        go_ret
        exact ⟨by first | rfl | (simp;done) | (simp [*];done),by repeat (first | exact us.refl _ | apply us.step)⟩
 · rw [if_neg c3] at H
   have c3b0:((l0.length:Int) == (l1.length:Int)) = false:=beq_eq_false_iff_ne.mpr c3
   have c3b1:((l0.length:Int) != (l1.length:Int)) = true:=bne_iff_ne.mpr c3
   have c3b2:(l0.length == l1.length) = false:=by first | simpa using c3 | (simp at c3 ⊢;omega)
   obtain rfl:=Option.some.inj H
   go_enter Tryz.func11,Tryz.ntmps11
   go_wp2
   repeat (go_quiet (fail);try go_wp2)
   go_ret
   exact ⟨by first | rfl | (simp;done) | (simp [*];done),by repeat (first | exact us.refl _ | apply us.step)⟩
def u2e.f (a0:ByteArray):Option Bool:=some (Base.nameB a0)
theorem u2e.letter_is (x:Int):labels_letter.f x = some (Base.letterB x):=by
 unfold labels_letter.f Base.letterB
 by_cases h1:x = 95
 · simp [h1]
 · rw [if_neg h1]
   by_cases h2:Go.bits .or .u8 x 32 ≥ 97
   · rw [if_pos h2]
     simp only [ge_iff_le] at h2
     simp [h1,h2]
   · rw [if_neg h2]
     simp only [ge_iff_le] at h2
     simp [h1,h2]
theorem u2e.digit_is (x:Int):labels_digit.f x = some (Base.digitB x):=by
 unfold labels_digit.f Base.digitB
 by_cases h1:x ≥ 48
 · rw [if_pos h1]
   simp only [ge_iff_le] at h1
   simp [h1]
 · rw [if_neg h1]
   simp only [ge_iff_le] at h1
   simp [h1]
def u2e.badB (c:Int):Bool:=!Base.letterB c && !Base.digitB c
set_option maxHeartbeats 400000 in
theorem u2e.test (c:Int) (w:World):Calls Tryz.prog 57 #[.int .u8 c] w fun e w' => e = .returned (.bool (u2e.badB c)) ∧ us w w':=by
 unfold u2e.badB
 cases hl:Base.letterB c with
 | true =>
   go_enter Tryz.func57,Tryz.ntmps57
   go_wp2_with (go_at_call 55;refine (labels_letter.calls _ _ _ (u2e.letter_is _)).mono ?_;rintro e W1 ⟨rfl,⟨nd,rfl⟩⟩)
   go_ret
   exact ⟨rfl,⟨nd,rfl⟩⟩
 | false =>
   go_enter Tryz.func57,Tryz.ntmps57
   go_wp2_with (first | (go_at_call 55;refine (labels_letter.calls _ _ _ (u2e.letter_is _)).mono ?_;rintro e W1 ⟨rfl,⟨nd,rfl⟩⟩) | (go_at_call 58;refine (labels_digit.calls _ _ _ (u2e.digit_is _)).mono ?_;rintro e W2 ⟨rfl,⟨md,rfl⟩⟩))
   go_ret
   exact ⟨rfl,⟨_,rfl⟩⟩
set_option maxHeartbeats 1000000 in
theorem u2e.index (A:Option Addr) (c:Nat) (l:List Int) (w:World) (hr:Kd.C (Kd.int .u8) w A l.length l) (hm:l.length ≤ 140737488355328) :
 Calls Tryz.prog 104 #[.slice A l.length c,.func (.func 57) #[] #[]] w fun e w' => (∃ i:Int,e = .returned (.int .i64 i) ∧ decide (0 ≤ i) = l.any u2e.badB) ∧ us w w':=by
 have HR:=Aside0.mk hr
 clear hr
 go_enter Tryz.func104,Tryz.ntmps104
 go_wp2
 go_loopg [8] (l.length) (fun kq v8 w' => ∃ (x:Nat),x ≤ l.length ∧ v8 = .int .i64 x ∧ Aside0 ((l.take x).any u2e.badB = false) ∧ l.length ≤ kq + x ∧ us w w')
 case atStart => exact ⟨0,by omega,rfl,⟨rfl⟩,by omega,us.refl _⟩
 case round =>
  obtain ⟨x,hx,rfl,HN,hk,⟨m1,rfl⟩⟩:=hrel
  by_cases hlt:x < l.length
  · obtain ⟨ad,e,hc⟩:=Kd.at_int HR.out (x:Int) (by omega) (by omega)
    subst e
    have hc2:w.cell? (ad.add x) = some (.int .u8 (rd l x)):=by simpa using hc
    clear hc
    have htk:l.take (x + 1) = l.take x ++ [rd l x]:=by
     rw [List.take_succ_eq_append_getElem hlt]
     simp [rd,List.getD_eq_getElem?_getD,hlt]
    have HT:=Aside0.mk htk
    clear htk
    cases hb:u2e.badB (rd l x) with
    | true =>
      go_wp2_with (go_at_call 57;refine (u2e.test _ _).mono ?_;rintro e W1 ⟨rfl,⟨nd,rfl⟩⟩)
      go_ret
      refine ⟨⟨_,rfl,?_⟩,⟨_,rfl⟩⟩
      have h1:l.any u2e.badB = true:=by
       rw [List.any_eq_true]
       refine ⟨rd l x,?_,hb⟩
       have h2:rd l x ∈ l.take (x + 1):=by rw [HT.out];simp
       exact List.mem_of_mem_take h2
      rw [h1]
      simp
    | false =>
      go_wp2_with (go_at_call 57;refine (u2e.test _ _).mono ?_;rintro e W1 ⟨rfl,⟨nd,rfl⟩⟩)
      obtain ⟨g1,rfl⟩:∃ g1,gk = g1 + 1:=⟨gk - 1,by omega⟩
      go_roundg g1
      case rel =>
       refine ⟨x + 1,by omega,by go_num,⟨?_⟩,by omega,⟨_,rfl⟩⟩
       rw [HT.out,List.any_append,HN.out]
       simp [hb]
      case measure => omega
  · go_wp2
    go_ret
    refine ⟨⟨_,rfl,?_⟩,⟨_,rfl⟩⟩
    have h1:=HN.out
    rw [List.take_of_length_le (by omega)] at h1
    rw [h1]
    simp
theorem u2e.contains (A:Option Addr) (c:Nat) (l:List Int) (w:World) (hr:Kd.C (Kd.int .u8) w A l.length l) (hm:l.length ≤ 140737488355328) :
 Calls Tryz.prog 56 #[.slice A l.length c,.func (.func 57) #[] #[]] w fun e w' => e = .returned (.bool (l.any u2e.badB)) ∧ us w w':=by
 go_enter Tryz.func56,Tryz.ntmps56
 go_wp2_with (go_at_call 104;refine (u2e.index _ _ _ _ hr hm).mono ?_;rintro e W1 ⟨⟨i,rfl,hi⟩,⟨nd,rfl⟩⟩)
 go_ret
 exact ⟨by simp,⟨_,rfl⟩⟩
theorem u2e.contains_n (A:Option Addr) (c n:Nat) (l:List Int) (w:World) (hn:l.length = n) (hr:Kd.C (Kd.int .u8) w A n l) (hm:n ≤ 140737488355328) :
 Calls Tryz.prog 56 #[.slice A n c,.func (.func 57) #[] #[]] w fun e w' => e = .returned (.bool (l.any u2e.badB)) ∧ us w w':=by
 subst hn
 exact u2e.contains A c l w hr hm
set_option maxHeartbeats 1000000 in
theorem u2e.calls (a0:ByteArray) (r:Bool) (w:World) (h:u2e.f a0 = some r) :
 Calls Tryz.prog 29 #[.string a0] w fun e w' => e = .returned (.bool r) ∧ Below w.heap.size w w':=by
 obtain rfl:Base.nameB a0 = r:=by simpa [u2e.f] using h
 clear h
 by_cases h0:a0.size = 0
 · have he:a0.toList = []:=(Base.toList_nil a0).2 h0
   have hv:Aside0 (Base.nameB a0 = false):=⟨by simp [Base.nameB,h0]⟩
   have hi:a0.toList.isEmpty = true:=by rw [he];rfl
   clear he h0
   go_enter Tryz.func29,Tryz.ntmps29
   go_wp2
   go_ret
   exact ⟨by rw [hv.out];rfl,Below.refl _ _⟩
 · have he:a0.toList.isEmpty = false:=by
    cases hl:a0.toList with
    | nil => exact absurd ((Base.toList_nil a0).1 hl) h0
    | cons _ _ => rfl
   have hen:¬ a0.toList = []:=by intro hl;rw [hl] at he;simp at he
   by_cases h24:a0.size ≤ 24
   · have hp:0 < a0.size:=by omega
     have hbt:((a0[0]'hp).toNat:Int) = bt a0 0:=by simpa using bt_at a0 0 (by simpa using hp)
     have hh:(bytesOf a0).headD 0 = bt a0 0:=by
      rw [← rd_bytesOf]
      cases bytesOf a0 <;> rfl
     have HH:=Aside0.mk hh
     clear hh
     cases hl:Base.letterB (bt a0 0) with
     | false =>
       have hv:Aside0 (Base.nameB a0 = false):=⟨by unfold Base.nameB;rw [HH.out,hl];simp⟩
       go_enter Tryz.func29,Tryz.ntmps29
       go_wp2_with (go_at_call 55;refine (labels_letter.calls _ _ _ (u2e.letter_is _)).mono ?_;rintro e W1 ⟨rfl,⟨nd,rfl⟩⟩)
       go_ret
       exact ⟨by rw [hv.out];rfl,ub (Below.refl _ _) nd⟩
     | true =>
       have kb:=fun W => print_bytes (P:=Tryz.prog) 9 22 5 Tryz.underlying9 Tryz.underlying22 Tryz.underlying5 a0 W
       have hv:Aside0 (Base.nameB a0 = !(bytesOf a0).any u2e.badB):=⟨by
        have h1:(bytesOf a0).all (fun c => Base.letterB c || Base.digitB c) = !(bytesOf a0).any u2e.badB:=by
         rw [List.all_eq_not_any_not]
         congr 2
         funext c
         simp [u2e.badB]
        unfold Base.nameB
        rw [HH.out,hl,h1]
        simp [hp,h24]⟩
       go_enter Tryz.func29,Tryz.ntmps29
       go_wp2_with (go_at_call 55;refine (labels_letter.calls _ _ _ (u2e.letter_is _)).mono ?_;rintro e W1 ⟨rfl,⟨nd,rfl⟩⟩)
       have hr:=bytes_reads (w.drewN nd) 5 a0 (by omega)
       have hc:Kd.C (Kd.int .u8) (Lib.bytesWorld (w.drewN nd) 5 a0) (some ⟨w.heap.size,0,none⟩) a0.size (bytesOf a0):=Kd.C_of_reads (d:=(0:Int)) (h1:=fun _ => rfl) hr
       refine (u2e.contains_n _ _ _ _ _ (bytesOf_length a0) hc (by omega)).mono ?_
       rintro e W2 ⟨rfl,⟨md,rfl⟩⟩
       clear hr hc
       go_wp2
       go_ret
       exact ⟨by rw [hv.out];rfl,ub (bytes_below (ub (Below.refl _ _) nd) (by simp) _ _) md⟩
   · have hv:Aside0 (Base.nameB a0 = false):=⟨by simp [Base.nameB,h24]⟩
     go_enter Tryz.func29,Tryz.ntmps29
     go_wp2
     go_ret
     exact ⟨by rw [hv.out];rfl,Below.refl _ _⟩
end Go.Proofs.YtmcpeifhapekoaaGreatDoor.PAll
namespace Go.Proofs.YtmcpeifhapekoaaGreatDoor.PAll
open Go.RowKit Go.Proofs.YtmcpeifhapekoaaGreatDoorW.PrintWords Go.Proofs.YtmcpeifhapekoaaGreatDoorW.PrintLast Go.Proofs.YtmcpeifhapekoaaGreatDoorW.PrintMore
attribute [local go_sem] u3q u3r max_two min_two u3l u3k u3s u3p
set_option linter.unusedVariables false
set_option linter.unusedSimpArgs false
attribute [local go_sem high] eqA66
def u3d.l0:Nat → List (S66) → List (S66) → Int → Int → Option (Bool)
 | 0,_,_,_,_ => none
 | k + 1,x0,x1,x12,x13 => if x13 < x12 then (if 0 ≤ x13 then (if x13 < (x0.length:Int) then (if x13 < (x1.length:Int) then (if (!((((u2g x0 x13).f0).toList) == (((u2g x1 x13).f0).toList)) || (!((((u2g x0 x13).f1).toList) == (((u2g x1 x13).f1).toList)))) = true then (some false) else (u3d.l0 k x0 x1 x12 (wrap64 (x13 + 1)))) else (none)) else (none)) else (none)) else (some true)
def u3d.f (k:Nat) (l0:List (S66)) (l1:List (S66)):Option (Bool):=if (l0.length:Int) = (l1.length:Int) then (u3d.l0 k l0 l1 (l0.length:Int) 0) else (some false)
set_option maxHeartbeats 8000000 in
set_option maxRecDepth 100000 in
theorem u3d.calls (k:Nat) (A0:Option Addr) (c0:Nat) (l0:List (S66)) (A1:Option Addr) (c1:Nat) (l1:List (S66)) (r:Bool) (w:World) (hr0:Kd.C k66 w A0 l0.length l0) (hc0:l0.length ≤ c0) (hr1:Kd.C k66 w A1 l1.length l1) (hc1:l1.length ≤ c1) (h:u3d.f k l0 l1 = some r) :
 Calls Tryz.prog 26 #[.slice A0 l0.length c0,.slice A1 l1.length c1] w fun e w' => e = .returned (.bool r) ∧ us w w':=by
 have hu66:=Tryz.underlying66
 have HR0:=Aside0.mk hr0
 have HC0:=Aside0.mk hc0
 clear hr0 hc0
 have HR1:=Aside0.mk hr1
 have HC1:=Aside0.mk hc1
 clear hr1 hc1
 have H:(if (l0.length:Int) = (l1.length:Int) then (u3d.l0 k l0 l1 (l0.length:Int) 0) else (some false)) = some r:=h
 clear h
 by_cases c3:(l0.length:Int) = (l1.length:Int)
 · rw [if_pos c3] at H
   have c3b0:((l0.length:Int) == (l1.length:Int)) = true:=beq_iff_eq.mpr c3
   have c3b1:((l0.length:Int) != (l1.length:Int)) = false:=bne_eq_false_iff_eq.mpr c3
   have c3b2:(l0.length == l1.length) = true:=by first | simpa using c3 | (simp at c3 ⊢;omega)
   clear c3
   have H':=Aside0.mk H
   clear H
   go_enter Tryz.func26,Tryz.ntmps26
   go_wp2
   repeat (go_quiet (fail);try go_wp2)
   go_loopg [13] k (fun kq v13 w' => ∃ (x13_1:Int),v13 = .int .i64 x13_1 ∧ Aside0 (u3d.l0 kq l0 l1 (l0.length:Int) x13_1 = some r) ∧ Aside0 (kq ≤ k) ∧ us w w')
   case atStart => exact ⟨(0),(by first | rfl | (simp;done) | (simp [*];done)),H',⟨Nat.le_refl _⟩,by repeat (first | exact us.refl _ | apply us.step)⟩
   case round =>
    clear H'
    try clear c1
    try clear c2
    try clear p2
    try clear c3
    try clear c3b0
    try clear c3b1
    try clear c3b2
    obtain ⟨x13_1,rfl,HA,HK1,⟨m1,rfl⟩⟩:=hrel
    cases gk with
    | zero => exact absurd HA.out (by simp [u3d.l0])
    | succ k1 =>
      have H:=HA.out
      clear HA
      simp only [u3d.l0] at H
      by_cases c4:x13_1 < (l0.length:Int)
      · rw [if_pos c4] at H
        have c4b0:decide (x13_1 < (l0.length:Int)) = true:=decide_eq_true c4
        clear c4
        by_cases c5:0 ≤ x13_1
        · rw [if_pos c5] at H
          have c5b0:decide (0 ≤ x13_1) = true:=decide_eq_true c5
          clear c5
          by_cases c6:x13_1 < (l0.length:Int)
          · rw [if_pos c6] at H
            have c6b0:decide (x13_1 < (l0.length:Int)) = true:=decide_eq_true c6
            clear c6
            by_cases c7:x13_1 < (l1.length:Int)
            · rw [if_pos c7] at H
              have c7b0:decide (x13_1 < (l1.length:Int)) = true:=decide_eq_true c7
              clear c7
              by_cases c8:(!((((u2g l0 x13_1).f0).toList) == (((u2g l1 x13_1).f0).toList)) || (!((((u2g l0 x13_1).f1).toList) == (((u2g l1 x13_1).f1).toList)))) = true
              · rw [if_pos c8] at H
                have c8b0:(!((((u2g l0 x13_1).f0).toList) == (((u2g l1 x13_1).f0).toList)) || (!((((u2g l0 x13_1).f1).toList) == (((u2g l1 x13_1).f1).toList)))) = true:=c8
                clear c8
                obtain rfl:=Option.some.inj H
                have p249:0 ≤ (x13_1:Int):=of_decide_eq_true (by first | (with_reducible assumption) | assumption)
                have q249:x13_1 < (l0.length:Int):=of_decide_eq_true (by first | (with_reducible assumption) | assumption)
                obtain ⟨ad249,e249,hx249_0,hx249_1⟩:=at_T66 HR0.out x13_1 p249 q249
                cases e249
                replace p249:=eq_true p249
                replace q249:=eq_true q249
                have p250:0 ≤ (x13_1:Int):=of_decide_eq_true (by first | (with_reducible assumption) | assumption)
                have q250:x13_1 < (l1.length:Int):=of_decide_eq_true (by first | (with_reducible assumption) | assumption)
                obtain ⟨ad250,e250,hx250_0,hx250_1⟩:=at_T66 HR1.out x13_1 p250 q250
                cases e250
                replace p250:=eq_true p250
                replace q250:=eq_true q250
                go_wp2
                repeat (go_quiet (fail);try go_wp2)
                go_ret
                exact ⟨by first | rfl | (simp;done) | (simp [*];done),by repeat (first | exact us.refl _ | apply us.step)⟩
              · rw [if_neg c8] at H
                have c8b0:(!((((u2g l0 x13_1).f0).toList) == (((u2g l1 x13_1).f0).toList)) || (!((((u2g l0 x13_1).f1).toList) == (((u2g l1 x13_1).f1).toList)))) = false:=by simpa using c8
                clear c8
                have H':=Aside0.mk H
                clear H
                have p249:0 ≤ (x13_1:Int):=of_decide_eq_true (by first | (with_reducible assumption) | assumption)
                have q249:x13_1 < (l0.length:Int):=of_decide_eq_true (by first | (with_reducible assumption) | assumption)
                obtain ⟨ad249,e249,hx249_0,hx249_1⟩:=at_T66 HR0.out x13_1 p249 q249
                cases e249
                replace p249:=eq_true p249
                replace q249:=eq_true q249
                have p250:0 ≤ (x13_1:Int):=of_decide_eq_true (by first | (with_reducible assumption) | assumption)
                have q250:x13_1 < (l1.length:Int):=of_decide_eq_true (by first | (with_reducible assumption) | assumption)
                obtain ⟨ad250,e250,hx250_0,hx250_1⟩:=at_T66 HR1.out x13_1 p250 q250
                cases e250
                replace p250:=eq_true p250
                replace q250:=eq_true q250
                go_wp2
                repeat (go_quiet (fail);try go_wp2)
                go_roundg k1
                case measure => have:=HK1.out;omega
                case rel => exact ⟨(wrap64 (x13_1 + 1)),(by first | rfl | (simp;done) | (simp [*];done)),H',⟨by have:=HK1.out;omega⟩,by repeat (first | exact us.refl _ | apply us.step)⟩
            · rw [if_neg c7] at H
              exact absurd H (by simp)
          · rw [if_neg c6] at H
            exact absurd H (by simp)
        · rw [if_neg c5] at H
          exact absurd H (by simp)
      · rw [if_neg c4] at H
        have c4b0:decide (x13_1 < (l0.length:Int)) = false:=decide_eq_false c4
        clear c4
        obtain rfl:=Option.some.inj H
        go_wp2
        repeat (go_quiet (fail);try go_wp2)
        go_ret
        exact ⟨by first | rfl | (simp;done) | (simp [*];done),by repeat (first | exact us.refl _ | apply us.step)⟩
 · rw [if_neg c3] at H
   have c3b0:((l0.length:Int) == (l1.length:Int)) = false:=beq_eq_false_iff_ne.mpr c3
   have c3b1:((l0.length:Int) != (l1.length:Int)) = true:=bne_iff_ne.mpr c3
   have c3b2:(l0.length == l1.length) = false:=by first | simpa using c3 | (simp at c3 ⊢;omega)
   obtain rfl:=Option.some.inj H
   go_enter Tryz.func26,Tryz.ntmps26
   go_wp2
   repeat (go_quiet (fail);try go_wp2)
   go_ret
   exact ⟨by first | rfl | (simp;done) | (simp [*];done),by repeat (first | exact us.refl _ | apply us.step)⟩
end Go.Proofs.YtmcpeifhapekoaaGreatDoor.PAll
namespace Go.Proofs.YtmcpeifhapekoaaGreatDoor.PAll
open Go.RowKit Go.Proofs.YtmcpeifhapekoaaGreatDoorW.PrintWords Go.Proofs.YtmcpeifhapekoaaGreatDoorW.PrintLast Go.Proofs.YtmcpeifhapekoaaGreatDoorW.PrintMore
attribute [local go_sem] u3q u3r max_two min_two u3l u3k u3s u3p
set_option linter.unusedVariables false
set_option linter.unusedSimpArgs false
def u1r.same (k:Nat) (x y:S53):Option Bool:=(u3d.f k x.f0 y.f0).bind fun b => some (b && (x.f1 == y.f1) && (x.f2 == y.f2))
def u1r.all (k:Nat):List S53 → List S53 → Option Bool
 | [],_ => some true
 | _ :: _,[] => some true
 | x :: r,y :: q => (u1r.same k x y).bind fun b => if b = true then u1r.all k r q else some false
def u1r.f (k:Nat) (l0 l1:List S53):Option Bool:=if l0.length = l1.length then (if l0.length ≤ 4611686018427387904 then u1r.all k l0 l1 else none) else some false
set_option maxHeartbeats 4000000 in
set_option maxRecDepth 100000 in
theorem u1r.calls_one (k:Nat) (x y:S53) (A0 A1:Option Addr) (c0 c1:Nat) (b:Bool) (w:World) (hx:x.f0.length ≤ c0) (gx:Kd.C k66 w A0 x.f0.length x.f0) (hy:y.f0.length ≤ c1) (gy:Kd.C k66 w A1 y.f0.length y.f0) (h:u1r.same k x y = some b) :
 Calls Tryz.prog 25 #[.agg #[.slice A0 x.f0.length c0,.int .i64 x.f1,.int .u64 x.f2],.agg #[.slice A1 y.f0.length c1,.int .i64 y.f1,.int .u64 y.f2]] w fun e w' => e = .returned (.bool b) ∧ Below w.heap.size w w':=by
 obtain ⟨c,hc,h2⟩:=Option.bind_eq_some_iff.1 h
 have HCc:=Aside0.mk hc
 have H2:=Aside0.mk (Option.some.inj h2)
 have GX:=Aside0.mk gx
 have GY:=Aside0.mk gy
 have HX:=Aside0.mk hx
 have HY:=Aside0.mk hy
 clear hc h2 h gx gy hx hy
 cases c with
 | false =>
   have hb:false = b:=by simpa using H2.out
   subst hb
   go_enter Tryz.func25,Tryz.ntmps25
   go_wp2_with (go_at_call 26;(with_reducible refine (u3d.calls k _ _ x.f0 _ _ y.f0 false _ (Kd.C_alloc (Kd.C_alloc GX.out _) _) HX.out (Kd.C_alloc (Kd.C_alloc GY.out _) _) HY.out HCc.out).mono ?_);rintro e w3 ⟨rfl,⟨nd,rfl⟩⟩)
   all_goals
    go_ret
    refine ⟨?_,by repeat (first | exact Below.refl _ _ | apply uc | apply ub)⟩
    first | rfl | (rw [← H2.out];simp [*];done) | (rw [← H2.out];simp [*];rfl)
 | true =>
   go_enter Tryz.func25,Tryz.ntmps25
   go_wp2_with (go_at_call 26;(with_reducible refine (u3d.calls k _ _ x.f0 _ _ y.f0 true _ (Kd.C_alloc (Kd.C_alloc GX.out _) _) HX.out (Kd.C_alloc (Kd.C_alloc GY.out _) _) HY.out HCc.out).mono ?_);rintro e w3 ⟨rfl,⟨nd,rfl⟩⟩)
   all_goals
    go_ret
    refine ⟨?_,by repeat (first | exact Below.refl _ _ | apply uc | apply ub)⟩
    first | rfl | (rw [← H2.out];simp [*];done) | (rw [← H2.out];simp [*];rfl)
theorem u1r.calls (k:Nat) (A0:Option Addr) (c0:Nat) (l0:List S53) (A1:Option Addr) (c1:Nat) (l1:List S53) (r:Bool) (w:World) (hr0:Kd.C k53 w A0 l0.length l0) (hc0:l0.length ≤ c0) (hr1:Kd.C k53 w A1 l1.length l1) (hc1:l1.length ≤ c1) (h:u1r.f k l0 l1 = some r) :
 Calls Tryz.prog 9 #[.slice A0 l0.length c0,.slice A1 l1.length c1] w fun e w' => e = .returned (.bool r) ∧ Below w.heap.size w w':=by
 have HR0:=Aside0.mk hr0
 have HR1:=Aside0.mk hr1
 clear hr0 hr1
 unfold u1r.f at h
 by_cases hlen:l0.length = l1.length
 · rw [if_pos hlen] at h
   by_cases hmax:l0.length ≤ 4611686018427387904
   · rw [if_pos hmax] at h
     have H:=Aside0.mk h
     clear h
     go_enter Tryz.func9,Tryz.ntmps9
     go_wp2_with (go_in)
     go_loopg [17] (l0.length) (fun kq v17 wr => ∃ (i:Nat) (ra rb:List S53),i ≤ l0.length ∧ v17 = .int .i64 i ∧ Aside0 (l0.drop i = ra ∧ l1.drop i = rb ∧ u1r.all k ra rb = some r) ∧ l0.length ≤ kq + i ∧ Aside0 (Below w.heap.size w wr))
     case atStart => exact ⟨0,l0,l1,by omega,rfl,⟨rfl,rfl,H.out⟩,by omega,⟨Below.refl _ _⟩⟩
     case round =>
      clear H
      obtain ⟨i,ra,rb,hi,rfl,HA,hk,HB⟩:=hrel
      by_cases hlt:i < l0.length
      · obtain ⟨g1,rfl⟩:∃ g1,gk = g1 + 1:=⟨gk - 1,by omega⟩
        obtain ⟨x,ra2,hx⟩:∃ x ra2,Aside0 (ra = x :: ra2 ∧ rd_T53 l0 (i:Int) = x):=by
         have h1:=HA.out.1
         rw [List.drop_eq_getElem_cons hlt] at h1
         exact ⟨_,_,⟨h1.symm,by simp [rd_T53,List.getD_eq_getElem?_getD,hlt]⟩⟩
        obtain ⟨y,rb2,hy⟩:∃ y rb2,Aside0 (rb = y :: rb2 ∧ rd_T53 l1 (i:Int) = y):=by
         have h1:=HA.out.2.1
         have hlt2:i < l1.length:=by omega
         rw [List.drop_eq_getElem_cons hlt2] at h1
         exact ⟨_,_,⟨h1.symm,by simp [rd_T53,List.getD_eq_getElem?_getD,hlt2]⟩⟩
        obtain ⟨b,hb,HA2⟩:∃ b,Aside0 (u1r.same k x y = some b) ∧ Aside0 ((if b = true then u1r.all k ra2 rb2 else some false) = some r):=by
         have h1:=HA.out.2.2
         rw [hx.out.1,hy.out.1] at h1
         obtain ⟨b,h2,h3⟩:=Option.bind_eq_some_iff.1 h1
         exact ⟨b,⟨h2⟩,⟨h3⟩⟩
        have HD:Aside0 (l0.drop (i + 1) = ra2 ∧ l1.drop (i + 1) = rb2):=⟨by
         have h1:=HA.out
         rw [hx.out.1,hy.out.1] at h1
         rw [← List.drop_drop,← List.drop_drop,h1.1,h1.2.1]
         exact ⟨rfl,rfl⟩⟩
        obtain ⟨ad0,B0,d0,e0,f00,f01,f02,g00,g01⟩:=at_T53 (Kd.C_below HR0.out HB.out) (i:Int) (by omega) (by omega)
        subst e0
        obtain ⟨ad1,B1,d1,e1,f10,f11,f12,g10,g11⟩:=at_T53 (Kd.C_below HR1.out HB.out) (i:Int) (by omega) (by omega)
        subst e1
        rw [hx.out.2] at f00 f01 f02 g00 g01
        rw [hy.out.2] at f10 f11 f12 g10 g11
        simp only [Int.toNat_natCast] at f00 f01 f02 f10 f11 f12
        have hlt1:i < l1.length:=by omega
        have q0:∀ o:Obj,(wr.alloc o).cell? _ = some _:=fun o => ((uc (Below.refl wr.heap.size wr) o).cell (World.block_lt_of_cell? wr _ f10)).trans f10
        have q1:∀ o:Obj,(wr.alloc o).cell? _ = some _:=fun o => ((uc (Below.refl wr.heap.size wr) o).cell (World.block_lt_of_cell? wr _ f11)).trans f11
        have q2:∀ o:Obj,(wr.alloc o).cell? _ = some _:=fun o => ((uc (Below.refl wr.heap.size wr) o).cell (World.block_lt_of_cell? wr _ f12)).trans f12
        have GX:=Aside0.mk g01
        have GY:=Aside0.mk g11
        have HX:=Aside0.mk g00
        have HY:=Aside0.mk g10
        clear g00 g01 g10 g11 HA hx hy
        cases b with
        | false =>
          have hr:Aside0 (r = false):=⟨by simpa using HA2.out.symm⟩
          go_wp2_with (go_at_call 25;(with_reducible refine (u1r.calls_one k x y _ _ _ _ false _ HX.out (Kd.C_alloc (Kd.C_alloc GX.out _) _) HY.out (Kd.C_alloc (Kd.C_alloc GY.out _) _) hb.out).mono ?_);rintro e w3 ⟨rfl,hb3⟩;have HB3:=Aside0.mk (u1h (uc (uc HB.out _) _) hb3);clear hb3)
          go_ret
          exact ⟨by rw [hr.out];rfl,HB3.out⟩
        | true =>
          have HA3:Aside0 (u1r.all k ra2 rb2 = some r):=⟨by simpa using HA2.out⟩
          go_wp2_with (go_at_call 25;(with_reducible refine (u1r.calls_one k x y _ _ _ _ true _ HX.out (Kd.C_alloc (Kd.C_alloc GX.out _) _) HY.out (Kd.C_alloc (Kd.C_alloc GY.out _) _) hb.out).mono ?_);rintro e w3 ⟨rfl,hb3⟩;have HB3:=Aside0.mk (u1h (uc (uc HB.out _) _) hb3);clear hb3)
          go_roundg g1
          case rel => exact ⟨i + 1,ra2,rb2,by omega,by go_num,⟨HD.out.1,HD.out.2,HA3.out⟩,by omega,HB3⟩
          case measure => omega
      · have hr:Aside0 (r = true):=⟨by
         have h1:=HA.out
         rw [List.drop_eq_nil_of_le (by omega)] at h1
         rw [← h1.1] at h1
         simpa [u1r.all] using h1.2.2.symm⟩
        go_wp2
        go_ret
        exact ⟨by rw [hr.out];rfl,HB.out⟩
   · rw [if_neg hmax] at h
     cases h
 · rw [if_neg hlen] at h
   obtain rfl:=Option.some.inj h
   have hne:¬ (l0.length:Int) = (l1.length:Int):=by omega
   go_enter Tryz.func9,Tryz.ntmps9
   go_wp2_with (go_in)
   go_ret
   exact ⟨rfl,Below.refl _ _⟩
end Go.Proofs.YtmcpeifhapekoaaGreatDoor.PAll
namespace Go.Proofs.YtmcpeifhapekoaaGreatDoor.PAll
open Go.RowKit Go.Proofs.YtmcpeifhapekoaaGreatDoorW.PrintWords Go.Proofs.YtmcpeifhapekoaaGreatDoorW.PrintLast Go.Proofs.YtmcpeifhapekoaaGreatDoorW.PrintMore
attribute [local go_sem] u3q u3r max_two min_two u3l u3k u3s u3p
set_option linter.unusedVariables false
set_option linter.unusedSimpArgs false
attribute [local go_sem high] eqA34
def u2x.l0:Nat → List (S34) → List (S34) → Int → Int → Option (Bool)
 | 0,_,_,_,_ => none
 | k + 1,x0,x1,x12,x13 => if x13 < x12 then (if 0 ≤ x13 then (if x13 < (x0.length:Int) then (if x13 < (x1.length:Int) then (if (!((((u2o x0 x13).f0).toList) == (((u2o x1 x13).f0).toList)) || (!((((u2o x0 x13).f1).toList) == (((u2o x1 x13).f1).toList)) || (!((((u2o x0 x13).f2).toList) == (((u2o x1 x13).f2).toList))))) = true then (some false) else (u2x.l0 k x0 x1 x12 (wrap64 (x13 + 1)))) else (none)) else (none)) else (none)) else (some true)
def u2x.f (k:Nat) (l0:List (S34)) (l1:List (S34)):Option (Bool):=if (l0.length:Int) = (l1.length:Int) then (u2x.l0 k l0 l1 (l0.length:Int) 0) else (some false)
set_option maxHeartbeats 8000000 in
set_option maxRecDepth 100000 in
theorem u2x.calls (k:Nat) (A0:Option Addr) (c0:Nat) (l0:List (S34)) (A1:Option Addr) (c1:Nat) (l1:List (S34)) (r:Bool) (w:World) (hr0:Kd.C k34 w A0 l0.length l0) (hc0:l0.length ≤ c0) (hr1:Kd.C k34 w A1 l1.length l1) (hc1:l1.length ≤ c1) (h:u2x.f k l0 l1 = some r) :
 Calls Tryz.prog 10 #[.slice A0 l0.length c0,.slice A1 l1.length c1] w fun e w' => e = .returned (.bool r) ∧ us w w':=by
 have hu34:=Tryz.underlying34
 have HR0:=Aside0.mk hr0
 have HC0:=Aside0.mk hc0
 clear hr0 hc0
 have HR1:=Aside0.mk hr1
 have HC1:=Aside0.mk hc1
 clear hr1 hc1
 have H:(if (l0.length:Int) = (l1.length:Int) then (u2x.l0 k l0 l1 (l0.length:Int) 0) else (some false)) = some r:=h
 clear h
 by_cases c3:(l0.length:Int) = (l1.length:Int)
 · rw [if_pos c3] at H
   have c3b0:((l0.length:Int) == (l1.length:Int)) = true:=beq_iff_eq.mpr c3
   have c3b1:((l0.length:Int) != (l1.length:Int)) = false:=bne_eq_false_iff_eq.mpr c3
   have c3b2:(l0.length == l1.length) = true:=by first | simpa using c3 | (simp at c3 ⊢;omega)
   clear c3
   have H':=Aside0.mk H
   clear H
   go_enter Tryz.func10,Tryz.ntmps10
   go_wp2
   repeat (go_quiet (fail);try go_wp2)
   go_loopg [13] k (fun kq v13 w' => ∃ (x13_1:Int),v13 = .int .i64 x13_1 ∧ Aside0 (u2x.l0 kq l0 l1 (l0.length:Int) x13_1 = some r) ∧ Aside0 (kq ≤ k) ∧ us w w')
   case atStart => exact ⟨(0),(by first | rfl | (simp;done) | (simp [*];done)),H',⟨Nat.le_refl _⟩,by repeat (first | exact us.refl _ | apply us.step)⟩
   case round =>
    clear H'
    try clear c1
    try clear p2
    try clear c3
    try clear c3b0
    try clear c3b1
    try clear c3b2
    obtain ⟨x13_1,rfl,HA,HK1,⟨m1,rfl⟩⟩:=hrel
    cases gk with
    | zero => exact absurd HA.out (by simp [u2x.l0])
    | succ k1 =>
      have H:=HA.out
      clear HA
      simp only [u2x.l0] at H
      by_cases c4:x13_1 < (l0.length:Int)
      · rw [if_pos c4] at H
        have c4b0:decide (x13_1 < (l0.length:Int)) = true:=decide_eq_true c4
        clear c4
        by_cases c5:0 ≤ x13_1
        · rw [if_pos c5] at H
          have c5b0:decide (0 ≤ x13_1) = true:=decide_eq_true c5
          clear c5
          by_cases c6:x13_1 < (l0.length:Int)
          · rw [if_pos c6] at H
            have c6b0:decide (x13_1 < (l0.length:Int)) = true:=decide_eq_true c6
            clear c6
            by_cases c7:x13_1 < (l1.length:Int)
            · rw [if_pos c7] at H
              have c7b0:decide (x13_1 < (l1.length:Int)) = true:=decide_eq_true c7
              clear c7
              by_cases c8:(!((((u2o l0 x13_1).f0).toList) == (((u2o l1 x13_1).f0).toList)) || (!((((u2o l0 x13_1).f1).toList) == (((u2o l1 x13_1).f1).toList)) || (!((((u2o l0 x13_1).f2).toList) == (((u2o l1 x13_1).f2).toList))))) = true
              · rw [if_pos c8] at H
                have c8b0:(!((((u2o l0 x13_1).f0).toList) == (((u2o l1 x13_1).f0).toList)) || (!((((u2o l0 x13_1).f1).toList) == (((u2o l1 x13_1).f1).toList)) || (!((((u2o l0 x13_1).f2).toList) == (((u2o l1 x13_1).f2).toList))))) = true:=c8
                clear c8
                obtain rfl:=Option.some.inj H
                have p251:0 ≤ (x13_1:Int):=of_decide_eq_true (by first | (with_reducible assumption) | assumption)
                have q251:x13_1 < (l0.length:Int):=of_decide_eq_true (by first | (with_reducible assumption) | assumption)
                obtain ⟨ad251,e251,hx251_0,hx251_1,hx251_2⟩:=at_T34 HR0.out x13_1 p251 q251
                cases e251
                replace p251:=eq_true p251
                replace q251:=eq_true q251
                have p252:0 ≤ (x13_1:Int):=of_decide_eq_true (by first | (with_reducible assumption) | assumption)
                have q252:x13_1 < (l1.length:Int):=of_decide_eq_true (by first | (with_reducible assumption) | assumption)
                obtain ⟨ad252,e252,hx252_0,hx252_1,hx252_2⟩:=at_T34 HR1.out x13_1 p252 q252
                cases e252
                replace p252:=eq_true p252
                replace q252:=eq_true q252
                go_wp2
                repeat (go_quiet (fail);try go_wp2)
                go_ret
                exact ⟨by first | rfl | (simp;done) | (simp [*];done),by repeat (first | exact us.refl _ | apply us.step)⟩
              · rw [if_neg c8] at H
                have c8b0:(!((((u2o l0 x13_1).f0).toList) == (((u2o l1 x13_1).f0).toList)) || (!((((u2o l0 x13_1).f1).toList) == (((u2o l1 x13_1).f1).toList)) || (!((((u2o l0 x13_1).f2).toList) == (((u2o l1 x13_1).f2).toList))))) = false:=by simpa using c8
                clear c8
                have H':=Aside0.mk H
                clear H
                have p251:0 ≤ (x13_1:Int):=of_decide_eq_true (by first | (with_reducible assumption) | assumption)
                have q251:x13_1 < (l0.length:Int):=of_decide_eq_true (by first | (with_reducible assumption) | assumption)
                obtain ⟨ad251,e251,hx251_0,hx251_1,hx251_2⟩:=at_T34 HR0.out x13_1 p251 q251
                cases e251
                replace p251:=eq_true p251
                replace q251:=eq_true q251
                have p252:0 ≤ (x13_1:Int):=of_decide_eq_true (by first | (with_reducible assumption) | assumption)
                have q252:x13_1 < (l1.length:Int):=of_decide_eq_true (by first | (with_reducible assumption) | assumption)
                obtain ⟨ad252,e252,hx252_0,hx252_1,hx252_2⟩:=at_T34 HR1.out x13_1 p252 q252
                cases e252
                replace p252:=eq_true p252
                replace q252:=eq_true q252
                go_wp2
                repeat (go_quiet (fail);try go_wp2)
                go_roundg k1
                case measure => have:=HK1.out;omega
                case rel => exact ⟨(wrap64 (x13_1 + 1)),(by first | rfl | (simp;done) | (simp [*];done)),H',⟨by have:=HK1.out;omega⟩,by repeat (first | exact us.refl _ | apply us.step)⟩
            · rw [if_neg c7] at H
              exact absurd H (by simp)
          · rw [if_neg c6] at H
            exact absurd H (by simp)
        · rw [if_neg c5] at H
          exact absurd H (by simp)
      · rw [if_neg c4] at H
        have c4b0:decide (x13_1 < (l0.length:Int)) = false:=decide_eq_false c4
        clear c4
        obtain rfl:=Option.some.inj H
        go_wp2
        repeat (go_quiet (fail);try go_wp2)
        go_ret
        exact ⟨by first | rfl | (simp;done) | (simp [*];done),by repeat (first | exact us.refl _ | apply us.step)⟩
 · rw [if_neg c3] at H
   have c3b0:((l0.length:Int) == (l1.length:Int)) = false:=beq_eq_false_iff_ne.mpr c3
   have c3b1:((l0.length:Int) != (l1.length:Int)) = true:=bne_iff_ne.mpr c3
   have c3b2:(l0.length == l1.length) = false:=by first | simpa using c3 | (simp at c3 ⊢;omega)
   obtain rfl:=Option.some.inj H
   go_enter Tryz.func10,Tryz.ntmps10
   go_wp2
   repeat (go_quiet (fail);try go_wp2)
   go_ret
   exact ⟨by first | rfl | (simp;done) | (simp [*];done),by repeat (first | exact us.refl _ | apply us.step)⟩
end Go.Proofs.YtmcpeifhapekoaaGreatDoor.PAll
namespace Go.Proofs.YtmcpeifhapekoaaGreatDoor.PAll
open Go.RowKit Go.Proofs.YtmcpeifhapekoaaGreatDoorW.PrintWords Go.Proofs.YtmcpeifhapekoaaGreatDoorW.PrintLast Go.Proofs.YtmcpeifhapekoaaGreatDoorW.PrintMore
attribute [local go_sem] u3q u3r max_two min_two u3l u3k u3s u3p
set_option linter.unusedVariables false
set_option linter.unusedSimpArgs false
def u2n.l0:Nat → ByteArray → List ByteArray → Int → Int → Option (Bool)
 | 0,_,_,_,_ => none
 | k + 1,x0,x5,x6,x7 => if x7 < x6 then (if 0 ≤ x7 then (if x7 < (x5.length:Int) then (if x0.toList = (rdOf ByteArray.empty x5 x7).toList then (some true) else (u2n.l0 k x0 x5 x6 (wrap64 (x7 + 1)))) else (none)) else (none)) else (some false)
def u2n.f (k:Nat) (a0:ByteArray):Option (Bool):=(some (([(⟨#[99,111,117,110,116,101,114]⟩:ByteArray),(⟨#[103,97,117,103,101]⟩:ByteArray),(⟨#[104,105,115,116,111,103,114,97,109]⟩:ByteArray),(⟨#[115,117,109,109,97,114,121]⟩:ByteArray),(⟨#[117,110,116,121,112,101,100]⟩:ByteArray)]:List ByteArray):List ByteArray)).bind fun y109 => (u2n.l0 k a0 y109 (y109.length:Int) 0)
set_option maxHeartbeats 8000000 in
set_option maxRecDepth 100000 in
theorem u2n.calls (k:Nat) (a0:ByteArray) (r:Bool) (w:World) (h:u2n.f k a0 = some r) :
 Calls Tryz.prog 38 #[.string a0] w fun e w' => e = .returned (.bool r) ∧ Below w.heap.size w w':=by
 have HB:=Aside0.mk (Below.refl w.heap.size w)
 have H:((some (([(⟨#[99,111,117,110,116,101,114]⟩:ByteArray),(⟨#[103,97,117,103,101]⟩:ByteArray),(⟨#[104,105,115,116,111,103,114,97,109]⟩:ByteArray),(⟨#[115,117,109,109,97,114,121]⟩:ByteArray),(⟨#[117,110,116,121,112,101,100]⟩:ByteArray)]:List ByteArray):List ByteArray)).bind fun y109 => (u2n.l0 k a0 y109 (y109.length:Int) 0)) = some r:=h
 clear h
 obtain ⟨y109,hy109⟩:∃ y_:List ByteArray,y_ = (([(⟨#[99,111,117,110,116,101,114]⟩:ByteArray),(⟨#[103,97,117,103,101]⟩:ByteArray),(⟨#[104,105,115,116,111,103,114,97,109]⟩:ByteArray),(⟨#[115,117,109,109,97,114,121]⟩:ByteArray),(⟨#[117,110,116,121,112,101,100]⟩:ByteArray)]:List ByteArray)):=⟨_,rfl⟩
 replace H:(u2n.l0 k a0 y109 (y109.length:Int) 0) = some r:=by first | (rw [hy109];with_reducible exact H) | (have H2_:=(Option.bind_some _ _).symm.trans H;rw [hy109];with_reducible exact H2_) | (have H2_:=(Option.bind_some _ _).symm.trans H;with_reducible exact H2_) | with_reducible exact H | (rw [hy109];exact H) | exact H
 have Ny109:=Aside0.mk hy109
 clear hy109
 have H':=Aside0.mk H
 clear H
 go_enter Tryz.func38,Tryz.ntmps38
 go_wp2_with (first | ((with_reducible refine u3f (N:=5) rfl ?_);refine Kd.R_lit Kd.string _ 9 ?hg (N:=5) ?hd (xs:=([(⟨#[99,111,117,110,116,101,114]⟩:ByteArray),(⟨#[103,97,117,103,101]⟩:ByteArray),(⟨#[104,105,115,116,111,103,114,97,109]⟩:ByteArray),(⟨#[115,117,109,109,97,114,121]⟩:ByteArray),(⟨#[117,110,116,121,112,101,100]⟩:ByteArray)]:List ByteArray)) (inner:=[.string (⟨#[99,111,117,110,116,101,114]⟩:ByteArray),.string (⟨#[103,97,117,103,101]⟩:ByteArray),.string (⟨#[104,105,115,116,111,103,114,97,109]⟩:ByteArray),.string (⟨#[115,117,109,109,97,114,121]⟩:ByteArray),.string (⟨#[117,110,116,121,112,101,100]⟩:ByteArray)]) (ok:=fun _ => True) (okp:=fun _ => True) ?hr ?hp (fun _ hk => hk) trivial (Below.refl _ _) (Nat.le_refl _) (by simp) ?_;(case hd => rfl);(case hg => rfl);(case hr => first | (go_simp;done) | (go_simp;rfl));(case hp => exact (Reps.one (show Kd.M Kd.string _ _ _ (⟨#[99,111,117,110,116,101,114]⟩:ByteArray) [.string (⟨#[99,111,117,110,116,101,114]⟩:ByteArray)] from rfl) (Reps.one (show Kd.M Kd.string _ _ _ (⟨#[103,97,117,103,101]⟩:ByteArray) [.string (⟨#[103,97,117,103,101]⟩:ByteArray)] from rfl) (Reps.one (show Kd.M Kd.string _ _ _ (⟨#[104,105,115,116,111,103,114,97,109]⟩:ByteArray) [.string (⟨#[104,105,115,116,111,103,114,97,109]⟩:ByteArray)] from rfl) (Reps.one (show Kd.M Kd.string _ _ _ (⟨#[115,117,109,109,97,114,121]⟩:ByteArray) [.string (⟨#[115,117,109,109,97,114,121]⟩:ByteArray)] from rfl) (Reps.one (show Kd.M Kd.string _ _ _ (⟨#[117,110,116,121,112,101,100]⟩:ByteArray) [.string (⟨#[117,110,116,121,112,101,100]⟩:ByteArray)] from rfl) (Reps.none _ _)))))));intro v110 w2 ho3 hb hg_ hnew_;clear hg_ hnew_;(first | rw [← Ny109.out] at ho3 | (simp only [Int.reduceToNat] at ho3;rw [← Ny109.out] at ho3));have n0_:=Aside0.mk (Kd.R_lower ho3 (u1c (by repeat (first | (with_reducible first | exact HB.out | apply uc | apply ub | apply ud) | exact HB.out))));have n1_:=Aside0.mk (u1h (by repeat (first | (with_reducible first | exact HB.out | apply uc | apply ub | apply ud) | exact HB.out)) hb);clear HB;have HO111:=n0_;have HB:=n1_;clear n0_ n1_;clear hb ho3;obtain ⟨Ao4,co4,eo4⟩:=Kd.R_slice HO111.out;subst eo4))
 go_loopg [7] k (fun kq v7 w' => ∃ (x7_1:Int),v7 = .int .i64 x7_1 ∧ Aside0 (u2n.l0 kq a0 y109 (y109.length:Int) x7_1 = some r) ∧ Aside0 (kq ≤ k) ∧ Aside0 (Kd.R Kd.string 9 w' w.heap.size (fun _ => True) (.slice Ao4 y109.length co4) y109) ∧ Aside0 (Below w.heap.size w w'))
 case atStart => exact ⟨(0),(by first | rfl | (simp;done) | (simp [*];done)),H',⟨Nat.le_refl _⟩,⟨by (with_reducible repeat (first | apply Kd.R_alloc | apply Kd.R_drewN | apply Kd.R_drew));exact HO111.out⟩,⟨by repeat (first | (with_reducible first | exact HB.out | apply uc | apply ub | apply ud) | exact HB.out)⟩⟩
 case round =>
  clear H'
  try clear p2
  try clear c3
  obtain ⟨x7_1,rfl,HA,HK1,HO_5,HB⟩:=hrel
  cases gk with
  | zero => exact absurd HA.out (by simp [u2n.l0])
  | succ k1 =>
    have H:=HA.out
    clear HA
    simp only [u2n.l0] at H
    by_cases c5:x7_1 < (y109.length:Int)
    · rw [if_pos c5] at H
      have c5b0:decide (x7_1 < (y109.length:Int)) = true:=decide_eq_true c5
      clear c5
      by_cases c6:0 ≤ x7_1
      · rw [if_pos c6] at H
        have c6b0:decide (0 ≤ x7_1) = true:=decide_eq_true c6
        clear c6
        by_cases c7:x7_1 < (y109.length:Int)
        · rw [if_pos c7] at H
          have c7b0:decide (x7_1 < (y109.length:Int)) = true:=decide_eq_true c7
          clear c7
          by_cases c8:a0.toList = (rdOf ByteArray.empty y109 x7_1).toList
          · rw [if_pos c8] at H
            have c8b0:(a0.toList == (rdOf ByteArray.empty y109 x7_1).toList) = true:=beq_iff_eq.mpr c8
            have c8b1:(a0.toList != (rdOf ByteArray.empty y109 x7_1).toList) = false:=bne_eq_false_iff_eq.mpr c8
            clear c8
            obtain rfl:=Option.some.inj H
            have p112:0 ≤ (x7_1:Int):=of_decide_eq_true (by first | (with_reducible assumption) | assumption)
            have q112:x7_1 < (y109.length:Int):=of_decide_eq_true (by first | (with_reducible assumption) | assumption)
            obtain ⟨ad112,e112,hx112_0⟩:=Kd.at_string (Kd.R_reads' HO_5.out).2.2 x7_1 p112 q112
            cases e112
            replace p112:=eq_true p112
            replace q112:=eq_true q112
            go_wp2
            go_ret
            exact ⟨by first | rfl | (simp [u1k,u1l] <;> rfl) | (simp [*,u1k,u1l] <;> rfl),by repeat (first | (with_reducible first | exact HB.out | apply uc | apply ub | apply ud) | exact HB.out)⟩
          · rw [if_neg c8] at H
            have c8b0:(a0.toList == (rdOf ByteArray.empty y109 x7_1).toList) = false:=beq_eq_false_iff_ne.mpr c8
            have c8b1:(a0.toList != (rdOf ByteArray.empty y109 x7_1).toList) = true:=bne_iff_ne.mpr c8
            have H':=Aside0.mk H
            clear H
            have p112:0 ≤ (x7_1:Int):=of_decide_eq_true (by first | (with_reducible assumption) | assumption)
            have q112:x7_1 < (y109.length:Int):=of_decide_eq_true (by first | (with_reducible assumption) | assumption)
            obtain ⟨ad112,e112,hx112_0⟩:=Kd.at_string (Kd.R_reads' HO_5.out).2.2 x7_1 p112 q112
            cases e112
            replace p112:=eq_true p112
            replace q112:=eq_true q112
            go_wp2
            go_roundg k1
            case measure => have:=HK1.out;omega
            case rel => exact ⟨(wrap64 (x7_1 + 1)),(by first | rfl | (simp;done) | (simp [*];done)),H',⟨by have:=HK1.out;omega⟩,⟨by (with_reducible repeat (first | apply Kd.R_alloc | apply Kd.R_drewN | apply Kd.R_drew));exact HO_5.out⟩,⟨by repeat (first | (with_reducible first | exact HB.out | apply uc | apply ub | apply ud) | exact HB.out)⟩⟩
        · rw [if_neg c7] at H
          exact absurd H (by simp)
      · rw [if_neg c6] at H
        exact absurd H (by simp)
    · rw [if_neg c5] at H
      have c5b0:decide (x7_1 < (y109.length:Int)) = false:=decide_eq_false c5
      clear c5
      obtain rfl:=Option.some.inj H
      go_wp2
      go_ret
      exact ⟨by first | rfl | (simp [u1k,u1l] <;> rfl) | (simp [*,u1k,u1l] <;> rfl),by repeat (first | (with_reducible first | exact HB.out | apply uc | apply ub | apply ud) | exact HB.out)⟩
end Go.Proofs.YtmcpeifhapekoaaGreatDoor.PAll
namespace Go.Proofs.YtmcpeifhapekoaaGreatDoor.Opens
open Go.Deep Go.Proofs.YtmcpeifhapekoaaGreatDoor.PAll Go.Proofs.YtmcpeifhapekoaaGreatDoorW.PrintWords Go.Proofs.YtmcpeifhapekoaaGreatDoorW.PrintLast Go.ChangeShapes
open Go.Proofs.YtmcpeifhapekoaaGreatDoor.Rows (uptoBulk uptoBulkAll uptoSmall)
set_option linter.unusedVariables false
theorem bulk_pos {H:Type} (d:DataW H):1 ≤ uptoBulk d:=by
 cases d with
 | lit l => cases l <;> simp [uptoBulk]
 | nil => simp [uptoBulk]
 | ptr d => simp [uptoBulk]
 | slice a b => simp [uptoBulk]
 | agg a => simp [uptoBulk]
 | iface t d => simp [uptoBulk]
 | map e => simp [uptoBulk]
 | held h => simp [uptoBulk]
theorem bulk_mem {H:Type}:∀ {l:List (DataW H)} {d:DataW H},d ∈ l → uptoBulk d ≤ uptoBulkAll l
 | a :: l,d,hd => by
   simp only [uptoBulkAll]
   rcases List.mem_cons.1 hd with rfl | hd
   · omega
   · have:=bulk_mem hd
     omega
theorem bulk_len {H:Type}:∀ (l:List (DataW H)),l.length ≤ uptoBulkAll l
 | [] => Nat.zero_le _
 | a :: l => by
   have h1:=bulk_pos a
   have h2:=bulk_len l
   simp only [uptoBulkAll,List.length_cons]
   omega
def OpensU {α:Type} (P:Program) (t:TypeId) (d:Kd α) (Q:α → Prop):Prop :=
 ∀ (H:Type) (enc:TypeId × Value → H) (w:World) (fuel:Nat) (cs:List Value) (x:DataW H × List MemPlace),
   DataW.trod enc P w 0 (fun _ => true) true fuel t cs = some x → uptoBulk x.1 ≤ 1048576 → ∃ v,d.K w v cs ∧ Q v
theorem opensU_int {P:Program} {t:TypeId} {k:IntKind} (ht:P.underlying t = some (.int k)):OpensU P t (Kd.int k) (fun n => (Lit.int k n).wf = true):=by
 intro H enc w fuel cs x h _
 obtain ⟨n,rfl,_,hn⟩:=DataW.trod_int ht h
 exact ⟨n,rfl,hn⟩
theorem opensU_slice_at {α:Type} [Inhabited α] {P:Program} {t e:TypeId} {d:Kd α} {Q:α → Prop} (hd:OpensU P e d Q) (ht:P.underlying t = some (.slice e)) (hsz:P.cellsOf e = d.sz)
 {H:Type} {enc:TypeId × Value → H} {w:World} {fuel:Nat} {cs:List Value} {x:DataW H × List MemPlace} (h:DataW.trod enc P w 0 (fun _ => true) true fuel t cs = some x) (hz:uptoBulk x.1 ≤ 1048576) :
 ∃ (A:Option Addr) (c:Nat) (xs:List α),cs = [.slice A xs.length c] ∧ xs.length ≤ c ∧ c ≤ maxLen ∧ d.C w A xs.length xs ∧ xs.length ≤ 1048576 ∧ ∀ y ∈ xs,Q y:=by
 rcases open_slice ht h with ⟨rfl,_⟩ | ⟨a,len,cap,m,n,D,Pl,rfl,hb,hl,hm,hme,hx,hel⟩
 · exact ⟨none,0,[],rfl,Nat.le_refl _,Nat.zero_le _,⟨rfl,Nat.zero_le _,fun h => absurd h (by simp)⟩,by simp,fun y hy => by cases hy⟩
 · have hlm:len ≤ m:=by
    rw [hme]
    simp
    exact hl
   subst hx
   simp only [uptoBulk] at hz
   obtain ⟨V,hV⟩:=choose_lt (α:=α) (n:=len) (p:=fun i v => Q v ∧ ∃ cs',w.cells? 0 (a.add (i * P.cellsOf e)) (P.cellsOf e) = some cs' ∧ d.K w v cs') (fun i hi => by
    obtain ⟨cs',h1,h2⟩:=hel i (by omega)
    have h9:=bulk_mem (List.mem_map_of_mem (f:=D) (List.mem_range.2 hi))
    obtain ⟨v,hv,hq⟩:=hd _ _ _ _ _ _ h2 (by simp only;omega)
    exact ⟨v,hq,cs',h1,hv⟩)
   have hlen:((List.range len).map V).length = len:=by simp
   have hbulk:len ≤ 1048576:=by
    have h9:=bulk_len ((List.range len).map D)
    simp only [List.length_map,List.length_range] at h9
    omega
   refine ⟨some a,cap,(List.range len).map V,by rw [hlen],by rw [hlen];exact hl,hm,?_,by rw [hlen];exact hbulk,?_⟩
   · refine ⟨rfl,by rw [hlen];have:maxLen ≤ 9223372036854775807:=by decide
                    omega,fun _ => ⟨a,rfl,fun j p hp => ?_⟩⟩
     have hj:j < len:=by
      have:=(List.getElem?_eq_some_iff.1 hp).1
      omega
     simp [hj] at hp
     subst hp
     obtain ⟨_,cs',h1,h2⟩:=hV j hj
     obtain ⟨_,hl',hc⟩:=World.cells?_some h1
     refine ⟨cs',by rw [hl',hsz],h2,fun i u hu => ?_⟩
     have hi:i < P.cellsOf e:=by
      have:=(List.getElem?_eq_some_iff.1 hu).1
      omega
     have e2:=hc i hi
     rw [hu] at e2
     rw [← e2,← hsz,Go.Deep.add_add]
   · intro y hy
     simp only [List.mem_map,List.mem_range] at hy
     obtain ⟨i,hi,rfl⟩:=hy
     exact (hV i hi).1
theorem openU_slice_arg {α:Type} [Inhabited α] {P:Program} {t e:TypeId} {d:Kd α} {Q:α → Prop} (hd:OpensU P e d Q) (ht:P.underlying t = some (.slice e)) (hsz:P.cellsOf e = d.sz)
 {H:Type} {enc:TypeId × Value → H} {W w:World} {r:Reach} {b0:Nat} {v:Value} {x:DataW H} {p:List MemPlace} (hz:uptoBulk x ≤ 1048576) (hval:Value.okWide P W r b0 t v) (h:DataW.Trod enc P w 0 (fun _ => true) true t v x p) :
 ∃ (A:Option Addr) (c:Nat) (xs:List α),v = .slice A xs.length c ∧ xs.length ≤ c ∧ c ≤ maxLen ∧ d.C w A xs.length xs ∧ xs.length ≤ 1048576 ∧ ∀ y ∈ xs,Q y:=by
 obtain ⟨a,len,cap,rfl⟩:=Go.WideShapes.okWide_slice ht hval
 obtain ⟨fuel,h⟩:=h
 obtain ⟨A,c,xs,e,h1,h2,h3,h4,h5⟩:=opensU_slice_at hd ht hsz h hz
 injection e with e
 exact ⟨A,c,xs,e,h1,h2,h3,h4,h5⟩
theorem small_two {H:Type} {a b:DataW H} (h:uptoSmall H [a,b] = true):uptoBulk a ≤ 1048576 ∧ uptoBulk b ≤ 1048576:=by
 have h9:uptoBulkAll [a,b] ≤ 1048576:=of_decide_eq_true h
 simp only [uptoBulkAll] at h9
 omega
theorem returns_upto_shaped {f:FuncId} {fn:Func} {H:Type} {enc:TypeId × Value → H} {a:Assume} {C:Checked} {os:Os} {s:OpenSpec} {k:(H:Type) → List (DataW H) → Bool} (hk:s.cond = some k) {F:Stop.Interp} {conds:List PathCond} {apart fresh handsOn again:Bool} {X:World → Array Value → Prop}
 (hX:∀ (w w':World) (args:Array Value),w.heap = w'.heap → X w args → X w' args)
 (own:ownKnob C.prog.godebug = none) (started:os.Started) (noInit:C.prog.inits.idxOf? f = none) (hfn:C.prog.funcs[f]? = some fn)
 (witness:∃ (w:World) (tape:Tape) (i:Input),w.os = os ∧ (w.forCall tape i).Shaped C.prog ∧ i.vars = [] ∧ Input.okWide C.prog (w.forCall tape i) .any w.heap.size f i ∧
   ((s.pre enc C.prog fn conds apart (w.forCall tape i).memory i.args ∧ X (w.forCall tape i).memory i.args) ∧ sizedMet enc C.prog fn s apart (w.forCall tape i).memory i.args) ∧ a.holds C.prog (lone (Frame.enter C.prog f i.args .normal) [] (w.forCall tape i)))
 (contract:∀ (W:World) (base:Nat) (args:Array Value) (ds gs:List (DataW H)) (before:List MemPlace),
   (∀ (j:Nat) t v,fn.params[j]? = some t → args[j]? = some v → Value.okWide C.prog W .any base t v) →
   DataW.Whole enc C.prog fn.params.toList s.vars apart W args.toList ds gs before → k H (ds ++ gs) = true → X W args → W.ShapedOpen C.prog →
   Calls C.prog f args W fun e W' => ∃ v,e = .returned v ∧ (s.at F).post enc C.prog fn apart fresh handsOn again W args v W') :
 ReturnsInHanded a C os f .any (fun w args => (s.pre enc C.prog fn conds apart w args ∧ X w args) ∧ sizedMet enc C.prog fn s apart w args) ((s.at F).post enc C.prog fn apart fresh handsOn again):=by
 refine returnsInHanded_of_calls own started noInit witness ?_
 intro w tape i _ hsh _ hok hpre _
 obtain ⟨_,_,_,fn',hfn',_,_,_,_,hval⟩:=hok
 have e:fn' = fn:=Option.some.inj (hfn'.symm.trans hfn)
 subst e
 obtain ⟨⟨hp,hx⟩,_⟩:=hpre
 obtain ⟨ds,gs,before,hw,_,hkk⟩:=(OpenSpec.pre_some hk conds apart _ _).1 hp
 have hw':=DataW.Whole.of_heap (w':=w.forCall tape i) (by rfl) hw
 refine (contract (w.forCall tape i) w.heap.size i.args ds gs before hval hw' hkk (hX _ _ _ (by rfl) hx) hsh).mono fun e W' ⟨v,he,hp⟩ => ?_
 subst he
 exact ChangeSpec.post_blind hp
theorem witness_upto {H:Type} {enc:TypeId × Value → H} {C:Checked} {os:Os} {f:FuncId} {fn:Func} {s:OpenSpec} {k:(H:Type) → List (DataW H) → Bool} (hk:s.cond = some k) {conds:List PathCond} {apart:Bool} {X:World → Array Value → Prop} (modest:Bool) (w0:World) (args:Array Value) (fuel:Nat) (hos:w0.os = os)
 (hsh:(w0.forCall (fun _ _ => 0) ⟨#[],args,[]⟩).Shaped C.prog)
 (hok:Input.okWideB C.prog (w0.forCall (fun _ _ => 0) ⟨#[],args,[]⟩) f ⟨#[],args,[]⟩ = true)
 {x:List (DataW H) × List (DataW H) × List MemPlace} (hx0:DataW.whole enc C.prog (w0.forCall (fun _ _ => 0) ⟨#[],args,[]⟩).memory fn.params.toList s.vars apart args.toList fuel = some x)
 (hconds:conds.all (PathCond.test C.prog ⟨fn.params.toList,x.1,s.bare.plain.varTypes C.prog,x.2.1⟩) = true) (hkk:k H (x.1 ++ x.2.1) = true)
 (hsz:s.bare.sizedB enc C.prog fn apart (w0.forCall (fun _ _ => 0) ⟨#[],args,[]⟩).memory args fuel = true)
 (hx:X (w0.forCall (fun _ _ => 0) ⟨#[],args,[]⟩).memory args) :
 ∃ (w:World) (tape:Tape) (i:Input),w.os = os ∧ (w.forCall tape i).Shaped C.prog ∧ i.vars = [] ∧ Input.okWide C.prog (w.forCall tape i) .any w.heap.size f i ∧
   ((s.pre enc C.prog fn conds apart (w.forCall tape i).memory i.args ∧ X (w.forCall tape i).memory i.args) ∧ sizedMet enc C.prog fn s apart (w.forCall tape i).memory i.args) ∧ ({ modest:=modest }:Assume).holds C.prog (lone (Frame.enter C.prog f i.args .normal) [] (w.forCall tape i)) :=
 ⟨w0,fun _ _ => 0,⟨#[],args,[]⟩,hos,hsh,(Input.okWide_of_okWideB (base:=0) hok).1,(Input.okWide_of_okWideB hok).2,
   ⟨⟨(OpenSpec.pre_some hk conds apart _ _).2 ⟨x.1,x.2.1,x.2.2,DataW.Whole_of_whole hx0,hconds,hkk⟩,hx⟩,sizedMet_of_sizedB hsz⟩,by
   simp only [Assume.holds]
   exact ⟨by simp,by simp,fun _ => Modest.zero,by simp,by simp⟩⟩
end Go.Proofs.YtmcpeifhapekoaaGreatDoor.Opens
namespace Go.Proofs.YtmcpeifhapekoaaGreatDoor.PAll
open Go.RowKit Go.Proofs.YtmcpeifhapekoaaGreatDoorW.PrintWords Go.Proofs.YtmcpeifhapekoaaGreatDoorW.PrintLast Go.Proofs.YtmcpeifhapekoaaGreatDoorW.PrintMore
attribute [local go_sem] u3q u3r max_two min_two u3l u3k u3s u3p
set_option linter.unusedVariables false
set_option linter.unusedSimpArgs false
def u2f.j0:Nat → ByteArray → Int → Int → Option (Int × ByteArray × Bool)
 | 0,_,_,_ => none
 | k + 1,x0,x5,x6 => (u1n.f k x0 x5).bind fun t186 => (if t186 < 1 then (some (0,(⟨#[]⟩:ByteArray),false)) else (if t186 > x6 then (some (0,(⟨#[]⟩:ByteArray),false)) else (if 0 ≤ t186 then (if t186 ≤ (x0.size:Int) then ((u1g.f k (x0.extract 0 (t186:Int).toNat) (IntKind.u64.wrap (x5))).bind fun bt187 => (some (bt187.1,x0.extract (t186:Int).toNat x0.size,bt187.2))) else (none)) else (none))))
def u2f.f (k:Nat) (a0:ByteArray):Option (Int × ByteArray × Bool):=(uv.f a0 (⟨#[48,120]⟩:ByteArray)).bind fun t185 => (if t185 = true then (if 2 ≤ (a0.size:Int) then (u2f.j0 k (a0.extract 2 a0.size) 16 16) else (none)) else (u2f.j0 k a0 10 20))
set_option maxHeartbeats 8000000 in
set_option maxRecDepth 100000 in
theorem u2f.calls (k:Nat) (a0:ByteArray) (r1:Int) (r2:ByteArray) (r3:Bool) (w:World) (h:u2f.f k a0 = some (r1,r2,r3)) :
 Calls Tryz.prog 102 #[.string a0] w fun e w' => e = .returned (.tuple #[.int .u64 r1,.string r2,.bool r3]) ∧ us w w':=by
 have H:((uv.f a0 (⟨#[48,120]⟩:ByteArray)).bind fun t185 => (if t185 = true then (if 2 ≤ (a0.size:Int) then (u2f.j0 k (a0.extract 2 a0.size) 16 16) else (none)) else (u2f.j0 k a0 10 20))) = some (r1,r2,r3):=h
 clear h
 replace H:=Option.bind_eq_some_iff.mp H
 obtain ⟨t185,A20,H⟩:=H
 replace H:(if t185 = true then (if 2 ≤ (a0.size:Int) then (u2f.j0 k (a0.extract 2 a0.size) 16 16) else (none)) else (u2f.j0 k a0 10 20)) = some (r1,r2,r3):=H
 have A2:=Aside0.mk A20
 clear A20
 have HC3:=Aside0.mk H
 clear H
 go_enter Tryz.func102,Tryz.ntmps102
 go_upto_if 11 with (first | (go_at_call 23;(with_reducible refine (uv.calls a0 (⟨#[48,120]⟩:ByteArray) t185 _ A2.out).mono ?_);rintro e w' ⟨rfl,⟨nd,rfl⟩⟩;(try first | exact ⟨rfl,_,World.drewN_drewN _ _ _⟩ | exact ⟨rfl,_,Eq.trans (World.drewN_drewN _ _ _) (congrArg (World.drewN _) (Nat.add_assoc _ _ _))⟩)))
 repeat (go_quiet (first | (go_at_call 23;(with_reducible refine (uv.calls a0 (⟨#[48,120]⟩:ByteArray) t185 _ A2.out).mono ?_);rintro e w' ⟨rfl,⟨nd,rfl⟩⟩;(try first | exact ⟨rfl,_,World.drewN_drewN _ _ _⟩ | exact ⟨rfl,_,Eq.trans (World.drewN_drewN _ _ _) (congrArg (World.drewN _) (Nat.add_assoc _ _ _))⟩)));go_upto_if 11 with (first | (go_at_call 23;(with_reducible refine (uv.calls a0 (⟨#[48,120]⟩:ByteArray) t185 _ A2.out).mono ?_);rintro e w' ⟨rfl,⟨nd,rfl⟩⟩;(try first | exact ⟨rfl,_,World.drewN_drewN _ _ _⟩ | exact ⟨rfl,_,Eq.trans (World.drewN_drewN _ _ _) (congrArg (World.drewN _) (Nat.add_assoc _ _ _))⟩))))
 (try simp only [Act.put,List.setIfInBounds_toArray,List.set_cons_zero,List.set_cons_succ])
 go_cut [0,5,6] (fun v0 v5 v6 wc => ∃ (kq:Nat) (x0_2:ByteArray) (x5_2:Int) (x6_2:Int),v0 = .string x0_2 ∧ v5 = .int .i64 x5_2 ∧ v6 = .int .i64 x6_2 ∧ Aside0 (u2f.j0 kq x0_2 x5_2 x6_2 = some (r1,r2,r3)) ∧ Aside0 (kq ≤ k) ∧ us w wc)
 case first =>
  have H:=HC3.out
  clear HC3
  by_cases c4:t185 = true
  · subst c4
    have H1:(if 2 ≤ (a0.size:Int) then (u2f.j0 k (a0.extract 2 a0.size) 16 16) else (none)) = some (r1,r2,r3):=by rw [if_pos rfl] at H;exact H
    clear H
    have H:=H1
    clear H1
    by_cases c5:2 ≤ (a0.size:Int)
    · rw [if_pos c5] at H
      have c5b0:=eq_true c5
      have c5b1:decide (2 ≤ (a0.size:Int)) = true:=decide_eq_true c5
      clear c5
      have H':=Aside0.mk H
      clear H
      go_wp2
      repeat (go_quiet (fail);try go_wp2)
      go_meet
      case rel => exact ⟨_,(a0.extract 2 a0.size),(16),(16),(by first | rfl | (simp;done) | (simp [*];done)),(by first | rfl | (simp;done) | (simp [*];done)),(by first | rfl | (simp;done) | (simp [*];done)),H',⟨by first | omega | exact Nat.le_refl _⟩,by repeat (first | exact us.refl _ | apply us.step)⟩
    · rw [if_neg c5] at H
      exact absurd H (by simp)
  · replace c4:=Bool.eq_false_iff.mpr c4
    subst c4
    have H1:(u2f.j0 k a0 10 20) = some (r1,r2,r3):=by rw [if_neg (show ¬ (false = true) by decide)] at H;exact H
    clear H
    have H:=H1
    clear H1
    have H':=Aside0.mk H
    clear H
    go_wp2
    repeat (go_quiet (fail);try go_wp2)
    go_meet
    case rel => exact ⟨_,(a0),(10),(20),(by first | rfl | (simp;done) | (simp [*];done)),(by first | rfl | (simp;done) | (simp [*];done)),(by first | rfl | (simp;done) | (simp [*];done)),H',⟨by first | omega | exact Nat.le_refl _⟩,by repeat (first | exact us.refl _ | apply us.step)⟩
 case rest =>
  clear HC3
  try clear c1
  try clear p2
  try clear c4
  try clear c5
  try clear c5b0
  try clear c5b1
  obtain ⟨kq,x0_2,x5_2,x6_2,rfl,rfl,rfl,HA,HJ2,⟨mc2,rfl⟩⟩:=hcut
  cases kq with
  | zero => exact absurd HA.out (by simp [u2f.j0])
  | succ kj2 =>
    have H:=HA.out
    clear HA
    simp only [u2f.j0] at H
    replace H:=Option.bind_eq_some_iff.mp H
    obtain ⟨t186,A60,H⟩:=H
    replace H:(if t186 < 1 then (some (0,(⟨#[]⟩:ByteArray),false)) else (if t186 > x6_2 then (some (0,(⟨#[]⟩:ByteArray),false)) else (if 0 ≤ t186 then (if t186 ≤ (x0_2.size:Int) then ((u1g.f kj2 (x0_2.extract 0 (t186:Int).toNat) (IntKind.u64.wrap (x5_2))).bind fun bt187 => (some (bt187.1,x0_2.extract (t186:Int).toNat x0_2.size,bt187.2))) else (none)) else (none)))) = some (r1,r2,r3):=H
    have A6:=Aside0.mk A60
    clear A60
    by_cases c7:t186 < 1
    · rw [if_pos c7] at H
      have c7b0:decide (t186 < 1) = true:=decide_eq_true c7
      clear c7
      simp only [Option.some.injEq,Prod.mk.injEq] at H
      obtain ⟨rfl,rfl,rfl⟩:=H
      go_wp2_with (first | (go_at_call 129;(with_reducible refine (u1n.calls kj2 x0_2 x5_2 t186 _ A6.out).mono ?_);rintro e w' ⟨rfl,⟨nd,rfl⟩⟩;(try first | exact ⟨rfl,_,World.drewN_drewN _ _ _⟩ | exact ⟨rfl,_,Eq.trans (World.drewN_drewN _ _ _) (congrArg (World.drewN _) (Nat.add_assoc _ _ _))⟩)))
      repeat (go_quiet (first | (go_at_call 129;(with_reducible refine (u1n.calls kj2 x0_2 x5_2 t186 _ A6.out).mono ?_);rintro e w' ⟨rfl,⟨nd,rfl⟩⟩;(try first | exact ⟨rfl,_,World.drewN_drewN _ _ _⟩ | exact ⟨rfl,_,Eq.trans (World.drewN_drewN _ _ _) (congrArg (World.drewN _) (Nat.add_assoc _ _ _))⟩)));try go_wp2_with (first | (go_at_call 129;(with_reducible refine (u1n.calls kj2 x0_2 x5_2 t186 _ A6.out).mono ?_);rintro e w' ⟨rfl,⟨nd,rfl⟩⟩;(try first | exact ⟨rfl,_,World.drewN_drewN _ _ _⟩ | exact ⟨rfl,_,Eq.trans (World.drewN_drewN _ _ _) (congrArg (World.drewN _) (Nat.add_assoc _ _ _))⟩))))
      go_ret3
      exact ⟨by first | rfl | (simp;done) | (simp [*];done),by repeat (first | exact us.refl _ | apply us.step)⟩
    · rw [if_neg c7] at H
      have c7b0:decide (t186 < 1) = false:=decide_eq_false c7
      clear c7
      by_cases c8:t186 > x6_2
      · rw [if_pos c8] at H
        have c8b0:decide (x6_2 < t186) = true:=decide_eq_true c8
        clear c8
        simp only [Option.some.injEq,Prod.mk.injEq] at H
        obtain ⟨rfl,rfl,rfl⟩:=H
        go_wp2_with (first | (go_at_call 129;(with_reducible refine (u1n.calls kj2 x0_2 x5_2 t186 _ A6.out).mono ?_);rintro e w' ⟨rfl,⟨nd,rfl⟩⟩;(try first | exact ⟨rfl,_,World.drewN_drewN _ _ _⟩ | exact ⟨rfl,_,Eq.trans (World.drewN_drewN _ _ _) (congrArg (World.drewN _) (Nat.add_assoc _ _ _))⟩)))
        repeat (go_quiet (first | (go_at_call 129;(with_reducible refine (u1n.calls kj2 x0_2 x5_2 t186 _ A6.out).mono ?_);rintro e w' ⟨rfl,⟨nd,rfl⟩⟩;(try first | exact ⟨rfl,_,World.drewN_drewN _ _ _⟩ | exact ⟨rfl,_,Eq.trans (World.drewN_drewN _ _ _) (congrArg (World.drewN _) (Nat.add_assoc _ _ _))⟩)));try go_wp2_with (first | (go_at_call 129;(with_reducible refine (u1n.calls kj2 x0_2 x5_2 t186 _ A6.out).mono ?_);rintro e w' ⟨rfl,⟨nd,rfl⟩⟩;(try first | exact ⟨rfl,_,World.drewN_drewN _ _ _⟩ | exact ⟨rfl,_,Eq.trans (World.drewN_drewN _ _ _) (congrArg (World.drewN _) (Nat.add_assoc _ _ _))⟩))))
        go_ret3
        exact ⟨by first | rfl | (simp;done) | (simp [*];done),by repeat (first | exact us.refl _ | apply us.step)⟩
      · rw [if_neg c8] at H
        have c8b0:decide (x6_2 < t186) = false:=decide_eq_false c8
        clear c8
        by_cases c9:0 ≤ t186
        · rw [if_pos c9] at H
          have c9b0:=eq_true c9
          have c9b1:decide (0 ≤ t186) = true:=decide_eq_true c9
          clear c9
          by_cases c10:t186 ≤ (x0_2.size:Int)
          · rw [if_pos c10] at H
            have c10b0:=eq_true c10
            have c10b1:decide (t186 ≤ (x0_2.size:Int)) = true:=decide_eq_true c10
            clear c10
            replace H:=Option.bind_eq_some_iff.mp H
            obtain ⟨⟨t187,t188⟩,A110,H⟩:=H
            replace H:(some (t187,x0_2.extract (t186:Int).toNat x0_2.size,t188)) = some (r1,r2,r3):=H
            have A11:=Aside0.mk A110
            clear A110
            have c12b0:=eq_true (of_decide_eq_true (by first | (with_reducible assumption) | assumption):0 ≤ t186)
            have c13b0:=eq_true (of_decide_eq_true (by first | (with_reducible assumption) | assumption):t186 ≤ (x0_2.size:Int))
            simp only [Option.some.injEq,Prod.mk.injEq] at H
            obtain ⟨rfl,rfl,rfl⟩:=H
            go_wp2_with (first | (go_at_call 129;(with_reducible refine (u1n.calls kj2 x0_2 x5_2 t186 _ A6.out).mono ?_);rintro e w' ⟨rfl,⟨nd,rfl⟩⟩;(try first | exact ⟨rfl,_,World.drewN_drewN _ _ _⟩ | exact ⟨rfl,_,Eq.trans (World.drewN_drewN _ _ _) (congrArg (World.drewN _) (Nat.add_assoc _ _ _))⟩)) | (go_at_call 130;(with_reducible refine (u1g.calls kj2 (x0_2.extract 0 (t186:Int).toNat) (IntKind.u64.wrap (x5_2)) t187 t188 _ A11.out).mono ?_);rintro e w' ⟨rfl,⟨nd,rfl⟩⟩;(try first | exact ⟨rfl,_,World.drewN_drewN _ _ _⟩ | exact ⟨rfl,_,Eq.trans (World.drewN_drewN _ _ _) (congrArg (World.drewN _) (Nat.add_assoc _ _ _))⟩)))
            repeat (go_quiet (first | (go_at_call 129;(with_reducible refine (u1n.calls kj2 x0_2 x5_2 t186 _ A6.out).mono ?_);rintro e w' ⟨rfl,⟨nd,rfl⟩⟩;(try first | exact ⟨rfl,_,World.drewN_drewN _ _ _⟩ | exact ⟨rfl,_,Eq.trans (World.drewN_drewN _ _ _) (congrArg (World.drewN _) (Nat.add_assoc _ _ _))⟩)) | (go_at_call 130;(with_reducible refine (u1g.calls kj2 (x0_2.extract 0 (t186:Int).toNat) (IntKind.u64.wrap (x5_2)) t187 t188 _ A11.out).mono ?_);rintro e w' ⟨rfl,⟨nd,rfl⟩⟩;(try first | exact ⟨rfl,_,World.drewN_drewN _ _ _⟩ | exact ⟨rfl,_,Eq.trans (World.drewN_drewN _ _ _) (congrArg (World.drewN _) (Nat.add_assoc _ _ _))⟩)));try go_wp2_with (first | (go_at_call 129;(with_reducible refine (u1n.calls kj2 x0_2 x5_2 t186 _ A6.out).mono ?_);rintro e w' ⟨rfl,⟨nd,rfl⟩⟩;(try first | exact ⟨rfl,_,World.drewN_drewN _ _ _⟩ | exact ⟨rfl,_,Eq.trans (World.drewN_drewN _ _ _) (congrArg (World.drewN _) (Nat.add_assoc _ _ _))⟩)) | (go_at_call 130;(with_reducible refine (u1g.calls kj2 (x0_2.extract 0 (t186:Int).toNat) (IntKind.u64.wrap (x5_2)) t187 t188 _ A11.out).mono ?_);rintro e w' ⟨rfl,⟨nd,rfl⟩⟩;(try first | exact ⟨rfl,_,World.drewN_drewN _ _ _⟩ | exact ⟨rfl,_,Eq.trans (World.drewN_drewN _ _ _) (congrArg (World.drewN _) (Nat.add_assoc _ _ _))⟩))))
            go_ret3
            exact ⟨by first | rfl | (simp;done) | (simp [*];done),by repeat (first | exact us.refl _ | apply us.step)⟩
          · rw [if_neg c10] at H
            exact absurd H (by simp)
        · rw [if_neg c9] at H
          exact absurd H (by simp)
end Go.Proofs.YtmcpeifhapekoaaGreatDoor.PAll
namespace Go.Proofs.YtmcpeifhapekoaaGreatDoor.Tx
open Go.RowKit Go.Proofs.YtmcpeifhapekoaaGreatDoor.PAll Go.Proofs.YtmcpeifhapekoaaGreatDoorW.PrintWords Go.Proofs.YtmcpeifhapekoaaGreatDoorW.PrintLast
set_option linter.unusedVariables false
set_option linter.unusedSimpArgs false
abbrev Lb:=S66
abbrev B8:=List UInt8
def wordC (c:UInt8):Bool:=Base.letterB (c.toNat:Int) || Base.digitB (c.toNat:Int)
def blankC (c:UInt8):Bool:=decide (c = 32) || decide (c = 9)
def decC (c:UInt8):Bool:=decide (48 ≤ c.toNat) && decide (c.toNat ≤ 57)
def hexC (c:UInt8):Bool:=decC c || (decide (97 ≤ c.toNat) && decide (c.toNat ≤ 102))
def digC (h:Bool) (c:UInt8):Bool:=if h then hexC c else decC c
def digV (c:UInt8):Int:=if 97 ≤ c.toNat then (c.toNat:Int) - 87 else (c.toNat:Int) - 48
def numL (base:Int):B8 → Int → Option Int
 | [],n => some n
 | c :: r,n => if n ≤ (18446744073709551615 - digV c) / base then numL base r (n * base + digV c) else none
def digitsP (h:Bool) (most:Nat) (s:B8):Option (B8 × B8) :=
 if (s.takeWhile (digC h)) ≠ [] ∧ (s.takeWhile (digC h)).length ≤ most then some (s.takeWhile (digC h),s.dropWhile (digC h)) else none
def valueD (h:Bool) (most:Nat) (base:Int) (s:B8):Option (Int × B8):=(digitsP h most s).bind fun p => (numL base p.1 0).map fun n => (n,p.2)
def valueP (s:B8):Option (Int × B8):=match s with
 | 48 :: 120 :: r => valueD true 16 16 r
 | _ => valueD false 20 10 s
def timeP (s:B8):Option (Int × B8):=match s with
 | 45 :: r => (valueD false 19 10 r).bind fun p => if p.1 ≤ 9223372036854775808 then some (-p.1,p.2) else none
 | _ => (valueD false 19 10 s).bind fun p => if p.1 < 9223372036854775808 then some p else none
def nameP (s:B8):Option (ByteArray × B8):=if Base.nameB (Base.ofL (s.takeWhile wordC)) = true then some (Base.ofL (s.takeWhile wordC),s.dropWhile wordC) else none
def expectP (p:B8) (s:B8):Option B8:=if p.isPrefixOf s = true then some (s.drop p.length) else none
def quotedP (s:B8):Option (ByteArray × B8):=match s with
 | [] => none
 | c :: r => if c = 34 then (Base.unqL r []).map fun p => (Base.ofL p.1,p.2) else none
def valP (s:B8):Option (ByteArray × B8):=(expectP [61] s).bind quotedP
def labelP (s:B8):Option (Lb × B8):=(nameP s).bind fun p => (valP p.2).map fun q => (⟨p.1,q.1⟩,q.2)
def labelsP:Nat → List Lb → B8 → Option (List Lb × B8)
 | 0,_,_ => none
 | n + 1,acc,s => match s with
   | 44 :: r => if acc.length ≤ 8 then (labelP r).bind fun p => labelsP n (acc ++ [p.1]) p.2 else none
   | _ => some (acc,s)
def bracesP (s:B8):Option (List Lb × B8):=(expectP [123] s).bind fun r => (labelP r).bind fun p => (labelsP s.length [p.1] p.2).bind fun q => (expectP [125] q.2).map fun t => (q.1,t)
def less (a b:ByteArray):Bool:=Op.bytesLess a.data.toList b.data.toList
def insR (x:Lb):List Lb → List Lb
 | [] => [x]
 | y :: r => if less x.f0 y.f0 = true then y :: insR x r else x :: y :: r
def sortP (l:List Lb):List Lb:=(l.foldl (fun r x => insR x r) []).reverse
def metric:ByteArray:=Base.ofL [95,95,110,97,109,101,95,95]
def headP (s:B8):Option (List Lb × B8):=match s with
 | [] => some ([],[])
 | c :: r => if wordC c = true then (nameP s).map fun p => ([⟨metric,p.1⟩],p.2) else some ([],s)
def restP (l:List Lb) (s:B8):Option (List Lb × B8):=match s with
 | 123 :: _ => (bracesP s).map fun q => (l ++ q.1,q.2)
 | _ => some (l,s)
def labsP (s:B8):Option (List Lb × B8):=(headP s).bind fun p => restP p.1 p.2
def endP (s:B8) (now:Int):Option (Int × Int) :=
 if s.takeWhile blankC = [] then none else (valueP (s.dropWhile blankC)).bind fun p =>
  if p.2.dropWhile blankC = [] then some (now,p.1) else if p.2.takeWhile blankC = [] then none else
   (timeP (p.2.dropWhile blankC)).bind fun q => if q.2.dropWhile blankC = [] then some (q.1,p.1) else none
def addR (x:Lb):List Lb → Option (List Lb)
 | [] => some [x]
 | y :: r => if less x.f0 y.f0 = true then (addR x r).map (y :: ·) else if y.f0 = x.f0 then none else some (x :: y :: r)
def bracesR:Nat → List Lb → B8 → Option (List Lb × B8)
 | 0,_,_ => none
 | n + 1,acc,s => (valP (s.dropWhile wordC)).bind fun q => match q.2 with
   | [] => none
   | c :: t => if acc.length > 8 then none else (addR ⟨Base.ofL (s.takeWhile wordC),q.1⟩ acc).bind fun l => if c = 44 then bracesR n l t else if c = 125 then some (l,t) else none
def rawP:Nat → B8 → Option (List Lb × B8)
 | 0,_ => none
 | n + 1,s => (valP (s.dropWhile wordC)).bind fun q => match q.2 with
   | [] => none
   | c :: t => if c = 44 then (rawP n t).map fun p => (⟨Base.ofL (s.takeWhile wordC),q.1⟩ :: p.1,p.2) else if c = 125 then some ([⟨Base.ofL (s.takeWhile wordC),q.1⟩],t) else none
def addsR:List Lb → List Lb → Option (List Lb)
 | acc,[] => some acc
 | acc,x :: l => (addR x acc).bind fun a => addsR a l
theorem addR_len (x:Lb):∀ (r o:List Lb),addR x r = some o → o.length = r.length + 1
 | [],o,h => by
   cases Option.some.inj h
   rfl
 | y :: r,o,h => by
   unfold addR at h
   split at h
   · cases h1:addR x r with
     | none => rw [h1] at h;cases h
     | some q =>
       rw [h1] at h
       cases Option.some.inj h
       simp [addR_len x r q h1]
   · split at h
     · cases h
     · cases Option.some.inj h
       rfl
theorem bracesR_raw:∀ (n:Nat) (acc:List Lb) (s:B8),bracesR n acc s = (rawP n s).bind fun p => if acc.length + p.1.length ≤ 9 then (addsR acc p.1).map fun l => (l,p.2) else none
 | 0,acc,s => rfl
 | n + 1,acc,s => by
   unfold bracesR rawP
   cases valP (s.dropWhile wordC) with
   | none => rfl
   | some q =>
     obtain ⟨v,t0⟩:=q
     cases t0 with
     | nil => rfl
     | cons c t =>
       simp only [Option.bind_some]
       by_cases h8:acc.length > 8
       · rw [if_pos h8]
         by_cases hc:c = 44
         · rw [if_pos hc]
           cases rawP n t with
           | none => rfl
           | some p =>
             simp only [Option.map_some,Option.bind_some,List.length_cons]
             rw [if_neg (by omega)]
         · rw [if_neg hc]
           by_cases hd:c = 125
           · rw [if_pos hd]
             simp only [Option.bind_some,List.length_singleton]
             rw [if_neg (by omega)]
           · rw [if_neg hd]
             rfl
       · rw [if_neg h8]
         by_cases hc:c = 44
         · simp only [if_pos hc]
           cases ha:addR ⟨Base.ofL (s.takeWhile wordC),v⟩ acc with
           | none =>
             cases rawP n t with
             | none => rfl
             | some p =>
               simp only [Option.map_some,Option.bind_some,Option.bind_none,addsR,ha,Option.map_none]
               split <;> rfl
           | some a =>
             have hl:=addR_len _ _ _ ha
             simp only [Option.bind_some]
             rw [bracesR_raw n a t]
             cases rawP n t with
             | none => rfl
             | some p =>
               simp only [Option.map_some,Option.bind_some,addsR,ha,List.length_cons,hl]
               rw [show acc.length + 1 + p.1.length = acc.length + (p.1.length + 1) by omega]
         · simp only [if_neg hc]
           by_cases hd:c = 125
           · simp only [if_pos hd]
             simp only [Option.bind_some,List.length_singleton]
             rw [if_pos (by omega)]
             cases ha:addR ⟨Base.ofL (s.takeWhile wordC),v⟩ acc with
             | none => simp only [addsR,ha];rfl
             | some a => simp only [addsR,ha];rfl
           · simp only [if_neg hd]
             cases addR ⟨Base.ofL (s.takeWhile wordC),v⟩ acc <;> rfl
abbrev Rw:=S53
abbrev Me:=ByteArray × ByteArray × ByteArray
def helpW:B8:=[35,32,72,69,76,80,32]
def typeW:B8:=[35,32,84,89,80,69,32]
def kinds:List B8:=[[99,111,117,110,116,101,114],[103,97,117,103,101],[104,105,115,116,111,103,114,97,109],[115,117,109,109,97,114,121],[117,110,116,121,112,101,100]]
def knownL (s:B8):Bool:=kinds.contains s
def plainL (s:B8):Bool:=s.all fun c => decide (32 ≤ c.toNat)
def me0:Me:=(Base.ofL [],Base.ofL [],Base.ofL [])
def remarkP (s:B8):Option Me:=if (helpW.isPrefixOf s || typeW.isPrefixOf s) = true then
    (nameP (s.drop 7)).bind fun p => (expectP [32] p.2).bind fun r => if typeW.isPrefixOf s = true then (if knownL r = true then some (p.1,Base.ofL r,Base.ofL []) else none) else if plainL r = true then some (p.1,Base.ofL [],Base.ofL r) else none
 else some me0
def sampleP (can:List Lb → Bool) (s:B8) (now:Int):Option Rw:=(labsP s).bind fun p => if can (sortP p.1) = true then (endP p.2 now).map fun q => ⟨sortP p.1,q.1,q.2⟩ else none
def readP (can:List Lb → Bool) (s:B8) (now:Int):Option Rw × Me × Int :=
 if s.length > 1000 then (none,me0,4) else if s.contains 10 = true then (none,me0,280) else match s with
  | 35 :: _ => (match remarkP s with | none => (none,me0,280) | some m => (none,m,0))
  | _ => if s.all blankC = true then (none,me0,0) else match sampleP can s now with | none => (none,me0,280) | some r => (some r,me0,0)
def noteP (m:Me) (help:Bool):List Me → List Me
 | [] => [m]
 | x :: l => if x.1 = m.1 then (if help = true then (x.1,x.2.1,m.2.2) else (x.1,m.2.1,x.2.2)) :: l else x :: noteP m help l
def partL (b:B8):B8:=b.takeWhile (· != 10)
def restL (b:B8):B8:=(b.dropWhile (· != 10)).drop 1
def parseP (can:List Lb → Bool) (now:Int):Nat → Int → List Rw → List Me → B8 → List Rw × List Me × Int × Int
 | 0,_,rows,book,_ => (rows,book,0,0)
 | n + 1,line,rows,book,b => if b = [] then (rows,book,0,0) else
   let x:=readP can (partL b) now
   let e:=if x.1.isSome = true ∧ rows.length = 10000 then 4 else x.2.2
   if e ≠ 0 then ([],[],e,line) else parseP can now n (line + 1) (rows ++ x.1.toList) (if x.2.1.1 = Base.ofL [] then book else noteP x.2.1 (helpW.isPrefixOf (partL b)) book) (restL b)
theorem tw_step {α:Type} (p:α → Bool):∀ (s:List α) (i:Nat) (h:i ≤ (s.takeWhile p).length) (hi:i < s.length),(p s[i] = true → i + 1 ≤ (s.takeWhile p).length) ∧ (p s[i] = false → i = (s.takeWhile p).length)
 | c :: s,i,h,hi => by
   by_cases hc:p c = true
   · rw [List.takeWhile_cons,if_pos hc,List.length_cons] at h ⊢
     cases i with
     | zero => exact ⟨fun _ => by omega,fun h9 => by rw [List.getElem_cons_zero,hc] at h9;cases h9⟩
     | succ i =>
       obtain ⟨g1,g2⟩:=tw_step p s i (by omega) (by rw [List.length_cons] at hi;omega)
       rw [List.getElem_cons_succ]
       exact ⟨fun h9 => by have:=g1 h9;omega,fun h9 => by have:=g2 h9;omega⟩
   · rw [List.takeWhile_cons,if_neg hc,List.length_nil] at h ⊢
     obtain rfl:i = 0:=by omega
     rw [List.getElem_cons_zero]
     exact ⟨fun h9 => absurd h9 hc,fun _ => rfl⟩
theorem tw_le {α:Type} (p:α → Bool):∀ s:List α,(s.takeWhile p).length ≤ s.length
 | [] => Nat.le_refl _
 | c :: s => by
   have:=tw_le p s
   rw [List.takeWhile_cons]
   split
   · rw [List.length_cons,List.length_cons]
     omega
   · exact Nat.zero_le _
theorem tw_take {α:Type} (p:α → Bool):∀ s:List α,s.take (s.takeWhile p).length = s.takeWhile p ∧ s.drop (s.takeWhile p).length = s.dropWhile p
 | [] => ⟨rfl,rfl⟩
 | c :: s => by
   obtain ⟨h1,h2⟩:=tw_take p s
   rw [List.takeWhile_cons,List.dropWhile_cons]
   by_cases hc:p c = true
   · rw [if_pos hc,if_pos hc,List.length_cons,List.take_succ_cons,List.drop_succ_cons,h1,h2]
     exact ⟨rfl,rfl⟩
   · rw [if_neg hc,if_neg hc]
     exact ⟨rfl,rfl⟩
theorem cut_ofL (s:B8) (n:Nat) (h:n ≤ s.length):(Base.ofL s).extract 0 n = Base.ofL (s.take n) ∧ (Base.ofL s).extract n (Base.ofL s).size = Base.ofL (s.drop n) ∧ (Base.ofL s).size = s.length:=by
 refine ⟨Base.ext_data ?_,Base.ext_data ?_,?_⟩
 · rw [Base.extract_list,Base.ofL_data,Base.ofL_data,List.drop_zero,Nat.sub_zero]
 · rw [Base.extract_rest,Base.ofL_data,Base.ofL_data]
 · rw [← u3j,Base.ofL_data]
theorem insR_pass (x:Lb):∀ (A R:List Lb),(∀ y ∈ A,less x.f0 y.f0 = true) → insR x (A ++ R) = A ++ insR x R
 | [],R,_ => rfl
 | y :: A,R,h => by
   rw [List.cons_append,List.cons_append]
   conv => lhs;unfold insR
   rw [if_pos (h y (List.mem_cons_self ..)),insR_pass x A R (fun z hz => h z (List.mem_cons_of_mem _ hz))]
theorem insR_stop (x:Lb) (R:List Lb) (h:∀ y,R.head? = some y → ¬ less x.f0 y.f0 = true):insR x R = x :: R:=by
 cases R with
 | nil => rfl
 | cons y R =>
   unfold insR
   rw [if_neg (h y rfl)]
def sortedTo (l:List Lb) (i:Nat):List Lb:=((l.take i).foldl (fun r x => insR x r) []).reverse
theorem sortedTo_all (l:List Lb):sortedTo l l.length = sortP l:=by
 unfold sortedTo sortP
 rw [List.take_length]
theorem sortedTo_next (l:List Lb) (i:Nat) (hi:i < l.length) (a b:List Lb) (hab:sortedTo l i = a ++ b) (hb:∀ y ∈ b,less l[i].f0 y.f0 = true) (ha:∀ y,a.getLast? = some y → ¬ less l[i].f0 y.f0 = true):sortedTo l (i + 1) = a ++ l[i] :: b:=by
 unfold sortedTo at hab ⊢
 rw [List.take_succ_eq_append_getElem hi,List.foldl_append]
 have e:(l.take i).foldl (fun r x => insR x r) [] = b.reverse ++ a.reverse:=by
  rw [← List.reverse_append,← hab,List.reverse_reverse]
 rw [e]
 show (insR l[i] (b.reverse ++ a.reverse)).reverse = _
 rw [insR_pass _ _ _ (fun y hy => hb y (List.mem_reverse.1 hy)),insR_stop _ _ (fun y hy => ha y (by rw [List.head?_reverse] at hy;exact hy))]
 simp
theorem sortedTo_len (l:List Lb) (i:Nat) (hi:i ≤ l.length):(sortedTo l i).length = i:=by
 have ins_len:∀ (x:Lb) (r:List Lb),(insR x r).length = r.length + 1:=fun x r => by
  induction r with
  | nil => rfl
  | cons y r ih =>
    unfold insR
    split
    · rw [List.length_cons,ih,List.length_cons]
    · rfl
 have:∀ (m r:List Lb),(m.foldl (fun r x => insR x r) r).length = r.length + m.length:=fun m => by
  induction m with
  | nil => exact fun r => rfl
  | cons x m ih =>
    intro r
    rw [List.foldl_cons,ih,ins_len,List.length_cons]
    omega
 unfold sortedTo
 rw [List.length_reverse,this,List.length_take,List.length_nil]
 omega
end Go.Proofs.YtmcpeifhapekoaaGreatDoor.Tx
namespace Go.Proofs.YtmcpeifhapekoaaGreatDoor.PAll
open Go.RowKit Go.Proofs.YtmcpeifhapekoaaGreatDoorW.PrintWords Go.Proofs.YtmcpeifhapekoaaGreatDoorW.PrintLast Go.Proofs.YtmcpeifhapekoaaGreatDoorW.PrintMore
attribute [local go_sem] u3q u3r max_two min_two u3l u3k u3s u3p
set_option linter.unusedVariables false
set_option linter.unusedSimpArgs false
def u3h.badB (c:Int):Bool:=decide (c < 32)
theorem u3h.test (c:Int) (w:World):Calls Tryz.prog 59 #[.int .u8 c] w fun e w' => e = .returned (.bool (u3h.badB c)) ∧ us w w':=by
 unfold u3h.badB
 go_enter Tryz.func59,Tryz.ntmps59
 go_wp2
 go_ret
 exact ⟨rfl,⟨0,rfl⟩⟩
set_option maxHeartbeats 1000000 in
theorem u3h.index (A:Option Addr) (c:Nat) (l:List Int) (w:World) (hr:Kd.C (Kd.int .u8) w A l.length l) (hm:l.length ≤ 140737488355328) :
 Calls Tryz.prog 104 #[.slice A l.length c,.func (.func 59) #[] #[]] w fun e w' => (∃ i:Int,e = .returned (.int .i64 i) ∧ decide (0 ≤ i) = l.any u3h.badB) ∧ us w w':=by
 have HR:=Aside0.mk hr
 clear hr
 go_enter Tryz.func104,Tryz.ntmps104
 go_wp2
 go_loopg [8] (l.length) (fun kq v8 w' => ∃ (x:Nat),x ≤ l.length ∧ v8 = .int .i64 x ∧ Aside0 ((l.take x).any u3h.badB = false) ∧ l.length ≤ kq + x ∧ us w w')
 case atStart => exact ⟨0,by omega,rfl,⟨rfl⟩,by omega,us.refl _⟩
 case round =>
  obtain ⟨x,hx,rfl,HN,hk,⟨m1,rfl⟩⟩:=hrel
  by_cases hlt:x < l.length
  · obtain ⟨ad,e,hc⟩:=Kd.at_int HR.out (x:Int) (by omega) (by omega)
    subst e
    have hc2:w.cell? (ad.add x) = some (.int .u8 (rd l x)):=by simpa using hc
    clear hc
    have htk:l.take (x + 1) = l.take x ++ [rd l x]:=by
     rw [List.take_succ_eq_append_getElem hlt]
     simp [rd,List.getD_eq_getElem?_getD,hlt]
    have HT:=Aside0.mk htk
    clear htk
    cases hb:u3h.badB (rd l x) with
    | true =>
      go_wp2_with (go_at_call 59;refine (u3h.test _ _).mono ?_;rintro e W1 ⟨rfl,⟨nd,rfl⟩⟩)
      go_ret
      refine ⟨⟨_,rfl,?_⟩,⟨_,rfl⟩⟩
      have h1:l.any u3h.badB = true:=by
       rw [List.any_eq_true]
       refine ⟨rd l x,?_,hb⟩
       have h2:rd l x ∈ l.take (x + 1):=by rw [HT.out];simp
       exact List.mem_of_mem_take h2
      rw [h1]
      simp
    | false =>
      go_wp2_with (go_at_call 59;refine (u3h.test _ _).mono ?_;rintro e W1 ⟨rfl,⟨nd,rfl⟩⟩)
      obtain ⟨g1,rfl⟩:∃ g1,gk = g1 + 1:=⟨gk - 1,by omega⟩
      go_roundg g1
      case rel =>
       refine ⟨x + 1,by omega,by go_num,⟨?_⟩,by omega,⟨_,rfl⟩⟩
       rw [HT.out,List.any_append,HN.out]
       simp [hb]
      case measure => omega
  · go_wp2
    go_ret
    refine ⟨⟨_,rfl,?_⟩,⟨_,rfl⟩⟩
    have h1:=HN.out
    rw [List.take_of_length_le (by omega)] at h1
    rw [h1]
    simp
theorem u3h.contains (A:Option Addr) (c:Nat) (l:List Int) (w:World) (hr:Kd.C (Kd.int .u8) w A l.length l) (hm:l.length ≤ 140737488355328) :
 Calls Tryz.prog 56 #[.slice A l.length c,.func (.func 59) #[] #[]] w fun e w' => e = .returned (.bool (l.any u3h.badB)) ∧ us w w':=by
 go_enter Tryz.func56,Tryz.ntmps56
 go_wp2_with (go_at_call 104;refine (u3h.index _ _ _ _ hr hm).mono ?_;rintro e W1 ⟨⟨i,rfl,hi⟩,⟨nd,rfl⟩⟩)
 go_ret
 exact ⟨by simp,⟨_,rfl⟩⟩
theorem u3h.contains_n (A:Option Addr) (c n:Nat) (l:List Int) (w:World) (hn:l.length = n) (hr:Kd.C (Kd.int .u8) w A n l) (hm:n ≤ 140737488355328) :
 Calls Tryz.prog 56 #[.slice A n c,.func (.func 59) #[] #[]] w fun e w' => e = .returned (.bool (l.any u3h.badB)) ∧ us w w':=by
 subst hn
 exact u3h.contains A c l w hr hm
set_option maxHeartbeats 1000000 in
theorem u3h.calls (s:List UInt8) (hl:s.length ≤ 1000) (w:World) :
 Calls Tryz.prog 31 #[.string (Base.ofL s)] w fun e w' => e = .returned (.bool (Tx.plainL s)) ∧ Below w.heap.size w w':=by
 obtain ⟨a0,ha⟩:∃ a0,a0 = Base.ofL s:=⟨_,rfl⟩
 have hsz:a0.size = s.length:=by rw [ha];exact (Tx.cut_ofL s 0 (by omega)).2.2
 have HV:Aside0 (Tx.plainL s = !(bytesOf a0).any u3h.badB):=⟨by
  unfold Tx.plainL bytesOf
  rw [ha,Base.ofL_data,List.all_eq_not_any_not,List.any_map]
  congr 2
  funext c
  unfold u3h.badB
  simp only [Function.comp]
  rw [Bool.eq_iff_iff]
  simp
  omega⟩
 rw [← ha,HV.out]
 clear HV ha
 have hsz2:a0.size ≤ 1000:=by omega
 clear hsz hl
 have kb:=fun W => print_bytes (P:=Tryz.prog) 9 22 5 Tryz.underlying9 Tryz.underlying22 Tryz.underlying5 a0 W
 have hr:=Aside0.mk (bytes_reads w 5 a0 (by omega))
 have hc:Aside0 (Kd.C (Kd.int .u8) (Lib.bytesWorld w 5 a0) (some ⟨w.heap.size,0,none⟩) a0.size (bytesOf a0)):=⟨Kd.C_of_reads (d:=(0:Int)) (h1:=fun _ => rfl) hr.out⟩
 go_enter Tryz.func31,Tryz.ntmps31
 go_wp2_with (go_at_call 56;refine (u3h.contains_n _ _ _ _ _ (bytesOf_length a0) hc.out (by omega)).mono ?_;rintro e W2 ⟨rfl,⟨md,rfl⟩⟩)
 go_ret
 exact ⟨rfl,ub (bytes_below (Below.refl _ _) (Nat.le_refl _) _ _) md⟩
def u3m.f:Option Int:=none
theorem u3m.index_at:∀ (w q:List UInt8) (c:UInt8),c ∉ w → Lib.indexByte (w ++ c :: q) c = (w.length:Int):=by
 intro w
 induction w with
 | nil => intro q c _;simp [Lib.indexByte]
 | cons x r ih =>
   intro q c h
   have h1:¬ x = c:=fun e => h (by simp [e])
   have h2:=ih q c (fun e => h (by simp [e]))
   simp only [List.cons_append,Lib.indexByte,h2,beq_iff_eq,h1,if_false]
   rw [if_neg (by omega)]
   simp
theorem u3m.index_no:∀ (w:List UInt8) (c:UInt8),c ∉ w → Lib.indexByte w c = -1:=by
 intro w
 induction w with
 | nil => intro c _;rfl
 | cons x r ih =>
   intro c h
   have h1:¬ x = c:=fun e => h (by simp [e])
   have h2:=ih c (fun e => h (by simp [e]))
   simp [Lib.indexByte,h2,h1]
theorem u3m.split (l:List UInt8):(∃ q,l = Tx.partL l ++ 10 :: q ∧ Tx.restL l = q ∧ Lib.indexByte l 10 = ((Tx.partL l).length:Int)) ∨ (Tx.partL l = l ∧ Tx.restL l = [] ∧ Lib.indexByte l 10 = -1):=by
 have hno:∀ p:List UInt8,(10:UInt8) ∉ p.takeWhile (· != 10):=fun p hm => by
  have:=List.all_eq_true.1 (List.all_takeWhile (p:=(· != 10)) (l:=p)) _ hm
  simp at this
 have happ:=List.takeWhile_append_dropWhile (p:=(· != 10)) (l:=l)
 cases hd:l.dropWhile (· != 10) with
 | nil =>
   rw [hd,List.append_nil] at happ
   refine Or.inr ⟨happ,by unfold Tx.restL;rw [hd];rfl,u3m.index_no l 10 ?_⟩
   rw [← happ]
   exact hno l
 | cons c q =>
   have hc:c = 10:=by
    have h:=List.head?_dropWhile_not (p:=(· != 10)) (l:=l)
    rw [hd] at h
    simpa using h
   subst hc
   rw [hd] at happ
   refine Or.inl ⟨q,happ.symm,by unfold Tx.restL;rw [hd];rfl,?_⟩
   conv => lhs;rw [← happ]
   exact u3m.index_at _ q 10 (hno l)
theorem u3m.cells {w:World} {A:Option Addr} {xs:List Int} (h:(Kd.int .u8).C w A xs.length xs) (hp:0 < xs.length):∃ a,A = some a ∧ ∀ i,i < xs.length → w.cell? (a.add i) = some (.int .u8 (xs.getD i 0)) :=
 (Kd.reads_of_C (enc:=Value.int .u8) (d:=(0:Int)) (h1:=fun _ => rfl) h).2.2 hp
set_option maxHeartbeats 2000000 in
set_option maxRecDepth 100000 in
theorem u3m.found (a:Addr) (c n d:Nat) (xs:List Int) (g:Nat) (w:World) (hcap:xs.length ≤ c) (hn:xs.length ≤ 4611686018427387904) (hlt:n < xs.length) (hidx:Calls Tryz.prog 43 #[.slice (some a) xs.length c,.slice (some ⟨g,0,none⟩) 1 d] w fun e w' => e = .returned (.int .i64 (n:Int)) ∧ w' = w) :
 Calls Tryz.prog 17 #[.slice (some a) xs.length c,.slice (some ⟨g,0,none⟩) 1 d] w fun e w' => e = .returned (.tuple #[.slice (some a) n c,.slice (if c = n + 1 then some a else (some a).map (·.add (n + 1))) (xs.length - (n + 1)) (c - (n + 1)),.bool true]) ∧ ∃ q,w' = w.drewN q:=by
 have mixed:Tryz.prog.follows .mixedOrders = true:=by kernel_rfl
 have HI:=Aside0.mk hidx
 clear hidx
 have hl:xs.length - n - 1 = xs.length - (n + 1):=by omega
 go_enter Tryz.func17,Tryz.ntmps17
 go_wp2_with (go_at_call 43;(with_reducible refine HI.out.mono ?_);rintro e w' ⟨rfl,rfl⟩)
 go_region_o
 all_goals go_wp2
 all_goals go_ret3
 all_goals exact ⟨by simp [*],_,rfl⟩
set_option maxHeartbeats 2000000 in
set_option maxRecDepth 100000 in
theorem u3m.missed (a:Addr) (c d:Nat) (xs:List Int) (g:Nat) (w:World) (hidx:Calls Tryz.prog 43 #[.slice (some a) xs.length c,.slice (some ⟨g,0,none⟩) 1 d] w fun e w' => e = .returned (.int .i64 (-1)) ∧ w' = w) :
 Calls Tryz.prog 17 #[.slice (some a) xs.length c,.slice (some ⟨g,0,none⟩) 1 d] w fun e w' => e = .returned (.tuple #[.slice (some a) xs.length c,.slice none 0 0,.bool false]) ∧ ∃ q,w' = w.drewN q:=by
 have HI:=Aside0.mk hidx
 clear hidx
 go_enter Tryz.func17,Tryz.ntmps17
 go_wp2_with (go_at_call 43;(with_reducible refine HI.out.mono ?_);rintro e w' ⟨rfl,rfl⟩)
 go_ret3
 exact ⟨rfl,0,rfl⟩
theorem u3m.cut (A:Option Addr) (c d:Nat) (xs:List Int) (g:Nat) (w:World) (hx:(Kd.int .u8).C w A xs.length xs) (hcap:xs.length ≤ c) (hp:0 < xs.length) (hn:xs.length ≤ 4611686018427387904) (hs:w.cell? ⟨g,0,none⟩ = some (.int .u8 10)) :
 Calls Tryz.prog 17 #[.slice A xs.length c,.slice (some ⟨g,0,none⟩) 1 d] w fun e w' => ∃ (A1 A2:Option Addr) (c1 c2:Nat) (p q:List Int) (f:Bool),e = .returned (.tuple #[.slice A1 p.length c1,.slice A2 q.length c2,.bool f]) ∧ (∀ W,(Kd.int .u8).C W A xs.length xs → (Kd.int .u8).C W A1 p.length p ∧ (Kd.int .u8).C W A2 q.length q) ∧ q.length ≤ c2 ∧ p.length ≤ xs.length ∧ q.length < xs.length ∧ Lib.bytesOf p = Tx.partL (Lib.bytesOf xs) ∧ Lib.bytesOf q = Tx.restL (Lib.bytesOf xs) ∧ Below w.heap.size w w':=by
 obtain ⟨a,rfl,hc⟩:=u3m.cells hx hp
 have hi:=Tryz.bytes_Index_one a xs.length c g 0 d xs 10 w rfl hc hs
 rw [show (10:Int).toNat.toUInt8 = 10 from rfl] at hi
 have hlen:(Lib.bytesOf xs).length = xs.length:=Lib.bytesOf_length xs
 rcases u3m.split (Lib.bytesOf xs) with ⟨q,h1,h2,h3⟩ | ⟨h1,h2,h3⟩
 · rw [h3] at hi
   have hl:(Tx.partL (Lib.bytesOf xs)).length + 1 + q.length = xs.length:=by
    have h4:=congrArg List.length h1
    rw [List.length_append,List.length_cons,hlen] at h4
    omega
   refine (u3m.found a c _ d xs g w hcap hn (by omega) hi).mono ?_
   rintro e w' ⟨rfl,m,rfl⟩
   have e1:(xs.take (Tx.partL (Lib.bytesOf xs)).length).length = (Tx.partL (Lib.bytesOf xs)).length:=by rw [List.length_take];omega
   have e2:(xs.drop ((Tx.partL (Lib.bytesOf xs)).length + 1)).length = xs.length - ((Tx.partL (Lib.bytesOf xs)).length + 1):=List.length_drop
   have kk:∀ W,(Kd.int .u8).C W (some a) xs.length xs → (Kd.int .u8).C W (some a) (xs.take (Tx.partL (Lib.bytesOf xs)).length).length (xs.take (Tx.partL (Lib.bytesOf xs)).length) ∧ (Kd.int .u8).C W (if c = (Tx.partL (Lib.bytesOf xs)).length + 1 then some a else (some a).map (·.add ((Tx.partL (Lib.bytesOf xs)).length + 1))) (xs.drop ((Tx.partL (Lib.bytesOf xs)).length + 1)).length (xs.drop ((Tx.partL (Lib.bytesOf xs)).length + 1)):=fun W hW => by
    have k2:=Kd.C_drop hW (m:=(Tx.partL (Lib.bytesOf xs)).length + 1) (c:=c) (by omega) hcap
    rw [show ((Tx.partL (Lib.bytesOf xs)).length + 1) * (Kd.int .u8).sz = (Tx.partL (Lib.bytesOf xs)).length + 1 from Nat.mul_one _] at k2
    exact ⟨Kd.C_take hW (by omega),k2⟩
   refine ⟨_,_,c,c - ((Tx.partL (Lib.bytesOf xs)).length + 1),xs.take (Tx.partL (Lib.bytesOf xs)).length,xs.drop ((Tx.partL (Lib.bytesOf xs)).length + 1),true,by rw [e1,e2],kk,by omega,by omega,by omega,?_,?_,ub (Below.refl _ _) m⟩
   · rw [Lib.bytesOf_take]
     conv => lhs;arg 2;rw [h1]
     rw [List.take_left]
   · have e3:Lib.bytesOf (xs.drop ((Tx.partL (Lib.bytesOf xs)).length + 1)) = (Lib.bytesOf xs).drop ((Tx.partL (Lib.bytesOf xs)).length + 1):=by simp [Lib.bytesOf,List.map_drop]
     rw [e3,h2]
     conv => lhs;arg 2;rw [h1]
     rw [List.drop_append,List.drop_eq_nil_of_le (by omega),List.nil_append,show (Tx.partL (Lib.bytesOf xs)).length + 1 - (Tx.partL (Lib.bytesOf xs)).length = 1 by omega]
     rfl
 · rw [h3] at hi
   refine (u3m.missed a c d xs g w hi).mono ?_
   rintro e w' ⟨rfl,m,rfl⟩
   exact ⟨some a,none,c,0,xs,[],false,rfl,fun W hW => ⟨hW,Kd.C_nil _ _⟩,Nat.le_refl _,Nat.le_refl _,hp,h1.symm,h2.symm,ub (Below.refl _ _) m⟩
theorem u1m.fin_named:∀ n:Fin 256,text_named.f (n.val:Int) = some (Tx.wordC (UInt8.ofNat n.val)):=by decide +kernel
theorem u1m.fin_blank:∀ n:Fin 256,text_blank.f (n.val:Int) = some (Tx.blankC (UInt8.ofNat n.val)):=by decide +kernel
theorem u1m.is_named (c:UInt8):text_named.f (c.toNat:Int) = some (Tx.wordC c):=by
 have:=u1m.fin_named ⟨c.toNat,c.toNat_lt⟩
 rwa [UInt8.ofNat_toNat] at this
theorem u1m.is_blank (c:UInt8):text_blank.f (c.toNat:Int) = some (Tx.blankC c):=by
 have:=u1m.fin_blank ⟨c.toNat,c.toNat_lt⟩
 rwa [UInt8.ofNat_toNat] at this
theorem u1m.test_named (c:UInt8) (z:Int) (hz:(c.toNat:Int) = z) (W:World):Calls Tryz.prog 91 #[.int .u8 z] W fun e W' => e = .returned (.bool (Tx.wordC c)) ∧ us W W':=by
 subst hz
 exact text_named.calls _ _ _ (u1m.is_named c)
theorem u1m.test_blank (c:UInt8) (z:Int) (hz:(c.toNat:Int) = z) (W:World):Calls Tryz.prog 97 #[.int .u8 z] W fun e W' => e = .returned (.bool (Tx.blankC c)) ∧ us W W':=by
 subst hz
 exact text_blank.calls _ _ _ (u1m.is_blank c)
set_option maxRecDepth 100000 in
theorem u1m.test_dig (hxb:Bool) (hb:Nat) (c:UInt8) (z:Int) (hz:(c.toNat:Int) = z) (W:World) (hcb:W.heap[hb]? = some (.cells #[.bool hxb] 4 (0,0))):Calls Tryz.prog 147 #[.int .u8 z,.pointer (some ⟨hb,0,none⟩)] W fun e W' => e = .returned (.bool (Tx.digC hxb c)) ∧ us W W':=by
 subst hz
 have h0:=uj hcb 0
 simp only [List.size_toArray,List.length_cons,List.length_nil,List.getElem?_toArray,List.getElem?_cons_zero] at h0
 clear hcb
 obtain ⟨n,hn⟩:∃ n:Nat,n = c.toNat:=⟨_,rfl⟩
 have HB:Aside0 (Tx.digC hxb c = if hxb = true then ((decide (48 ≤ n) && decide (n ≤ 57)) || (decide (97 ≤ n) && decide (n ≤ 102))) else (decide (48 ≤ n) && decide (n ≤ 57))):=⟨by rw [hn];rfl⟩
 rw [HB.out,← hn]
 clear hn HB
 by_cases h1:48 ≤ n
 · by_cases h2:n ≤ 57
   · have h3:¬ 97 ≤ n:=by omega
     cases hxb <;> (go_enter Tryz.func147,Tryz.ntmps147;go_wp2;go_ret;exact ⟨by first | (simp [h1,h2];done) | (simp [h1,h2];omega),0,rfl⟩)
   · by_cases h3:97 ≤ n
     · by_cases h4:n ≤ 102
       · cases hxb <;> (go_enter Tryz.func147,Tryz.ntmps147;go_wp2;go_ret;exact ⟨by first | (simp [h1,h2,h3,h4];done) | (simp [h1,h2,h3,h4];omega),0,rfl⟩)
       · cases hxb <;> (go_enter Tryz.func147,Tryz.ntmps147;go_wp2;go_ret;exact ⟨by first | (simp [h1,h2,h3,h4];done) | (simp [h1,h2,h3,h4];omega),0,rfl⟩)
     · cases hxb <;> (go_enter Tryz.func147,Tryz.ntmps147;go_wp2;go_ret;exact ⟨by first | (simp [h1,h2,h3];done) | (simp [h1,h2,h3];omega),0,rfl⟩)
 · have h3:¬ 97 ≤ n:=by omega
   cases hxb <;> (go_enter Tryz.func147,Tryz.ntmps147;go_wp2;go_ret;exact ⟨by first | (simp [h1,h3];done) | (simp [h1,h3];omega),0,rfl⟩)
theorem u1m.fin (p:UInt8 → Bool) {w0 W:World} {g:Nat} {s:List UInt8} (h:ua.St w0 W g s) (x n:Nat) (hx:x = (s.takeWhile p).length):Ending.returned (.string ((Base.ofL s).extract 0 x)) = .returned (.string (Base.ofL (s.takeWhile p))) ∧
 ua.St w0 ((W.drewN n).setCell ⟨g,0,none⟩ (.string ((Base.ofL s).extract x s.length))) g (s.dropWhile p) ∧ u2a W ((W.drewN n).setCell ⟨g,0,none⟩ (.string ((Base.ofL s).extract x s.length))) g none:=by
 have hle:=Tx.tw_le p s
 obtain ⟨c1,c2,c3⟩:=Tx.cut_ofL s x (by omega)
 obtain ⟨t1,t2⟩:=Tx.tw_take p s
 rw [← hx] at t1 t2
 rw [c3] at c2
 rw [c1,c2,t1,t2]
 exact ⟨rfl,(h.drew n).set _,(u2a.of_below (ub (Below.refl _ _) n) g none).set_ 0 _⟩
set_option maxHeartbeats 1000000 in
set_option maxRecDepth 100000 in
theorem u1m.calls_named (w0 W:World) (g:Nat) (s:List UInt8) (hl:s.length ≤ 4611686018427387904) (h:ua.St w0 W g s) :
 Calls Tryz.prog 96 #[.pointer (some ⟨g,0,none⟩),.func (.func 91) #[] #[]] W fun e W' => e = .returned (.string (Base.ofL (s.takeWhile Tx.wordC))) ∧ ua.St w0 W' g (s.dropWhile Tx.wordC) ∧ u2a W W' g none:=by
 have HS:=Aside0.mk h
 obtain ⟨h0,f0⟩:=h.look
 clear h
 have hsz:(Base.ofL s).size = s.length:=(Tx.cut_ofL s 0 (by omega)).2.2
 go_enter Tryz.func96,Tryz.ntmps96
 go_wp2
 go_loopg [5] (s.length) (fun kq vn wr => ∃ (x:Nat),x ≤ (s.takeWhile Tx.wordC).length ∧ vn = .int .i64 x ∧ s.length ≤ kq + x ∧ us W wr)
 case atStart => exact ⟨0,by omega,rfl,by omega,us.refl _⟩
 case round =>
  obtain ⟨x,hx,rfl,hk,⟨m1,rfl⟩⟩:=hrel
  have hle:=Tx.tw_le Tx.wordC s
  by_cases hlt:x < s.length
  · have hst:=Tx.tw_step Tx.wordC s x hx hlt
    obtain ⟨z,HZ⟩:∃ z:Int,Aside0 ((s[x].toNat:Int) = z):=⟨_,⟨rfl⟩⟩
    have hbt:(((Base.ofL s)[x]'(by rw [hsz];exact hlt)).toNat:Int) = z:=HZ.out
    cases hp:Tx.wordC s[x] with
    | true =>
      have hx1:=hst.1 hp
      clear hst
      go_wp2_with (go_at_call 91;refine (u1m.test_named _ _ HZ.out _).mono ?_;rintro e W1 ⟨rfl,⟨nd,rfl⟩⟩)
      obtain ⟨g1,rfl⟩:∃ g1,gk = g1 + 1:=⟨gk - 1,by omega⟩
      go_roundg g1
      case rel => exact ⟨x + 1,hx1,by go_num,by omega,⟨_,rfl⟩⟩
      case measure => omega
    | false =>
      have HX:=Aside0.mk (hst.2 hp)
      clear hst
      go_wp2_with (go_at_call 91;refine (u1m.test_named _ _ HZ.out _).mono ?_;rintro e W1 ⟨rfl,⟨nd,rfl⟩⟩)
      go_ret
      exact u1m.fin Tx.wordC HS.out x _ HX.out
  · have HX:Aside0 (x = (s.takeWhile Tx.wordC).length):=⟨by omega⟩
    go_wp2
    go_ret
    exact u1m.fin Tx.wordC HS.out x _ HX.out
set_option maxHeartbeats 1000000 in
set_option maxRecDepth 100000 in
theorem u1m.calls_blank (w0 W:World) (g:Nat) (s:List UInt8) (hl:s.length ≤ 4611686018427387904) (h:ua.St w0 W g s) :
 Calls Tryz.prog 96 #[.pointer (some ⟨g,0,none⟩),.func (.func 97) #[] #[]] W fun e W' => e = .returned (.string (Base.ofL (s.takeWhile Tx.blankC))) ∧ ua.St w0 W' g (s.dropWhile Tx.blankC) ∧ u2a W W' g none:=by
 have HS:=Aside0.mk h
 obtain ⟨h0,f0⟩:=h.look
 clear h
 have hsz:(Base.ofL s).size = s.length:=(Tx.cut_ofL s 0 (by omega)).2.2
 go_enter Tryz.func96,Tryz.ntmps96
 go_wp2
 go_loopg [5] (s.length) (fun kq vn wr => ∃ (x:Nat),x ≤ (s.takeWhile Tx.blankC).length ∧ vn = .int .i64 x ∧ s.length ≤ kq + x ∧ us W wr)
 case atStart => exact ⟨0,by omega,rfl,by omega,us.refl _⟩
 case round =>
  obtain ⟨x,hx,rfl,hk,⟨m1,rfl⟩⟩:=hrel
  have hle:=Tx.tw_le Tx.blankC s
  by_cases hlt:x < s.length
  · have hst:=Tx.tw_step Tx.blankC s x hx hlt
    obtain ⟨z,HZ⟩:∃ z:Int,Aside0 ((s[x].toNat:Int) = z):=⟨_,⟨rfl⟩⟩
    have hbt:(((Base.ofL s)[x]'(by rw [hsz];exact hlt)).toNat:Int) = z:=HZ.out
    cases hp:Tx.blankC s[x] with
    | true =>
      have hx1:=hst.1 hp
      clear hst
      go_wp2_with (go_at_call 97;refine (u1m.test_blank _ _ HZ.out _).mono ?_;rintro e W1 ⟨rfl,⟨nd,rfl⟩⟩)
      obtain ⟨g1,rfl⟩:∃ g1,gk = g1 + 1:=⟨gk - 1,by omega⟩
      go_roundg g1
      case rel => exact ⟨x + 1,hx1,by go_num,by omega,⟨_,rfl⟩⟩
      case measure => omega
    | false =>
      have HX:=Aside0.mk (hst.2 hp)
      clear hst
      go_wp2_with (go_at_call 97;refine (u1m.test_blank _ _ HZ.out _).mono ?_;rintro e W1 ⟨rfl,⟨nd,rfl⟩⟩)
      go_ret
      exact u1m.fin Tx.blankC HS.out x _ HX.out
  · have HX:Aside0 (x = (s.takeWhile Tx.blankC).length):=⟨by omega⟩
    go_wp2
    go_ret
    exact u1m.fin Tx.blankC HS.out x _ HX.out
set_option maxHeartbeats 1000000 in
set_option maxRecDepth 100000 in
theorem u1m.calls_dig (hxb:Bool) (hb:Nat) (w0 W:World) (g:Nat) (s:List UInt8) (hl:s.length ≤ 4611686018427387904) (hcb:W.heap[hb]? = some (.cells #[.bool hxb] 4 (0,0))) (hbg:hb ≠ g) (h:ua.St w0 W g s) :
 Calls Tryz.prog 96 #[.pointer (some ⟨g,0,none⟩),.func (.func 147) #[] #[.pointer (some ⟨hb,0,none⟩)]] W fun e W' => e = .returned (.string (Base.ofL (s.takeWhile (Tx.digC hxb)))) ∧ ua.St w0 W' g (s.dropWhile (Tx.digC hxb)) ∧ u2a W W' g none:=by
 have HS:=Aside0.mk h
 have HB:=Aside0.mk hcb
 clear hcb
 obtain ⟨h0,f0⟩:=h.look
 clear h
 have hsz:(Base.ofL s).size = s.length:=(Tx.cut_ofL s 0 (by omega)).2.2
 go_enter Tryz.func96,Tryz.ntmps96
 go_wp2
 go_loopg [5] (s.length) (fun kq vn wr => ∃ (x:Nat),x ≤ (s.takeWhile (Tx.digC hxb)).length ∧ vn = .int .i64 x ∧ s.length ≤ kq + x ∧ us W wr)
 case atStart => exact ⟨0,by omega,rfl,by omega,us.refl _⟩
 case round =>
  obtain ⟨x,hx,rfl,hk,⟨m1,rfl⟩⟩:=hrel
  have hle:=Tx.tw_le (Tx.digC hxb) s
  by_cases hlt:x < s.length
  · have hst:=Tx.tw_step (Tx.digC hxb) s x hx hlt
    obtain ⟨z,HZ⟩:∃ z:Int,Aside0 ((s[x].toNat:Int) = z):=⟨_,⟨rfl⟩⟩
    have hbt:(((Base.ofL s)[x]'(by rw [hsz];exact hlt)).toNat:Int) = z:=HZ.out
    cases hp:(Tx.digC hxb) s[x] with
    | true =>
      have hx1:=hst.1 hp
      clear hst
      go_wp2_with (go_at_call 147;refine (u1m.test_dig hxb hb _ _ HZ.out _ (by exact HB.out)).mono ?_;rintro e W1 ⟨rfl,⟨nd,rfl⟩⟩)
      obtain ⟨g1,rfl⟩:∃ g1,gk = g1 + 1:=⟨gk - 1,by omega⟩
      go_roundg g1
      case rel => exact ⟨x + 1,hx1,by go_num,by omega,⟨_,rfl⟩⟩
      case measure => omega
    | false =>
      have HX:=Aside0.mk (hst.2 hp)
      clear hst
      go_wp2_with (go_at_call 147;refine (u1m.test_dig hxb hb _ _ HZ.out _ (by exact HB.out)).mono ?_;rintro e W1 ⟨rfl,⟨nd,rfl⟩⟩)
      go_ret
      exact u1m.fin (Tx.digC hxb) HS.out x _ HX.out
  · have HX:Aside0 (x = (s.takeWhile (Tx.digC hxb)).length):=⟨by omega⟩
    go_wp2
    go_ret
    exact u1m.fin (Tx.digC hxb) HS.out x _ HX.out
theorem u2v.calls_ok (w0 W:World) (g:Nat) (s:List UInt8) (hl:s.length ≤ 4611686018427387904) (n:ByteArray) (r:List UInt8) (hn:Tx.nameP s = some (n,r)) (h:ua.St w0 W g s) :
 Calls Tryz.prog 81 #[.pointer (some ⟨g,0,none⟩)] W fun e W' => e = .returned (.string n) ∧ ua.St w0 W' g r ∧ u2a W W' g none:=by
 unfold Tx.nameP at hn
 split at hn
 · rename_i hN
   obtain ⟨rfl,rfl⟩:=Prod.mk.inj (Option.some.inj hn)
   have HS:=Aside0.mk h
   have HN:Aside0 (u2e.f (Base.ofL (s.takeWhile Tx.wordC)) = some true):=⟨congrArg some hN⟩
   clear h hN hn
   go_enter Tryz.func81,Tryz.ntmps81
   go_wp2_with (first
    | (go_at_call 96;(with_reducible refine (u1m.calls_named w0 _ g s hl HS.out).mono ?_);rintro e W1 ⟨rfl,hs1,hk1⟩;have HS1:=Aside0.mk hs1;have HK1:=Aside0.mk hk1;clear hs1 hk1)
    | (go_at_call 29;(with_reducible refine (u2e.calls _ true _ HN.out).mono ?_);rintro e W2 ⟨rfl,hb⟩;have HB:=Aside0.mk hb;clear hb)
    | (go_at_call 83;(with_reducible refine (u2p.calls_ok _).mono ?_);rintro e W3 ⟨rfl,rfl⟩))
   go_ret
   exact ⟨rfl,HS1.out.more HB.out,HK1.out.trans (u2a.of_below HB.out g none) (Or.inl rfl)⟩
 · cases hn
theorem u2v.calls_no (w0 W:World) (g:Nat) (s:List UInt8) (hl:s.length ≤ 4611686018427387904) (hn:Tx.nameP s = none) (h:ua.St w0 W g s) :
 Calls Tryz.prog 81 #[.pointer (some ⟨g,0,none⟩)] W fun e W' => e = .panicked (u2u.chain 280) ∧ Below w0.heap.size w0 W':=by
 unfold Tx.nameP at hn
 split at hn
 · cases hn
 · rename_i hN
   have HS:=Aside0.mk h
   have HN:Aside0 (u2e.f (Base.ofL (s.takeWhile Tx.wordC)) = some false):=⟨congrArg some (show Base.nameB (Base.ofL (s.takeWhile Tx.wordC)) = false by simpa using hN)⟩
   clear h hN hn
   go_enter Tryz.func81,Tryz.ntmps81
   go_wp2_with (first
    | (go_at_call 96;(with_reducible refine (u1m.calls_named w0 _ g s hl HS.out).mono ?_);rintro e W1 ⟨rfl,hs1,hk1⟩;have HS1:=Aside0.mk hs1;clear hs1 hk1)
    | (go_at_call 29;(with_reducible refine (u2e.calls _ false _ HN.out).mono ?_);rintro e W2 ⟨rfl,hb⟩;have HB:=Aside0.mk hb;clear hb)
    | (go_at_call 83;(with_reducible refine (u2p.calls_no _).mono ?_);rintro e W3 ⟨rfl,rfl⟩))
   exact ⟨rfl,rfl,(HS1.out.more HB.out).below⟩
theorem u1s.txt (d:List UInt8):(Base.ofL d).size = d.length ∧ (d ≠ [] → (Base.ofL d).toList.isEmpty = false ∧ ¬ (Base.ofL d).toList = []) ∧ (d = [] → (Base.ofL d).toList.isEmpty = true ∧ (Base.ofL d).toList = []):=by
 refine ⟨(Tx.cut_ofL d 0 (by omega)).2.2,fun h => ?_,fun h => ?_⟩
 · rw [ByteArray.toList_eq,Base.ofL_data]
   cases d with
   | nil => exact absurd rfl h
   | cons c r => exact ⟨rfl,fun e => by cases e⟩
 · rw [ByteArray.toList_eq,Base.ofL_data,h]
   exact ⟨rfl,rfl⟩
set_option maxRecDepth 100000 in
set_option maxHeartbeats 1000000 in
theorem u1s.calls_ok (w0 W:World) (g:Nat) (hxb:Bool) (most:Nat) (s:List UInt8) (hl:s.length ≤ 1000) (hm:most ≤ 1000) (d r:List UInt8) (hd:Tx.digitsP hxb most s = some (d,r)) (h:ua.St w0 W g s) :
 Calls Tryz.prog 126 #[.pointer (some ⟨g,0,none⟩),.int .i64 (most:Int),.bool hxb] W fun e W' => e = .returned (.string (Base.ofL d)) ∧ ua.St w0 W' g r ∧ u2a W W' g none:=by
 have hmf:∀ (fn:Fn) (first cap:Array Value) (w:World),(Instr.makeFunc fn first cap).run Tryz.prog w = .ok (.func fn first cap) w:=fun _ _ _ _ => rfl
 unfold Tx.digitsP at hd
 split at hd
 · rename_i hc
   obtain ⟨rfl,rfl⟩:=Prod.mk.inj (Option.some.inj hd)
   have HS:=Aside0.mk h
   have HG:=Aside0.mk h.lt
   obtain ⟨t1,t2,_⟩:=u1s.txt (s.takeWhile (Tx.digC hxb))
   obtain ⟨t3,t4⟩:=t2 hc.1
   have t5:decide (((s.takeWhile (Tx.digC hxb)).length:Int) ≤ (most:Int)) = true:=decide_eq_true (by have:=hc.2;omega)
   have t6:decide ((s.takeWhile (Tx.digC hxb)).length ≤ most) = true:=decide_eq_true hc.2
   clear h hd t2 hc
   go_enter Tryz.func126,Tryz.ntmps126
   go_wp2_with (first
    | (go_at_call 96;(with_reducible refine (u1m.calls_dig hxb W.heap.size w0 _ g s (by omega) (by exact ua.new_at W _) (by have:=HG.out;omega) (by exact HS.out.one_more _)).mono ?_);rintro e W1 ⟨rfl,hs1,hk1⟩;have HS1:=Aside0.mk hs1;have HK1:=Aside0.mk hk1;clear hs1 hk1)
    | (go_at_call 83;(with_reducible refine (u2p.calls_ok _).mono ?_);rintro e W3 ⟨rfl,rfl⟩))
   go_ret
   exact ⟨rfl,HS1.out,ua.keep_from HK1.out⟩
 · cases hd
set_option maxRecDepth 100000 in
set_option maxHeartbeats 1000000 in
theorem u1s.calls_no (w0 W:World) (g:Nat) (hxb:Bool) (most:Nat) (s:List UInt8) (hl:s.length ≤ 1000) (hm:most ≤ 1000) (hd:Tx.digitsP hxb most s = none) (h:ua.St w0 W g s) :
 Calls Tryz.prog 126 #[.pointer (some ⟨g,0,none⟩),.int .i64 (most:Int),.bool hxb] W fun e W' => e = .panicked (u2u.chain 280) ∧ Below w0.heap.size w0 W':=by
 have hmf:∀ (fn:Fn) (first cap:Array Value) (w:World),(Instr.makeFunc fn first cap).run Tryz.prog w = .ok (.func fn first cap) w:=fun _ _ _ _ => rfl
 unfold Tx.digitsP at hd
 split at hd
 · cases hd
 · rename_i hc
   have HS:=Aside0.mk h
   have HG:=Aside0.mk h.lt
   clear h hd
   by_cases he:s.takeWhile (Tx.digC hxb) = []
   · obtain ⟨t1,_,t2⟩:=u1s.txt (s.takeWhile (Tx.digC hxb))
     obtain ⟨t3,t4⟩:=t2 he
     clear t2 t1 hc he
     go_enter Tryz.func126,Tryz.ntmps126
     go_wp2_with (first
      | (go_at_call 96;(with_reducible refine (u1m.calls_dig hxb W.heap.size w0 _ g s (by omega) (by exact ua.new_at W _) (by have:=HG.out;omega) (by exact HS.out.one_more _)).mono ?_);rintro e W1 ⟨rfl,hs1,hk1⟩;have HS1:=Aside0.mk hs1;clear hs1 hk1)
      | (go_at_call 83;(with_reducible refine (u2p.calls_no _).mono ?_);rintro e W3 ⟨rfl,rfl⟩))
     exact ⟨rfl,rfl,HS1.out.below⟩
   · obtain ⟨t1,t2,_⟩:=u1s.txt (s.takeWhile (Tx.digC hxb))
     obtain ⟨t3,t4⟩:=t2 he
     have hgt:¬ (s.takeWhile (Tx.digC hxb)).length ≤ most:=fun h9 => hc ⟨he,h9⟩
     have t5:decide (((s.takeWhile (Tx.digC hxb)).length:Int) ≤ (most:Int)) = false:=decide_eq_false (by omega)
     have t6:decide ((s.takeWhile (Tx.digC hxb)).length ≤ most) = false:=decide_eq_false hgt
     clear t2 hc he
     go_enter Tryz.func126,Tryz.ntmps126
     go_wp2_with (first
      | (go_at_call 96;(with_reducible refine (u1m.calls_dig hxb W.heap.size w0 _ g s (by omega) (by exact ua.new_at W _) (by have:=HG.out;omega) (by exact HS.out.one_more _)).mono ?_);rintro e W1 ⟨rfl,hs1,hk1⟩;have HS1:=Aside0.mk hs1;clear hs1 hk1)
      | (go_at_call 83;(with_reducible refine (u2p.calls_no _).mono ?_);rintro e W3 ⟨rfl,rfl⟩))
     exact ⟨rfl,rfl,HS1.out.below⟩
theorem u1s.ok_at (most:Nat) (mi:Int) (hmi:(most:Int) = mi) (w0 W:World) (g:Nat) (hxb:Bool) (s:List UInt8) (hl:s.length ≤ 1000) (hm:most ≤ 1000) (d r:List UInt8) (hd:Tx.digitsP hxb most s = some (d,r)) (h:ua.St w0 W g s) :
 Calls Tryz.prog 126 #[.pointer (some ⟨g,0,none⟩),.int .i64 mi,.bool hxb] W fun e W' => e = .returned (.string (Base.ofL d)) ∧ ua.St w0 W' g r ∧ u2a W W' g none:=by
 subst hmi
 exact u1s.calls_ok w0 W g hxb most s hl hm d r hd h
theorem u1s.no_at (most:Nat) (mi:Int) (hmi:(most:Int) = mi) (w0 W:World) (g:Nat) (hxb:Bool) (s:List UInt8) (hl:s.length ≤ 1000) (hm:most ≤ 1000) (hd:Tx.digitsP hxb most s = none) (h:ua.St w0 W g s) :
 Calls Tryz.prog 126 #[.pointer (some ⟨g,0,none⟩),.int .i64 mi,.bool hxb] W fun e W' => e = .panicked (u2u.chain 280) ∧ Below w0.heap.size w0 W':=by
 subst hmi
 exact u1s.calls_no w0 W g hxb most s hl hm hd h
def u1j.dig (z:Int):Int:=if 97 ≤ z then z - 87 else z - 48
def u1j.num (base:Int):List Int → Int → Option Int
 | [],n => some n
 | c :: r,n => if n ≤ (18446744073709551615 - u1j.dig c) / base then u1j.num base r (n * base + u1j.dig c) else none
theorem u1j.u64_id (x:Int) (h0:0 ≤ x) (h1:x ≤ 18446744073709551615):IntKind.u64.wrap x = x:=by
 unfold IntKind.wrap
 simp only [IntKind.signed,IntKind.bits,Bool.false_and,Bool.false_eq_true,if_false]
 omega
theorem u1j.quo {base d:Int} (hb:base = 10 ∨ base = 16) (h0:0 ≤ d) (h1:d ≤ 15):IntKind.u64.wrap ((18446744073709551615 - d).tdiv base) = (18446744073709551615 - d) / base:=by
 rw [Int.tdiv_eq_ediv_of_nonneg (by omega)]
 rcases hb with rfl | rfl <;> exact u1j.u64_id _ (by omega) (by omega)
theorem u1j.fits {base d m:Int} (hb:base = 10 ∨ base = 16) (h0:0 ≤ d) (h1:d ≤ 15) (hm:0 ≤ m) (h:m ≤ (18446744073709551615 - d) / base):0 ≤ m * base + d ∧ m * base + d ≤ 18446744073709551615 ∧ IntKind.u64.wrap (m * base) = m * base ∧ IntKind.u64.wrap (m * base + d) = m * base + d:=by
 rcases hb with rfl | rfl <;> exact ⟨by omega,by omega,u1j.u64_id _ (by omega) (by omega),u1j.u64_id _ (by omega) (by omega)⟩
theorem u1j.rd_at (l:List Int) (x:Nat) (h:x < l.length):rd l (x:Int) ∈ l ∧ l.drop x = rd l (x:Int) :: l.drop (x + 1):=by
 have e:rd l (x:Int) = l[x]:=by simp [rd,List.getD_eq_getElem?_getD,h]
 rw [e]
 exact ⟨List.getElem_mem h,List.drop_eq_getElem_cons h⟩
theorem u1j.add_at (b x:Nat):(⟨b,0,none⟩:Addr).add ((x:Int).toNat) = ⟨b,x,none⟩:=by
 rw [show (x:Int).toNat = x from rfl]
 unfold Addr.add
 split
 · rename_i h
   rw [h]
 · simp
set_option maxRecDepth 100000 in
set_option maxHeartbeats 1000000 in
theorem u1j.calls_ok (s:ByteArray) (base:Int) (hb:base = 10 ∨ base = 16) (hs:s.size ≤ 1000) (hd:∀ c ∈ bytesOf s,(48 ≤ c ∧ c ≤ 57) ∨ (97 ≤ c ∧ c ≤ 102)) (n:Int) (hn:u1j.num base (bytesOf s) 0 = some n) (w:World) :
 Calls Tryz.prog 125 #[.string s,.int .u64 base] w fun e w' => e = .returned (.int .u64 n) ∧ Below w.heap.size w w':=by
 have kb:=fun W => print_bytes (P:=Tryz.prog) 9 22 5 Tryz.underlying9 Tryz.underlying22 Tryz.underlying5 s W
 have HD:=Aside0.mk hd
 have HN:=Aside0.mk hn
 have HBs:=Aside0.mk hb
 have hlen:=bytesOf_length s
 have HR:=Aside0.mk (bytes_reads w 5 s (by omega))
 have h0b:(base == 0) = false:=beq_eq_false_iff_ne.2 (by omega)
 have h0c:¬ base = 0:=by omega
 clear hd hn hb
 go_enter Tryz.func125,Tryz.ntmps125
 go_wp2
 go_loopg [5,12] (s.size) (fun kq v5 v12 wr => ∃ (x:Nat) (m:Int),x ≤ s.size ∧ v12 = .int .i64 x ∧ v5 = .int .u64 m ∧ Aside0 (u1j.num base ((bytesOf s).drop x) m = some n) ∧ Aside0 (0 ≤ m ∧ m ≤ 18446744073709551615) ∧ s.size ≤ kq + x ∧ us (Lib.bytesWorld w 5 s) wr)
 case atStart => exact ⟨0,0,by omega,rfl,rfl,⟨by simpa using HN.out⟩,⟨by omega⟩,by omega,us.refl _⟩
 case round =>
  clear HN
  obtain ⟨x,m,hx,rfl,rfl,HN,HM,hk,⟨m1,rfl⟩⟩:=hrel
  by_cases hlt:x < s.size
  · obtain ⟨ad,e,hc⟩:=Kd.at_int (Kd.C_of_reads (d:=(0:Int)) (h1:=fun _ => rfl) HR.out) (x:Int) (by omega) (by omega)
    obtain rfl:ad = ⟨w.heap.size,0,none⟩:=by injection e with e;exact e.symm
    clear e
    obtain ⟨hmem,hdrop⟩:=u1j.rd_at (bytesOf s) x (by omega)
    obtain ⟨z,HZ⟩:∃ z:Int,Aside0 (rd (bytesOf s) (x:Int) = z):=⟨_,⟨rfl⟩⟩
    rw [HZ.out] at hc hdrop hmem
    rw [u1j.add_at] at hc
    have hz:=HD.out z hmem
    rw [hdrop] at HN
    clear hdrop hmem
    by_cases h97:97 ≤ z
    · have h102:z ≤ 102:=by omega
      have h48:48 ≤ z:=by omega
      have hdz:u1j.dig z = (z - 97 + 10):=by unfold u1j.dig;rw [if_pos h97];omega
      have hq:=u1j.quo (d:=(z - 97 + 10)) HBs.out (by omega) (by omega)
      unfold u1j.num at HN
      rw [hdz] at HN
      have HQ:=Aside0.mk hq
      clear hz hdz hq
      by_cases hle:m ≤ (18446744073709551615 - (z - 97 + 10)) / base
      · have HF:=Aside0.mk (u1j.fits (d:=(z - 97 + 10)) HBs.out (by omega) (by omega) HM.out.1 hle)
        have HT:Aside0 (decide (m ≤ IntKind.u64.wrap ((18446744073709551615 - (z - 97 + 10)).tdiv base)) = true):=⟨by rw [HQ.out];exact decide_eq_true hle⟩
        rw [if_pos hle] at HN
        clear hle
        go_wp2_with (go_at_call 83;(with_reducible refine (u2p.calls_yes _ HT.out _).mono ?_);rintro e W3 ⟨rfl,rfl⟩)
        obtain ⟨g1,rfl⟩:∃ g1,gk = g1 + 1:=⟨gk - 1,by omega⟩
        go_roundg g1
        case rel =>
         obtain ⟨f1,f2,f3,f4⟩:=HF.out
         exact ⟨x + 1,m * base + (z - 97 + 10),by omega,by go_num,by first | (rw [f3,f4];done) | (rw [f4];done) | (simp only [f3,f4];done),HN,⟨⟨f1,f2⟩⟩,by omega,⟨_,rfl⟩⟩
        case measure => omega
      · have HT:Aside0 (decide (m ≤ IntKind.u64.wrap ((18446744073709551615 - (z - 97 + 10)).tdiv base)) = false):=⟨by rw [HQ.out];exact decide_eq_false hle⟩
        rw [if_neg hle] at HN
        clear hle
        cases HN.out
    · have h102:z ≤ 57:=by omega
      have h48:48 ≤ z:=by omega
      have hdz:u1j.dig z = (z - 48):=by unfold u1j.dig;rw [if_neg h97]
      have hq:=u1j.quo (d:=(z - 48)) HBs.out (by omega) (by omega)
      unfold u1j.num at HN
      rw [hdz] at HN
      have HQ:=Aside0.mk hq
      clear hz hdz hq
      by_cases hle:m ≤ (18446744073709551615 - (z - 48)) / base
      · have HF:=Aside0.mk (u1j.fits (d:=(z - 48)) HBs.out (by omega) (by omega) HM.out.1 hle)
        have HT:Aside0 (decide (m ≤ IntKind.u64.wrap ((18446744073709551615 - (z - 48)).tdiv base)) = true):=⟨by rw [HQ.out];exact decide_eq_true hle⟩
        rw [if_pos hle] at HN
        clear hle
        go_wp2_with (go_at_call 83;(with_reducible refine (u2p.calls_yes _ HT.out _).mono ?_);rintro e W3 ⟨rfl,rfl⟩)
        obtain ⟨g1,rfl⟩:∃ g1,gk = g1 + 1:=⟨gk - 1,by omega⟩
        go_roundg g1
        case rel =>
         obtain ⟨f1,f2,f3,f4⟩:=HF.out
         exact ⟨x + 1,m * base + (z - 48),by omega,by go_num,by first | (rw [f3,f4];done) | (rw [f4];done) | (simp only [f3,f4];done),HN,⟨⟨f1,f2⟩⟩,by omega,⟨_,rfl⟩⟩
        case measure => omega
      · have HT:Aside0 (decide (m ≤ IntKind.u64.wrap ((18446744073709551615 - (z - 48)).tdiv base)) = false):=⟨by rw [HQ.out];exact decide_eq_false hle⟩
        rw [if_neg hle] at HN
        clear hle
        cases HN.out
  · have HE:Aside0 (m = n):=⟨by
     have h1:=HN.out
     rw [List.drop_eq_nil_of_le (by omega)] at h1
     exact Option.some.inj h1⟩
    go_wp2
    go_ret
    exact ⟨by rw [HE.out];rfl,ub (bytes_below (Below.refl _ _) (Nat.le_refl _) _ _) m1⟩
set_option maxRecDepth 100000 in
set_option maxHeartbeats 1000000 in
theorem u1j.calls_no (s:ByteArray) (base:Int) (hb:base = 10 ∨ base = 16) (hs:s.size ≤ 1000) (hd:∀ c ∈ bytesOf s,(48 ≤ c ∧ c ≤ 57) ∨ (97 ≤ c ∧ c ≤ 102)) (hn:u1j.num base (bytesOf s) 0 = none) (w:World) :
 Calls Tryz.prog 125 #[.string s,.int .u64 base] w fun e w' => e = .panicked (u2u.chain 280) ∧ Below w.heap.size w w':=by
 have kb:=fun W => print_bytes (P:=Tryz.prog) 9 22 5 Tryz.underlying9 Tryz.underlying22 Tryz.underlying5 s W
 have HD:=Aside0.mk hd
 have HN:=Aside0.mk hn
 have HBs:=Aside0.mk hb
 have hlen:=bytesOf_length s
 have HR:=Aside0.mk (bytes_reads w 5 s (by omega))
 have h0b:(base == 0) = false:=beq_eq_false_iff_ne.2 (by omega)
 have h0c:¬ base = 0:=by omega
 clear hd hn hb
 go_enter Tryz.func125,Tryz.ntmps125
 go_wp2
 go_loopg [5,12] (s.size) (fun kq v5 v12 wr => ∃ (x:Nat) (m:Int),x ≤ s.size ∧ v12 = .int .i64 x ∧ v5 = .int .u64 m ∧ Aside0 (u1j.num base ((bytesOf s).drop x) m = none) ∧ Aside0 (0 ≤ m ∧ m ≤ 18446744073709551615) ∧ s.size ≤ kq + x ∧ us (Lib.bytesWorld w 5 s) wr)
 case atStart => exact ⟨0,0,by omega,rfl,rfl,⟨by simpa using HN.out⟩,⟨by omega⟩,by omega,us.refl _⟩
 case round =>
  clear HN
  obtain ⟨x,m,hx,rfl,rfl,HN,HM,hk,⟨m1,rfl⟩⟩:=hrel
  by_cases hlt:x < s.size
  · obtain ⟨ad,e,hc⟩:=Kd.at_int (Kd.C_of_reads (d:=(0:Int)) (h1:=fun _ => rfl) HR.out) (x:Int) (by omega) (by omega)
    obtain rfl:ad = ⟨w.heap.size,0,none⟩:=by injection e with e;exact e.symm
    clear e
    obtain ⟨hmem,hdrop⟩:=u1j.rd_at (bytesOf s) x (by omega)
    obtain ⟨z,HZ⟩:∃ z:Int,Aside0 (rd (bytesOf s) (x:Int) = z):=⟨_,⟨rfl⟩⟩
    rw [HZ.out] at hc hdrop hmem
    rw [u1j.add_at] at hc
    have hz:=HD.out z hmem
    rw [hdrop] at HN
    clear hdrop hmem
    by_cases h97:97 ≤ z
    · have h102:z ≤ 102:=by omega
      have h48:48 ≤ z:=by omega
      have hdz:u1j.dig z = (z - 97 + 10):=by unfold u1j.dig;rw [if_pos h97];omega
      have hq:=u1j.quo (d:=(z - 97 + 10)) HBs.out (by omega) (by omega)
      unfold u1j.num at HN
      rw [hdz] at HN
      have HQ:=Aside0.mk hq
      clear hz hdz hq
      by_cases hle:m ≤ (18446744073709551615 - (z - 97 + 10)) / base
      · have HF:=Aside0.mk (u1j.fits (d:=(z - 97 + 10)) HBs.out (by omega) (by omega) HM.out.1 hle)
        have HT:Aside0 (decide (m ≤ IntKind.u64.wrap ((18446744073709551615 - (z - 97 + 10)).tdiv base)) = true):=⟨by rw [HQ.out];exact decide_eq_true hle⟩
        rw [if_pos hle] at HN
        clear hle
        go_wp2_with (go_at_call 83;(with_reducible refine (u2p.calls_yes _ HT.out _).mono ?_);rintro e W3 ⟨rfl,rfl⟩)
        obtain ⟨g1,rfl⟩:∃ g1,gk = g1 + 1:=⟨gk - 1,by omega⟩
        go_roundg g1
        case rel =>
         obtain ⟨f1,f2,f3,f4⟩:=HF.out
         exact ⟨x + 1,m * base + (z - 97 + 10),by omega,by go_num,by first | (rw [f3,f4];done) | (rw [f4];done) | (simp only [f3,f4];done),HN,⟨⟨f1,f2⟩⟩,by omega,⟨_,rfl⟩⟩
        case measure => omega
      · have HT:Aside0 (decide (m ≤ IntKind.u64.wrap ((18446744073709551615 - (z - 97 + 10)).tdiv base)) = false):=⟨by rw [HQ.out];exact decide_eq_false hle⟩
        rw [if_neg hle] at HN
        clear hle
        go_wp2_with (go_at_call 83;(with_reducible refine (u2p.calls_not _ HT.out _).mono ?_);rintro e W3 ⟨rfl,rfl⟩)
        exact ⟨rfl,rfl,ub (bytes_below (Below.refl _ _) (Nat.le_refl _) _ _) m1⟩
    · have h102:z ≤ 57:=by omega
      have h48:48 ≤ z:=by omega
      have hdz:u1j.dig z = (z - 48):=by unfold u1j.dig;rw [if_neg h97]
      have hq:=u1j.quo (d:=(z - 48)) HBs.out (by omega) (by omega)
      unfold u1j.num at HN
      rw [hdz] at HN
      have HQ:=Aside0.mk hq
      clear hz hdz hq
      by_cases hle:m ≤ (18446744073709551615 - (z - 48)) / base
      · have HF:=Aside0.mk (u1j.fits (d:=(z - 48)) HBs.out (by omega) (by omega) HM.out.1 hle)
        have HT:Aside0 (decide (m ≤ IntKind.u64.wrap ((18446744073709551615 - (z - 48)).tdiv base)) = true):=⟨by rw [HQ.out];exact decide_eq_true hle⟩
        rw [if_pos hle] at HN
        clear hle
        go_wp2_with (go_at_call 83;(with_reducible refine (u2p.calls_yes _ HT.out _).mono ?_);rintro e W3 ⟨rfl,rfl⟩)
        obtain ⟨g1,rfl⟩:∃ g1,gk = g1 + 1:=⟨gk - 1,by omega⟩
        go_roundg g1
        case rel =>
         obtain ⟨f1,f2,f3,f4⟩:=HF.out
         exact ⟨x + 1,m * base + (z - 48),by omega,by go_num,by first | (rw [f3,f4];done) | (rw [f4];done) | (simp only [f3,f4];done),HN,⟨⟨f1,f2⟩⟩,by omega,⟨_,rfl⟩⟩
        case measure => omega
      · have HT:Aside0 (decide (m ≤ IntKind.u64.wrap ((18446744073709551615 - (z - 48)).tdiv base)) = false):=⟨by rw [HQ.out];exact decide_eq_false hle⟩
        rw [if_neg hle] at HN
        clear hle
        go_wp2_with (go_at_call 83;(with_reducible refine (u2p.calls_not _ HT.out _).mono ?_);rintro e W3 ⟨rfl,rfl⟩)
        exact ⟨rfl,rfl,ub (bytes_below (Below.refl _ _) (Nat.le_refl _) _ _) m1⟩
  · have h1:=HN.out
    rw [List.drop_eq_nil_of_le (by omega)] at h1
    cases h1
theorem u1j.num_is (base:Int):∀ (d:List UInt8) (n:Int),u1j.num base (d.map fun c => (c.toNat:Int)) n = Tx.numL base d n
 | [],n => rfl
 | c :: d,n => by
   have e:u1j.dig (c.toNat:Int) = Tx.digV c:=by
    unfold u1j.dig Tx.digV
    by_cases h:97 ≤ c.toNat
    · rw [if_pos h,if_pos (by omega)]
    · rw [if_neg h,if_neg (by omega)]
   rw [List.map_cons]
   unfold u1j.num Tx.numL
   rw [e,u1j.num_is base d]
theorem u1j.bytes_ofL (d:List UInt8):bytesOf (Base.ofL d) = d.map fun c => (c.toNat:Int):=by
 unfold bytesOf
 rw [Base.ofL_data]
theorem u1j.bytes_hex {d:List UInt8} (hd:∀ c ∈ d,Tx.hexC c = true):∀ c ∈ bytesOf (Base.ofL d),(48 ≤ c ∧ c ≤ 57) ∨ (97 ≤ c ∧ c ≤ 102):=by
 rw [u1j.bytes_ofL]
 intro z hz
 obtain ⟨c,hc,rfl⟩:=List.mem_map.1 hz
 have h:=hd c hc
 unfold Tx.hexC Tx.decC at h
 simp only [Bool.or_eq_true,Bool.and_eq_true,decide_eq_true_eq] at h
 omega
theorem u1j.says (d:List UInt8) (base:Int) (hb:base = 10 ∨ base = 16) (hs:d.length ≤ 1000) (hd:∀ c ∈ d,Tx.hexC c = true) (n:Int) (hn:Tx.numL base d 0 = some n) (w:World) :
 Calls Tryz.prog 125 #[.string (Base.ofL d),.int .u64 base] w fun e w' => e = .returned (.int .u64 n) ∧ Below w.heap.size w w' :=
 u1j.calls_ok (Base.ofL d) base hb (by rw [(Tx.cut_ofL d 0 (by omega)).2.2];exact hs) (u1j.bytes_hex hd) n (by rw [u1j.bytes_ofL,u1j.num_is];exact hn) w
theorem u1j.says_no (d:List UInt8) (base:Int) (hb:base = 10 ∨ base = 16) (hs:d.length ≤ 1000) (hd:∀ c ∈ d,Tx.hexC c = true) (hn:Tx.numL base d 0 = none) (w:World) :
 Calls Tryz.prog 125 #[.string (Base.ofL d),.int .u64 base] w fun e w' => e = .panicked (u2u.chain 280) ∧ Below w.heap.size w w' :=
 u1j.calls_no (Base.ofL d) base hb (by rw [(Tx.cut_ofL d 0 (by omega)).2.2];exact hs) (u1j.bytes_hex hd) (by rw [u1j.bytes_ofL,u1j.num_is];exact hn) w
theorem u1o.cut_pre (p s:List UInt8):u1z.f (Base.ofL s) (Base.ofL p) = if p.isPrefixOf s = true then some (Base.ofL (s.drop p.length),true) else some (Base.ofL s,false):=by
 have hs:(Base.ofL s).size = s.length:=(Tx.cut_ofL s 0 (by omega)).2.2
 have hp:(Base.ofL p).size = p.length:=(Tx.cut_ofL p 0 (by omega)).2.2
 unfold u1z.f u2s.f u2b.f
 rw [hs,hp]
 by_cases h:p.length ≤ s.length
 · have e1:((Base.ofL s).extract 0 ((p.length:Int)).toNat).toList = s.take p.length:=by
    rw [ByteArray.toList_eq,Base.extract_list,Base.ofL_data]
    simp
   have e2:(Base.ofL p).toList = p:=by rw [ByteArray.toList_eq,Base.ofL_data]
   have e3:(Base.ofL s).extract ((p.length:Int)).toNat s.length = Base.ofL (s.drop p.length):=by
    have:=(Tx.cut_ofL s p.length h).2.1
    rw [hs] at this
    simpa using this
   have e4:(s.take p.length == p) = p.isPrefixOf s:=by
    rw [Bool.eq_iff_iff,beq_iff_eq,List.isPrefixOf_iff_prefix]
    constructor
    · intro e
      rw [← e]
      exact List.take_prefix _ _
    · intro e
      exact (List.prefix_iff_eq_take.1 e).symm
   rw [if_pos (by omega),if_pos (by omega),if_pos (by omega),e1,e2,e4,e3]
   cases p.isPrefixOf s <;> simp [h]
 · have e5:p.isPrefixOf s = false:=by
    cases e:p.isPrefixOf s with
    | false => rfl
    | true => exact absurd (List.IsPrefix.length_le (List.isPrefixOf_iff_prefix.1 e)) h
   rw [if_neg (by omega),e5]
   rfl
theorem u1o.dig_all {h:Bool} {s:List UInt8}:∀ c ∈ s.takeWhile (Tx.digC h),Tx.hexC c = true:=by
 intro c hc
 have h1:Tx.digC h c = true:=by
  have:=List.all_takeWhile (p:=Tx.digC h) (l:=s)
  exact List.all_eq_true.1 this c hc
 unfold Tx.digC at h1
 cases h with
 | true => simpa using h1
 | false =>
   have h2:Tx.decC c = true:=by simpa using h1
   unfold Tx.hexC
   rw [h2]
   rfl
theorem u1o.dig_is {h:Bool} {most:Nat} {s d r:List UInt8} (hd:Tx.digitsP h most s = some (d,r)):(∀ c ∈ d,Tx.hexC c = true) ∧ d.length ≤ most ∧ r.length ≤ s.length:=by
 unfold Tx.digitsP at hd
 split at hd
 · rename_i hc
   obtain ⟨rfl,rfl⟩:=Prod.mk.inj (Option.some.inj hd)
   refine ⟨u1o.dig_all,hc.2,?_⟩
   have h1:=congrArg List.length (List.takeWhile_append_dropWhile (p:=Tx.digC h) (l:=s))
   rw [List.length_append] at h1
   omega
 · cases hd
set_option maxRecDepth 100000 in
set_option maxHeartbeats 1000000 in
theorem u1o.hex_ok (w0 W:World) (g:Nat) (s:List UInt8) (hl:s.length ≤ 1000) (q:List UInt8) (hs:s = 48 :: 120 :: q) (n:Int) (r:List UInt8) (hv:Tx.valueD true 16 16 q = some (n,r)) (h:ua.St w0 W g s) :
 Calls Tryz.prog 98 #[.pointer (some ⟨g,0,none⟩)] W fun e W' => e = .returned (.int .u64 n) ∧ ua.St w0 W' g r ∧ u2a W W' g none:=by
 unfold Tx.valueD at hv
 obtain ⟨⟨d,r'⟩,hd,hv⟩:=Option.bind_eq_some_iff.1 hv
 obtain ⟨n',hn,hv⟩:=Option.map_eq_some_iff.1 hv
 obtain ⟨rfl,rfl⟩:=Prod.mk.inj hv
 simp only at hn
 obtain ⟨ha,hdl,hrl⟩:=u1o.dig_is hd
 have HA:=Aside0.mk ha
 have HD:=Aside0.mk hd
 have HN:=Aside0.mk hn
 have hq:q.length ≤ 1000:=by rw [hs,List.length_cons,List.length_cons] at hl;omega
 have HC:Aside0 (u1z.f (Base.ofL (48 :: 120 :: q)) (⟨#[48,120]⟩:ByteArray) = some (Base.ofL q,true)):=⟨by
  have e:=u1o.cut_pre [48,120] s
  rw [hs,if_pos (by simp [List.isPrefixOf])] at e
  exact e⟩
 subst hs
 have HS:=Aside0.mk h
 obtain ⟨h0,f0⟩:=h.look
 clear h
 clear ha hd hn hv
 go_enter Tryz.func98,Tryz.ntmps98
 go_wp2_with (first
  | (go_at_call 117;(with_reducible refine (u1z.calls _ _ _ _ _ HC.out).mono ?_);rintro e W1 ⟨rfl,⟨nd,rfl⟩⟩)
  | (go_at_call 126;(with_reducible refine (u1s.ok_at 16 16 rfl w0 _ g true q (by omega) (by omega) d r' HD.out (by exact (HS.out.drew nd).set q)).mono ?_);rintro e W2 ⟨rfl,hs2,hk2⟩;have HS2:=Aside0.mk hs2;have HK2:=Aside0.mk hk2;clear hs2 hk2)
  | (go_at_call 125;(with_reducible refine (u1j.says d 16 (by omega) (by omega) HA.out n' HN.out _).mono ?_);rintro e W3 ⟨rfl,hb3⟩;have HB3:=Aside0.mk hb3;clear hb3))
 go_ret
 exact ⟨rfl,HS2.out.more HB3.out,ua.keep_then ((u2a.of_below (ub (Below.refl _ _) nd) g none).set_ 0 _) (ua.keep_then HK2.out (u2a.of_below HB3.out g none))⟩
set_option maxRecDepth 100000 in
set_option maxHeartbeats 1000000 in
theorem u1o.hex_no (w0 W:World) (g:Nat) (s:List UInt8) (hl:s.length ≤ 1000) (q:List UInt8) (hs:s = 48 :: 120 :: q) (hv:Tx.valueD true 16 16 q = none) (h:ua.St w0 W g s) :
 Calls Tryz.prog 98 #[.pointer (some ⟨g,0,none⟩)] W fun e W' => e = .panicked (u2u.chain 280) ∧ Below w0.heap.size w0 W':=by
 unfold Tx.valueD at hv
 have hq:q.length ≤ 1000:=by rw [hs,List.length_cons,List.length_cons] at hl;omega
 have HC:Aside0 (u1z.f (Base.ofL (48 :: 120 :: q)) (⟨#[48,120]⟩:ByteArray) = some (Base.ofL q,true)):=⟨by
  have e:=u1o.cut_pre [48,120] s
  rw [hs,if_pos (by simp [List.isPrefixOf])] at e
  exact e⟩
 subst hs
 have HS:=Aside0.mk h
 obtain ⟨h0,f0⟩:=h.look
 clear h
 cases hd:Tx.digitsP true 16 q with
 | none =>
   have HD:=Aside0.mk hd
   clear hd hv
   go_enter Tryz.func98,Tryz.ntmps98
   go_wp2_with (first
    | (go_at_call 117;(with_reducible refine (u1z.calls _ _ _ _ _ HC.out).mono ?_);rintro e W1 ⟨rfl,⟨nd,rfl⟩⟩)
    | (go_at_call 126;(with_reducible refine (u1s.no_at 16 16 rfl w0 _ g true q (by omega) (by omega) HD.out (by exact (HS.out.drew nd).set q)).mono ?_);rintro e W2 ⟨rfl,hb2⟩))
   exact ⟨rfl,rfl,hb2⟩
 | some p =>
   obtain ⟨d,r⟩:=p
   rw [hd] at hv
   have hn:Tx.numL 16 d 0 = none:=by simpa using hv
   obtain ⟨ha,hdl,hrl⟩:=u1o.dig_is hd
   have HA:=Aside0.mk ha
   have HD:=Aside0.mk hd
   have HN:=Aside0.mk hn
   clear ha hd hn hv
   go_enter Tryz.func98,Tryz.ntmps98
   go_wp2_with (first
    | (go_at_call 117;(with_reducible refine (u1z.calls _ _ _ _ _ HC.out).mono ?_);rintro e W1 ⟨rfl,⟨nd,rfl⟩⟩)
    | (go_at_call 126;(with_reducible refine (u1s.ok_at 16 16 rfl w0 _ g true q (by omega) (by omega) d r HD.out (by exact (HS.out.drew nd).set q)).mono ?_);rintro e W2 ⟨rfl,hs2,hk2⟩;have HS2:=Aside0.mk hs2;have HK2:=Aside0.mk hk2;clear hs2 hk2)
    | (go_at_call 125;(with_reducible refine (u1j.says_no d 16 (by omega) (by omega) HA.out HN.out _).mono ?_);rintro e W3 ⟨rfl,hb3⟩))
   exact ⟨rfl,rfl,(HS2.out.more hb3).below⟩
set_option maxRecDepth 100000 in
set_option maxHeartbeats 1000000 in
theorem u1o.dec_ok (w0 W:World) (g:Nat) (s:List UInt8) (hl:s.length ≤ 1000) (hs:([48,120]:List UInt8).isPrefixOf s = false) (n:Int) (r:List UInt8) (hv:Tx.valueD false 20 10 s = some (n,r)) (h:ua.St w0 W g s) :
 Calls Tryz.prog 98 #[.pointer (some ⟨g,0,none⟩)] W fun e W' => e = .returned (.int .u64 n) ∧ ua.St w0 W' g r ∧ u2a W W' g none:=by
 unfold Tx.valueD at hv
 obtain ⟨⟨d,r'⟩,hd,hv⟩:=Option.bind_eq_some_iff.1 hv
 obtain ⟨n',hn,hv⟩:=Option.map_eq_some_iff.1 hv
 obtain ⟨rfl,rfl⟩:=Prod.mk.inj hv
 simp only at hn
 obtain ⟨ha,hdl,hrl⟩:=u1o.dig_is hd
 have HA:=Aside0.mk ha
 have HD:=Aside0.mk hd
 have HN:=Aside0.mk hn
 have HC:Aside0 (u1z.f (Base.ofL s) (⟨#[48,120]⟩:ByteArray) = some (Base.ofL s,false)):=⟨by
  have e:=u1o.cut_pre [48,120] s
  rw [if_neg (by rw [hs];decide)] at e
  exact e⟩
 clear hs
 have HS:=Aside0.mk h
 obtain ⟨h0,f0⟩:=h.look
 clear h
 clear ha hd hn hv
 go_enter Tryz.func98,Tryz.ntmps98
 go_wp2_with (first
  | (go_at_call 117;(with_reducible refine (u1z.calls _ _ _ _ _ HC.out).mono ?_);rintro e W1 ⟨rfl,⟨nd,rfl⟩⟩)
  | (go_at_call 126;(with_reducible refine (u1s.ok_at 20 20 rfl w0 _ g false s (by omega) (by omega) d r' HD.out (by exact HS.out.drew nd)).mono ?_);rintro e W2 ⟨rfl,hs2,hk2⟩;have HS2:=Aside0.mk hs2;have HK2:=Aside0.mk hk2;clear hs2 hk2)
  | (go_at_call 125;(with_reducible refine (u1j.says d 10 (by omega) (by omega) HA.out n' HN.out _).mono ?_);rintro e W3 ⟨rfl,hb3⟩;have HB3:=Aside0.mk hb3;clear hb3))
 go_ret
 exact ⟨rfl,HS2.out.more HB3.out,ua.keep_then (u2a.of_below (ub (Below.refl _ _) nd) g none) (ua.keep_then HK2.out (u2a.of_below HB3.out g none))⟩
set_option maxRecDepth 100000 in
set_option maxHeartbeats 1000000 in
theorem u1o.dec_no (w0 W:World) (g:Nat) (s:List UInt8) (hl:s.length ≤ 1000) (hs:([48,120]:List UInt8).isPrefixOf s = false) (hv:Tx.valueD false 20 10 s = none) (h:ua.St w0 W g s) :
 Calls Tryz.prog 98 #[.pointer (some ⟨g,0,none⟩)] W fun e W' => e = .panicked (u2u.chain 280) ∧ Below w0.heap.size w0 W':=by
 unfold Tx.valueD at hv
 have HC:Aside0 (u1z.f (Base.ofL s) (⟨#[48,120]⟩:ByteArray) = some (Base.ofL s,false)):=⟨by
  have e:=u1o.cut_pre [48,120] s
  rw [if_neg (by rw [hs];decide)] at e
  exact e⟩
 clear hs
 have HS:=Aside0.mk h
 obtain ⟨h0,f0⟩:=h.look
 clear h
 cases hd:Tx.digitsP false 20 s with
 | none =>
   have HD:=Aside0.mk hd
   clear hd hv
   go_enter Tryz.func98,Tryz.ntmps98
   go_wp2_with (first
    | (go_at_call 117;(with_reducible refine (u1z.calls _ _ _ _ _ HC.out).mono ?_);rintro e W1 ⟨rfl,⟨nd,rfl⟩⟩)
    | (go_at_call 126;(with_reducible refine (u1s.no_at 20 20 rfl w0 _ g false s (by omega) (by omega) HD.out (by exact HS.out.drew nd)).mono ?_);rintro e W2 ⟨rfl,hb2⟩))
   exact ⟨rfl,rfl,hb2⟩
 | some p =>
   obtain ⟨d,r⟩:=p
   rw [hd] at hv
   have hn:Tx.numL 10 d 0 = none:=by simpa using hv
   obtain ⟨ha,hdl,hrl⟩:=u1o.dig_is hd
   have HA:=Aside0.mk ha
   have HD:=Aside0.mk hd
   have HN:=Aside0.mk hn
   clear ha hd hn hv
   go_enter Tryz.func98,Tryz.ntmps98
   go_wp2_with (first
    | (go_at_call 117;(with_reducible refine (u1z.calls _ _ _ _ _ HC.out).mono ?_);rintro e W1 ⟨rfl,⟨nd,rfl⟩⟩)
    | (go_at_call 126;(with_reducible refine (u1s.ok_at 20 20 rfl w0 _ g false s (by omega) (by omega) d r HD.out (by exact HS.out.drew nd)).mono ?_);rintro e W2 ⟨rfl,hs2,hk2⟩;have HS2:=Aside0.mk hs2;have HK2:=Aside0.mk hk2;clear hs2 hk2)
    | (go_at_call 125;(with_reducible refine (u1j.says_no d 10 (by omega) (by omega) HA.out HN.out _).mono ?_);rintro e W3 ⟨rfl,hb3⟩))
   exact ⟨rfl,rfl,(HS2.out.more hb3).below⟩
theorem u1o.value_is (s:List UInt8):(∃ q,s = 48 :: 120 :: q ∧ Tx.valueP s = Tx.valueD true 16 16 q) ∨ (([48,120]:List UInt8).isPrefixOf s = false ∧ Tx.valueP s = Tx.valueD false 20 10 s):=by
 by_cases h:∃ q,s = 48 :: 120 :: q
 · obtain ⟨q,rfl⟩:=h
   exact Or.inl ⟨q,rfl,rfl⟩
 · refine Or.inr ⟨?_,?_⟩
   · cases e:([48,120]:List UInt8).isPrefixOf s with
     | false => rfl
     | true =>
       obtain ⟨t,ht⟩:=List.isPrefixOf_iff_prefix.1 e
       exact absurd ⟨t,ht.symm⟩ h
   · unfold Tx.valueP
     split
     · exact absurd ⟨_,rfl⟩ h
     · rfl
theorem u1o.calls_ok (w0 W:World) (g:Nat) (s:List UInt8) (hl:s.length ≤ 1000) (n:Int) (r:List UInt8) (hv:Tx.valueP s = some (n,r)) (h:ua.St w0 W g s) :
 Calls Tryz.prog 98 #[.pointer (some ⟨g,0,none⟩)] W fun e W' => e = .returned (.int .u64 n) ∧ ua.St w0 W' g r ∧ u2a W W' g none:=by
 rcases u1o.value_is s with ⟨q,hq,e⟩ | ⟨hq,e⟩
 · exact u1o.hex_ok w0 W g s hl q hq n r (e ▸ hv) h
 · exact u1o.dec_ok w0 W g s hl hq n r (e ▸ hv) h
theorem u1o.calls_no (w0 W:World) (g:Nat) (s:List UInt8) (hl:s.length ≤ 1000) (hv:Tx.valueP s = none) (h:ua.St w0 W g s) :
 Calls Tryz.prog 98 #[.pointer (some ⟨g,0,none⟩)] W fun e W' => e = .panicked (u2u.chain 280) ∧ Below w0.heap.size w0 W':=by
 rcases u1o.value_is s with ⟨q,hq,e⟩ | ⟨hq,e⟩
 · exact u1o.hex_no w0 W g s hl q hq (e ▸ hv) h
 · exact u1o.dec_no w0 W g s hl hq (e ▸ hv) h
def u1d.f (a0:ByteArray):Option (ByteArray × ByteArray × Int):=if a0.size ≤ 140737488355328 then some (Base.unq a0) else none
theorem u1d.cut_yes (c:UInt8) (s:ByteArray) (r:List UInt8) (h:s.data.toList = c :: r):u1z.f s (⟨#[c]⟩:ByteArray) = some (s.extract 1 s.size,true):=by
 have hs:s.size = r.length + 1:=by rw [← u3j,h];rfl
 have h1:(s.extract 0 1).toList = [c]:=by
  rw [ByteArray.toList_eq,Base.extract_list,h]
  rfl
 have h2:((s.size:Int) ≥ 1):=by omega
 have h3:((1:Int) ≤ (s.size:Int)):=by omega
 simp [u1z.f,u2s.f,u2b.f,Base.size1,h1,h2,h3,ByteArray.toList_eq]
theorem u1d.cut_no (c:UInt8) (s:ByteArray) (h:∀ r,s.data.toList ≠ c :: r):u1z.f s (⟨#[c]⟩:ByteArray) = some (s,false):=by
 by_cases h2:((s.size:Int) ≥ 1)
 · have h3:((1:Int) ≤ (s.size:Int)):=by omega
   have h1:¬ List.take 1 s.data.toList = [c]:=by
    cases hl:s.data.toList with
    | nil => simp
    | cons x q =>
      intro e
      have:x = c:=by simpa using e
      subst this
      exact h q hl
   simp [u1z.f,u2s.f,u2b.f,Base.size1,h1,h2,h3,ByteArray.toList_eq]
 · have h3:¬ ((1:Int) ≤ (s.size:Int)):=by omega
   simp [u1z.f,u2s.f,u2b.f,Base.size1,h3]
theorem u1d.head (x:ByteArray) (c:UInt8) (r:List UInt8) (h:x.data.toList = c :: r):∃ hp:0 < x.size,((x[0]'hp).toNat:Int) = c.toNat ∧ (x.extract 1 x.size).data.toList = r ∧ x.size = r.length + 1 ∧ x.toList.isEmpty = false:=by
 have hs:x.size = r.length + 1:=by rw [← u3j,h];rfl
 have hp:0 < x.size:=by omega
 refine ⟨hp,?_,?_,hs,?_⟩
 · have h1:x.data.toList[0]? = some c:=by rw [h];rfl
   have h2:x.data.toList[0]'(by rw [u3j];exact hp) = c:=by
    rw [List.getElem?_eq_getElem (by rw [u3j];exact hp)] at h1
    exact Option.some.inj h1
   have h3:x[0]'hp = x.data.toList[0]'(by rw [u3j];exact hp):=rfl
   rw [h3,h2]
 · rw [Base.extract_rest,h]
   rfl
 · rw [ByteArray.toList_eq,h]
   rfl
theorem u1d.byte_is (c:UInt8):((c.toNat:Int) = 34 ↔ c = 34) ∧ ((c.toNat:Int) = 92 ↔ c = 92):=by
 refine ⟨⟨fun e => UInt8.toNat_inj.1 (by simpa using (by omega:c.toNat = 34)),fun e => by rw [e];rfl⟩,⟨fun e => UInt8.toNat_inj.1 (by simpa using (by omega:c.toNat = 92)),fun e => by rw [e];rfl⟩⟩
theorem u1d.info:(Tryz.prog.info? 5).map (fun i => (i.zero,i.size,i.bytes)) = some (some (.int .u8 0),1,1):=by kernel_rfl
def u1d.nats (l:List UInt8):List Int:=l.map fun c => (c.toNat:Int)
theorem u1d.str_of (l:List UInt8):strOfNums (u1d.nats l) = Base.ofL l:=by
 refine Base.ext_data ?_
 rw [strOfNums_data,Base.ofL_data,u1d.nats,List.map_map]
 conv => rhs;rw [← List.map_id l]
 refine List.map_congr_left (fun c _ => ?_)
 simp
def u1d.out (o:Option (List UInt8 × List UInt8)):ByteArray × ByteArray × Int:=match o with
 | some (a,q) => (Base.ofL a,Base.ofL q,0)
 | none => (⟨#[]⟩,⟨#[]⟩,5)
set_option maxHeartbeats 4000000 in
set_option maxRecDepth 100000 in
theorem u1d.calls (a0:ByteArray) (r1:ByteArray) (r2:ByteArray) (r3:Int) (w:World) (h:u1d.f a0 = some (r1,r2,r3)) :
 Calls Tryz.prog 144 #[.string a0] w fun e w' => e = .returned (.tuple #[.string r1,.string r2,.int .i64 r3]) ∧ Below w.heap.size w w':=by
 unfold u1d.f at h
 by_cases hlim:a0.size ≤ 140737488355328
 · rw [if_pos hlim] at h
   have hu:=Option.some.inj h
   clear h
   by_cases hq:∃ r,a0.data.toList = 34 :: r
   · obtain ⟨r,hr⟩:=hq
     have hu2:u1d.out (Base.unqL r []) = (r1,r2,r3):=by
      rw [← hu]
      unfold Base.unq
      rw [hr]
      simp only [u1d.out,if_true]
      cases Base.unqL r [] with
      | none => rfl
      | some y => rfl
     have HU:=Aside0.mk hu2
     have HC:=Aside0.mk (u1d.cut_yes 34 a0 r hr)
     have hrl:Aside0 ((a0.extract 1 a0.size).data.toList = r):=⟨by rw [Base.extract_rest,hr];rfl⟩
     have hrn:r.length ≤ a0.size:=by rw [← u3j,hr];simp
     clear hu hu2 hr
     go_enter Tryz.func144,Tryz.ntmps144
     go_wp2_with (go_at_call 117;refine (u1z.calls _ _ _ _ _ HC.out).mono ?_;rintro e W1 ⟨rfl,⟨nd,rfl⟩⟩)
     go_loopg [5,7] (r.length) (fun kq v5 v7 wr => ∃ (x:ByteArray) (l acc:List UInt8),v5 = .string x ∧ Aside0 (x.data.toList = l ∧ u1d.out (Base.unqL l acc) = (r1,r2,r3) ∧ Kd.R (Kd.int .u8) 5 wr w.heap.size (fun _ => True) v7 (u1d.nats acc)) ∧ l.length ≤ kq ∧ acc.length + l.length ≤ r.length ∧ Aside0 (Below w.heap.size w wr))
     case atStart => exact ⟨_,r,[],rfl,⟨hrl.out,HU.out,Kd.R_nil _ _ _ _ _⟩,Nat.le_refl _,by simp,⟨ub (Below.refl _ _) nd⟩⟩
     case round =>
      obtain ⟨x,l,acc,rfl,HR,hk,hal,HB⟩:=hrel
      cases l with
      | nil =>
        have he:x.toList.isEmpty = true:=by rw [ByteArray.toList_eq,HR.out.1];rfl
        have hfin:Aside0 (r1 = ⟨#[]⟩ ∧ r2 = ⟨#[]⟩ ∧ r3 = 5):=⟨by
         have h5:=HR.out.2.1
         rw [Base.unqL_nil] at h5
         obtain ⟨h6,h7⟩:=Prod.mk.inj h5
         obtain ⟨h8,h9⟩:=Prod.mk.inj h7
         exact ⟨h6.symm,h8.symm,h9.symm⟩⟩
        go_wp2
        go_ret3
        exact ⟨by rw [hfin.out.1,hfin.out.2.1,hfin.out.2.2];rfl,HB.out⟩
      | cons c q =>
        obtain ⟨hp,hc,hx2,hxs,he⟩:=u1d.head x c q HR.out.1
        have HX2:=Aside0.mk hx2
        have HXS:=Aside0.mk hxs
        have hx1:1 ≤ x.size:=by omega
        clear hx2 hxs
        have hcz:=u1d.byte_is c
        obtain ⟨z,hzc⟩:∃ z:Int,Aside0 ((c.toNat:Int) = z):=⟨_,⟨rfl⟩⟩
        rw [hzc.out] at hc hcz
        by_cases h34:c = 34
        · have hz:(z == 34) = true:=by simpa using hcz.1.2 h34
          have hcv:=own_string (P:=Tryz.prog) (src:=22) (dst:=9) (e:=5) (xs:=u1d.nats acc) Tryz.underlying22 Tryz.underlying5 Tryz.underlying9 (Kd.own_of_R HR.out.2.2)
          rw [u1d.str_of] at hcv
          have hfin:Aside0 (r1 = Base.ofL acc ∧ r2 = Base.ofL q ∧ r3 = 0):=⟨by
           have h5:=HR.out.2.1
           rw [h34,Base.unqL_end] at h5
           obtain ⟨h6,h7⟩:=Prod.mk.inj h5
           obtain ⟨h8,h9⟩:=Prod.mk.inj h7
           exact ⟨h6.symm,h8.symm,h9.symm⟩⟩
          have hrest:Aside0 (x.extract 1 x.size = Base.ofL q):=⟨Base.ext_data (by rw [HX2.out,Base.ofL_data])⟩
          go_wp2
          go_ret3
          exact ⟨by rw [hfin.out.1,hfin.out.2.1,hfin.out.2.2,← hrest.out];rfl,HB.out⟩
        · have hb34:(z == 34) = false:=by
           have:¬ z = 34:=fun e => h34 (hcz.1.1 e)
           simpa using this
          obtain ⟨g1,rfl⟩:∃ g1,gk = g1 + 1:=⟨gk - 1,by simp at hk;omega⟩
          by_cases h92:c = 92
          · have hz:(z == 92) = true:=by simpa using hcz.2.2 h92
            cases q with
            | nil =>
              have he2:(x.extract 1 x.size).toList.isEmpty = true:=by rw [ByteArray.toList_eq,HX2.out];rfl
              have hfin:Aside0 (r1 = ⟨#[]⟩ ∧ r2 = ⟨#[]⟩ ∧ r3 = 5):=⟨by
               have h5:=HR.out.2.1
               rw [h92,Base.unqL_open] at h5
               obtain ⟨h6,h7⟩:=Prod.mk.inj h5
               obtain ⟨h8,h9⟩:=Prod.mk.inj h7
               exact ⟨h6.symm,h8.symm,h9.symm⟩⟩
              go_wp2
              go_ret3
              exact ⟨by rw [hfin.out.1,hfin.out.2.1,hfin.out.2.2];rfl,HB.out⟩
            | cons d q2 =>
              obtain ⟨hp2,hc2,hx22,hxs2,he2⟩:=u1d.head (x.extract 1 x.size) d q2 HX2.out
              have HX22:=Aside0.mk hx22
              have HXS2:=Aside0.mk hxs2
              have hx12:1 ≤ (x.extract 1 x.size).size:=by omega
              have hx2s:2 ≤ x.size:=by
               have:=HXS.out
               simp at this
               omega
              have HX23:Aside0 (((x.extract 1 x.size).extract 1 (x.size - 1)).data.toList = q2):=⟨by
               have e1:(x.extract 1 x.size).size = x.size - 1:=by
                have h1:=HXS.out
                have h2:=HXS2.out
                simp at h1
                omega
               have h3:=HX22.out
               rw [e1] at h3
               exact h3⟩
              clear hx22 hxs2
              have hcz2:=u1d.byte_is d
              obtain ⟨z2,hzd⟩:∃ z2:Int,Aside0 ((d.toNat:Int) = z2):=⟨_,⟨rfl⟩⟩
              rw [hzd.out] at hc2 hcz2
              by_cases hd:d = 34 ∨ d = 92
              · have hfin:Aside0 (u1d.out (Base.unqL q2 (acc ++ [d])) = (r1,r2,r3)):=⟨by
                 have h5:=HR.out.2.1
                 rw [h92,Base.unqL_esc d q2 acc hd] at h5
                 exact h5⟩
                by_cases hd34:d = 34
                · have hz2:(z2 == 34) = true:=by simpa using hcz2.1.2 hd34
                  have hz2b:(z2 != 34) = false:=by simpa using hcz2.1.2 hd34
                  go_wp2_with fail
                  go_quiet (fail)
                  go_wp2_with (at_builtin;refine print_append_num (w0:=w) w.heap.size rfl (.tmp 47) (.tmp 49) 22 5 .u8 1 rfl Tryz.underlying22 u1d.info (by decide) _ (u1d.nats acc) z2 rfl rfl (by exact pw_own_below (Kd.own_of_R HR.out.2.2) (ub (Below.refl _ _) _)) (by exact ub HB.out _) ?_ ?_ ?_)
                  · have:=HB.out.size;simpa using this
                  · have h8:(u1d.nats acc).length = acc.length:=by simp [u1d.nats]
                    rw [h8];simp at hal;omega
                  · intro v1 w1 hown hB hg hat
                    have hR1:Kd.R (Kd.int .u8) 5 w1 w.heap.size (fun _ => True) v1 (u1d.nats (acc ++ [d])):=by
                     have h9:u1d.nats (acc ++ [d]) = u1d.nats acc ++ [z2]:=by simp [u1d.nats,hzd.out]
                     rw [h9]
                     have e9:∀ y:Int,(u1d.nats acc ++ [y]).length = (u1d.nats acc).length + 1:=fun y => by simp
                     refine Kd.R_of_own ?_ (fun _ _ => trivial)
                     rw [e9]
                     exact hown
                    have HR1:=Aside0.mk hR1
                    have HB1:=Aside0.mk hB
                    clear hown hg hat hB hR1
                    go_wp2
                    go_roundg g1
                    case rel => exact ⟨_,q2,acc ++ [d],rfl,⟨HX23.out,hfin.out,HR1.out⟩,by simp at hk;omega,by simp at hal ⊢;omega,HB1⟩
                    case measure => omega
                · have hz2:(z2 == 34) = false:=by
                   have:¬ z2 = 34:=fun e => hd34 (hcz2.1.1 e)
                   simpa using this
                  have hz3:(z2 == 92) = true:=by
                   have:d = 92:=by rcases hd with h | h;exact absurd h hd34;exact h
                   simpa using hcz2.2.2 this
                  have hz2b:(z2 != 34) = true:=by
                   have:¬ z2 = 34:=fun e => hd34 (hcz2.1.1 e)
                   simpa using this
                  have hz3b:(z2 != 92) = false:=by
                   have:d = 92:=by rcases hd with h | h;exact absurd h hd34;exact h
                   simpa using hcz2.2.2 this
                  go_wp2_with fail
                  go_quiet (fail)
                  go_wp2_with (at_builtin;refine print_append_num (w0:=w) w.heap.size rfl (.tmp 47) (.tmp 49) 22 5 .u8 1 rfl Tryz.underlying22 u1d.info (by decide) _ (u1d.nats acc) z2 rfl rfl (by exact pw_own_below (Kd.own_of_R HR.out.2.2) (ub (Below.refl _ _) _)) (by exact ub HB.out _) ?_ ?_ ?_)
                  · have:=HB.out.size;simpa using this
                  · have h8:(u1d.nats acc).length = acc.length:=by simp [u1d.nats]
                    rw [h8];simp at hal;omega
                  · intro v1 w1 hown hB hg hat
                    have hR1:Kd.R (Kd.int .u8) 5 w1 w.heap.size (fun _ => True) v1 (u1d.nats (acc ++ [d])):=by
                     have h9:u1d.nats (acc ++ [d]) = u1d.nats acc ++ [z2]:=by simp [u1d.nats,hzd.out]
                     rw [h9]
                     have e9:∀ y:Int,(u1d.nats acc ++ [y]).length = (u1d.nats acc).length + 1:=fun y => by simp
                     refine Kd.R_of_own ?_ (fun _ _ => trivial)
                     rw [e9]
                     exact hown
                    have HR1:=Aside0.mk hR1
                    have HB1:=Aside0.mk hB
                    clear hown hg hat hB hR1
                    go_wp2
                    go_roundg g1
                    case rel => exact ⟨_,q2,acc ++ [d],rfl,⟨HX23.out,hfin.out,HR1.out⟩,by simp at hk;omega,by simp at hal ⊢;omega,HB1⟩
                    case measure => omega
              · have hfin:Aside0 (r1 = ⟨#[]⟩ ∧ r2 = ⟨#[]⟩ ∧ r3 = 5):=⟨by
                 have h5:=HR.out.2.1
                 rw [h92,Base.unqL_bad d q2 acc hd] at h5
                 obtain ⟨h6,h7⟩:=Prod.mk.inj h5
                 obtain ⟨h8,h9⟩:=Prod.mk.inj h7
                 exact ⟨h6.symm,h8.symm,h9.symm⟩⟩
                have hz2:(z2 == 34) = false:=by
                 have:¬ z2 = 34:=fun e => hd (.inl (hcz2.1.1 e))
                 simpa using this
                have hz3:(z2 == 92) = false:=by
                 have:¬ z2 = 92:=fun e => hd (.inr (hcz2.2.1 e))
                 simpa using this
                have hz2b:(z2 != 34) = true:=by simpa using hz2
                have hz3b:(z2 != 92) = true:=by simpa using hz3
                go_wp2
                go_ret3
                exact ⟨by rw [hfin.out.1,hfin.out.2.1,hfin.out.2.2];rfl,HB.out⟩
          · have hb92:(z == 92) = false:=by
             have:¬ z = 92:=fun e => h92 (hcz.2.1 e)
             simpa using this
            have hfin:Aside0 (u1d.out (Base.unqL q (acc ++ [c])) = (r1,r2,r3)):=⟨by
             have h5:=HR.out.2.1
             rw [Base.unqL_plain c q acc h34 h92] at h5
             exact h5⟩
            go_wp2_with (at_builtin;refine print_append_num (w0:=w) w.heap.size rfl (.tmp 47) (.tmp 49) 22 5 .u8 1 rfl Tryz.underlying22 u1d.info (by decide) _ (u1d.nats acc) z rfl rfl (by exact Kd.own_of_R HR.out.2.2) (by exact HB.out) ?_ ?_ ?_)
            · have:=HB.out.size;simpa using this
            · have h8:(u1d.nats acc).length = acc.length:=by simp [u1d.nats]
              rw [h8];simp at hal;omega
            · intro v1 w1 hown hB hg hat
              have hR1:Kd.R (Kd.int .u8) 5 w1 w.heap.size (fun _ => True) v1 (u1d.nats (acc ++ [c])):=by
               have h9:u1d.nats (acc ++ [c]) = u1d.nats acc ++ [z]:=by simp [u1d.nats,hzc.out]
               rw [h9]
               have e9:∀ y:Int,(u1d.nats acc ++ [y]).length = (u1d.nats acc).length + 1:=fun y => by simp
               refine Kd.R_of_own ?_ (fun _ _ => trivial)
               rw [e9]
               exact hown
              have HR1:=Aside0.mk hR1
              have HB1:=Aside0.mk hB
              clear hown hg hat hB hR1
              go_wp2
              go_roundg g1
              case rel => exact ⟨_,q,acc ++ [c],rfl,⟨HX2.out,hfin.out,HR1.out⟩,by simp at hk;omega,by simp at hal ⊢;omega,HB1⟩
              case measure => omega
   · have hcut:=u1d.cut_no 34 a0 (fun r hr => hq ⟨r,hr⟩)
     have HC:=Aside0.mk hcut
     have hu2:Aside0 (r1 = ⟨#[]⟩ ∧ r2 = ⟨#[]⟩ ∧ r3 = 5):=⟨by
      unfold Base.unq at hu
      cases hl:a0.data.toList with
      | nil =>
        rw [hl] at hu
        obtain ⟨h6,h7⟩:=Prod.mk.inj hu
        obtain ⟨h8,h9⟩:=Prod.mk.inj h7
        exact ⟨h6.symm,h8.symm,h9.symm⟩
      | cons c q =>
        rw [hl] at hu
        have hc:¬ c = 34:=fun e => hq ⟨q,by rw [hl,e]⟩
        simp only [hc,if_false] at hu
        obtain ⟨h6,h7⟩:=Prod.mk.inj hu
        obtain ⟨h8,h9⟩:=Prod.mk.inj h7
        exact ⟨h6.symm,h8.symm,h9.symm⟩⟩
     clear hcut hu
     go_enter Tryz.func144,Tryz.ntmps144
     go_wp2_with (go_at_call 117;refine (u1z.calls _ _ _ _ _ HC.out).mono ?_;rintro e W1 ⟨rfl,⟨nd,rfl⟩⟩)
     refine wp_loop_rounds 1 ?_
     rw [rounds_succ]
     go_wp2
     go_ret3
     exact ⟨by rw [hu2.out.1,hu2.out.2.1,hu2.out.2.2];rfl,ub (Below.refl _ _) nd⟩
 · rw [if_neg hlim] at h
   exact absurd h (by simp)
set_option maxRecDepth 100000 in
set_option maxHeartbeats 1000000 in
theorem u1p.walk (w0 W:World) (g:Nat) (s:List UInt8) (hl:s.length ≤ 1000) (n:ByteArray) (r:List UInt8) (hn:Tx.nameP s = some (n,r)) (q:List UInt8) (hq:r = 61 :: q) (v:ByteArray) (t:List UInt8) (hv:Base.unq (Base.ofL q) = (v,Base.ofL t,0)) (hql:q.length ≤ 1000)
 (h:ua.St w0 W g s) :
 Calls Tryz.prog 122 #[.pointer (some ⟨g,0,none⟩)] W fun e W' => e = .returned (.agg #[.string n,.string v]) ∧ ua.St w0 W' g t ∧ u2a W W' g none:=by
 have HS:=Aside0.mk h
 have HN:=Aside0.mk hn
 have HG:=Aside0.mk h.lt
 have HU:Aside0 (u1d.f (Base.ofL q) = some (v,Base.ofL t,0)):=⟨by
  unfold u1d.f
  rw [if_pos (by rw [(Tx.cut_ofL q 0 (by omega)).2.2];omega),hv]⟩
 subst hq
 clear h hn hv
 go_enter Tryz.func122,Tryz.ntmps122
 go_wp2_with (first
  | (go_at_call 81;(with_reducible refine (u2v.calls_ok w0 _ g s (by omega) n (61 :: q) HN.out (by exact HS.out.one_more _)).mono ?_);rintro e W1 ⟨rfl,hs1,hk1⟩;have HS1:=Aside0.mk hs1;have HK1:=Aside0.mk hk1;have HL1:Aside0 (W.heap.size < W1.heap.size):=⟨by have:=hk1.1;simp at this;omega⟩;have B1:=Aside0.mk (ua.kept_at hk1 (by have:=HG.out;omega) (ua.new_at W _));clear hs1 hk1)
  | (go_at_call 82;(with_reducible refine (u1y.calls_ok w0 _ g 61 q (by exact HS1.out.one_more _)).mono ?_);rintro e W2 ⟨rfl,hs2,hk2⟩;have HS2:=Aside0.mk hs2;have HK2:=Aside0.mk hk2;have B2:=Aside0.mk (ua.kept_at hk2 (by have:=HG.out;omega) (ua.new_old B1.out _));have B3:=Aside0.mk (ua.kept_at hk2 (by have:=HG.out;have:=HL1.out;omega) (ua.new_at W1 _));obtain ⟨h0,f0⟩:=hs2.look;clear hs2 hk2)
  | (go_at_call 144;(with_reducible refine (u1d.calls _ _ _ _ _ HU.out).mono ?_);rintro e W3 ⟨rfl,hb⟩;clear h0 f0;obtain ⟨h0,f0⟩:=(HS2.out.more hb).look;obtain ⟨a0,a1,a2,a3⟩:=ua.look2 (ua.below_at hb B2.out);obtain ⟨b0,b1,b2,b3⟩:=ua.look2 (ua.below_at hb B3.out);have HB:=Aside0.mk hb;clear hb;have n1:¬ W1.heap.size = g:=(by have:=HG.out;have:=HL1.out;omega);have n2:¬ W.heap.size = g:=(by have:=HG.out;omega);have n3:¬ W.heap.size = W1.heap.size:=(by have:=HL1.out;omega);have n4:¬ g = W1.heap.size:=fun e => n1 e.symm;have n5:¬ g = W.heap.size:=fun e => n2 e.symm;have n6:¬ W1.heap.size = W.heap.size:=fun e => n3 e.symm)
  | (go_at_call 83;(with_reducible refine (u2p.calls_ok _).mono ?_);rintro e W4 ⟨rfl,rfl⟩))
 refine bodyPost_ret (v:=.agg #[.string n,.string v]) (by simp [results,Tryz.results122,go_sem,n1,n2,n3,n4,n5,n6,a0,a1,a2,a3]) rfl ⟨rfl,?_,?_⟩
 · have hw:w0.heap.size ≤ W.heap.size:=HS.out.below.size
   have hw1:w0.heap.size ≤ W1.heap.size:=HS1.out.below.size
   exact ((((HS2.out.more HB.out).far hw1 n4 _).set t).far hw n5 _).far hw n5 _
 · have k4:u2a W W4 g none:=ua.keep_then (ua.keep_from HK1.out) (ua.keep_then (ua.keep_from HK2.out) (u2a.of_below HB.out g none))
   exact ua.keep_new (ua.keep_new ((ua.keep_new k4 (by have:=HL1.out;show W.heap.size ≤ W1.heap.size;omega) _).set_ 0 _) (Nat.le_refl _) _) (Nat.le_refl _) _
theorem u1p.quoted (q:List UInt8):(∀ v t,Tx.quotedP q = some (v,t) → Base.unq (Base.ofL q) = (v,Base.ofL t,0)) ∧ (Tx.quotedP q = none → Base.unq (Base.ofL q) = (⟨#[]⟩,⟨#[]⟩,5)):=by
 unfold Tx.quotedP Base.unq
 rw [Base.ofL_data]
 cases q with
 | nil => exact ⟨fun v t h => (by cases h),fun _ => rfl⟩
 | cons c r =>
   simp only
   by_cases hc:c = 34
   · rw [if_pos hc,if_pos hc]
     cases Base.unqL r [] with
     | none => exact ⟨fun v t h => (by cases h),fun _ => rfl⟩
     | some p =>
       refine ⟨fun v t h => ?_,fun h => by cases h⟩
       obtain ⟨rfl,rfl⟩:=Prod.mk.inj (Option.some.inj h)
       rfl
   · rw [if_neg hc,if_neg hc]
     exact ⟨fun v t h => (by cases h),fun _ => rfl⟩
theorem u1p.name_rest {s r:List UInt8} {n:ByteArray} (h:Tx.nameP s = some (n,r)):r.length ≤ s.length:=by
 unfold Tx.nameP at h
 split at h
 · obtain ⟨_,rfl⟩:=Prod.mk.inj (Option.some.inj h)
   have h1:=congrArg List.length (List.takeWhile_append_dropWhile (p:=Tx.wordC) (l:=s))
   rw [List.length_append] at h1
   omega
 · cases h
theorem u1p.expect_is (c:UInt8) (s:List UInt8):(∀ q,Tx.expectP [c] s = some q → s = c :: q) ∧ (Tx.expectP [c] s = none → ∀ r,s ≠ c :: r):=by
 unfold Tx.expectP
 cases s with
 | nil => exact ⟨fun q h => by simp [List.isPrefixOf] at h,fun _ r h => by cases h⟩
 | cons d t =>
   by_cases hc:c = d
   · subst hc
     exact ⟨fun q h => by simp [List.isPrefixOf] at h;rw [h],fun h => by simp [List.isPrefixOf] at h⟩
   · exact ⟨fun q h => by simp [List.isPrefixOf,hc] at h,fun _ r h => hc (List.cons.inj h).1.symm⟩
theorem u1p.calls_ok (w0 W:World) (g:Nat) (s:List UInt8) (hl:s.length ≤ 1000) (x:Tx.Lb) (t:List UInt8) (hx:Tx.labelP s = some (x,t)) (h:ua.St w0 W g s) :
 Calls Tryz.prog 122 #[.pointer (some ⟨g,0,none⟩)] W fun e W' => e = .returned (.agg #[.string x.f0,.string x.f1]) ∧ ua.St w0 W' g t ∧ u2a W W' g none:=by
 unfold Tx.labelP at hx
 obtain ⟨⟨n,r⟩,hn,hx⟩:=Option.bind_eq_some_iff.1 hx
 obtain ⟨⟨v,t'⟩,hv,hx⟩:=Option.map_eq_some_iff.1 hx
 obtain ⟨rfl,rfl⟩:=Prod.mk.inj hx
 obtain ⟨q,hq,hv⟩:=Option.bind_eq_some_iff.1 hv
 have hr:=u1p.name_rest hn
 have hq2:=(u1p.expect_is 61 r).1 q hq
 subst hq2
 rw [List.length_cons] at hr
 exact u1p.walk w0 W g s hl n _ hn q rfl v t' ((u1p.quoted q).1 v t' hv) (by omega) h
set_option maxRecDepth 100000 in
set_option maxHeartbeats 1000000 in
theorem u1p.calls_no (w0 W:World) (g:Nat) (s:List UInt8) (hl:s.length ≤ 1000) (hx:Tx.labelP s = none) (h:ua.St w0 W g s) :
 Calls Tryz.prog 122 #[.pointer (some ⟨g,0,none⟩)] W fun e W' => e = .panicked (u2u.chain 280) ∧ Below w0.heap.size w0 W':=by
 have HS:=Aside0.mk h
 have HG:=Aside0.mk h.lt
 have HX:=Aside0.mk hx
 clear h hx
 cases hn:Tx.nameP s with
 | none =>
   have HN:=Aside0.mk hn
   clear hn
   go_enter Tryz.func122,Tryz.ntmps122
   go_wp2_with (go_at_call 81;(with_reducible refine (u2v.calls_no w0 _ g s (by omega) HN.out (by exact HS.out.one_more _)).mono ?_);rintro e W1 ⟨rfl,hb1⟩)
   exact ⟨rfl,rfl,hb1⟩
 | some p =>
   obtain ⟨n,r⟩:=p
   have hr:=u1p.name_rest hn
   have HN:=Aside0.mk hn
   cases hq:Tx.expectP [61] r with
   | none =>
     have HQ:=Aside0.mk ((u1p.expect_is 61 r).2 hq)
     clear hn hq
     go_enter Tryz.func122,Tryz.ntmps122
     go_wp2_with (first
      | (go_at_call 81;(with_reducible refine (u2v.calls_ok w0 _ g s (by omega) n r HN.out (by exact HS.out.one_more _)).mono ?_);rintro e W1 ⟨rfl,hs1,hk1⟩;have HS1:=Aside0.mk hs1;clear hs1 hk1)
      | (go_at_call 82;(with_reducible refine (u1y.calls_no w0 _ g 61 r HQ.out (by exact HS1.out.one_more _)).mono ?_);rintro e W2 ⟨rfl,hb2⟩))
     exact ⟨rfl,rfl,hb2⟩
   | some q =>
     have hq2:=(u1p.expect_is 61 r).1 q hq
     subst hq2
     have hv:Tx.quotedP q = none:=by
      have h1:=HX.out
      unfold Tx.labelP Tx.valP at h1
      rw [hn] at h1
      simp only [Option.bind_some] at h1
      rw [hq] at h1
      simpa using h1
     rw [List.length_cons] at hr
     have HU:Aside0 (u1d.f (Base.ofL q) = some (⟨#[]⟩,⟨#[]⟩,5)):=⟨by
      unfold u1d.f
      rw [if_pos (by rw [(Tx.cut_ofL q 0 (by omega)).2.2];omega),(u1p.quoted q).2 hv]⟩
     clear hn hq hv
     go_enter Tryz.func122,Tryz.ntmps122
     go_wp2_with (first
      | (go_at_call 81;(with_reducible refine (u2v.calls_ok w0 _ g s (by omega) n (61 :: q) HN.out (by exact HS.out.one_more _)).mono ?_);rintro e W1 ⟨rfl,hs1,hk1⟩;have HS1:=Aside0.mk hs1;clear hs1 hk1)
      | (go_at_call 82;(with_reducible refine (u1y.calls_ok w0 _ g 61 q (by exact HS1.out.one_more _)).mono ?_);rintro e W2 ⟨rfl,hs2,hk2⟩;have HS2:=Aside0.mk hs2;obtain ⟨h0,f0⟩:=hs2.look;clear hs2 hk2)
      | (go_at_call 144;(with_reducible refine (u1d.calls _ _ _ _ _ HU.out).mono ?_);rintro e W3 ⟨rfl,hb⟩;have HB:=Aside0.mk hb;clear hb)
      | (go_at_call 83;(with_reducible refine (u2p.calls_no _).mono ?_);rintro e W4 ⟨rfl,rfl⟩))
     exact ⟨rfl,rfl,(HS2.out.more HB.out).below⟩
theorem u1e.neg_is {n:Int} (h0:0 ≤ n) (h:n ≤ 9223372036854775808):wrap64 (IntKind.u64.wrap (-n)) = -n:=by
 unfold wrap64 IntKind.wrap
 simp only [IntKind.signed,IntKind.bits,Bool.false_and,Bool.false_eq_true,if_false]
 omega
theorem u1e.pos_is {n:Int} (h0:0 ≤ n) (h:n < 9223372036854775808):wrap64 n = n:=by
 unfold wrap64
 omega
theorem u1e.num_ge (base:Int) (hb:base = 10 ∨ base = 16):∀ (d:List UInt8) (m n:Int),(∀ c ∈ d,Tx.hexC c = true) → 0 ≤ m → Tx.numL base d m = some n → 0 ≤ n
 | [],m,n,_,hm,h => by
   cases Option.some.inj h
   exact hm
 | c :: d,m,n,hd,hm,h => by
   unfold Tx.numL at h
   split at h
   · refine u1e.num_ge base hb d _ n (fun x hx => hd x (List.mem_cons_of_mem _ hx)) ?_ h
     have h1:=hd c (List.mem_cons_self ..)
     unfold Tx.hexC Tx.decC at h1
     simp only [Bool.or_eq_true,Bool.and_eq_true,decide_eq_true_eq] at h1
     have h2:0 ≤ Tx.digV c:=by
      unfold Tx.digV
      split <;> omega
     rcases hb with rfl | rfl <;> omega
   · cases h
theorem u1e.peek_at (w0 W:World) (g:Nat) (s:List UInt8) (z:Int) (hz:ua.pk s = z) (h:ua.St w0 W g s):Calls Tryz.prog 47 #[.pointer (some ⟨g,0,none⟩)] W fun e W' => e = .returned (.int .u8 z) ∧ us W W':=by
 subst hz
 exact ua.calls w0 W g s h
set_option maxRecDepth 100000 in
set_option maxHeartbeats 1000000 in
theorem u1e.minus_ok (w0 W:World) (g:Nat) (s:List UInt8) (hl:s.length ≤ 1000) (q:List UInt8) (hs:s = 45 :: q) (n:Int) (r:List UInt8) (hv:Tx.valueD false 19 10 q = some (n,r)) (hle:n ≤ 9223372036854775808) (h:ua.St w0 W g s) :
 Calls Tryz.prog 99 #[.pointer (some ⟨g,0,none⟩)] W fun e W' => e = .returned (.int .i64 (-n)) ∧ ua.St w0 W' g r ∧ u2a W W' g none:=by
 subst hs
 have hql:q.length ≤ 1000:=by rw [List.length_cons] at hl;omega
 have HP:Aside0 (ua.pk (45 :: q) = 45):=⟨rfl⟩
 have HS:=Aside0.mk h
 clear h
 unfold Tx.valueD at hv
 obtain ⟨⟨d,r'⟩,hd,hv⟩:=Option.bind_eq_some_iff.1 hv
 obtain ⟨n',hn,hv⟩:=Option.map_eq_some_iff.1 hv
 obtain ⟨rfl,rfl⟩:=Prod.mk.inj hv
 simp only at hn
 obtain ⟨ha,hdl,hrl⟩:=u1o.dig_is hd
 have h0:=u1e.num_ge 10 (Or.inl rfl) d 0 n' ha (Int.le_refl 0) hn
 have HA:=Aside0.mk ha
 have HD:=Aside0.mk hd
 have HN:=Aside0.mk hn
 have HT:Aside0 (decide (n' ≤ 9223372036854775808) = true):=⟨decide_eq_true hle⟩
 have HW:=Aside0.mk (u1e.neg_is h0 hle)
 clear ha hd hn hv hle h0
 go_enter Tryz.func99,Tryz.ntmps99
 go_wp2_with (first
  | (go_at_call 47;(with_reducible refine (u1e.peek_at w0 _ g (45 :: q) 45 HP.out (by exact HS.out)).mono ?_);rintro e W0 ⟨rfl,⟨nd,rfl⟩⟩)
  | (go_at_call 82;(with_reducible refine (u1y.calls_ok w0 _ g 45 q (by exact HS.out.drew nd)).mono ?_);rintro e W1 ⟨rfl,hs1,hk1⟩;have HS1:=Aside0.mk hs1;have HK1:=Aside0.mk hk1;clear hs1 hk1)
  | (go_at_call 126;(with_reducible refine (u1s.ok_at 19 19 rfl w0 _ g false q (by omega) (by omega) d r' HD.out (by exact HS1.out)).mono ?_);rintro e W2 ⟨rfl,hs2,hk2⟩;have HS2:=Aside0.mk hs2;have HK2:=Aside0.mk hk2;clear hs2 hk2)
  | (go_at_call 125;(with_reducible refine (u1j.says d 10 (by omega) (by omega) HA.out n' HN.out _).mono ?_);rintro e W3 ⟨rfl,hb3⟩;have HB3:=Aside0.mk hb3;clear hb3)
  | (go_at_call 83;(with_reducible refine (u2p.calls_yes _ HT.out _).mono ?_);rintro e W4 ⟨rfl,rfl⟩))
 go_ret
 exact ⟨by first | rfl | (rw [HW.out];rfl),HS2.out.more HB3.out,ua.keep_then (ua.keep_then (u2a.of_below (ub (Below.refl _ _) nd) g none) HK1.out) (ua.keep_then HK2.out (u2a.of_below HB3.out g none))⟩
set_option maxRecDepth 100000 in
set_option maxHeartbeats 1000000 in
theorem u1e.minus_big (w0 W:World) (g:Nat) (s:List UInt8) (hl:s.length ≤ 1000) (q:List UInt8) (hs:s = 45 :: q) (n:Int) (r:List UInt8) (hv:Tx.valueD false 19 10 q = some (n,r)) (hle:¬ n ≤ 9223372036854775808) (h:ua.St w0 W g s) :
 Calls Tryz.prog 99 #[.pointer (some ⟨g,0,none⟩)] W fun e W' => e = .panicked (u2u.chain 280) ∧ Below w0.heap.size w0 W':=by
 subst hs
 have hql:q.length ≤ 1000:=by rw [List.length_cons] at hl;omega
 have HP:Aside0 (ua.pk (45 :: q) = 45):=⟨rfl⟩
 have HS:=Aside0.mk h
 clear h
 unfold Tx.valueD at hv
 obtain ⟨⟨d,r'⟩,hd,hv⟩:=Option.bind_eq_some_iff.1 hv
 obtain ⟨n',hn,hv⟩:=Option.map_eq_some_iff.1 hv
 obtain ⟨rfl,rfl⟩:=Prod.mk.inj hv
 simp only at hn
 obtain ⟨ha,hdl,hrl⟩:=u1o.dig_is hd
 have HA:=Aside0.mk ha
 have HD:=Aside0.mk hd
 have HN:=Aside0.mk hn
 have HT:Aside0 (decide (n' ≤ 9223372036854775808) = false):=⟨decide_eq_false hle⟩
 clear ha hd hn hv hle
 go_enter Tryz.func99,Tryz.ntmps99
 go_wp2_with (first
  | (go_at_call 47;(with_reducible refine (u1e.peek_at w0 _ g (45 :: q) 45 HP.out (by exact HS.out)).mono ?_);rintro e W0 ⟨rfl,⟨nd,rfl⟩⟩)
  | (go_at_call 82;(with_reducible refine (u1y.calls_ok w0 _ g 45 q (by exact HS.out.drew nd)).mono ?_);rintro e W1 ⟨rfl,hs1,hk1⟩;have HS1:=Aside0.mk hs1;have HK1:=Aside0.mk hk1;clear hs1 hk1)
  | (go_at_call 126;(with_reducible refine (u1s.ok_at 19 19 rfl w0 _ g false q (by omega) (by omega) d r' HD.out (by exact HS1.out)).mono ?_);rintro e W2 ⟨rfl,hs2,hk2⟩;have HS2:=Aside0.mk hs2;have HK2:=Aside0.mk hk2;clear hs2 hk2)
  | (go_at_call 125;(with_reducible refine (u1j.says d 10 (by omega) (by omega) HA.out n' HN.out _).mono ?_);rintro e W3 ⟨rfl,hb3⟩;have HB3:=Aside0.mk hb3;clear hb3)
  | (go_at_call 83;(with_reducible refine (u2p.calls_not _ HT.out _).mono ?_);rintro e W4 ⟨rfl,rfl⟩))
 exact ⟨rfl,rfl,(HS2.out.more HB3.out).below⟩
set_option maxRecDepth 100000 in
set_option maxHeartbeats 1000000 in
theorem u1e.minus_no (w0 W:World) (g:Nat) (s:List UInt8) (hl:s.length ≤ 1000) (q:List UInt8) (hs:s = 45 :: q) (hv:Tx.valueD false 19 10 q = none) (h:ua.St w0 W g s) :
 Calls Tryz.prog 99 #[.pointer (some ⟨g,0,none⟩)] W fun e W' => e = .panicked (u2u.chain 280) ∧ Below w0.heap.size w0 W':=by
 subst hs
 have hql:q.length ≤ 1000:=by rw [List.length_cons] at hl;omega
 have HP:Aside0 (ua.pk (45 :: q) = 45):=⟨rfl⟩
 have HS:=Aside0.mk h
 clear h
 unfold Tx.valueD at hv
 cases hd:Tx.digitsP false 19 q with
 | none =>
   have HD:=Aside0.mk hd
   clear hd hv
   go_enter Tryz.func99,Tryz.ntmps99
   go_wp2_with (first
   | (go_at_call 47;(with_reducible refine (u1e.peek_at w0 _ g (45 :: q) 45 HP.out (by exact HS.out)).mono ?_);rintro e W0 ⟨rfl,⟨nd,rfl⟩⟩)
   | (go_at_call 82;(with_reducible refine (u1y.calls_ok w0 _ g 45 q (by exact HS.out.drew nd)).mono ?_);rintro e W1 ⟨rfl,hs1,hk1⟩;have HS1:=Aside0.mk hs1;have HK1:=Aside0.mk hk1;clear hs1 hk1)
   | (go_at_call 126;(with_reducible refine (u1s.no_at 19 19 rfl w0 _ g false q (by omega) (by omega) HD.out (by exact HS1.out)).mono ?_);rintro e W2 ⟨rfl,hb2⟩))
   exact ⟨rfl,rfl,hb2⟩
 | some p =>
   obtain ⟨d,r⟩:=p
   rw [hd] at hv
   have hn:Tx.numL 10 d 0 = none:=by simpa using hv
   obtain ⟨ha,hdl,hrl⟩:=u1o.dig_is hd
   have HA:=Aside0.mk ha
   have HD:=Aside0.mk hd
   have HN:=Aside0.mk hn
   clear ha hd hn hv
   go_enter Tryz.func99,Tryz.ntmps99
   go_wp2_with (first
   | (go_at_call 47;(with_reducible refine (u1e.peek_at w0 _ g (45 :: q) 45 HP.out (by exact HS.out)).mono ?_);rintro e W0 ⟨rfl,⟨nd,rfl⟩⟩)
   | (go_at_call 82;(with_reducible refine (u1y.calls_ok w0 _ g 45 q (by exact HS.out.drew nd)).mono ?_);rintro e W1 ⟨rfl,hs1,hk1⟩;have HS1:=Aside0.mk hs1;have HK1:=Aside0.mk hk1;clear hs1 hk1)
   | (go_at_call 126;(with_reducible refine (u1s.ok_at 19 19 rfl w0 _ g false q (by omega) (by omega) d r HD.out (by exact HS1.out)).mono ?_);rintro e W2 ⟨rfl,hs2,hk2⟩;have HS2:=Aside0.mk hs2;have HK2:=Aside0.mk hk2;clear hs2 hk2)
   | (go_at_call 125;(with_reducible refine (u1j.says_no d 10 (by omega) (by omega) HA.out HN.out _).mono ?_);rintro e W3 ⟨rfl,hb3⟩))
   exact ⟨rfl,rfl,(HS2.out.more hb3).below⟩
set_option maxRecDepth 100000 in
set_option maxHeartbeats 1000000 in
theorem u1e.plus_ok (w0 W:World) (g:Nat) (s:List UInt8) (hl:s.length ≤ 1000) (hs:∀ q,s ≠ 45 :: q) (n:Int) (r:List UInt8) (hv:Tx.valueD false 19 10 s = some (n,r)) (hle:n < 9223372036854775808) (h:ua.St w0 W g s) :
 Calls Tryz.prog 99 #[.pointer (some ⟨g,0,none⟩)] W fun e W' => e = .returned (.int .i64 (n)) ∧ ua.St w0 W' g r ∧ u2a W W' g none:=by
 obtain ⟨z,hz⟩:∃ z,ua.pk s = z:=⟨_,rfl⟩
 have hz45:¬ z = 45:=by
  intro e
  cases s with
  | nil => rw [← hz] at e;exact absurd e (by decide)
  | cons c q =>
    have e2:(c.toNat:Int) = 45:=hz.trans e
    exact hs q (by rw [show c = 45 from UInt8.toNat_inj.1 (by simpa using (by omega:c.toNat = 45))])
 have HP:=Aside0.mk hz
 have hzb:(z == 45) = false:=beq_eq_false_iff_ne.2 hz45
 clear hz hs
 have HS:=Aside0.mk h
 clear h
 unfold Tx.valueD at hv
 obtain ⟨⟨d,r'⟩,hd,hv⟩:=Option.bind_eq_some_iff.1 hv
 obtain ⟨n',hn,hv⟩:=Option.map_eq_some_iff.1 hv
 obtain ⟨rfl,rfl⟩:=Prod.mk.inj hv
 simp only at hn
 obtain ⟨ha,hdl,hrl⟩:=u1o.dig_is hd
 have h0:=u1e.num_ge 10 (Or.inl rfl) d 0 n' ha (Int.le_refl 0) hn
 have HA:=Aside0.mk ha
 have HD:=Aside0.mk hd
 have HN:=Aside0.mk hn
 have HT:Aside0 (decide (n' < 9223372036854775808) = true):=⟨decide_eq_true hle⟩
 have HW:=Aside0.mk (u1e.pos_is h0 hle)
 clear ha hd hn hv hle h0
 go_enter Tryz.func99,Tryz.ntmps99
 go_wp2_with (first
  | (go_at_call 47;(with_reducible refine (u1e.peek_at w0 _ g s z HP.out (by exact HS.out)).mono ?_);rintro e W0 ⟨rfl,⟨nd,rfl⟩⟩)
  | (go_at_call 126;(with_reducible refine (u1s.ok_at 19 19 rfl w0 _ g false s (by omega) (by omega) d r' HD.out (by exact HS.out.drew nd)).mono ?_);rintro e W2 ⟨rfl,hs2,hk2⟩;have HS2:=Aside0.mk hs2;have HK2:=Aside0.mk hk2;clear hs2 hk2)
  | (go_at_call 125;(with_reducible refine (u1j.says d 10 (by omega) (by omega) HA.out n' HN.out _).mono ?_);rintro e W3 ⟨rfl,hb3⟩;have HB3:=Aside0.mk hb3;clear hb3)
  | (go_at_call 83;(with_reducible refine (u2p.calls_yes _ HT.out _).mono ?_);rintro e W4 ⟨rfl,rfl⟩))
 go_ret
 exact ⟨by first | rfl | (rw [HW.out];rfl),HS2.out.more HB3.out,ua.keep_then (u2a.of_below (ub (Below.refl _ _) nd) g none) (ua.keep_then HK2.out (u2a.of_below HB3.out g none))⟩
set_option maxRecDepth 100000 in
set_option maxHeartbeats 1000000 in
theorem u1e.plus_big (w0 W:World) (g:Nat) (s:List UInt8) (hl:s.length ≤ 1000) (hs:∀ q,s ≠ 45 :: q) (n:Int) (r:List UInt8) (hv:Tx.valueD false 19 10 s = some (n,r)) (hle:¬ n < 9223372036854775808) (h:ua.St w0 W g s) :
 Calls Tryz.prog 99 #[.pointer (some ⟨g,0,none⟩)] W fun e W' => e = .panicked (u2u.chain 280) ∧ Below w0.heap.size w0 W':=by
 obtain ⟨z,hz⟩:∃ z,ua.pk s = z:=⟨_,rfl⟩
 have hz45:¬ z = 45:=by
  intro e
  cases s with
  | nil => rw [← hz] at e;exact absurd e (by decide)
  | cons c q =>
    have e2:(c.toNat:Int) = 45:=hz.trans e
    exact hs q (by rw [show c = 45 from UInt8.toNat_inj.1 (by simpa using (by omega:c.toNat = 45))])
 have HP:=Aside0.mk hz
 have hzb:(z == 45) = false:=beq_eq_false_iff_ne.2 hz45
 clear hz hs
 have HS:=Aside0.mk h
 clear h
 unfold Tx.valueD at hv
 obtain ⟨⟨d,r'⟩,hd,hv⟩:=Option.bind_eq_some_iff.1 hv
 obtain ⟨n',hn,hv⟩:=Option.map_eq_some_iff.1 hv
 obtain ⟨rfl,rfl⟩:=Prod.mk.inj hv
 simp only at hn
 obtain ⟨ha,hdl,hrl⟩:=u1o.dig_is hd
 have HA:=Aside0.mk ha
 have HD:=Aside0.mk hd
 have HN:=Aside0.mk hn
 have HT:Aside0 (decide (n' < 9223372036854775808) = false):=⟨decide_eq_false hle⟩
 clear ha hd hn hv hle
 go_enter Tryz.func99,Tryz.ntmps99
 go_wp2_with (first
  | (go_at_call 47;(with_reducible refine (u1e.peek_at w0 _ g s z HP.out (by exact HS.out)).mono ?_);rintro e W0 ⟨rfl,⟨nd,rfl⟩⟩)
  | (go_at_call 126;(with_reducible refine (u1s.ok_at 19 19 rfl w0 _ g false s (by omega) (by omega) d r' HD.out (by exact HS.out.drew nd)).mono ?_);rintro e W2 ⟨rfl,hs2,hk2⟩;have HS2:=Aside0.mk hs2;have HK2:=Aside0.mk hk2;clear hs2 hk2)
  | (go_at_call 125;(with_reducible refine (u1j.says d 10 (by omega) (by omega) HA.out n' HN.out _).mono ?_);rintro e W3 ⟨rfl,hb3⟩;have HB3:=Aside0.mk hb3;clear hb3)
  | (go_at_call 83;(with_reducible refine (u2p.calls_not _ HT.out _).mono ?_);rintro e W4 ⟨rfl,rfl⟩))
 exact ⟨rfl,rfl,(HS2.out.more HB3.out).below⟩
set_option maxRecDepth 100000 in
set_option maxHeartbeats 1000000 in
theorem u1e.plus_no (w0 W:World) (g:Nat) (s:List UInt8) (hl:s.length ≤ 1000) (hs:∀ q,s ≠ 45 :: q) (hv:Tx.valueD false 19 10 s = none) (h:ua.St w0 W g s) :
 Calls Tryz.prog 99 #[.pointer (some ⟨g,0,none⟩)] W fun e W' => e = .panicked (u2u.chain 280) ∧ Below w0.heap.size w0 W':=by
 obtain ⟨z,hz⟩:∃ z,ua.pk s = z:=⟨_,rfl⟩
 have hz45:¬ z = 45:=by
  intro e
  cases s with
  | nil => rw [← hz] at e;exact absurd e (by decide)
  | cons c q =>
    have e2:(c.toNat:Int) = 45:=hz.trans e
    exact hs q (by rw [show c = 45 from UInt8.toNat_inj.1 (by simpa using (by omega:c.toNat = 45))])
 have HP:=Aside0.mk hz
 have hzb:(z == 45) = false:=beq_eq_false_iff_ne.2 hz45
 clear hz hs
 have HS:=Aside0.mk h
 clear h
 unfold Tx.valueD at hv
 cases hd:Tx.digitsP false 19 s with
 | none =>
   have HD:=Aside0.mk hd
   clear hd hv
   go_enter Tryz.func99,Tryz.ntmps99
   go_wp2_with (first
   | (go_at_call 47;(with_reducible refine (u1e.peek_at w0 _ g s z HP.out (by exact HS.out)).mono ?_);rintro e W0 ⟨rfl,⟨nd,rfl⟩⟩)
   | (go_at_call 126;(with_reducible refine (u1s.no_at 19 19 rfl w0 _ g false s (by omega) (by omega) HD.out (by exact HS.out.drew nd)).mono ?_);rintro e W2 ⟨rfl,hb2⟩))
   exact ⟨rfl,rfl,hb2⟩
 | some p =>
   obtain ⟨d,r⟩:=p
   rw [hd] at hv
   have hn:Tx.numL 10 d 0 = none:=by simpa using hv
   obtain ⟨ha,hdl,hrl⟩:=u1o.dig_is hd
   have HA:=Aside0.mk ha
   have HD:=Aside0.mk hd
   have HN:=Aside0.mk hn
   clear ha hd hn hv
   go_enter Tryz.func99,Tryz.ntmps99
   go_wp2_with (first
   | (go_at_call 47;(with_reducible refine (u1e.peek_at w0 _ g s z HP.out (by exact HS.out)).mono ?_);rintro e W0 ⟨rfl,⟨nd,rfl⟩⟩)
   | (go_at_call 126;(with_reducible refine (u1s.ok_at 19 19 rfl w0 _ g false s (by omega) (by omega) d r HD.out (by exact HS.out.drew nd)).mono ?_);rintro e W2 ⟨rfl,hs2,hk2⟩;have HS2:=Aside0.mk hs2;have HK2:=Aside0.mk hk2;clear hs2 hk2)
   | (go_at_call 125;(with_reducible refine (u1j.says_no d 10 (by omega) (by omega) HA.out HN.out _).mono ?_);rintro e W3 ⟨rfl,hb3⟩))
   exact ⟨rfl,rfl,(HS2.out.more hb3).below⟩
theorem u1e.time_is (s:List UInt8):(∃ q,s = 45 :: q ∧ Tx.timeP s = (Tx.valueD false 19 10 q).bind fun p => if p.1 ≤ 9223372036854775808 then some (-p.1,p.2) else none) ∨ ((∀ q,s ≠ 45 :: q) ∧ Tx.timeP s = (Tx.valueD false 19 10 s).bind fun p => if p.1 < 9223372036854775808 then some p else none):=by
 by_cases h:∃ q,s = 45 :: q
 · obtain ⟨q,rfl⟩:=h
   exact Or.inl ⟨q,rfl,rfl⟩
 · refine Or.inr ⟨fun q e => h ⟨q,e⟩,?_⟩
   unfold Tx.timeP
   split
   · exact absurd ⟨_,rfl⟩ h
   · rfl
theorem u1e.calls_ok (w0 W:World) (g:Nat) (s:List UInt8) (hl:s.length ≤ 1000) (t:Int) (r:List UInt8) (hv:Tx.timeP s = some (t,r)) (h:ua.St w0 W g s) :
 Calls Tryz.prog 99 #[.pointer (some ⟨g,0,none⟩)] W fun e W' => e = .returned (.int .i64 t) ∧ ua.St w0 W' g r ∧ u2a W W' g none:=by
 rcases u1e.time_is s with ⟨q,hq,e⟩ | ⟨hq,e⟩
 · rw [e] at hv
   obtain ⟨⟨n,r'⟩,hd,hv⟩:=Option.bind_eq_some_iff.1 hv
   simp only at hv
   split at hv
   · rename_i hle
     obtain ⟨rfl,rfl⟩:=Prod.mk.inj (Option.some.inj hv)
     exact u1e.minus_ok w0 W g s hl q hq n _ hd hle h
   · cases hv
 · rw [e] at hv
   obtain ⟨⟨n,r'⟩,hd,hv⟩:=Option.bind_eq_some_iff.1 hv
   simp only at hv
   split at hv
   · rename_i hle
     obtain ⟨rfl,rfl⟩:=Prod.mk.inj (Option.some.inj hv)
     exact u1e.plus_ok w0 W g s hl hq _ _ hd hle h
   · cases hv
theorem u1e.calls_no (w0 W:World) (g:Nat) (s:List UInt8) (hl:s.length ≤ 1000) (hv:Tx.timeP s = none) (h:ua.St w0 W g s) :
 Calls Tryz.prog 99 #[.pointer (some ⟨g,0,none⟩)] W fun e W' => e = .panicked (u2u.chain 280) ∧ Below w0.heap.size w0 W':=by
 rcases u1e.time_is s with ⟨q,hq,e⟩ | ⟨hq,e⟩
 · rw [e] at hv
   cases hd:Tx.valueD false 19 10 q with
   | none => exact u1e.minus_no w0 W g s hl q hq hd h
   | some p =>
     rw [hd] at hv
     exact u1e.minus_big w0 W g s hl q hq p.1 p.2 hd (by simpa using hv) h
 · rw [e] at hv
   cases hd:Tx.valueD false 19 10 s with
   | none => exact u1e.plus_no w0 W g s hl hq hd h
   | some p =>
     rw [hd] at hv
     exact u1e.plus_big w0 W g s hl hq p.1 p.2 hd (by simpa using hv) h
end Go.Proofs.YtmcpeifhapekoaaGreatDoor.PAll
