/- Texts of this seat, joined in the order in which they build. -/
import Derived.Test.YtgnehcgaplnfkaaGreatDoorBt1
import Derived.Laws.BitsLemmas
namespace Go.Proofs.YtgnehcgaplnfkaaGreatDoor.PAll
open Go.RowKit Go.Proofs.YtgnehcgaplnfkaaGreatDoorW.PrintWords Go.Proofs.YtgnehcgaplnfkaaGreatDoorW.PrintLast Go.Proofs.YtgnehcgaplnfkaaGreatDoorW.PrintMore
attribute [local go_sem] u3r u3t u4c u4b u3n u3o u3u u3s
set_option linter.unusedVariables false
set_option linter.unusedSimpArgs false
def u1b.at (n:Int) (i:Nat):Int:=(n / 2 ^ (8 * i)) % 256
def u1b.put (n:Int):Nat → List Int
 | 0 => []
 | m + 1 => u1b.at n m :: u1b.put n m
theorem u1b.info:(Tryz.prog.info? 5).map (fun i => (i.zero,i.size,i.bytes)) = some (some (.int .u8 0),1,1):=by kernel_rfl
theorem u1b.put2 (a0:Int):u1b.put a0 2 = [a0 / 256 % 256,a0 % 256]:=by
 simp [u1b.put,u1b.at]
theorem u1b.put4 (a0:Int):u1b.put a0 4 = [a0 / 16777216 % 256,a0 / 65536 % 256,a0 / 256 % 256,a0 % 256]:=by
 simp [u1b.put,u1b.at]
set_option maxHeartbeats 4000000 in
set_option maxRecDepth 100000 in
theorem u1b.calls4 (a0:Int) (w:World):Calls Tryz.prog 28 #[.int .u64 a0,.int .i64 4] w fun e w' => ∃ v:Value,e = .returned v ∧ Kd.R (Kd.int .u8) 5 w' w.heap.size (fun _ => True) v (u1b.put a0 4) ∧ Below w.heap.size w w':=by
 have hm:∀ W:World,(Instr.makeSlice 22 (.int .i64 4) (.int .i64 4)).run Tryz.prog W = .ok (.slice (some ⟨W.heap.size,0,none⟩) 4 4) (W.alloc (.cells #[.int .u8 0,.int .u8 0,.int .u8 0,.int .u8 0] 5)):=fun W => by
  have h:=print_make (P:=Tryz.prog) 22 5 .u8 1 Tryz.underlying22 u1b.info (by decide) 4 (by decide) W
  rw [show madeCells #[Value.int .u8 0] 4 = #[.int .u8 0,.int .u8 0,.int .u8 0,.int .u8 0] from by kernel_rfl] at h
  exact h
 have HO:Aside0 (Kd.R (Kd.int .u8) 5 (w.alloc (.cells #[.int .u8 (a0 / 16777216 % 256),.int .u8 (a0 / 65536 % 256),.int .u8 (a0 / 256 % 256),.int .u8 (a0 % 256)] 5)) w.heap.size (fun _ => True) (.slice (some ⟨w.heap.size,0,none⟩) 4 4) (u1b.put a0 4)):=⟨by
  rw [u1b.put4]
  exact Kd.R_of_own (own_lit w w.heap.size 5 .u8 [a0 / 16777216 % 256,a0 / 65536 % 256,a0 / 256 % 256,a0 % 256] (Nat.le_refl _) (by simp)) (fun _ _ => trivial)⟩
 go_enter Tryz.func28,Tryz.ntmps28
 go_wp2
 repeat (first
  | (refine wp_loop_rounds 5 ?_;rw [rounds_succ];go_wp2)
  | (rw [rounds_succ];go_wp2))
 go_ret
 exact ⟨_,rfl,HO.out,uj (Below.refl _ _) _⟩
theorem u1b.put8 (a0:Int):u1b.put a0 8 = [a0 / 72057594037927936 % 256,a0 / 281474976710656 % 256,a0 / 1099511627776 % 256,a0 / 4294967296 % 256,a0 / 16777216 % 256,a0 / 65536 % 256,a0 / 256 % 256,a0 % 256]:=by
 simp [u1b.put,u1b.at]
set_option maxHeartbeats 4000000 in
set_option maxRecDepth 100000 in
theorem u1b.calls8 (a0:Int) (w:World):Calls Tryz.prog 28 #[.int .u64 a0,.int .i64 8] w fun e w' => ∃ v:Value,e = .returned v ∧ Kd.R (Kd.int .u8) 5 w' w.heap.size (fun _ => True) v (u1b.put a0 8) ∧ Below w.heap.size w w':=by
 have hm:∀ W:World,(Instr.makeSlice 22 (.int .i64 8) (.int .i64 8)).run Tryz.prog W = .ok (.slice (some ⟨W.heap.size,0,none⟩) 8 8) (W.alloc (.cells #[.int .u8 0,.int .u8 0,.int .u8 0,.int .u8 0,.int .u8 0,.int .u8 0,.int .u8 0,.int .u8 0] 5)):=fun W => by
  have h:=print_make (P:=Tryz.prog) 22 5 .u8 1 Tryz.underlying22 u1b.info (by decide) 8 (by decide) W
  rw [show madeCells #[Value.int .u8 0] 8 = #[.int .u8 0,.int .u8 0,.int .u8 0,.int .u8 0,.int .u8 0,.int .u8 0,.int .u8 0,.int .u8 0] from by kernel_rfl] at h
  exact h
 have HO:Aside0 (Kd.R (Kd.int .u8) 5 (w.alloc (.cells #[.int .u8 (a0 / 72057594037927936 % 256),.int .u8 (a0 / 281474976710656 % 256),.int .u8 (a0 / 1099511627776 % 256),.int .u8 (a0 / 4294967296 % 256),.int .u8 (a0 / 16777216 % 256),.int .u8 (a0 / 65536 % 256),.int .u8 (a0 / 256 % 256),.int .u8 (a0 % 256)] 5)) w.heap.size (fun _ => True) (.slice (some ⟨w.heap.size,0,none⟩) 8 8) (u1b.put a0 8)):=⟨by
  rw [u1b.put8]
  exact Kd.R_of_own (own_lit w w.heap.size 5 .u8 [a0 / 72057594037927936 % 256,a0 / 281474976710656 % 256,a0 / 1099511627776 % 256,a0 / 4294967296 % 256,a0 / 16777216 % 256,a0 / 65536 % 256,a0 / 256 % 256,a0 % 256] (Nat.le_refl _) (by simp)) (fun _ _ => trivial)⟩
 go_enter Tryz.func28,Tryz.ntmps28
 go_wp2
 repeat (first
  | (refine wp_loop_rounds 9 ?_;rw [rounds_succ];go_wp2)
  | (rw [rounds_succ];go_wp2))
 go_ret
 exact ⟨_,rfl,HO.out,uj (Below.refl _ _) _⟩
def u2y.f (a0:ByteArray):Option Bool:=some (Base.plainTextB a0)
def u2y.badB (r:Int):Bool:=decide (r < 32) || decide (r = 127) || decide (r = 65533)
set_option maxHeartbeats 1000000 in
set_option maxRecDepth 100000 in
theorem u2y.calls (a0:ByteArray) (r:Bool) (w:World) (h:u2y.f a0 = some r) :
 Calls Tryz.prog 89 #[.string a0] w fun e w' => e = .returned (.bool r) ∧ Below w.heap.size w w':=by
 obtain rfl:Base.plainTextB a0 = r:=by simpa [u2y.f] using h
 clear h
 go_enter Tryz.func89,Tryz.ntmps89
 go_wp2
 go_loopw [] (fun wr => ∃ (pos fuel:Nat),wr.heap[w.heap.size]? = some (.stringIter a0 pos) ∧ Below w.heap.size w wr ∧ Aside0 (Base.plainTextB a0 = (Base.runesFrom a0 fuel pos).all (fun r => !u2y.badB r)) ∧ a0.size ≤ fuel + pos)
  (fun wr => a0.size - wr.iterPos w.heap.size)
 case atStart =>
  refine ⟨0,a0.size,?_,(Below.refl _ w).alloc (Nat.le_refl _) _,⟨rfl⟩,by omega⟩
  have:=World.iter_heap w a0 0
  simpa using this
 case round =>
  obtain ⟨pos,fuel,hit,hbw,HE,hfu⟩:=hrel
  have hsz:w.heap.size < wr.heap.size:=(Array.getElem?_eq_some_iff.1 hit).1
  by_cases hp:pos < a0.size
  · have hnx:∀ ty,(Instr.next (.pointer (some ⟨w.heap.size,0,none⟩)) true ty).run Tryz.prog wr = _:=fun ty => Lib.run_next_any_at wr w.heap.size a0 pos ty hit hp
    have hwd:=Base.width_pos a0 pos hp
    have hd1:=decode_le a0 pos
    have hit2:=Lib.iterAt_heap wr w.heap.size a0 pos (pos + (Utf8.decode a0 pos).2) hit
    have hbw2:=Lib.below_iterAt hbw (k:=w.heap.size) (by omega) a0 (pos + (Utf8.decode a0 pos).2)
    obtain ⟨f,rfl⟩:∃ f,fuel = f + 1:=⟨fuel - 1,by omega⟩
    have hst:=Base.runesFrom_step a0 f pos hp
    rw [hst] at HE
    clear hst
    have hbad:Aside0 (u2y.badB ((Utf8.decode a0 pos).1:Int) = true ↔ ((Utf8.decode a0 pos).1 < 32 ∨ (Utf8.decode a0 pos).1 = 127 ∨ (Utf8.decode a0 pos).1 = 65533)):=⟨by
     simp only [u2y.badB,Bool.or_eq_true,decide_eq_true_eq]
     omega⟩
    by_cases h1:(Utf8.decode a0 pos).1 < 32
    · go_wp2
      go_ret
      have h2:=HE.out
      rw [List.all_cons,hbad.out.2 (.inl h1)] at h2
      exact ⟨by rw [h2];rfl,hbw2⟩
    · by_cases h3:(Utf8.decode a0 pos).1 = 127
      · have hb3:(((Utf8.decode a0 pos).1:Int) == 127) = true:=by simp;omega
        have H3:=Aside0.mk h3
        clear h3
        go_wp2
        go_ret
        have h2:=HE.out
        rw [List.all_cons,hbad.out.2 (.inr (.inl H3.out))] at h2
        exact ⟨by rw [h2];rfl,hbw2⟩
      · have hb3:(((Utf8.decode a0 pos).1:Int) == 127) = false:=by simp;omega
        by_cases h4:(Utf8.decode a0 pos).1 = 65533
        · have hb4:(((Utf8.decode a0 pos).1:Int) == 65533) = true:=by simp;omega
          have H4:=Aside0.mk h4
          clear h4
          go_wp2
          go_ret
          have h2:=HE.out
          rw [List.all_cons,hbad.out.2 (.inr (.inr H4.out))] at h2
          exact ⟨by rw [h2];rfl,hbw2⟩
        · have hb4:(((Utf8.decode a0 pos).1:Int) == 65533) = false:=by simp;omega
          have hgood:u2y.badB ((Utf8.decode a0 pos).1:Int) = false:=by
           cases hq:u2y.badB ((Utf8.decode a0 pos).1:Int) with
           | false => rfl
           | true => have:=hbad.out.1 hq;omega
          have Hg:=Aside0.mk hgood
          clear hgood
          go_wp2
          go_roundw
          case rel =>
           refine ⟨pos + (Utf8.decode a0 pos).2,f,by simpa using hit2,hbw2,⟨?_⟩,by omega⟩
           have h2:=HE.out
           rw [List.all_cons,Hg.out,Bool.not_false,Bool.true_and] at h2
           exact h2
          case measure =>
           simp only [World.iterPos,hit2,hit]
           omega
  · have hnx:∀ ty,(Instr.next (.pointer (some ⟨w.heap.size,0,none⟩)) true ty).run Tryz.prog wr = _:=fun ty => Lib.run_next_end_at wr w.heap.size a0 pos ty hit hp
    have h1:=HE.out
    rw [Base.runesFrom_end a0 fuel pos hp,List.all_nil] at h1
    have H1:=Aside0.mk h1
    clear h1 HE
    go_wp2
    go_ret
    exact ⟨by rw [H1.out];rfl,hbw⟩
def u3q.f (a0:ByteArray):Option (Bool):=if (a0.size:Int) ≥ 1 then (if (a0.size:Int) ≤ 40 then ((u2y.f a0).bind fun t106 => (some t106)) else (some false)) else (some false)
set_option maxHeartbeats 8000000 in
set_option maxRecDepth 100000 in
theorem u3q.calls (a0:ByteArray) (r:Bool) (w:World) (h:u3q.f a0 = some r) :
 Calls Tryz.prog 70 #[.string a0] w fun e w' => e = .returned (.bool r) ∧ Below w.heap.size w w':=by
 have HB:=Aside0.mk (Below.refl w.heap.size w)
 have H:(if (a0.size:Int) ≥ 1 then (if (a0.size:Int) ≤ 40 then ((u2y.f a0).bind fun t106 => (some t106)) else (some false)) else (some false)) = some r:=h
 clear h
 by_cases c2:(a0.size:Int) ≥ 1
 · rw [if_pos c2] at H
   have c2b0:decide (1 ≤ (a0.size:Int)) = true:=decide_eq_true c2
   have c2b1:decide (1 ≤ a0.size) = true:=decide_eq_true (by omega)
   clear c2
   by_cases c3:(a0.size:Int) ≤ 40
   · rw [if_pos c3] at H
     have c3b0:decide ((a0.size:Int) ≤ 40) = true:=decide_eq_true c3
     have c3b1:decide (a0.size ≤ 40) = true:=decide_eq_true (by omega)
     clear c3
     replace H:=Option.bind_eq_some_iff.mp H
     obtain ⟨t106,A40,H⟩:=H
     replace H:(some t106) = some r:=H
     have A4:=Aside0.mk A40
     clear A40
     obtain rfl:=Option.some.inj H
     go_enter Tryz.func70,Tryz.ntmps70
     go_wp2_with (first | (go_at_call 89;(with_reducible refine (u2y.calls a0 t106 _ A4.out).mono ?_);rintro e w5 ⟨rfl,hb⟩;have n0_:=Aside0.mk (u2o (by repeat (first | (with_reducible first | exact HB.out | apply uj | apply uh | apply uu) | exact HB.out)) hb);clear HB;have HB:=n0_;clear n0_;(try clear hb);(try clear hb2);(try clear hk);(try clear hi)))
     go_ret
     exact ⟨by first | rfl | (simp [u2x,u2w] <;> rfl) | (simp [*,u2x,u2w] <;> rfl),by repeat (first | (with_reducible first | exact HB.out | apply uj | apply uh | apply uu) | exact HB.out)⟩
   · rw [if_neg c3] at H
     have c3b0:decide ((a0.size:Int) ≤ 40) = false:=decide_eq_false c3
     have c3b1:decide (a0.size ≤ 40) = false:=decide_eq_false (by omega)
     clear c3
     obtain rfl:=Option.some.inj H
     go_enter Tryz.func70,Tryz.ntmps70
     go_wp2
     go_ret
     exact ⟨by first | rfl | (simp [u2x,u2w] <;> rfl) | (simp [*,u2x,u2w] <;> rfl),by repeat (first | (with_reducible first | exact HB.out | apply uj | apply uh | apply uu) | exact HB.out)⟩
 · rw [if_neg c2] at H
   have c2b0:decide (1 ≤ (a0.size:Int)) = false:=decide_eq_false c2
   have c2b1:decide (1 ≤ a0.size) = false:=decide_eq_false (by omega)
   clear c2
   obtain rfl:=Option.some.inj H
   go_enter Tryz.func70,Tryz.ntmps70
   go_wp2
   go_ret
   exact ⟨by first | rfl | (simp [u2x,u2w] <;> rfl) | (simp [*,u2x,u2w] <;> rfl),by repeat (first | (with_reducible first | exact HB.out | apply uj | apply uh | apply uu) | exact HB.out)⟩
def u4d.f (a0:ByteArray):Option Bool:=some (Base.valueB a0)
theorem u4d.plain_is (x:Int):labels_plain.f x = some (Base.plainB x):=by
 unfold labels_plain.f Base.plainB
 by_cases h1:x ≥ 32
 · rw [if_pos h1]
   by_cases h2:x = 127
   · simp [h1,h2]
   · rw [if_neg h2]
     by_cases h3:x = 65533 <;> simp [h1,h2,h3]
 · rw [if_neg h1]
   simp only [ge_iff_le] at h1
   simp [h1]
set_option maxHeartbeats 1000000 in
set_option maxRecDepth 100000 in
theorem u4d.calls (a0:ByteArray) (r:Bool) (w:World) (h:u4d.f a0 = some r) :
 Calls Tryz.prog 64 #[.string a0] w fun e w' => e = .returned (.bool r) ∧ Below w.heap.size w w':=by
 obtain rfl:Base.valueB a0 = r:=by simpa [u4d.f] using h
 clear h
 go_enter Tryz.func64,Tryz.ntmps64
 go_wp2
 go_loopw [] (fun wr => ∃ (pos fuel:Nat),wr.heap[w.heap.size]? = some (.stringIter a0 pos) ∧ Below w.heap.size w wr ∧ Aside0 ((Base.runesOf a0).all Base.plainB = (Base.runesFrom a0 fuel pos).all Base.plainB) ∧ a0.size ≤ fuel + pos)
  (fun wr => a0.size - wr.iterPos w.heap.size)
 case atStart =>
  refine ⟨0,a0.size,?_,(Below.refl _ w).alloc (Nat.le_refl _) _,⟨rfl⟩,by omega⟩
  have:=World.iter_heap w a0 0
  simpa using this
 case round =>
  obtain ⟨pos,fuel,hit,hbw,HE,hfu⟩:=hrel
  have hsz:w.heap.size < wr.heap.size:=(Array.getElem?_eq_some_iff.1 hit).1
  by_cases hp:pos < a0.size
  · have hnx:∀ ty,(Instr.next (.pointer (some ⟨w.heap.size,0,none⟩)) true ty).run Tryz.prog wr = _:=fun ty => Lib.run_next_any_at wr w.heap.size a0 pos ty hit hp
    have hwd:=Base.width_pos a0 pos hp
    have hd1:=decode_le a0 pos
    have hit2:=Lib.iterAt_heap wr w.heap.size a0 pos (pos + (Utf8.decode a0 pos).2) hit
    have hbw2:=Lib.below_iterAt hbw (k:=w.heap.size) (by omega) a0 (pos + (Utf8.decode a0 pos).2)
    obtain ⟨f,rfl⟩:∃ f,fuel = f + 1:=⟨fuel - 1,by omega⟩
    have hst:=Base.runesFrom_step a0 f pos hp
    rw [hst] at HE
    clear hst
    cases hpl:Base.plainB ((Utf8.decode a0 pos).1:Int) with
    | true =>
      go_wp2_with (go_at_call 86;refine (labels_plain.calls _ _ _ (u4d.plain_is _)).mono ?_;rintro e W1 ⟨rfl,⟨nd,rfl⟩⟩)
      go_roundw
      case rel =>
       refine ⟨pos + (Utf8.decode a0 pos).2,f,by simpa using hit2,uh hbw2 nd,⟨?_⟩,by omega⟩
       have h1:=HE.out
       rw [List.all_cons,hpl,Bool.true_and] at h1
       exact h1
      case measure =>
       have e1:((wr.iterAt w.heap.size a0 (pos + (Utf8.decode a0 pos).2)).drewN nd).heap[w.heap.size]? = some (.stringIter a0 (pos + (Utf8.decode a0 pos).2)):=by simpa using hit2
       simp only [World.iterPos,e1,hit]
       omega
    | false =>
      go_wp2_with (go_at_call 86;refine (labels_plain.calls _ _ _ (u4d.plain_is _)).mono ?_;rintro e W1 ⟨rfl,⟨nd,rfl⟩⟩)
      go_ret
      have h1:=HE.out
      rw [List.all_cons,hpl,Bool.false_and] at h1
      refine ⟨?_,uh hbw2 nd⟩
      simp [Base.valueB,h1]
  · have hnx:∀ ty,(Instr.next (.pointer (some ⟨w.heap.size,0,none⟩)) true ty).run Tryz.prog wr = _:=fun ty => Lib.run_next_end_at wr w.heap.size a0 pos ty hit hp
    have h1:=HE.out
    rw [Base.runesFrom_end a0 fuel pos hp,List.all_nil] at h1
    have H1:=Aside0.mk h1
    clear h1 HE
    go_wp2
    all_goals
     go_ret
     refine ⟨?_,hbw⟩
     have h1:=H1.out
     have hz:=Base.toList_nil a0
     first
      | (have he:a0.toList = []:=by assumption
         have h0:a0.size = 0:=hz.1 he
         simp [Base.valueB,h1,h0,he];done)
      | (have he:¬ a0.toList = []:=by assumption
         have h0:0 < a0.size:=by
          rcases Nat.eq_zero_or_pos a0.size with h | h
          · exact absurd (hz.2 h) he
          · exact h
         have hi:a0.toList.isEmpty = false:=by
          cases hl:a0.toList with
          | nil => exact absurd hl he
          | cons _ _ => rfl
         have hd:decide ((a0.size:Int) ≤ 40) = decide (a0.size ≤ 40):=by
          rw [Bool.eq_iff_iff]
          simp only [decide_eq_true_eq]
          omega
         simp [Base.valueB,h1,h0,hi,hd];done)
structure ud.CS where
 p:List Int
 code:List S164
 bad:Bool
def ud.Runes (W:World) (gp:Nat) (A:Option Addr) (p:List Int):Prop:=(∃ cells,W.heap[gp]? = some (.cells cells 21 (0,0))) ∧ ∀ W':World,W'.heap[gp]? = W.heap[gp]? → (Kd.int .i32).C W' A p.length p
theorem ud.Runes.move {W W':World} {gp:Nat} {A:Option Addr} {p:List Int} (h:ud.Runes W gp A p) (hm:W'.heap[gp]? = W.heap[gp]?):ud.Runes W' gp A p :=
 ⟨by obtain ⟨c,hc⟩:=h.1;exact ⟨c,hm.trans hc⟩,fun W2 h2 => h.2 W2 (h2.trans hm)⟩
structure ud.St (w0 W:World) (g gp:Nat) (vc:Value) (s:ud.CS):Prop where
 below:Below w0.heap.size w0 W
 base:w0.heap.size ≤ g
 cells:∃ A c,W.heap[g]? = some (.cells #[.slice A s.p.length c,vc,.bool s.bad] 159 (0,0)) ∧ s.p.length ≤ c ∧ ud.Runes W gp A s.p
 code:Kd.R k164 164 W w0.heap.size (fun _ => True) vc s.code
def ud.Kp (W W':World) (g:Nat):Prop:=W'.heap.size = W.heap.size ∧ ∀ k,k ≠ g → W'.heap[k]? = W.heap[k]?
theorem ud.Kp.refl (W:World) (g:Nat):ud.Kp W W g:=⟨rfl,fun _ _ => rfl⟩
theorem ud.Kp.set (W:World) (g i:Nat) (u:Value):ud.Kp W (W.setCell ⟨g,i,none⟩ u) g:=⟨by simp [World.setCell],fun k hk => Below.heap_setCell W ⟨g,i,none⟩ u k hk⟩
theorem ud.Kp.trans {W W' W'':World} {g:Nat} (h:ud.Kp W W' g) (h':ud.Kp W' W'' g):ud.Kp W W'' g:=⟨h'.1.trans h.1,fun k hk => (h'.2 k hk).trans (h.2 k hk)⟩
theorem ud.St.look {w0 W:World} {g gp:Nat} {vc:Value} {s:ud.CS} (h:ud.St w0 W g gp vc s):∃ A c,(W.cell? ⟨g,0,none⟩ = some (.slice A s.p.length c) ∧ W.cell? ⟨g,1,none⟩ = some vc ∧ W.cell? ⟨g,2,none⟩ = some (.bool s.bad)) ∧ (W.frozen? ⟨g,0,none⟩ = false ∧ W.frozen? ⟨g,1,none⟩ = false ∧ W.frozen? ⟨g,2,none⟩ = false) ∧ s.p.length ≤ c ∧ W.heap[g]? = some (.cells #[.slice A s.p.length c,vc,.bool s.bad] 159 (0,0)) ∧ ud.Runes W gp A s.p:=by
 obtain ⟨A,c,hb,hl,hr⟩:=h.cells
 have h0:=uk hb 0
 have h1:=uk hb 1
 have h2:=uk hb 2
 simp only [List.size_toArray,List.length_cons,List.length_nil,List.getElem?_toArray,List.getElem?_cons_zero,List.getElem?_cons_succ] at h0 h1 h2
 exact ⟨A,c,⟨h0,h1,h2⟩,⟨ut hb 0,ut hb 1,ut hb 2⟩,hl,hb,hr⟩
def ud.step (s:ud.CS):Int × ud.CS:=match s.p with
 | [] => (0,{ s with bad:=true })
 | r :: q => (r,{ s with p:=q })
theorem ud.ne_gp {W:World} {g gp:Nat} {cs:Array Value} {A:Option Addr} {p:List Int} (hb:W.heap[g]? = some (.cells cs 159 (0,0))) (hr:ud.Runes W gp A p):gp ≠ g:=by
 obtain ⟨c,hc⟩:=hr.1
 exact blk_ne hc hb (by decide)
theorem ud.St.set {w0 W:World} {g gp:Nat} {vc:Value} {s:ud.CS} (h:ud.St w0 W g gp vc s) {i:Nat} {u:Value} {s':ud.CS} {A:Option Addr} {c:Nat} {cs:Array Value}
 (hb:W.heap[g]? = some (.cells cs 159 (0,0))) (hc:cs.setIfInBounds i u = #[.slice A s'.p.length c,vc,.bool s'.bad]) (hl:s'.p.length ≤ c) (hr:ud.Runes W gp A s'.p) (hcode:s'.code = s.code):ud.St w0 (W.setCell ⟨g,i,none⟩ u) g gp vc s' where
 below:=h.below.setCell h.base _
 base:=h.base
 cells:=⟨A,c,by rw [u4f hb i u,hc],hl,hr.move (Below.heap_setCell _ _ _ _ (ud.ne_gp hb hr))⟩
 code:=by
  rw [hcode]
  exact Kd.R_set h.code hb (by intro q hq;simp [k164,Kd.iso,Kd.pair,Kd.slice,Kd.int,Kd.scalar,Kd.bool,k191] at hq;omega) i u
set_option maxHeartbeats 2000000 in
set_option maxRecDepth 10000 in
theorem ud.calls (w0 W:World) (g gp:Nat) (vc:Value) (s:ud.CS) (h:ud.St w0 W g gp vc s) :
 Calls Tryz.prog 121 #[.pointer (some ⟨g,0,none⟩)] W fun e W' => e = .returned (.int .i32 (ud.step s).1) ∧ ud.St w0 W' g gp vc (ud.step s).2 ∧ ud.Kp W W' g:=by
 obtain ⟨p,code,bad⟩:=s
 obtain ⟨A,c,hb,hl,hr⟩:=h.cells
 have h0:=uk hb 0
 have h1:=uk hb 1
 have h2:=uk hb 2
 have f0:=ut hb 0
 have f2:=ut hb 2
 simp only at hb hl hr h0 h1 h2
 simp only [List.size_toArray,List.length_cons,List.length_nil,List.getElem?_toArray,List.getElem?_cons_zero,List.getElem?_cons_succ] at h0 h1 h2
 have HB:=Aside0.mk hb
 have HS:=Aside0.mk h
 have HR:=Aside0.mk hr
 clear hb hr h
 cases p with
 | nil =>
   go_enter Tryz.func121,Tryz.ntmps121
   go_wp2
   go_ret
   exact ⟨rfl,HS.out.set (i:=2) (u:=.bool true) (A:=A) (c:=c) HB.out rfl hl HR.out rfl,ud.Kp.set _ _ _ _⟩
 | cons r q =>
   obtain ⟨ad,e,hx⟩:=Kd.at_int (HR.out.2 W rfl) 0 (by omega) (by simp)
   subst e
   have hx0:W.cell? ad = some (.int .i32 r):=by simpa [rd,Addr.add] using hx
   clear hx
   have HR2:Aside0 (ud.Runes W gp (if c = 1 then some ad else some ⟨ad.block,ad.off + 1,none⟩) q):=⟨by
    refine ⟨HR.out.1,fun W' hW' => ?_⟩
    have hd:=Kd.C_drop (m:=1) (c:=c) (HR.out.2 W' hW') (by simp) (by simpa using hl)
    have hsz:(Kd.int .i32).sz = 1:=rfl
    by_cases h9:c = 1
    · simpa [h9,hsz,Addr.add] using hd
    · simpa [h9,hsz,Addr.add] using hd⟩
   simp only [List.length_cons] at hl
   have hl2:q.length ≤ c - 1:=by omega
   go_enter Tryz.func121,Tryz.ntmps121
   go_wp2
   all_goals
    go_ret
    refine ⟨rfl,HS.out.set (i:=0) (s':=⟨q,code,bad⟩) (c:=c - 1) HB.out ?_ hl2 HR2.out rfl,ud.Kp.set _ _ _ _⟩
    simp [h]
def u2g.mo (s:ud.CS):Bool:=!s.p.isEmpty && !s.bad
set_option maxHeartbeats 2000000 in
set_option maxRecDepth 10000 in
theorem u2g.calls (w0 W:World) (g gp:Nat) (vc:Value) (s:ud.CS) (h:ud.St w0 W g gp vc s) :
 Calls Tryz.prog 119 #[.pointer (some ⟨g,0,none⟩)] W fun e W' => e = .returned (.bool (u2g.mo s)) ∧ W' = W:=by
 obtain ⟨p,code,bad⟩:=s
 obtain ⟨A,c,⟨h0,h1,h2⟩,⟨f0,f1,f2⟩,hl,hb,hr⟩:=h.look
 simp only at h0 h1 h2 hl hr
 clear h hb hr
 cases p with
 | nil =>
   go_enter Tryz.func119,Tryz.ntmps119
   go_wp2
   go_ret
   exact ⟨rfl,rfl⟩
 | cons r q =>
   go_enter Tryz.func119,Tryz.ntmps119
   go_wp2
   all_goals
    go_ret
    refine ⟨?_,rfl⟩
    simp_all [u2g.mo]
def u2q.nx (s:ud.CS):Int:=match s.p with
 | [] => 0
 | r :: _ => r
set_option maxHeartbeats 2000000 in
set_option maxRecDepth 10000 in
theorem u2q.calls (w0 W:World) (g gp:Nat) (vc:Value) (s:ud.CS) (h:ud.St w0 W g gp vc s) :
 Calls Tryz.prog 120 #[.pointer (some ⟨g,0,none⟩)] W fun e W' => e = .returned (.int .i32 (u2q.nx s)) ∧ W' = W:=by
 obtain ⟨p,code,bad⟩:=s
 obtain ⟨A,c,⟨h0,h1,h2⟩,⟨f0,f1,f2⟩,hl,hb,hr⟩:=h.look
 simp only at h0 h1 h2 hl hr
 clear h hb
 cases p with
 | nil =>
   clear hr
   go_enter Tryz.func120,Tryz.ntmps120
   go_wp2
   go_ret
   exact ⟨rfl,rfl⟩
 | cons r q =>
   obtain ⟨ad,e,hx⟩:=Kd.at_int (hr.2 W rfl) 0 (by omega) (by simp)
   subst e
   have hx0:W.cell? ad = some (.int .i32 r):=by simpa [rd,Addr.add] using hx
   clear hx hr
   go_enter Tryz.func120,Tryz.ntmps120
   go_wp2
   all_goals
    go_ret
    exact ⟨rfl,rfl⟩
def uw.am (m:ByteArray) (s:ud.CS):Bool:=match s.p with
 | [] => false
 | r :: _ => decide (0 ≤ Lib.indexByte m.data.toList (UInt8.ofNat (r % 256).toNat)) && decide (r < 128)
set_option maxHeartbeats 2000000 in
set_option maxRecDepth 10000 in
theorem uw.calls (w0 W:World) (g gp:Nat) (vc:Value) (s:ud.CS) (m:ByteArray) (h:ud.St w0 W g gp vc s) :
 Calls Tryz.prog 132 #[.pointer (some ⟨g,0,none⟩),.string m] W fun e W' => e = .returned (.bool (uw.am m s)) ∧ W' = W:=by
 obtain ⟨p,code,bad⟩:=s
 obtain ⟨A,c,⟨h0,h1,h2⟩,⟨f0,f1,f2⟩,hl,hb,hr⟩:=h.look
 simp only at h0 h1 h2 hl hr
 have HS:=Aside0.mk h
 clear h hb
 cases p with
 | nil =>
   clear hr
   go_enter Tryz.func132,Tryz.ntmps132
   go_wp2
   go_ret
   exact ⟨rfl,rfl⟩
 | cons r q =>
   obtain ⟨ad,e,hx⟩:=Kd.at_int (hr.2 W rfl) 0 (by omega) (by simp)
   subst e
   have hx0:W.cell? ad = some (.int .i32 r):=by simpa [rd,Addr.add] using hx
   clear hx hr
   go_enter Tryz.func132,Tryz.ntmps132
   go_wp2_with (go_at_call 143;refine (strings_IndexByte.calls _ _ _).mono ?_;rintro e w' ⟨rfl,hw⟩;rw [hw])
   all_goals
    go_ret
    refine ⟨?_,rfl⟩
    simp_all [uw.am]
   all_goals omega
def u2c.mem (s:ud.CS):Int × ud.CS :=
 let s0:ud.CS:={ s with bad:=s.bad || uw.am ⟨#[93,45]⟩ s }
 let x:=ud.step s0
 if x.1 = 92 then ud.step x.2 else x
set_option maxHeartbeats 2000000 in
set_option maxRecDepth 10000 in
theorem u2c.calls (w0 W:World) (g gp:Nat) (vc:Value) (s:ud.CS) (h:ud.St w0 W g gp vc s) :
 Calls Tryz.prog 150 #[.pointer (some ⟨g,0,none⟩)] W fun e W' => e = .returned (.int .i32 (u2c.mem s).1) ∧ ud.St w0 W' g gp vc (u2c.mem s).2 ∧ ud.Kp W W' g:=by
 obtain ⟨s0,hs0⟩:∃ s0:ud.CS,Aside0 (s0 = { s with bad:=s.bad || uw.am ⟨#[93,45]⟩ s }):=⟨_,⟨rfl⟩⟩
 have HM:Aside0 (u2c.mem s = if (ud.step s0).1 = 92 then ud.step (ud.step s0).2 else ud.step s0):=⟨by rw [hs0.out];rfl⟩
 obtain ⟨A,c,⟨h0,h1,h2⟩,⟨f0,f1,f2⟩,hl,hb,hr⟩:=h.look
 have HS:=Aside0.mk h
 have HB:Aside0 (uw.am ⟨#[93,45]⟩ s = true → ud.St w0 (W.setCell ⟨g,2,none⟩ (.bool true)) g gp vc s0):=⟨fun hm => by
  rw [hs0.out,hm,Bool.or_true]
  exact h.set hb rfl hl hr rfl⟩
 have HC:Aside0 (uw.am ⟨#[93,45]⟩ s = false → ud.St w0 W g gp vc s0):=⟨fun hm => by
  rw [hs0.out,hm,Bool.or_false]
  exact h⟩
 clear h hb hr hl hs0
 obtain ⟨am,ham⟩:∃ am,Aside0 (uw.am ⟨#[93,45]⟩ s = am):=⟨_,⟨rfl⟩⟩
 rw [ham.out] at HB HC
 obtain ⟨x1,hx1⟩:∃ x1,Aside0 (ud.step s0 = x1):=⟨_,⟨rfl⟩⟩
 obtain ⟨x2,hx2⟩:∃ x2,Aside0 (ud.step x1.2 = x2):=⟨_,⟨rfl⟩⟩
 rw [hx1.out,hx2.out] at HM
 obtain ⟨r1,s1⟩:=x1
 obtain ⟨r2,s2⟩:=x2
 go_enter Tryz.func150,Tryz.ntmps150
 go_wp2_with (first
  | (go_at_call 132;(with_reducible refine (uw.calls w0 _ g gp vc s _ HS.out).mono ?_);rintro e W0 ⟨rfl,hW0⟩;rw [hW0,ham.out])
  | (go_at_call 121;(with_reducible refine (ud.calls w0 _ g gp vc s0 (by first | exact HB.out (by assumption) | exact HC.out (by assumption))).mono ?_);rintro e W1 ⟨rfl,hS1,hK1⟩;rw [hx1.out] at hS1 ⊢;have HS1:=Aside0.mk hS1;have HK1:=Aside0.mk hK1;clear hS1 hK1)
  | (go_at_call 121;(with_reducible refine (ud.calls w0 _ g gp vc s1 HS1.out).mono ?_);rintro e W2 ⟨rfl,hS2,hK2⟩;rw [hx2.out] at hS2 ⊢;have HS2:=Aside0.mk hS2;have HK2:=Aside0.mk hK2;clear hS2 hK2))
 all_goals
  go_ret
  rw [HM.out]
  first
   | (have h9:(r1 == 92) = true:=by assumption
      rw [if_pos (by simpa using h9)]
      first
       | exact ⟨rfl,HS2.out,HK1.out.trans HK2.out⟩
       | exact ⟨rfl,HS2.out,(ud.Kp.set _ _ _ _).trans (HK1.out.trans HK2.out)⟩)
   | (have h9:(r1 == 92) = false:=by assumption
      rw [if_neg (by simpa using h9)]
      first
       | exact ⟨rfl,HS1.out,HK1.out⟩
       | exact ⟨rfl,HS1.out,(ud.Kp.set _ _ _ _).trans HK1.out⟩)
theorem uy.info:(Tryz.prog.info? 5).map (fun i => (i.zero,i.size,i.bytes)) = some (some (.int .u8 0),1,1):=by kernel_rfl
def uy.Parts (w:World) (vs:List (Value × List Int)):Prop:=∀ p ∈ vs,∃ A c,p.1 = .slice A p.2.length c ∧ p.2.length ≤ c ∧ Kd.C (Kd.int .u8) w A p.2.length p.2
def uy.len (vs:List (Value × List Int)):Nat:=(vs.flatMap (·.2)).length
theorem uy.len_take (vs:List (Value × List Int)) (i:Nat) (h:i < vs.length):uy.len (vs.take (i + 1)) = uy.len (vs.take i) + vs[i].2.length:=by
 simp only [uy.len]
 rw [List.take_succ_eq_append_getElem h,List.flatMap_append,List.length_append]
 simp
theorem uy.len_le (vs:List (Value × List Int)) (i:Nat):uy.len (vs.take i) ≤ uy.len vs:=by
 simp only [uy.len]
 conv => rhs;rw [← List.take_append_drop i vs]
 rw [List.flatMap_append,List.length_append]
 omega
set_option maxHeartbeats 4000000 in
set_option maxRecDepth 100000 in
theorem uy.callsG (g:Nat) (vs:List (Value × List Int)) (w:World) (hblk:w.heap[g]? = some (.cells (vs.map (·.1)).toArray 22 (0,0))) (hp:uy.Parts w vs) (hn:vs.length ≤ 1000) (hl:uy.len vs ≤ 140737488355328) :
 Calls Tryz.prog 30 #[.slice (some ⟨g,0,none⟩) vs.length vs.length] w fun e w' => ∃ v:Value,e = .returned v ∧ Kd.R (Kd.int .u8) 5 w' w.heap.size (fun _ => True) v (vs.flatMap (·.2)) ∧ Below w.heap.size w w':=by
 have HK:=Aside0.mk hblk
 have HP:=Aside0.mk hp
 have HL:=Aside0.mk hl
 clear hblk hp hl
 have HB0:=Aside0.mk (Below.refl w.heap.size w)
 go_enter Tryz.func30,Tryz.ntmps30
 go_wp2
 go_loopg [3,11] (vs.length) (fun kq v3 v11 wr => ∃ (i:Nat),i ≤ vs.length ∧ v11 = .int .i64 i ∧ v3 = .int .i64 (uy.len (vs.take i):Nat) ∧ vs.length ≤ kq + i ∧ Aside0 (Below w.heap.size w wr))
 case atStart => exact ⟨0,by omega,rfl,rfl,by omega,HB0⟩
 case round =>
  obtain ⟨i,hi,rfl,rfl,hk,HB⟩:=hrel
  by_cases hlt:i < vs.length
  · obtain ⟨g1,rfl⟩:∃ g1,gk = g1 + 1:=⟨gk - 1,by omega⟩
    obtain ⟨A,c,e,hle,hC⟩:=HP.out vs[i] (List.getElem_mem hlt)
    have HC:=Aside0.mk (Kd.C_below hC HB.out)
    have hcell:wr.cell? ⟨g,i,none⟩ = some (.slice A vs[i].2.length c):=by
     have h1:=uk (u1h HK.out HB.out) i
     rw [h1]
     simp [hlt,e]
    have hle2:uy.len (vs.take i) + vs[i].2.length ≤ 140737488355328:=by
     have h1:=uy.len_le vs (i + 1)
     rw [uy.len_take vs i hlt] at h1
     have:=HL.out
     omega
    have hnext:Aside0 (uy.len (vs.take i) + vs[i].2.length = uy.len (vs.take (i + 1))):=⟨(uy.len_take vs i hlt).symm⟩
    clear e hC
    generalize vs[i].2.length = m at hcell hle hle2 hnext HC
    generalize uy.len (vs.take i) = acc at hle2 hnext
    have hneg:¬ ((acc:Int) + (m:Int) < 0):=by omega
    go_wp2
    go_roundg g1
    case rel => exact ⟨i + 1,by omega,by go_num,(by rw [← hnext.out];go_num),by omega,HB⟩
    case measure => omega
  · have hin:i = vs.length:=by omega
    have hfull:uy.len (vs.take i) = uy.len vs:=by rw [hin,List.take_length]
    rw [hfull]
    obtain ⟨T,hT⟩:∃ T,Aside0 (uy.len vs = T):=⟨_,⟨rfl⟩⟩
    rw [hT.out]
    have hT2:T ≤ 140737488355328:=by rw [← hT.out];exact HL.out
    clear hfull
    go_wp2_with (go_at_call 62;(with_reducible refine (slices_Grow_byte_byte.calls_nil T _ hT2).mono ?_);rintro e w3 ⟨v6,rfl,hR3,hB3⟩;have HB3:=Aside0.mk (u2o HB.out hB3);have HR3:=Aside0.mk (Kd.R_lower hR3 HB.out.size);clear hR3 hB3)
    go_loopg [6,27] (vs.length) (fun kq v6 v27 wr => ∃ (i:Nat),i ≤ vs.length ∧ v27 = .int .i64 i ∧ Aside0 (Kd.R (Kd.int .u8) 5 wr w.heap.size (fun _ => True) v6 ((vs.take i).flatMap (·.2))) ∧ vs.length ≤ kq + i ∧ Aside0 (Below w.heap.size w wr))
    case atStart => exact ⟨0,by omega,rfl,HR3,by omega,HB3⟩
    case round =>
     clear HR3 HB3 HB
     obtain ⟨j,hj,rfl,HR,hkj,HB⟩:=hrel
     by_cases hlt2:j < vs.length
     · obtain ⟨g1,rfl⟩:∃ g1,gk = g1 + 1:=⟨gk - 1,by omega⟩
       obtain ⟨A,c,e,hle,hC⟩:=HP.out vs[j] (List.getElem_mem hlt2)
       have HC:=Aside0.mk (Kd.C_below hC HB.out)
       have hcell:wr.cell? ⟨g,j,none⟩ = some (.slice A vs[j].2.length c):=by
        have h1:=uk (u1h HK.out HB.out) j
        rw [h1]
        simp [hlt2,e]
       have hle2:((vs.take j).flatMap (·.2)).length + vs[j].2.length ≤ 140737488355328:=by
        have h1:=uy.len_le vs (j + 1)
        rw [uy.len_take vs j hlt2] at h1
        have:=HL.out
        simp only [uy.len] at h1 this
        omega
       have hnext:Aside0 ((vs.take j).flatMap (·.2) ++ vs[j].2 = (vs.take (j + 1)).flatMap (·.2)):=⟨by
        rw [List.take_succ_eq_append_getElem hlt2,List.flatMap_append]
        simp⟩
       clear e hC
       generalize vs[j].2 = ys at hcell hle hle2 hnext HC
       generalize (vs.take j).flatMap (·.2) = pre at HR hle2 hnext
       go_wp2_with (at_builtin;refine Kd.R_append_row (w0:=w) (Value.int .u8) (0:Int) (h1:=fun _ => rfl) w.heap.size rfl (.tmp 31) (.tmp 32) 22 5 (.int .u8 0) 1 rfl Tryz.underlying22 uy.info rfl (by decide) _ pre ys A ys.length c (fun _ => True) rfl rfl (fun _ _ => trivial) HR.out HC.out HB.out HB.out.size ?_ ?_)
       · omega
       · intro v1 w7 hR7 hB7 _ _
         have HR7:=Aside0.mk hR7
         have HB7:=Aside0.mk hB7
         clear hR7 hB7
         go_wp2
         go_roundg g1
         case rel => exact ⟨j + 1,by omega,by go_num,⟨by rw [← hnext.out];exact HR7.out⟩,by omega,HB7⟩
         case measure => omega
     · have hjn:j = vs.length:=by omega
       have hfull:Aside0 ((vs.take j).flatMap (·.2) = vs.flatMap (·.2)):=⟨by rw [hjn,List.take_length]⟩
       go_wp2
       go_ret
       exact ⟨_,rfl,by rw [← hfull.out];exact HR.out,HB.out⟩
mutual
def u4e.j0:Nat → List Int → Bool → Option (Int × Bool)
 | 0,_,_ => none
 | k + 1,x0,x14 => if x14 = true then (some (0,false)) else (u4e.l0 k 0 x0 (x0.length:Int) 0)
def u4e.l0:Nat → Int → List Int → Int → Int → Option (Int × Bool)
 | 0,_,_,_,_ => none
 | k + 1,x4,x15,x16,x17 => if x17 < x16 then (if 0 ≤ x17 then (if x17 < (x15.length:Int) then (u4e.l0 k (Go.bits .or .u64 (IntKind.u64.wrap (x4 * 256)) (IntKind.u64.wrap (rd x15 x17))) x15 x16 (wrap64 (x17 + 1))) else (none)) else (none)) else (some (x4,true))
end
def u4e.f (k:Nat) (l0:List Int):Option (Int × Bool):=if (l0.length:Int) = 0 then (u4e.j0 k l0 true) else (u4e.j0 k l0 (decide ((l0.length:Int) > 8)))
set_option maxHeartbeats 8000000 in
set_option maxRecDepth 100000 in
theorem u4e.calls (k:Nat) (A0:Option Addr) (c0:Nat) (l0:List Int) (r1:Int) (r2:Bool) (w:World) (hr0:Kd.C (Kd.int .u8) w A0 l0.length l0) (hc0:l0.length ≤ c0) (h:u4e.f k l0 = some (r1,r2)) :
 Calls Tryz.prog 55 #[.slice A0 l0.length c0] w fun e w' => e = .returned (.tuple #[.int .u64 r1,.bool r2]) ∧ u1w w w':=by
 have HR0:=Aside0.mk hr0
 have HC0:=Aside0.mk hc0
 clear hr0 hc0
 have H:(if (l0.length:Int) = 0 then (u4e.j0 k l0 true) else (u4e.j0 k l0 (decide ((l0.length:Int) > 8)))) = some (r1,r2):=h
 clear h
 have HC2:=Aside0.mk H
 clear H
 go_enter Tryz.func55,Tryz.ntmps55
 go_upto_region 1 with (fail)
 go_cut [14] (fun v14 wc => ∃ (kq:Nat) (x14_1:Bool),v14 = .bool x14_1 ∧ Aside0 (u4e.j0 kq l0 x14_1 = some (r1,r2)) ∧ Aside0 (kq ≤ k) ∧ u1w w wc)
 case first =>
  have H:=HC2.out
  clear HC2
  by_cases c3:(l0.length:Int) = 0
  · rw [if_pos c3] at H
    have c3b0:((l0.length:Int) == 0) = true:=beq_iff_eq.mpr c3
    have c3b1:((l0.length:Int) != 0) = false:=bne_eq_false_iff_eq.mpr c3
    clear c3
    (first | rw [c3b0] | (simp only [i64_w,i32_w];rw [c3b0]) | skip)
    have H':=Aside0.mk H
    clear H
    go_wp2
    go_meet
    case rel => exact ⟨_,(true),(by first | rfl | (simp;done) | (simp [*];done)),H',⟨by first | omega | exact Nat.le_refl _⟩,by repeat (first | exact u1w.refl _ | apply u1w.step)⟩
  · rw [if_neg c3] at H
    have c3b0:((l0.length:Int) == 0) = false:=beq_eq_false_iff_ne.mpr c3
    have c3b1:((l0.length:Int) != 0) = true:=bne_iff_ne.mpr c3
    have c3b2:¬ (l0 = []):=fun h_ => c3 (by rw [h_];rfl)
    (first | rw [c3b0] | (simp only [i64_w,i32_w];rw [c3b0]) | skip)
    have H':=Aside0.mk H
    clear H
    go_wp2
    go_meet
    case rel => exact ⟨_,(decide ((l0.length:Int) > 8)),(by first | rfl | (simp;done) | (simp [*];done)),H',⟨by first | omega | exact Nat.le_refl _⟩,by repeat (first | exact u1w.refl _ | apply u1w.step)⟩
 case rest =>
  clear HC2
  try clear p2
  try clear c3
  try clear c3b0
  try clear c3b1
  try clear c3b2
  obtain ⟨kq,x14_1,rfl,HA,HJ1,⟨mc1,rfl⟩⟩:=hcut
  cases kq with
  | zero => exact absurd HA.out (by simp [u4e.j0])
  | succ kj1 =>
    have H:=HA.out
    clear HA
    simp only [u4e.j0] at H
    by_cases c4:x14_1 = true
    · subst c4
      have H1:(some (0,false)) = some (r1,r2):=by rw [if_pos rfl] at H;exact H
      clear H
      have H:=H1
      clear H1
      simp only [Option.some.injEq,Prod.mk.injEq] at H
      obtain ⟨rfl,rfl⟩:=H
      go_wp2
      go_ret2
      exact ⟨by first | rfl | (simp;done) | (simp [*];done),by repeat (first | exact u1w.refl _ | apply u1w.step)⟩
    · replace c4:=Bool.eq_false_iff.mpr c4
      subst c4
      have H1:(u4e.l0 kj1 0 l0 (l0.length:Int) 0) = some (r1,r2):=by rw [if_neg (show ¬ (false = true) by decide)] at H;exact H
      clear H
      have H:=H1
      clear H1
      have H':=Aside0.mk H
      clear H
      go_wp2
      go_loopg [4,17] kj1 (fun kq v4 v17 w' => ∃ (x4_2:Int) (x17_2:Int),v4 = .int .u64 x4_2 ∧ v17 = .int .i64 x17_2 ∧ Aside0 (u4e.l0 kq x4_2 l0 (l0.length:Int) x17_2 = some (r1,r2)) ∧ Aside0 (kq ≤ kj1) ∧ u1w w w')
      case atStart => exact ⟨(0),(0),(by first | rfl | (simp;done) | (simp [*];done)),(by first | rfl | (simp;done) | (simp [*];done)),H',⟨Nat.le_refl _⟩,by repeat (first | exact u1w.refl _ | apply u1w.step)⟩
      case round =>
       clear H'
       try clear c1
       try clear p2
       try clear c3
       try clear c3b0
       try clear c3b1
       try clear c3b2
       try clear c4
       try clear p2
       obtain ⟨x4_2,x17_2,rfl,rfl,HA,HK2,⟨m2,rfl⟩⟩:=hrel
       cases gk with
       | zero => exact absurd HA.out (by simp [u4e.l0])
       | succ k2 =>
         have H:=HA.out
         clear HA
         simp only [u4e.l0] at H
         by_cases c5:x17_2 < (l0.length:Int)
         · rw [if_pos c5] at H
           have c5b0:decide (x17_2 < (l0.length:Int)) = true:=decide_eq_true c5
           clear c5
           by_cases c6:0 ≤ x17_2
           · rw [if_pos c6] at H
             have c6b0:decide (0 ≤ x17_2) = true:=decide_eq_true c6
             clear c6
             by_cases c7:x17_2 < (l0.length:Int)
             · rw [if_pos c7] at H
               have c7b0:decide (x17_2 < (l0.length:Int)) = true:=decide_eq_true c7
               clear c7
               have H':=Aside0.mk H
               clear H
               have p105:0 ≤ (x17_2:Int):=of_decide_eq_true (by first | (with_reducible assumption) | assumption)
               have q105:x17_2 < (l0.length:Int):=of_decide_eq_true (by first | (with_reducible assumption) | assumption)
               obtain ⟨ad105,e105,hx105_0⟩:=Kd.at_int HR0.out x17_2 p105 q105
               cases e105
               replace p105:=eq_true p105
               replace q105:=eq_true q105
               go_wp2
               go_roundg k2
               case measure => have:=HJ1.out;have:=HK2.out;omega
               case rel => exact ⟨(Go.bits .or .u64 (IntKind.u64.wrap (x4_2 * 256)) (IntKind.u64.wrap (rd l0 x17_2))),(wrap64 (x17_2 + 1)),(by first | rfl | (simp;done) | (simp [*];done)),(by first | rfl | (simp;done) | (simp [*];done)),H',⟨by have:=HJ1.out;have:=HK2.out;omega⟩,by repeat (first | exact u1w.refl _ | apply u1w.step)⟩
             · rw [if_neg c7] at H
               exact absurd H (by simp)
           · rw [if_neg c6] at H
             exact absurd H (by simp)
         · rw [if_neg c5] at H
           have c5b0:decide (x17_2 < (l0.length:Int)) = false:=decide_eq_false c5
           clear c5
           simp only [Option.some.injEq,Prod.mk.injEq] at H
           obtain ⟨rfl,rfl⟩:=H
           go_wp2
           go_ret2
           exact ⟨by first | rfl | (simp;done) | (simp [*];done),by repeat (first | exact u1w.refl _ | apply u1w.step)⟩
structure ug.SS where
 b:List Int
 bad:Bool
def ug.step (x c:Int):Int:=Go.bits .or .u64 (IntKind.u64.wrap (x * 256)) (IntKind.u64.wrap c)
def ug.val (l:List Int):Int:=l.foldl ug.step 0
def ug.num (n:Nat) (s:ug.SS):Int × ug.SS:=if s.bad = true ∨ s.b.length < n then (0,⟨s.b,true⟩) else (ug.val (s.b.take n),⟨s.b.drop n,false⟩)
theorem ug.get_loop (l:List Int) (hl:l.length ≤ 8):∀ (k i:Nat) (x:Int),i ≤ l.length → l.length < k + i → u4e.l0 k x l (l.length:Int) (i:Int) = some ((l.drop i).foldl ug.step x,true)
 | 0,i,x,h1,h2 => by omega
 | k + 1,i,x,h1,h2 => by
   unfold u4e.l0
   by_cases hi:i < l.length
   · rw [if_pos (by omega),if_pos (by omega),if_pos (by omega),List.drop_eq_getElem_cons hi,List.foldl_cons]
     have e1:wrap64 ((i:Int) + 1) = ((i + 1:Nat):Int):=by
      unfold wrap64
      omega
     have e2:rd l (i:Int) = l[i]'hi:=by simp [rd,hi]
     rw [e1,e2]
     exact ug.get_loop l hl k (i + 1) _ (by omega) (by omega)
   · rw [if_neg (by omega),List.drop_eq_nil_of_le (by omega)]
     rfl
theorem ug.get_is (l:List Int) (h1:1 ≤ l.length) (hl:l.length ≤ 8):u4e.f 11 l = some (ug.val l,true):=by
 unfold u4e.f
 rw [if_neg (by omega),decide_eq_false (by omega)]
 show (if (false:Bool) = true then some (0,false) else u4e.l0 10 0 l (l.length:Int) 0) = _
 rw [if_neg (by decide)]
 exact ug.get_loop l hl 10 0 0 (by omega) (by omega)
structure ug.St (w0 W:World) (g:Nat) (M:Nat → Prop) (s:ug.SS):Prop where
 below:Below w0.heap.size w0 W
 base:w0.heap.size ≤ g
 far:∀ k,M k → k ≠ g
 cells:∃ A c,W.heap[g]? = some (.cells #[.slice A s.b.length c,.bool s.bad] 54 (0,0)) ∧ s.b.length ≤ c ∧ Kd.F (Kd.int .u8) W M A s.b.length s.b
theorem ug.St.lt {w0 W:World} {g:Nat} {M:Nat → Prop} {s:ug.SS} (h:ug.St w0 W g M s):g < W.heap.size:=by
 obtain ⟨A,c,hb,_⟩:=h.cells
 exact u3c hb
theorem ug.St.keep {w0 W W':World} {g:Nat} {M:Nat → Prop} {s:ug.SS} (h:ug.St w0 W g M s) (hb:Below w0.heap.size w0 W') (hk:∀ k,k < W.heap.size → W'.heap[k]? = W.heap[k]?):ug.St w0 W' g M s:=by
 obtain ⟨A,c,hc,hl,hr⟩:=h.cells
 exact ⟨hb,h.base,h.far,A,c,(hk g h.lt).trans hc,hl,Kd.F_step hr (fun k _ hlt => hk k hlt)⟩
theorem ug.St.more {w0 W W':World} {g:Nat} {M:Nat → Prop} {s:ug.SS} (h:ug.St w0 W g M s) (hb:Below W.heap.size W W'):ug.St w0 W' g M s :=
 h.keep (u1c h.below h.below.size hb) (fun k hk => hb.block k hk)
theorem ug.St.drew {w0 W:World} {g:Nat} {M:Nat → Prop} {s:ug.SS} (h:ug.St w0 W g M s) (n:Nat):ug.St w0 (W.drewN n) g M s :=
 h.more (uh (Below.refl _ _) n)
theorem ug.St.look {w0 W:World} {g:Nat} {M:Nat → Prop} {s:ug.SS} (h:ug.St w0 W g M s):∃ A c,(W.cell? ⟨g,0,none⟩ = some (.slice A s.b.length c) ∧ W.cell? ⟨g,1,none⟩ = some (.bool s.bad)) ∧ (W.frozen? ⟨g,0,none⟩ = false ∧ W.frozen? ⟨g,1,none⟩ = false) ∧ s.b.length ≤ c ∧ W.heap[g]? = some (.cells #[.slice A s.b.length c,.bool s.bad] 54 (0,0)) ∧ Kd.F (Kd.int .u8) W M A s.b.length s.b:=by
 obtain ⟨A,c,hb,hl,hr⟩:=h.cells
 have h0:=uk hb 0
 have h1:=uk hb 1
 simp only [List.size_toArray,List.length_cons,List.length_nil,List.getElem?_toArray,List.getElem?_cons_zero,List.getElem?_cons_succ] at h0 h1
 exact ⟨A,c,⟨h0,h1⟩,⟨ut hb 0,ut hb 1⟩,hl,hb,hr⟩
theorem ug.St.setBad {w0 W:World} {g:Nat} {M:Nat → Prop} {s:ug.SS} (h:ug.St w0 W g M s) (b:Bool):ug.St w0 (W.setCell ⟨g,1,none⟩ (.bool b)) g M ⟨s.b,b⟩:=by
 obtain ⟨A,c,hb,hl,hr⟩:=h.cells
 exact ⟨h.below.setCell h.base _,h.base,h.far,A,c,by rw [u4f hb];rfl,hl,Kd.F_far hr h.far _⟩
theorem ug.St.setB {w0 W:World} {g:Nat} {M:Nat → Prop} {s:ug.SS} (h:ug.St w0 W g M s) (A:Option Addr) (c:Nat) (b:List Int) (hl:b.length ≤ c) (hF:Kd.F (Kd.int .u8) W M A b.length b):ug.St w0 (W.setCell ⟨g,0,none⟩ (.slice A b.length c)) g M ⟨b,s.bad⟩:=by
 obtain ⟨A0,c0,hb,_,_⟩:=h.cells
 exact ⟨h.below.setCell h.base _,h.base,h.far,A,c,by rw [u4f hb];rfl,hl,Kd.F_far hF h.far _⟩
theorem ug.St.move {w0 W W':World} {g:Nat} {M:Nat → Prop} {s:ug.SS} (h:ug.St w0 W g M s) (hb:Below w0.heap.size w0 W') (hg:W'.heap[g]? = W.heap[g]?) (hk:∀ k,M k → k < W.heap.size → W'.heap[k]? = W.heap[k]?):ug.St w0 W' g M s:=by
 obtain ⟨A,c,hc,hl,hr⟩:=h.cells
 exact ⟨hb,h.base,h.far,A,c,hg.trans hc,hl,Kd.F_step hr hk⟩
theorem ug.St.mono {w0 W:World} {g:Nat} {M M':Nat → Prop} {s:ug.SS} (h:ug.St w0 W g M s) (hM:∀ k,k < W.heap.size → M k → M' k) (hf:∀ k,M' k → k ≠ g):ug.St w0 W g M' s:=by
 obtain ⟨A,c,hc,hl,hr⟩:=h.cells
 exact ⟨h.below,h.base,hf,A,c,hc,hl,Kd.F_mono (Kd.F_bound hr) (fun k hk => hM k hk.2 hk.1)⟩
end Go.Proofs.YtgnehcgaplnfkaaGreatDoor.PAll
namespace Go.Proofs.YtgnehcgaplnfkaaGreatDoor.Laws
open Go.RowKit Go.Proofs.YtgnehcgaplnfkaaGreatDoor.PAll Go.Proofs.YtgnehcgaplnfkaaGreatDoorW.PrintWords Go.Proofs.YtgnehcgaplnfkaaGreatDoorW.PrintLast
set_option linter.unusedVariables false
set_option linter.unusedSimpArgs false
def u2j (y:Int):Prop:=0 ≤ y ∧ y < 256
def bvS (x c:Int):Int:=x * 256 + c
def bv (l:List Int):Int:=l.foldl bvS 0
theorem u64_of (x:Int) (h1:0 ≤ x) (h2:x < 18446744073709551616):IntKind.u64.wrap x = x:=by
 show x % _ = x
 exact Int.emod_eq_of_lt h1 h2
theorem step_is (x c:Int) (h1:0 ≤ x) (h2:x < 72057594037927936) (hc:u2j c):ug.step x c = bvS x c:=by
 unfold ug.step bvS
 rw [u64_of (x * 256) (by omega) (by omega),u64_of c hc.1 (by have:=hc.2;omega)]
 exact bits_join .u64 64 (by decide) (fun n h3 h4 => u64_of n h3 (by simpa using h4)) 8 (x * 256) c (by omega) (by omega) (by omega) hc.1 (by have:=hc.2;omega) (by have:=hc.2;omega)
theorem rstep_is (x c:Int) (h1:0 ≤ x) (h2:x < 72057594037927936) (hc:u2j c):u1t.step x c = bvS x c:=by
 unfold u1t.step bvS
 have:=hc.1
 have:=hc.2
 rw [u64_of (x * 256) (by omega) (by omega),u64_of c hc.1 (by omega),u64_of _ (by omega) (by omega)]
theorem pow7:∀ m:Nat,m ≤ 7 → (256:Int) ^ m ≤ 72057594037927936:=by decide
theorem fold_is (f:Int → Int → Int) (hf:∀ x c,0 ≤ x → x < 72057594037927936 → u2j c → f x c = bvS x c):∀ (l:List Int) (x:Int) (m:Nat),l.length + m ≤ 8 → 0 ≤ x → x < 256 ^ m → (∀ y ∈ l,u2j y) → l.foldl f x = l.foldl bvS x ∧ 0 ≤ l.foldl bvS x ∧ l.foldl bvS x < 256 ^ (m + l.length)
 | [],x,m,_,h0,h1,_ => ⟨rfl,h0,by simpa using h1⟩
 | c :: l,x,m,hl,h0,h1,hb => by
   have hc:=hb c (List.mem_cons_self ..)
   have hm:m ≤ 7:=by simp at hl;omega
   have h2:(256:Int) ^ m ≤ 72057594037927936:=pow7 m hm
   have h3:bvS x c < 256 ^ (m + 1):=by
    rw [Int.pow_succ]
    unfold bvS
    have:=hc.2
    omega
   have h4:0 ≤ bvS x c:=by
    unfold bvS
    have:=hc.1
    omega
   obtain ⟨i1,i2,i3⟩:=fold_is f hf l (bvS x c) (m + 1) (by simp at hl;omega) h4 h3 (fun y hy => hb y (List.mem_cons_of_mem _ hy))
   have h5:f x c = bvS x c:=hf x c h0 (by omega) hc
   rw [List.foldl_cons,List.foldl_cons,h5]
   exact ⟨i1,i2,by rw [List.length_cons,Nat.add_comm l.length 1,← Nat.add_assoc];exact i3⟩
theorem val_is (l:List Int) (hl:l.length ≤ 8) (hb:∀ y ∈ l,u2j y):ug.val l = bv l ∧ u1t.val l = bv l ∧ 0 ≤ bv l ∧ bv l < 256 ^ l.length:=by
 obtain ⟨h1,h2,h3⟩:=fold_is ug.step step_is l 0 0 (by omega) (by decide) (by decide) hb
 obtain ⟨h4,_,_⟩:=fold_is u1t.step rstep_is l 0 0 (by omega) (by decide) (by decide) hb
 exact ⟨h1,h4,h2,by rw [Nat.zero_add] at h3;exact h3⟩
theorem bv8_lt (l:List Int) (hl:l.length = 8) (hb:∀ y ∈ l,u2j y):0 ≤ bv l ∧ bv l < 18446744073709551616:=by
 obtain ⟨_,_,h1,h2⟩:=val_is l (by omega) hb
 rw [hl] at h2
 exact ⟨h1,by simpa using h2⟩
theorem put8_bv (l:List Int) (hl:l.length = 8) (hb:∀ y ∈ l,u2j y):u1b.put (bv l) 8 = l:=by
 match l,hl with
 | [a,b,c,d,e,f,g,h],_ =>
   have ha:=hb a (by simp)
   have hb':=hb b (by simp)
   have hc:=hb c (by simp)
   have hd:=hb d (by simp)
   have he:=hb e (by simp)
   have hf:=hb f (by simp)
   have hg:=hb g (by simp)
   have hh:=hb h (by simp)
   unfold u2j at ha hb' hc hd he hf hg hh
   rw [u1b.put8]
   simp only [bv,List.foldl,bvS]
   simp only [List.cons.injEq,and_true]
   refine ⟨?_,?_,?_,?_,?_,?_,?_,?_⟩ <;> omega
theorem put2_bv (l:List Int) (hl:l.length = 2) (hb:∀ y ∈ l,u2j y):u1b.put (bv l) 2 = l:=by
 match l,hl with
 | [a,b],_ =>
   have ha:=hb a (by simp)
   have hb':=hb b (by simp)
   unfold u2j at ha hb'
   rw [u1b.put2]
   simp only [bv,List.foldl,bvS]
   simp only [List.cons.injEq,and_true]
   refine ⟨?_,?_⟩ <;> omega
theorem u64_w64 (x:Int) (h1:0 ≤ x) (h2:x < 18446744073709551616):IntKind.u64.wrap (wrap64 x) = x:=by
 show (wrap64 x) % 18446744073709551616 = x
 unfold wrap64
 omega
theorem num_int (n:Nat) (b:List Int) (h1:n ≤ 8) (hb:∀ y ∈ b,u2j y):(u1t.int n b = none ∧ (ug.num n ⟨b,false⟩).2.bad = true) ∨ (n ≤ b.length ∧ u1t.int n b = some (wrap64 (bv (b.take n)),b.drop n) ∧ ug.num n ⟨b,false⟩ = (bv (b.take n),⟨b.drop n,false⟩)):=by
 unfold u1t.int ug.num
 by_cases hl:b.length < n
 · left
   rw [if_pos hl,if_pos (Or.inr hl)]
   exact ⟨rfl,rfl⟩
 · right
   have hv:=val_is (b.take n) (by rw [List.length_take];omega) (fun y hy => hb y (List.mem_of_mem_take hy))
   rw [if_neg hl,if_neg (by rintro (h9 | h9);cases h9;exact hl h9),hv.1,hv.2.1]
   exact ⟨by omega,rfl,rfl⟩
theorem num_bad (n:Nat) (b:List Int):ug.num n ⟨b,true⟩ = (0,⟨b,true⟩):=if_pos (Or.inl rfl)
end Go.Proofs.YtgnehcgaplnfkaaGreatDoor.Laws
namespace Go.Proofs.YtgnehcgaplnfkaaGreatDoor.PAll
open Go.RowKit Go.Proofs.YtgnehcgaplnfkaaGreatDoorW.PrintWords Go.Proofs.YtgnehcgaplnfkaaGreatDoorW.PrintLast Go.Proofs.YtgnehcgaplnfkaaGreatDoorW.PrintMore
attribute [local go_sem] u3r u3t u4c u4b u3n u3o u3u u3s
set_option linter.unusedVariables false
set_option linter.unusedSimpArgs false
abbrev us.SS:=ug.SS
def us.tk (n:Nat) (s:us.SS):List Int × us.SS:=if s.bad = true ∨ s.b.length < n then ([],⟨s.b,true⟩) else (s.b.take n,⟨s.b.drop n,false⟩)
structure us.St (w0 W:World) (g:Nat) (M:Nat → Prop) (s:us.SS):Prop where
 below:Below w0.heap.size w0 W
 base:w0.heap.size ≤ g
 far:∀ k,M k → k ≠ g
 cells:∃ A c,W.heap[g]? = some (.cells #[.slice A s.b.length c,.bool s.bad] 92 (0,0)) ∧ s.b.length ≤ c ∧ Kd.F (Kd.int .u8) W M A s.b.length s.b
theorem us.St.lt {w0 W:World} {g:Nat} {M:Nat → Prop} {s:us.SS} (h:us.St w0 W g M s):g < W.heap.size:=by
 obtain ⟨A,c,hb,_⟩:=h.cells
 exact u3c hb
theorem us.St.keep {w0 W W':World} {g:Nat} {M:Nat → Prop} {s:us.SS} (h:us.St w0 W g M s) (hb:Below w0.heap.size w0 W') (hk:∀ k,k < W.heap.size → W'.heap[k]? = W.heap[k]?):us.St w0 W' g M s:=by
 obtain ⟨A,c,hc,hl,hr⟩:=h.cells
 exact ⟨hb,h.base,h.far,A,c,(hk g h.lt).trans hc,hl,Kd.F_step hr (fun k _ hlt => hk k hlt)⟩
theorem us.St.more {w0 W W':World} {g:Nat} {M:Nat → Prop} {s:us.SS} (h:us.St w0 W g M s) (hb:Below W.heap.size W W'):us.St w0 W' g M s :=
 h.keep (u1c h.below h.below.size hb) (fun k hk => hb.block k hk)
theorem us.St.drew {w0 W:World} {g:Nat} {M:Nat → Prop} {s:us.SS} (h:us.St w0 W g M s) (n:Nat):us.St w0 (W.drewN n) g M s :=
 h.more (uh (Below.refl _ _) n)
theorem us.St.look {w0 W:World} {g:Nat} {M:Nat → Prop} {s:us.SS} (h:us.St w0 W g M s):∃ A c,(W.cell? ⟨g,0,none⟩ = some (.slice A s.b.length c) ∧ W.cell? ⟨g,1,none⟩ = some (.bool s.bad)) ∧ (W.frozen? ⟨g,0,none⟩ = false ∧ W.frozen? ⟨g,1,none⟩ = false) ∧ s.b.length ≤ c ∧ W.heap[g]? = some (.cells #[.slice A s.b.length c,.bool s.bad] 92 (0,0)) ∧ Kd.F (Kd.int .u8) W M A s.b.length s.b:=by
 obtain ⟨A,c,hb,hl,hr⟩:=h.cells
 have h0:=uk hb 0
 have h1:=uk hb 1
 simp only [List.size_toArray,List.length_cons,List.length_nil,List.getElem?_toArray,List.getElem?_cons_zero,List.getElem?_cons_succ] at h0 h1
 exact ⟨A,c,⟨h0,h1⟩,⟨ut hb 0,ut hb 1⟩,hl,hb,hr⟩
theorem us.St.setBad {w0 W:World} {g:Nat} {M:Nat → Prop} {s:us.SS} (h:us.St w0 W g M s) (b:Bool):us.St w0 (W.setCell ⟨g,1,none⟩ (.bool b)) g M ⟨s.b,b⟩:=by
 obtain ⟨A,c,hb,hl,hr⟩:=h.cells
 exact ⟨h.below.setCell h.base _,h.base,h.far,A,c,by rw [u4f hb];rfl,hl,Kd.F_far hr h.far _⟩
theorem us.St.setB {w0 W:World} {g:Nat} {M:Nat → Prop} {s:us.SS} (h:us.St w0 W g M s) (A:Option Addr) (c:Nat) (b:List Int) (hl:b.length ≤ c) (hF:Kd.F (Kd.int .u8) W M A b.length b):us.St w0 (W.setCell ⟨g,0,none⟩ (.slice A b.length c)) g M ⟨b,s.bad⟩:=by
 obtain ⟨A0,c0,hb,_,_⟩:=h.cells
 exact ⟨h.below.setCell h.base _,h.base,h.far,A,c,by rw [u4f hb];rfl,hl,Kd.F_far hF h.far _⟩
theorem us.St.move {w0 W W':World} {g:Nat} {M:Nat → Prop} {s:us.SS} (h:us.St w0 W g M s) (hb:Below w0.heap.size w0 W') (hg:W'.heap[g]? = W.heap[g]?) (hk:∀ k,M k → k < W.heap.size → W'.heap[k]? = W.heap[k]?):us.St w0 W' g M s:=by
 obtain ⟨A,c,hc,hl,hr⟩:=h.cells
 exact ⟨hb,h.base,h.far,A,c,hg.trans hc,hl,Kd.F_step hr hk⟩
theorem us.St.mono {w0 W:World} {g:Nat} {M M':Nat → Prop} {s:us.SS} (h:us.St w0 W g M s) (hM:∀ k,k < W.heap.size → M k → M' k) (hf:∀ k,M' k → k ≠ g):us.St w0 W g M' s:=by
 obtain ⟨A,c,hc,hl,hr⟩:=h.cells
 exact ⟨h.below,h.base,hf,A,c,hc,hl,Kd.F_mono (Kd.F_bound hr) (fun k hk => hM k hk.2 hk.1)⟩
set_option maxHeartbeats 4000000 in
set_option maxRecDepth 10000 in
theorem us.calls (n:Nat) (hn8:n ≤ 9223372036854775807) (w0 W:World) (g:Nat) (M:Nat → Prop) (s:us.SS) (h:us.St w0 W g M s) :
 Calls Tryz.prog 52 #[.pointer (some ⟨g,0,none⟩),.int .i64 (n:Int)] W fun e W' => (∃ A c,e = .returned (.slice A (us.tk n s).1.length c) ∧ (us.tk n s).1.length ≤ c ∧ Kd.F (Kd.int .u8) W' M A (us.tk n s).1.length (us.tk n s).1) ∧ us.St w0 W' g M (us.tk n s).2 ∧ u3e W W' g none:=by
 have HS:=Aside0.mk h
 obtain ⟨b,bad⟩:=s
 obtain ⟨A,c,⟨h0,h1⟩,⟨f0,f1⟩,hl,hb,hr⟩:=h.look
 simp only at h0 h1 hl hr
 have HR:=Aside0.mk hr
 clear h hb hr
 cases bad with
 | true =>
   have HE:Aside0 (us.tk n ⟨b,true⟩ = ([],⟨b,true⟩)):=⟨if_pos (Or.inl rfl)⟩
   rw [HE.out]
   go_enter Tryz.func52,Tryz.ntmps52
   go_wp2
   go_ret
   exact ⟨⟨none,0,rfl,Nat.le_refl _,Kd.F_nil _ _ _⟩,HS.out.setBad true,(u3e.refl _ _ _).set_ 1 _⟩
 | false =>
   by_cases hlt:b.length < n
   · have HE:Aside0 (us.tk n ⟨b,false⟩ = ([],⟨b,true⟩)):=⟨if_pos (Or.inr hlt)⟩
     rw [HE.out]
     have hd:decide ((b.length:Int) < (n:Int)) = true:=decide_eq_true (by omega)
     have hd2:decide (b.length < n) = true:=decide_eq_true hlt
     clear hlt
     go_enter Tryz.func52,Tryz.ntmps52
     go_wp2
     go_ret
     exact ⟨⟨none,0,rfl,Nat.le_refl _,Kd.F_nil _ _ _⟩,HS.out.setBad true,(u3e.refl _ _ _).set_ 1 _⟩
   · have HE:Aside0 (us.tk n ⟨b,false⟩ = (b.take n,⟨b.drop n,false⟩)):=⟨if_neg (by rintro (h9 | h9);cases h9;exact hlt h9)⟩
     rw [HE.out]
     have hd:decide ((b.length:Int) < (n:Int)) = false:=decide_eq_false (by omega)
     have hd2:decide (b.length < n) = false:=decide_eq_false hlt
     have hle:n ≤ b.length:=by omega
     obtain ⟨i0,hi0,_,hsz,_⟩:=info_parts info5
     have hcut:=cut_to (P:=Tryz.prog) 22 5 .i64 Tryz.underlying22 hi0 A b.length c (n:Int) (by omega) (by omega) hl
     have hcut2:=cut_from (P:=Tryz.prog) 22 5 .i64 Tryz.underlying22 hi0 1 hsz A b.length c (n:Int) (by omega) (by omega)
     simp only [Int.toNat_natCast] at hcut hcut2
     obtain ⟨A1,hA1⟩:∃ A1,A1 = (if c = n then A else A.map (·.add (n * 1))):=⟨_,rfl⟩
     have HF:Aside0 (Kd.F (Kd.int .u8) W M A1 (b.drop n).length (b.drop n)):=⟨by rw [hA1];exact Kd.F_cut HR.out hle hl⟩
     rw [← hA1] at hcut2
     clear hA1
     have HT:Aside0 (Kd.F (Kd.int .u8) W M A (b.take n).length (b.take n)):=⟨Kd.F_take HR.out hle⟩
     have HLY:Aside0 ((b.take n).length = n):=⟨by rw [List.length_take];omega⟩
     have HLC:=Aside0.mk hl
     have HLE:=Aside0.mk hle
     have HLD:Aside0 ((b.drop n).length = b.length - n):=⟨List.length_drop⟩
     go_enter Tryz.func52,Tryz.ntmps52
     go_wp2
     go_ret
     rw [HLY.out,← HLD.out]
     refine ⟨⟨A,c,rfl,Nat.le_trans HLE.out HLC.out,?_⟩,us.St.setB (HS.out.setBad false) _ _ (b.drop n) ?_ ?_,((u3e.refl _ _ _).set_ 1 _).set_ 0 _⟩
     · have h9:=HT.out
       rw [HLY.out] at h9
       exact Kd.F_far (Kd.F_far h9 HS.out.far _) HS.out.far _
     · rw [HLD.out]
       have:=HLC.out
       omega
     · exact Kd.F_far (p:=⟨g,1,none⟩) HF.out HS.out.far _
abbrev un.SS:=ug.SS
def un.num (n:Nat) (s:un.SS):Int × un.SS:=(wrap64 (ug.num n s).1,(ug.num n s).2)
theorem un.get_none:u4e.f 11 [] = some (0,false):=by simp [u4e.f,u4e.j0]
theorem un.get_at (n:Nat) (h1:1 ≤ n) (h8:n ≤ 8) (s:un.SS) (A:Option Addr) (c:Nat) (W:World) (hc:(us.tk n s).1.length ≤ c) (hC:Kd.C (Kd.int .u8) W A (us.tk n s).1.length (us.tk n s).1) :
 Calls Tryz.prog 55 #[.slice A (us.tk n s).1.length c] W fun e w' => (∃ b,e = .returned (.tuple #[.int .u64 (ug.num n s).1,.bool b])) ∧ u1w W w':=by
 unfold us.tk ug.num at *
 by_cases h9:s.bad = true ∨ s.b.length < n
 · rw [if_pos h9] at hC hc ⊢
   rw [if_pos h9]
   refine (u4e.calls 11 A c [] 0 false W hC hc un.get_none).mono ?_
   rintro e w' ⟨rfl,hd⟩
   exact ⟨⟨_,rfl⟩,hd⟩
 · rw [if_neg h9] at hC hc ⊢
   rw [if_neg h9]
   have hl:(s.b.take n).length = n:=by
    rw [List.length_take]
    have:¬ s.b.length < n:=fun h7 => h9 (Or.inr h7)
    omega
   refine (u4e.calls 11 A c (s.b.take n) _ true W hC hc (ug.get_is (s.b.take n) (by omega) (by omega))).mono ?_
   rintro e w' ⟨rfl,hd⟩
   exact ⟨⟨_,rfl⟩,hd⟩
set_option maxHeartbeats 4000000 in
set_option maxRecDepth 10000 in
theorem un.calls (n:Nat) (h1n:1 ≤ n) (hn8:n ≤ 8) (w0 W:World) (g:Nat) (M:Nat → Prop) (s:un.SS) (h:us.St w0 W g M s) :
 Calls Tryz.prog 51 #[.pointer (some ⟨g,0,none⟩),.int .i64 (n:Int)] W fun e W' => e = .returned (.int .i64 (un.num n s).1) ∧ us.St w0 W' g M (un.num n s).2 ∧ u3e W W' g none:=by
 have HS:=Aside0.mk h
 have H1:=Aside0.mk h1n
 have H8:=Aside0.mk hn8
 have HTK:Aside0 ((us.tk n s).2 = (ug.num n s).2):=⟨by unfold us.tk ug.num;split <;> rfl⟩
 obtain ⟨z,hz⟩:∃ z,Aside0 ((ug.num n s).1 = z):=⟨_,⟨rfl⟩⟩
 have HE:Aside0 ((un.num n s).1 = wrap64 z):=⟨by unfold un.num;rw [hz.out]⟩
 rw [HE.out]
 clear h h1n hn8
 go_enter Tryz.func51,Tryz.ntmps51
 go_wp2_with (first
  | (go_at_call 52;(with_reducible refine (us.calls n (by have:=H8.out;omega) w0 _ g M s HS.out).mono ?_);rintro e W1 ⟨⟨A,c,rfl,hc,hF⟩,hS1,hK1⟩;have HF:=Aside0.mk hF;have HC:=Aside0.mk hc;have HS1:=Aside0.mk hS1;have HK1:=Aside0.mk hK1;clear hF hc hS1 hK1)
  | (go_at_call 55;(with_reducible refine (un.get_at n H1.out H8.out s A c _ HC.out (Kd.F_now HF.out)).mono ?_);rintro e W2 ⟨⟨b,rfl⟩,nd,rfl⟩;rw [hz.out]))
 go_ret
 refine ⟨by first | rfl | simp,?_,HK1.out.trans (u3e.of_below (uh (Below.refl _ _) nd) g none) (Or.inl rfl)⟩
 have h9:=HS1.out.drew nd
 rw [HTK.out] at h9
 exact h9
theorem un.calls8 (w0 W:World) (g:Nat) (M:Nat → Prop) (s:un.SS) (h:us.St w0 W g M s):Calls Tryz.prog 51 #[.pointer (some ⟨g,0,none⟩),.int .i64 8] W fun e W' => e = .returned (.int .i64 (un.num 8 s).1) ∧ us.St w0 W' g M (un.num 8 s).2 ∧ u3e W W' g none:=un.calls 8 (by decide) (by decide) w0 W g M s h
theorem un.calls4 (w0 W:World) (g:Nat) (M:Nat → Prop) (s:un.SS) (h:us.St w0 W g M s):Calls Tryz.prog 51 #[.pointer (some ⟨g,0,none⟩),.int .i64 4] W fun e W' => e = .returned (.int .i64 (un.num 4 s).1) ∧ us.St w0 W' g M (un.num 4 s).2 ∧ u3e W W' g none:=un.calls 4 (by decide) (by decide) w0 W g M s h
theorem un.calls1 (w0 W:World) (g:Nat) (M:Nat → Prop) (s:un.SS) (h:us.St w0 W g M s):Calls Tryz.prog 51 #[.pointer (some ⟨g,0,none⟩),.int .i64 1] W fun e W' => e = .returned (.int .i64 (un.num 1 s).1) ∧ us.St w0 W' g M (un.num 1 s).2 ∧ u3e W W' g none:=un.calls 1 (by decide) (by decide) w0 W g M s h
abbrev u1r.SS:=un.SS
def u1r.cnt (s:u1r.SS):Int × u1r.SS:=if (un.num 4 s).2.bad = true ∨ (un.num 4 s).1 > 10000 then (0,⟨(un.num 4 s).2.b,true⟩) else un.num 4 s
set_option maxHeartbeats 4000000 in
set_option maxRecDepth 10000 in
theorem u1r.calls (w0 W:World) (g:Nat) (M:Nat → Prop) (s:u1r.SS) (h:us.St w0 W g M s) :
 Calls Tryz.prog 50 #[.pointer (some ⟨g,0,none⟩)] W fun e W' => e = .returned (.int .i64 (u1r.cnt s).1) ∧ us.St w0 W' g M (u1r.cnt s).2 ∧ u3e W W' g none:=by
 have HS:=Aside0.mk h
 clear h
 obtain ⟨⟨z,⟨b,bad⟩⟩,hz⟩:∃ p,Aside0 (un.num 4 s = p):=⟨_,⟨rfl⟩⟩
 cases bad with
 | true =>
   have HE:Aside0 (u1r.cnt s = (0,⟨b,true⟩)):=⟨by unfold u1r.cnt;rw [hz.out];exact if_pos (Or.inl rfl)⟩
   rw [HE.out]
   go_enter Tryz.func50,Tryz.ntmps50
   go_wp2_with (go_at_call 51;(with_reducible refine (un.calls4 w0 _ g M s HS.out).mono ?_);rw [hz.out];rintro e W1 ⟨rfl,hS1,hK1⟩;obtain ⟨A,c,⟨h0,h1⟩,⟨f0,f1⟩,hl,hb,hr⟩:=hS1.look;simp only at h0 h1;have HS1:=Aside0.mk hS1;have HK1:=Aside0.mk hK1;clear hS1 hK1 hb hr hl)
   go_ret
   exact ⟨rfl,HS1.out.setBad true,HK1.out.set_ 1 _⟩
 | false =>
   by_cases h9:z > 10000
   · have HE:Aside0 (u1r.cnt s = (0,⟨b,true⟩)):=⟨by unfold u1r.cnt;rw [hz.out];exact if_pos (Or.inr h9)⟩
     rw [HE.out]
     have d1:decide (z > 10000) = true:=decide_eq_true h9
     have d2:decide (10000 < z) = true:=decide_eq_true h9
     clear h9
     go_enter Tryz.func50,Tryz.ntmps50
     go_wp2_with (go_at_call 51;(with_reducible refine (un.calls4 w0 _ g M s HS.out).mono ?_);rw [hz.out];rintro e W1 ⟨rfl,hS1,hK1⟩;obtain ⟨A,c,⟨h0,h1⟩,⟨f0,f1⟩,hl,hb,hr⟩:=hS1.look;simp only at h0 h1;have HS1:=Aside0.mk hS1;have HK1:=Aside0.mk hK1;clear hS1 hK1 hb hr hl)
     go_ret
     exact ⟨rfl,HS1.out.setBad true,HK1.out.set_ 1 _⟩
   · have HE:Aside0 (u1r.cnt s = (z,⟨b,false⟩)):=⟨by unfold u1r.cnt;rw [hz.out];exact if_neg (by rintro (h8 | h8);cases h8;exact h9 h8)⟩
     rw [HE.out]
     have d1:decide (z > 10000) = false:=decide_eq_false h9
     have d2:decide (10000 < z) = false:=decide_eq_false h9
     clear h9
     go_enter Tryz.func50,Tryz.ntmps50
     go_wp2_with (go_at_call 51;(with_reducible refine (un.calls4 w0 _ g M s HS.out).mono ?_);rw [hz.out];rintro e W1 ⟨rfl,hS1,hK1⟩;obtain ⟨A,c,⟨h0,h1⟩,⟨f0,f1⟩,hl,hb,hr⟩:=hS1.look;simp only at h0 h1;have HS1:=Aside0.mk hS1;have HK1:=Aside0.mk hK1;clear hS1 hK1 hb hr hl)
     go_ret
     exact ⟨rfl,HS1.out.setBad false,HK1.out.set_ 1 _⟩
abbrev u2i.Sp:=S48
def u2i.okB (x:u2i.Sp):Bool:=decide (0 < x.f0.size) && (decide (x.f0.size ≤ 24) && (decide (0 ≤ x.f1) && decide (x.f1 ≤ 2147483647)))
def u2i.RetA (P:Prop) (e:Ending):Prop:=∃ i:Int,e = .returned (.int .i64 i) ∧ (0 ≤ i ↔ P)
def u2i.CanB (l:List u2i.Sp):Bool:=decide (l.length ≤ 10000) && l.all u2i.okB
theorem u2i.test (x:u2i.Sp) (w:World) :
 Calls Tryz.prog 77 #[.agg #[.string x.f0,.int .i64 x.f1]] w fun e w' => e = .returned (.bool (!u2i.okB x)) ∧ Below w.heap.size w w':=by
 by_cases h0:x.f0.size = 0
 · have HE:Aside0 (u2i.okB x = false):=⟨by unfold u2i.okB;rw [decide_eq_false (by omega)];rfl⟩
   rw [HE.out]
   have n1:x.f0.toList = []:=(Base.toList_nil _).2 h0
   have n2:(!x.f0.toList.isEmpty) = false:=by rw [n1];rfl
   have n3:x.f0.toList.isEmpty = true:=by rw [n1];rfl
   clear h0
   go_enter Tryz.func77,Tryz.ntmps77
   go_wp2
   go_ret
   exact ⟨by simp,uj (Below.refl _ _) _⟩
 · have n1:¬ x.f0.toList = []:=fun h9 => h0 ((Base.toList_nil _).1 h9)
   have n3:x.f0.toList.isEmpty = false:=by cases h:x.f0.toList with | nil => exact absurd h n1 | cons a b => rfl
   have n2:(!x.f0.toList.isEmpty) = true:=by rw [n3];rfl
   have HE:Aside0 (u2i.okB x = (decide (x.f0.size ≤ 24) && (decide (0 ≤ x.f1) && decide (x.f1 ≤ 2147483647)))):=⟨by unfold u2i.okB;rw [decide_eq_true (show 0 < x.f0.size by omega)];rfl⟩
   rw [HE.out]
   clear h0
   by_cases h1:x.f0.size ≤ 24
   · have d1:decide ((x.f0.size:Int) > 24) = false:=decide_eq_false (by omega)
     have d1b:decide (24 < (x.f0.size:Int)) = false:=decide_eq_false (by omega)
     have d1c:decide (24 < x.f0.size) = false:=decide_eq_false (by omega)
     rw [decide_eq_true h1]
     clear h1
     by_cases h2:x.f1 < 0
     · have d2:decide (x.f1 < 0) = true:=decide_eq_true h2
       rw [decide_eq_false (show ¬ 0 ≤ x.f1 by omega)]
       clear h2
       go_enter Tryz.func77,Tryz.ntmps77
       go_wp2
       go_ret
       exact ⟨by simp,uj (Below.refl _ _) _⟩
     · have d2:decide (x.f1 < 0) = false:=decide_eq_false h2
       rw [decide_eq_true (show 0 ≤ x.f1 by omega)]
       have e2:Aside0 ((true && (true && decide (x.f1 ≤ 2147483647))) = !decide (x.f1 > 2147483647)):=⟨by
        rw [Bool.true_and,Bool.true_and]
        by_cases h3:x.f1 ≤ 2147483647
        · rw [decide_eq_true h3,decide_eq_false (by omega)];rfl
        · rw [decide_eq_false h3,decide_eq_true (by omega)];rfl⟩
       rw [e2.out]
       clear h2
       go_enter Tryz.func77,Tryz.ntmps77
       go_wp2
       go_ret
       exact ⟨by simp,uj (Below.refl _ _) _⟩
   · have d1:decide ((x.f0.size:Int) > 24) = true:=decide_eq_true (by omega)
     have d1b:decide (24 < (x.f0.size:Int)) = true:=decide_eq_true (by omega)
     have d1c:decide (24 < x.f0.size) = true:=decide_eq_true (by omega)
     rw [decide_eq_false h1]
     clear h1
     go_enter Tryz.func77,Tryz.ntmps77
     go_wp2
     go_ret
     exact ⟨by simp,uj (Below.refl _ _) _⟩
set_option maxHeartbeats 1000000 in
theorem u2i.index (A:Option Addr) (c:Nat) (l:List u2i.Sp) (w:World) (hr:Kd.C k48 w A l.length l) (hm:l.length ≤ 9223372036854775807) :
 Calls Tryz.prog 92 #[.slice A l.length c,.func (.func 77) #[] #[]] w fun e w' =>
  u2i.RetA (l.all u2i.okB = false) e ∧ Below w.heap.size w w':=by
 have HR:=Aside0.mk hr
 clear hr
 go_enter Tryz.func92,Tryz.ntmps92
 go_wp2
 go_loopg [8] (l.length) (fun kq v8 wr => ∃ (x:Nat),x ≤ l.length ∧ v8 = .int .i64 x ∧ Aside0 (∀ j (hj:j < l.length),j < x → u2i.okB (l[j]'hj) = true) ∧ l.length ≤ kq + x ∧ Below w.heap.size w wr)
 case atStart => exact ⟨0,by omega,rfl,⟨fun j _ hj => absurd hj (by omega)⟩,by omega,Below.refl _ _⟩
 case round =>
  obtain ⟨x,hx,rfl,HN,hk,hB⟩:=hrel
  have HB:=Aside0.mk hB
  clear hB
  by_cases hlt:x < l.length
  · obtain ⟨ad,e,f0,f1⟩:=at_T48 (Kd.C_below HR.out HB.out) (x:Int) (by omega) (by omega)
    subst e
    have HRD:Aside0 (u3y l (x:Int) = l[x]'hlt):=⟨by simp [u3y,hlt]⟩
    obtain ⟨y,hy⟩:∃ y,Aside0 (u3y l (x:Int) = y):=⟨_,⟨rfl⟩⟩
    rw [hy.out] at f0 f1 HRD
    simp only [Int.toNat_natCast] at f0 f1
    cases hb:u2i.okB y with
    | false =>
      have HBF:=Aside0.mk hb
      clear hb
      go_wp2_with (go_at_call 77;(with_reducible refine (u2i.test y _).mono ?_);rintro e W1 ⟨rfl,hb1⟩;rw [HBF.out];have HB1:=Aside0.mk hb1;clear hb1)
      go_ret
      refine ⟨⟨x,rfl,⟨fun _ => ?_,fun _ => by omega⟩⟩,HB.out.trans (HB1.out.mono HB.out.size)⟩
      rw [List.all_eq_false]
      exact ⟨y,by rw [HRD.out];exact List.getElem_mem hlt,by simp [HBF.out]⟩
    | true =>
      have HBF:=Aside0.mk hb
      clear hb
      obtain ⟨g1,rfl⟩:∃ g1,gk = g1 + 1:=⟨gk - 1,by omega⟩
      go_wp2_with (go_at_call 77;(with_reducible refine (u2i.test y _).mono ?_);rintro e W1 ⟨rfl,hb1⟩;rw [HBF.out];have HB1:=Aside0.mk hb1;clear hb1)
      go_roundg g1
      case rel =>
       refine ⟨x + 1,by omega,by go_num,⟨fun j hj hjx => ?_⟩,by omega,HB.out.trans (HB1.out.mono HB.out.size)⟩
       rcases Nat.lt_or_ge j x with h9 | h9
       · exact HN.out j hj h9
       · have:j = x:=by omega
         subst this
         rw [← HRD.out]
         exact HBF.out
      case measure => omega
  · go_wp2
    go_ret
    refine ⟨⟨-1,rfl,⟨fun h => absurd h (by decide),fun h => ?_⟩⟩,HB.out⟩
    exfalso
    rw [List.all_eq_false] at h
    obtain ⟨y,hy,h2⟩:=h
    obtain ⟨j,hj,rfl⟩:=List.getElem_of_mem hy
    exact h2 (HN.out j hj (by omega))
theorem u2i.contains (A:Option Addr) (c:Nat) (l:List u2i.Sp) (w:World) (hr:Kd.C k48 w A l.length l) :
 Calls Tryz.prog 78 #[.slice A l.length c,.func (.func 77) #[] #[]] w fun e w' => e = .returned (.bool (!l.all u2i.okB)) ∧ Below w.heap.size w w':=by
 have hm:=hr.2.1
 go_enter Tryz.func78,Tryz.ntmps78
 go_wp2_with (go_at_call 92;refine (u2i.index _ _ _ _ hr hm).mono ?_;rintro e W1 ⟨⟨i,rfl,hi⟩,hb1⟩;have HI:=Aside0.mk hi;clear hi)
 go_ret
 have hd:decide (0 ≤ i) = !l.all u2i.okB:=by
  cases hl:l.all u2i.okB with
  | false => exact decide_eq_true (HI.out.2 hl)
  | true => exact decide_eq_false (fun h => (by have h9:=HI.out.1 h;rw [hl] at h9;cases h9))
 exact ⟨by rw [← hd];rfl,hb1⟩
set_option maxHeartbeats 1000000 in
theorem u2i.calls (A:Option Addr) (c:Nat) (l:List u2i.Sp) (w:World) (hr:Kd.C k48 w A l.length l) (hc:l.length ≤ c) :
 Calls Tryz.prog 42 #[.slice A l.length c] w fun e w' => e = .returned (.bool (u2i.CanB l)) ∧ Below w.heap.size w w':=by
 have HR:=Aside0.mk hr
 clear hr
 by_cases hmx:l.length ≤ 10000
 · have hd:decide ((l.length:Int) ≤ 10000) = true:=decide_eq_true (by omega)
   have HV:Aside0 (u2i.CanB l = l.all u2i.okB):=⟨by unfold u2i.CanB;rw [decide_eq_true hmx];rfl⟩
   rw [HV.out]
   obtain ⟨b,hb⟩:∃ b,Aside0 (l.all u2i.okB = b):=⟨_,⟨rfl⟩⟩
   rw [hb.out]
   go_enter Tryz.func42,Tryz.ntmps42
   go_wp2_with (go_at_call 78;refine (u2i.contains A c l w HR.out).mono ?_;rintro e W1 ⟨rfl,hb1⟩;rw [hb.out])
   go_ret
   exact ⟨by simp,hb1⟩
 · have hd:decide ((l.length:Int) ≤ 10000) = false:=decide_eq_false (by omega)
   have HV:Aside0 (u2i.CanB l = false):=⟨by unfold u2i.CanB;rw [decide_eq_false hmx];rfl⟩
   rw [HV.out]
   go_enter Tryz.func42,Tryz.ntmps42
   go_wp2
   go_ret
   exact ⟨rfl,Below.refl _ _⟩
end Go.Proofs.YtgnehcgaplnfkaaGreatDoor.PAll
namespace Go.Proofs.YtgnehcgaplnfkaaGreatDoor.PAll
open Go.RowKit Go.Proofs.YtgnehcgaplnfkaaGreatDoorW.PrintWords Go.Proofs.YtgnehcgaplnfkaaGreatDoorW.PrintLast Go.Proofs.YtgnehcgaplnfkaaGreatDoorW.PrintMore
attribute [local go_sem] u3r u3t u4c u4b u3n u3o u3u u3s
set_option linter.unusedVariables false
set_option linter.unusedSimpArgs false
attribute [local go_sem high] eqA48
def api_Spot.l0:Nat → List (S48) → List (S48) → Int → Int → Option (Bool)
 | 0,_,_,_,_ => none
 | k + 1,x0,x1,x12,x13 => if x13 < x12 then (if 0 ≤ x13 then (if x13 < (x0.length:Int) then (if x13 < (x1.length:Int) then (if (!((((u3y x0 x13).f0).toList) == (((u3y x1 x13).f0).toList)) || (!(((u3y x0 x13).f1) == ((u3y x1 x13).f1)))) = true then (some false) else (api_Spot.l0 k x0 x1 x12 (wrap64 (x13 + 1)))) else (none)) else (none)) else (none)) else (some true)
def api_Spot.f (k:Nat) (l0:List (S48)) (l1:List (S48)):Option (Bool):=if (l0.length:Int) = (l1.length:Int) then (api_Spot.l0 k l0 l1 (l0.length:Int) 0) else (some false)
set_option maxHeartbeats 8000000 in
set_option maxRecDepth 100000 in
theorem api_Spot.calls (k:Nat) (A0:Option Addr) (c0:Nat) (l0:List (S48)) (A1:Option Addr) (c1:Nat) (l1:List (S48)) (r:Bool) (w:World) (hr0:Kd.C k48 w A0 l0.length l0) (hc0:l0.length ≤ c0) (hr1:Kd.C k48 w A1 l1.length l1) (hc1:l1.length ≤ c1) (h:api_Spot.f k l0 l1 = some r) :
 Calls Tryz.prog 21 #[.slice A0 l0.length c0,.slice A1 l1.length c1] w fun e w' => e = .returned (.bool r) ∧ u1w w w':=by
 have hu48:=Tryz.underlying48
 have HR0:=Aside0.mk hr0
 have HC0:=Aside0.mk hc0
 clear hr0 hc0
 have HR1:=Aside0.mk hr1
 have HC1:=Aside0.mk hc1
 clear hr1 hc1
 have H:(if (l0.length:Int) = (l1.length:Int) then (api_Spot.l0 k l0 l1 (l0.length:Int) 0) else (some false)) = some r:=h
 clear h
 by_cases c3:(l0.length:Int) = (l1.length:Int)
 · rw [if_pos c3] at H
   have c3b0:((l0.length:Int) == (l1.length:Int)) = true:=beq_iff_eq.mpr c3
   have c3b1:((l0.length:Int) != (l1.length:Int)) = false:=bne_eq_false_iff_eq.mpr c3
   have c3b2:(l0.length == l1.length) = true:=by first | simpa using c3 | (simp at c3 ⊢;omega)
   clear c3
   have H':=Aside0.mk H
   clear H
   go_enter Tryz.func21,Tryz.ntmps21
   go_wp2
   repeat (go_quiet (fail);try go_wp2)
   go_loopg [13] k (fun kq v13 w' => ∃ (x13_1:Int),v13 = .int .i64 x13_1 ∧ Aside0 (api_Spot.l0 kq l0 l1 (l0.length:Int) x13_1 = some r) ∧ Aside0 (kq ≤ k) ∧ u1w w w')
   case atStart => exact ⟨(0),(by first | rfl | (simp;done) | (simp [*];done)),H',⟨Nat.le_refl _⟩,by repeat (first | exact u1w.refl _ | apply u1w.step)⟩
   case round =>
    clear H'
    try clear c1
    try clear c2
    try clear p2
    try clear c3
    try clear c3b0
    try clear c3b1
    try clear c3b2
    obtain ⟨x13_1,rfl,HA,HK1,⟨m1,rfl⟩⟩:=hrel
    cases gk with
    | zero => exact absurd HA.out (by simp [api_Spot.l0])
    | succ k1 =>
      have H:=HA.out
      clear HA
      simp only [api_Spot.l0] at H
      by_cases c4:x13_1 < (l0.length:Int)
      · rw [if_pos c4] at H
        have c4b0:decide (x13_1 < (l0.length:Int)) = true:=decide_eq_true c4
        clear c4
        by_cases c5:0 ≤ x13_1
        · rw [if_pos c5] at H
          have c5b0:decide (0 ≤ x13_1) = true:=decide_eq_true c5
          clear c5
          by_cases c6:x13_1 < (l0.length:Int)
          · rw [if_pos c6] at H
            have c6b0:decide (x13_1 < (l0.length:Int)) = true:=decide_eq_true c6
            clear c6
            by_cases c7:x13_1 < (l1.length:Int)
            · rw [if_pos c7] at H
              have c7b0:decide (x13_1 < (l1.length:Int)) = true:=decide_eq_true c7
              clear c7
              by_cases c8:(!((((u3y l0 x13_1).f0).toList) == (((u3y l1 x13_1).f0).toList)) || (!(((u3y l0 x13_1).f1) == ((u3y l1 x13_1).f1)))) = true
              · rw [if_pos c8] at H
                have c8b0:(!((((u3y l0 x13_1).f0).toList) == (((u3y l1 x13_1).f0).toList)) || (!(((u3y l0 x13_1).f1) == ((u3y l1 x13_1).f1)))) = true:=c8
                clear c8
                obtain rfl:=Option.some.inj H
                have p164:0 ≤ (x13_1:Int):=of_decide_eq_true (by first | (with_reducible assumption) | assumption)
                have q164:x13_1 < (l0.length:Int):=of_decide_eq_true (by first | (with_reducible assumption) | assumption)
                obtain ⟨ad164,e164,hx164_0,hx164_1⟩:=at_T48 HR0.out x13_1 p164 q164
                cases e164
                replace p164:=eq_true p164
                replace q164:=eq_true q164
                have p165:0 ≤ (x13_1:Int):=of_decide_eq_true (by first | (with_reducible assumption) | assumption)
                have q165:x13_1 < (l1.length:Int):=of_decide_eq_true (by first | (with_reducible assumption) | assumption)
                obtain ⟨ad165,e165,hx165_0,hx165_1⟩:=at_T48 HR1.out x13_1 p165 q165
                cases e165
                replace p165:=eq_true p165
                replace q165:=eq_true q165
                go_wp2
                repeat (go_quiet (fail);try go_wp2)
                go_ret
                exact ⟨by first | rfl | (simp;done) | (simp [*];done),by repeat (first | exact u1w.refl _ | apply u1w.step)⟩
              · rw [if_neg c8] at H
                have c8b0:(!((((u3y l0 x13_1).f0).toList) == (((u3y l1 x13_1).f0).toList)) || (!(((u3y l0 x13_1).f1) == ((u3y l1 x13_1).f1)))) = false:=by simpa using c8
                clear c8
                have H':=Aside0.mk H
                clear H
                have p164:0 ≤ (x13_1:Int):=of_decide_eq_true (by first | (with_reducible assumption) | assumption)
                have q164:x13_1 < (l0.length:Int):=of_decide_eq_true (by first | (with_reducible assumption) | assumption)
                obtain ⟨ad164,e164,hx164_0,hx164_1⟩:=at_T48 HR0.out x13_1 p164 q164
                cases e164
                replace p164:=eq_true p164
                replace q164:=eq_true q164
                have p165:0 ≤ (x13_1:Int):=of_decide_eq_true (by first | (with_reducible assumption) | assumption)
                have q165:x13_1 < (l1.length:Int):=of_decide_eq_true (by first | (with_reducible assumption) | assumption)
                obtain ⟨ad165,e165,hx165_0,hx165_1⟩:=at_T48 HR1.out x13_1 p165 q165
                cases e165
                replace p165:=eq_true p165
                replace q165:=eq_true q165
                go_wp2
                repeat (go_quiet (fail);try go_wp2)
                go_roundg k1
                case measure => have:=HK1.out;omega
                case rel => exact ⟨(wrap64 (x13_1 + 1)),(by first | rfl | (simp;done) | (simp [*];done)),H',⟨by have:=HK1.out;omega⟩,by repeat (first | exact u1w.refl _ | apply u1w.step)⟩
            · rw [if_neg c7] at H
              exact absurd H (by simp)
          · rw [if_neg c6] at H
            exact absurd H (by simp)
        · rw [if_neg c5] at H
          exact absurd H (by simp)
      · rw [if_neg c4] at H
        have c4b0:decide (x13_1 < (l0.length:Int)) = false:=decide_eq_false c4
        clear c4
        obtain rfl:=Option.some.inj H
        go_wp2
        repeat (go_quiet (fail);try go_wp2)
        go_ret
        exact ⟨by first | rfl | (simp;done) | (simp [*];done),by repeat (first | exact u1w.refl _ | apply u1w.step)⟩
 · rw [if_neg c3] at H
   have c3b0:((l0.length:Int) == (l1.length:Int)) = false:=beq_eq_false_iff_ne.mpr c3
   have c3b1:((l0.length:Int) != (l1.length:Int)) = true:=bne_iff_ne.mpr c3
   have c3b2:(l0.length == l1.length) = false:=by first | simpa using c3 | (simp at c3 ⊢;omega)
   obtain rfl:=Option.some.inj H
   go_enter Tryz.func21,Tryz.ntmps21
   go_wp2
   repeat (go_quiet (fail);try go_wp2)
   go_ret
   exact ⟨by first | rfl | (simp;done) | (simp [*];done),by repeat (first | exact u1w.refl _ | apply u1w.step)⟩
end Go.Proofs.YtgnehcgaplnfkaaGreatDoor.PAll
namespace Go.Proofs.YtgnehcgaplnfkaaGreatDoor.PAll
open Go.RowKit Go.Proofs.YtgnehcgaplnfkaaGreatDoorW.PrintWords Go.Proofs.YtgnehcgaplnfkaaGreatDoorW.PrintLast Go.Proofs.YtgnehcgaplnfkaaGreatDoorW.PrintMore
attribute [local go_sem] u3r u3t u4c u4b u3n u3o u3u u3s
set_option linter.unusedVariables false
set_option linter.unusedSimpArgs false
def u2d.f (a0:ByteArray):Option Bool:=some (Base.nameB a0)
theorem u2d.letter_is (x:Int):labels_letter.f x = some (Base.letterB x):=by
 unfold labels_letter.f Base.letterB
 by_cases h1:x = 95
 · simp [h1]
 · rw [if_neg h1]
   by_cases h2:Go.bits .or .u8 x 32 ≥ 97
   · rw [if_pos h2]
     simp only [ge_iff_le] at h2
     simp [h1,h2]
   · rw [if_neg h2]
     simp only [ge_iff_le] at h2
     simp [h1,h2]
theorem u2d.digit_is (x:Int):labels_digit.f x = some (Base.digitB x):=by
 unfold labels_digit.f Base.digitB
 by_cases h1:x ≥ 48
 · rw [if_pos h1]
   simp only [ge_iff_le] at h1
   simp [h1]
 · rw [if_neg h1]
   simp only [ge_iff_le] at h1
   simp [h1]
def u2d.badB (c:Int):Bool:=!Base.letterB c && !Base.digitB c
set_option maxHeartbeats 400000 in
theorem u2d.test (c:Int) (w:World):Calls Tryz.prog 84 #[.int .u8 c] w fun e w' => e = .returned (.bool (u2d.badB c)) ∧ u1w w w':=by
 unfold u2d.badB
 cases hl:Base.letterB c with
 | true =>
   go_enter Tryz.func84,Tryz.ntmps84
   go_wp2_with (go_at_call 82;refine (labels_letter.calls _ _ _ (u2d.letter_is _)).mono ?_;rintro e W1 ⟨rfl,⟨nd,rfl⟩⟩)
   go_ret
   exact ⟨rfl,⟨nd,rfl⟩⟩
 | false =>
   go_enter Tryz.func84,Tryz.ntmps84
   go_wp2_with (first | (go_at_call 82;refine (labels_letter.calls _ _ _ (u2d.letter_is _)).mono ?_;rintro e W1 ⟨rfl,⟨nd,rfl⟩⟩) | (go_at_call 85;refine (labels_digit.calls _ _ _ (u2d.digit_is _)).mono ?_;rintro e W2 ⟨rfl,⟨md,rfl⟩⟩))
   go_ret
   exact ⟨rfl,⟨_,rfl⟩⟩
set_option maxHeartbeats 1000000 in
theorem u2d.index (A:Option Addr) (c:Nat) (l:List Int) (w:World) (hr:Kd.C (Kd.int .u8) w A l.length l) (hm:l.length ≤ 140737488355328) :
 Calls Tryz.prog 95 #[.slice A l.length c,.func (.func 84) #[] #[]] w fun e w' => (∃ i:Int,e = .returned (.int .i64 i) ∧ decide (0 ≤ i) = l.any u2d.badB) ∧ u1w w w':=by
 have HR:=Aside0.mk hr
 clear hr
 go_enter Tryz.func95,Tryz.ntmps95
 go_wp2
 go_loopg [8] (l.length) (fun kq v8 w' => ∃ (x:Nat),x ≤ l.length ∧ v8 = .int .i64 x ∧ Aside0 ((l.take x).any u2d.badB = false) ∧ l.length ≤ kq + x ∧ u1w w w')
 case atStart => exact ⟨0,by omega,rfl,⟨rfl⟩,by omega,u1w.refl _⟩
 case round =>
  obtain ⟨x,hx,rfl,HN,hk,⟨m1,rfl⟩⟩:=hrel
  by_cases hlt:x < l.length
  · obtain ⟨ad,e,hc⟩:=Kd.at_int HR.out (x:Int) (by omega) (by omega)
    subst e
    have hc2:w.cell? (ad.add x) = some (.int .u8 (rd l x)):=by simpa using hc
    clear hc
    have htk:l.take (x + 1) = l.take x ++ [rd l x]:=by
     rw [List.take_succ_eq_append_getElem hlt]
     simp [rd,List.getD_eq_getElem?_getD,hlt]
    have HT:=Aside0.mk htk
    clear htk
    cases hb:u2d.badB (rd l x) with
    | true =>
      go_wp2_with (go_at_call 84;refine (u2d.test _ _).mono ?_;rintro e W1 ⟨rfl,⟨nd,rfl⟩⟩)
      go_ret
      refine ⟨⟨_,rfl,?_⟩,⟨_,rfl⟩⟩
      have h1:l.any u2d.badB = true:=by
       rw [List.any_eq_true]
       refine ⟨rd l x,?_,hb⟩
       have h2:rd l x ∈ l.take (x + 1):=by rw [HT.out];simp
       exact List.mem_of_mem_take h2
      rw [h1]
      simp
    | false =>
      go_wp2_with (go_at_call 84;refine (u2d.test _ _).mono ?_;rintro e W1 ⟨rfl,⟨nd,rfl⟩⟩)
      obtain ⟨g1,rfl⟩:∃ g1,gk = g1 + 1:=⟨gk - 1,by omega⟩
      go_roundg g1
      case rel =>
       refine ⟨x + 1,by omega,by go_num,⟨?_⟩,by omega,⟨_,rfl⟩⟩
       rw [HT.out,List.any_append,HN.out]
       simp [hb]
      case measure => omega
  · go_wp2
    go_ret
    refine ⟨⟨_,rfl,?_⟩,⟨_,rfl⟩⟩
    have h1:=HN.out
    rw [List.take_of_length_le (by omega)] at h1
    rw [h1]
    simp
theorem u2d.contains (A:Option Addr) (c:Nat) (l:List Int) (w:World) (hr:Kd.C (Kd.int .u8) w A l.length l) (hm:l.length ≤ 140737488355328) :
 Calls Tryz.prog 83 #[.slice A l.length c,.func (.func 84) #[] #[]] w fun e w' => e = .returned (.bool (l.any u2d.badB)) ∧ u1w w w':=by
 go_enter Tryz.func83,Tryz.ntmps83
 go_wp2_with (go_at_call 95;refine (u2d.index _ _ _ _ hr hm).mono ?_;rintro e W1 ⟨⟨i,rfl,hi⟩,⟨nd,rfl⟩⟩)
 go_ret
 exact ⟨by simp,⟨_,rfl⟩⟩
theorem u2d.contains_n (A:Option Addr) (c n:Nat) (l:List Int) (w:World) (hn:l.length = n) (hr:Kd.C (Kd.int .u8) w A n l) (hm:n ≤ 140737488355328) :
 Calls Tryz.prog 83 #[.slice A n c,.func (.func 84) #[] #[]] w fun e w' => e = .returned (.bool (l.any u2d.badB)) ∧ u1w w w':=by
 subst hn
 exact u2d.contains A c l w hr hm
set_option maxHeartbeats 1000000 in
theorem u2d.calls (a0:ByteArray) (r:Bool) (w:World) (h:u2d.f a0 = some r) :
 Calls Tryz.prog 63 #[.string a0] w fun e w' => e = .returned (.bool r) ∧ Below w.heap.size w w':=by
 obtain rfl:Base.nameB a0 = r:=by simpa [u2d.f] using h
 clear h
 by_cases h0:a0.size = 0
 · have he:a0.toList = []:=(Base.toList_nil a0).2 h0
   have hv:Aside0 (Base.nameB a0 = false):=⟨by simp [Base.nameB,h0]⟩
   have hi:a0.toList.isEmpty = true:=by rw [he];rfl
   clear he h0
   go_enter Tryz.func63,Tryz.ntmps63
   go_wp2
   go_ret
   exact ⟨by rw [hv.out];rfl,Below.refl _ _⟩
 · have he:a0.toList.isEmpty = false:=by
    cases hl:a0.toList with
    | nil => exact absurd ((Base.toList_nil a0).1 hl) h0
    | cons _ _ => rfl
   have hen:¬ a0.toList = []:=by intro hl;rw [hl] at he;simp at he
   by_cases h24:a0.size ≤ 24
   · have hp:0 < a0.size:=by omega
     have hbt:((a0[0]'hp).toNat:Int) = bt a0 0:=by simpa using bt_at a0 0 (by simpa using hp)
     have hh:(u3d a0).headD 0 = bt a0 0:=by
      rw [← rd_bytesOf]
      cases u3d a0 <;> rfl
     have HH:=Aside0.mk hh
     clear hh
     cases hl:Base.letterB (bt a0 0) with
     | false =>
       have hv:Aside0 (Base.nameB a0 = false):=⟨by unfold Base.nameB;rw [HH.out,hl];simp⟩
       go_enter Tryz.func63,Tryz.ntmps63
       go_wp2_with (go_at_call 82;refine (labels_letter.calls _ _ _ (u2d.letter_is _)).mono ?_;rintro e W1 ⟨rfl,⟨nd,rfl⟩⟩)
       go_ret
       exact ⟨by rw [hv.out];rfl,uh (Below.refl _ _) nd⟩
     | true =>
       have kb:=fun W => print_bytes (P:=Tryz.prog) 9 22 5 Tryz.underlying9 Tryz.underlying22 Tryz.underlying5 a0 W
       have hv:Aside0 (Base.nameB a0 = !(u3d a0).any u2d.badB):=⟨by
        have h1:(u3d a0).all (fun c => Base.letterB c || Base.digitB c) = !(u3d a0).any u2d.badB:=by
         rw [List.all_eq_not_any_not]
         congr 2
         funext c
         simp [u2d.badB]
        unfold Base.nameB
        rw [HH.out,hl,h1]
        simp [hp,h24]⟩
       go_enter Tryz.func63,Tryz.ntmps63
       go_wp2_with (go_at_call 82;refine (labels_letter.calls _ _ _ (u2d.letter_is _)).mono ?_;rintro e W1 ⟨rfl,⟨nd,rfl⟩⟩)
       have hr:=bytes_reads (w.drewN nd) 5 a0 (by omega)
       have hc:Kd.C (Kd.int .u8) (Lib.bytesWorld (w.drewN nd) 5 a0) (some ⟨w.heap.size,0,none⟩) a0.size (u3d a0):=Kd.C_of_reads (d:=(0:Int)) (h1:=fun _ => rfl) hr
       refine (u2d.contains_n _ _ _ _ _ (u3p a0) hc (by omega)).mono ?_
       rintro e W2 ⟨rfl,⟨md,rfl⟩⟩
       clear hr hc
       go_wp2
       go_ret
       exact ⟨by rw [hv.out];rfl,uh (bytes_below (uh (Below.refl _ _) nd) (by simp) _ _) md⟩
   · have hv:Aside0 (Base.nameB a0 = false):=⟨by simp [Base.nameB,h24]⟩
     go_enter Tryz.func63,Tryz.ntmps63
     go_wp2
     go_ret
     exact ⟨by rw [hv.out];rfl,Below.refl _ _⟩
mutual
def u3k.j0:Nat → List (S111) → Bool → Option (Bool)
 | 0,_,_ => none
 | k + 1,x0,x13 => if x13 = true then (some false) else (u3k.l0 k (⟨#[]⟩:ByteArray) x0 (x0.length:Int) 0)
def u3k.l0:Nat → ByteArray → List (S111) → Int → Int → Option (Bool)
 | 0,_,_,_,_ => none
 | k + 1,x3,x14,x15,x16 => if x16 < x15 then (if 0 ≤ x16 then (if x16 < (x14.length:Int) then ((u2d.f ((rd_T111 x14 x16).f0)).bind fun t103 => (if t103 = true then ((u4d.f ((rd_T111 x14 x16).f1)).bind fun t104 => (if t104 = true then (if ((Op.bytesLess x3.toList (((rd_T111 x14 x16).f0).toList)) = true) then (u3k.l0 k ((rd_T111 x14 x16).f0) x14 x15 (wrap64 (x16 + 1))) else (some false)) else (some false))) else (some false))) else (none)) else (none)) else (some true)
end
def u3k.f (k:Nat) (l0:List (S111)):Option (Bool):=if (l0.length:Int) = 0 then (u3k.j0 k l0 true) else (u3k.j0 k l0 (decide ((l0.length:Int) > 8)))
def u1m.piece (s:ByteArray):List Int:=(s.size:Int) % 256 :: u3d s
def u1m.pieces (x:S111):List Int:=u1m.piece x.f0 ++ u1m.piece x.f1
def u1m.enc (l:List S111):List Int:=(l.length:Int) % 256 :: l.flatMap u1m.pieces
def u1m.f (k:Nat) (l0:List S111):Option (List Int × Int):=(u3k.f k l0).bind fun b => if b = true then (if (u1m.enc l0).length ≤ 140737488355328 then some (u1m.enc l0,0) else none) else some ([],1)
end Go.Proofs.YtgnehcgaplnfkaaGreatDoor.PAll
namespace Go.Proofs.YtgnehcgaplnfkaaGreatDoor.Laws
open Go.RowKit Go.Proofs.YtgnehcgaplnfkaaGreatDoor.PAll Go.Proofs.YtgnehcgaplnfkaaGreatDoorW.PrintWords Go.Proofs.YtgnehcgaplnfkaaGreatDoorW.PrintLast
set_option linter.unusedVariables false
set_option linter.unusedSimpArgs false
def okFrom:List UInt8 → List S111 → Bool
 | _,[] => true
 | last,x :: r => Base.nameB x.f0 && Base.valueB x.f1 && Op.bytesLess last x.f0.data.toList && okFrom x.f0.data.toList r
def canB (l:List S111):Bool:=decide (1 ≤ l.length) && decide (l.length ≤ 8) && okFrom [] l
theorem rd_drop (l:List S111) (i:Nat) (x:S111) (r:List S111) (h:l.drop i = x :: r):rd_T111 l (i:Int) = x ∧ i < l.length ∧ l.drop (i + 1) = r:=by
 have hlt:i < l.length:=by
  rcases Nat.lt_or_ge i l.length with h1 | h1
  · exact h1
  · rw [List.drop_eq_nil_of_le h1] at h
    cases h
 rw [List.drop_eq_getElem_cons hlt] at h
 obtain ⟨h1,h2⟩:=List.cons.inj h
 refine ⟨?_,hlt,h2⟩
 rw [← h1]
 simp [rd_T111,List.getD_eq_getElem?_getD,hlt]
theorem can_l0 (l:List S111) (hl:l.length ≤ 8):∀ (r:List S111) (i:Nat) (last:ByteArray),l.drop i = r →
 Ev (fun k => u3k.l0 k last l (l.length:Int) (i:Int)) (okFrom last.data.toList r):=by
 intro r
 induction r with
 | nil =>
   intro i last h
   have hi:l.length ≤ i:=by
    rcases Nat.lt_or_ge i l.length with h1 | h1
    · rw [List.drop_eq_getElem_cons h1] at h
      cases h
    · exact h1
   refine Ev.step (f:=fun _ => some true) (fun k => ?_) (Ev.now _)
   simp only [u3k.l0]
   rw [if_neg (by omega)]
 | cons x r ih =>
   intro i last h
   obtain ⟨hx,hi,hr⟩:=rd_drop l i x r h
   have hw:wrap64 ((i:Int) + 1) = ((i + 1:Nat):Int):=Base.wrap_nat i (by omega)
   have h1:((i:Int) < (l.length:Int)):=by omega
   have h0:((0:Int) ≤ (i:Int)):=by omega
   cases hn:Base.nameB x.f0 with
   | false =>
     refine Ev.step (f:=fun _ => some false) (fun k => ?_) ?_
     · simp only [u3k.l0]
       rw [if_pos h1,if_pos h0,if_pos h1,hx]
       simp [u2d.f,hn]
     · have:okFrom last.data.toList (x :: r) = false:=by simp [okFrom,hn]
       rw [this]
       exact Ev.now _
   | true =>
     cases hv:Base.valueB x.f1 with
     | false =>
       refine Ev.step (f:=fun _ => some false) (fun k => ?_) ?_
       · simp only [u3k.l0]
         rw [if_pos h1,if_pos h0,if_pos h1,hx]
         simp [u2d.f,u4d.f,hn,hv]
       · have:okFrom last.data.toList (x :: r) = false:=by simp [okFrom,hn,hv]
         rw [this]
         exact Ev.now _
     | true =>
       cases hb:Op.bytesLess last.data.toList x.f0.data.toList with
       | false =>
         refine Ev.step (f:=fun _ => some false) (fun k => ?_) ?_
         · simp only [u3k.l0]
           rw [if_pos h1,if_pos h0,if_pos h1,hx]
           simp [u2d.f,u4d.f,hn,hv,ByteArray.toList_eq,hb]
         · have:okFrom last.data.toList (x :: r) = false:=by simp [okFrom,hn,hv,hb]
           rw [this]
           exact Ev.now _
       | true =>
         have ih2:=ih (i + 1) x.f0 hr
         refine Ev.step (f:=fun k => u3k.l0 k x.f0 l (l.length:Int) ((i + 1:Nat):Int)) (fun k => ?_) ?_
         · simp only [u3k.l0]
           rw [if_pos h1,if_pos h0,if_pos h1,hx,hw]
           simp [u2d.f,u4d.f,hn,hv,ByteArray.toList_eq,hb]
         · have:okFrom last.data.toList (x :: r) = okFrom x.f0.data.toList r:=by simp [okFrom,hn,hv,hb]
           rw [this]
           exact ih2
theorem can_ev (l:List S111):Ev (fun k => u3k.f k l) (canB l):=by
 by_cases h0:l.length = 0
 · have hc:canB l = false:=by simp [canB,h0]
   rw [hc]
   refine Ev.congr (f:=fun k => u3k.j0 k l true) (fun k => ?_) ?_
   · simp only [u3k.f]
     rw [if_pos (by omega)]
   · refine Ev.step (f:=fun _ => some false) (fun k => ?_) (Ev.now _)
     simp only [u3k.j0]
     simp
 · refine Ev.congr (f:=fun k => u3k.j0 k l (decide ((l.length:Int) > 8))) (fun k => ?_) ?_
   · simp only [u3k.f]
     rw [if_neg (by omega)]
   · by_cases h8:l.length ≤ 8
     · have hc:canB l = okFrom [] l:=by
        have h1:1 ≤ l.length:=by omega
        simp [canB,h1,h8]
       rw [hc]
       refine Ev.step (f:=fun k => u3k.l0 k (⟨#[]⟩:ByteArray) l (l.length:Int) 0) (fun k => ?_) (can_l0 l h8 l 0 ⟨#[]⟩ rfl)
       simp only [u3k.j0]
       rw [if_neg (by simp;omega)]
     · have hc:canB l = false:=by simp [canB,h8]
       rw [hc]
       refine Ev.step (f:=fun _ => some false) (fun k => ?_) (Ev.now _)
       simp only [u3k.j0]
       rw [if_pos (by simp;omega)]
theorem nameB_size {s:ByteArray} (h:Base.nameB s = true):1 ≤ s.size ∧ s.size ≤ 24:=by
 simp only [Base.nameB,Bool.and_eq_true,decide_eq_true_eq] at h
 omega
theorem valueB_size {s:ByteArray} (h:Base.valueB s = true):1 ≤ s.size ∧ s.size ≤ 40:=by
 simp only [Base.valueB,Bool.and_eq_true,decide_eq_true_eq] at h
 omega
theorem okFrom_mem:∀ (l:List S111) (last:List UInt8),okFrom last l = true → ∀ x ∈ l,Base.nameB x.f0 = true ∧ Base.valueB x.f1 = true:=by
 intro l
 induction l with
 | nil => intro _ _ x hx;cases hx
 | cons y r ih =>
   intro last h x hx
   simp only [okFrom,Bool.and_eq_true] at h
   rcases List.mem_cons.1 hx with rfl | hx
   · exact ⟨h.1.1.1,h.1.1.2⟩
   · exact ih _ h.2 x hx
end Go.Proofs.YtgnehcgaplnfkaaGreatDoor.Laws
namespace Go.Proofs.YtgnehcgaplnfkaaGreatDoor.Laws
open Go.RowKit Go.Proofs.YtgnehcgaplnfkaaGreatDoor.PAll Go.Proofs.YtgnehcgaplnfkaaGreatDoorW.PrintWords Go.Proofs.YtgnehcgaplnfkaaGreatDoorW.PrintLast
end Go.Proofs.YtgnehcgaplnfkaaGreatDoor.Laws
namespace Go.Proofs.YtgnehcgaplnfkaaGreatDoor.PAll
open Go.RowKit Go.Proofs.YtgnehcgaplnfkaaGreatDoorW.PrintWords Go.Proofs.YtgnehcgaplnfkaaGreatDoorW.PrintLast Go.Proofs.YtgnehcgaplnfkaaGreatDoorW.PrintMore
attribute [local go_sem] u3r u3t u4c u4b u3n u3o u3u u3s
set_option linter.unusedVariables false
set_option linter.unusedSimpArgs false
attribute [local go_sem high] eqA79
def u3v.l0:Nat → List (S79) → List (S79) → Int → Int → Option (Bool)
 | 0,_,_,_,_ => none
 | k + 1,x0,x1,x12,x13 => if x13 < x12 then (if 0 ≤ x13 then (if x13 < (x0.length:Int) then (if x13 < (x1.length:Int) then (if (!(((u1s x0 x13).f0) == ((u1s x1 x13).f0)) || (!((((u1s x0 x13).f1).toList) == (((u1s x1 x13).f1).toList)) || (!((((u1s x0 x13).f2).toList) == (((u1s x1 x13).f2).toList))))) = true then (some false) else (u3v.l0 k x0 x1 x12 (wrap64 (x13 + 1)))) else (none)) else (none)) else (none)) else (some true)
def u3v.f (k:Nat) (l0:List (S79)) (l1:List (S79)):Option (Bool):=if (l0.length:Int) = (l1.length:Int) then (u3v.l0 k l0 l1 (l0.length:Int) 0) else (some false)
set_option maxHeartbeats 8000000 in
set_option maxRecDepth 100000 in
theorem u3v.calls (k:Nat) (A0:Option Addr) (c0:Nat) (l0:List (S79)) (A1:Option Addr) (c1:Nat) (l1:List (S79)) (r:Bool) (w:World) (hr0:Kd.C k79 w A0 l0.length l0) (hc0:l0.length ≤ c0) (hr1:Kd.C k79 w A1 l1.length l1) (hc1:l1.length ≤ c1) (h:u3v.f k l0 l1 = some r) :
 Calls Tryz.prog 40 #[.slice A0 l0.length c0,.slice A1 l1.length c1] w fun e w' => e = .returned (.bool r) ∧ u1w w w':=by
 have hu79:=Tryz.underlying79
 have HR0:=Aside0.mk hr0
 have HC0:=Aside0.mk hc0
 clear hr0 hc0
 have HR1:=Aside0.mk hr1
 have HC1:=Aside0.mk hc1
 clear hr1 hc1
 have H:(if (l0.length:Int) = (l1.length:Int) then (u3v.l0 k l0 l1 (l0.length:Int) 0) else (some false)) = some r:=h
 clear h
 by_cases c3:(l0.length:Int) = (l1.length:Int)
 · rw [if_pos c3] at H
   have c3b0:((l0.length:Int) == (l1.length:Int)) = true:=beq_iff_eq.mpr c3
   have c3b1:((l0.length:Int) != (l1.length:Int)) = false:=bne_eq_false_iff_eq.mpr c3
   have c3b2:(l0.length == l1.length) = true:=by first | simpa using c3 | (simp at c3 ⊢;omega)
   clear c3
   have H':=Aside0.mk H
   clear H
   go_enter Tryz.func40,Tryz.ntmps40
   go_wp2
   repeat (go_quiet (fail);try go_wp2)
   go_loopg [13] k (fun kq v13 w' => ∃ (x13_1:Int),v13 = .int .i64 x13_1 ∧ Aside0 (u3v.l0 kq l0 l1 (l0.length:Int) x13_1 = some r) ∧ Aside0 (kq ≤ k) ∧ u1w w w')
   case atStart => exact ⟨(0),(by first | rfl | (simp;done) | (simp [*];done)),H',⟨Nat.le_refl _⟩,by repeat (first | exact u1w.refl _ | apply u1w.step)⟩
   case round =>
    clear H'
    try clear c1
    try clear p2
    try clear c3
    try clear c3b0
    try clear c3b1
    try clear c3b2
    obtain ⟨x13_1,rfl,HA,HK1,⟨m1,rfl⟩⟩:=hrel
    cases gk with
    | zero => exact absurd HA.out (by simp [u3v.l0])
    | succ k1 =>
      have H:=HA.out
      clear HA
      simp only [u3v.l0] at H
      by_cases c4:x13_1 < (l0.length:Int)
      · rw [if_pos c4] at H
        have c4b0:decide (x13_1 < (l0.length:Int)) = true:=decide_eq_true c4
        clear c4
        by_cases c5:0 ≤ x13_1
        · rw [if_pos c5] at H
          have c5b0:decide (0 ≤ x13_1) = true:=decide_eq_true c5
          clear c5
          by_cases c6:x13_1 < (l0.length:Int)
          · rw [if_pos c6] at H
            have c6b0:decide (x13_1 < (l0.length:Int)) = true:=decide_eq_true c6
            clear c6
            by_cases c7:x13_1 < (l1.length:Int)
            · rw [if_pos c7] at H
              have c7b0:decide (x13_1 < (l1.length:Int)) = true:=decide_eq_true c7
              clear c7
              by_cases c8:(!(((u1s l0 x13_1).f0) == ((u1s l1 x13_1).f0)) || (!((((u1s l0 x13_1).f1).toList) == (((u1s l1 x13_1).f1).toList)) || (!((((u1s l0 x13_1).f2).toList) == (((u1s l1 x13_1).f2).toList))))) = true
              · rw [if_pos c8] at H
                have c8b0:(!(((u1s l0 x13_1).f0) == ((u1s l1 x13_1).f0)) || (!((((u1s l0 x13_1).f1).toList) == (((u1s l1 x13_1).f1).toList)) || (!((((u1s l0 x13_1).f2).toList) == (((u1s l1 x13_1).f2).toList))))) = true:=c8
                clear c8
                obtain rfl:=Option.some.inj H
                have p157:0 ≤ (x13_1:Int):=of_decide_eq_true (by first | (with_reducible assumption) | assumption)
                have q157:x13_1 < (l0.length:Int):=of_decide_eq_true (by first | (with_reducible assumption) | assumption)
                obtain ⟨ad157,e157,hx157_0,hx157_1,hx157_2⟩:=at_T79 HR0.out x13_1 p157 q157
                cases e157
                replace p157:=eq_true p157
                replace q157:=eq_true q157
                have p158:0 ≤ (x13_1:Int):=of_decide_eq_true (by first | (with_reducible assumption) | assumption)
                have q158:x13_1 < (l1.length:Int):=of_decide_eq_true (by first | (with_reducible assumption) | assumption)
                obtain ⟨ad158,e158,hx158_0,hx158_1,hx158_2⟩:=at_T79 HR1.out x13_1 p158 q158
                cases e158
                replace p158:=eq_true p158
                replace q158:=eq_true q158
                go_wp2
                repeat (go_quiet (fail);try go_wp2)
                go_ret
                exact ⟨by first | rfl | (simp;done) | (simp [*];done),by repeat (first | exact u1w.refl _ | apply u1w.step)⟩
              · rw [if_neg c8] at H
                have c8b0:(!(((u1s l0 x13_1).f0) == ((u1s l1 x13_1).f0)) || (!((((u1s l0 x13_1).f1).toList) == (((u1s l1 x13_1).f1).toList)) || (!((((u1s l0 x13_1).f2).toList) == (((u1s l1 x13_1).f2).toList))))) = false:=by simpa using c8
                clear c8
                have H':=Aside0.mk H
                clear H
                have p157:0 ≤ (x13_1:Int):=of_decide_eq_true (by first | (with_reducible assumption) | assumption)
                have q157:x13_1 < (l0.length:Int):=of_decide_eq_true (by first | (with_reducible assumption) | assumption)
                obtain ⟨ad157,e157,hx157_0,hx157_1,hx157_2⟩:=at_T79 HR0.out x13_1 p157 q157
                cases e157
                replace p157:=eq_true p157
                replace q157:=eq_true q157
                have p158:0 ≤ (x13_1:Int):=of_decide_eq_true (by first | (with_reducible assumption) | assumption)
                have q158:x13_1 < (l1.length:Int):=of_decide_eq_true (by first | (with_reducible assumption) | assumption)
                obtain ⟨ad158,e158,hx158_0,hx158_1,hx158_2⟩:=at_T79 HR1.out x13_1 p158 q158
                cases e158
                replace p158:=eq_true p158
                replace q158:=eq_true q158
                go_wp2
                repeat (go_quiet (fail);try go_wp2)
                go_roundg k1
                case measure => have:=HK1.out;omega
                case rel => exact ⟨(wrap64 (x13_1 + 1)),(by first | rfl | (simp;done) | (simp [*];done)),H',⟨by have:=HK1.out;omega⟩,by repeat (first | exact u1w.refl _ | apply u1w.step)⟩
            · rw [if_neg c7] at H
              exact absurd H (by simp)
          · rw [if_neg c6] at H
            exact absurd H (by simp)
        · rw [if_neg c5] at H
          exact absurd H (by simp)
      · rw [if_neg c4] at H
        have c4b0:decide (x13_1 < (l0.length:Int)) = false:=decide_eq_false c4
        clear c4
        obtain rfl:=Option.some.inj H
        go_wp2
        repeat (go_quiet (fail);try go_wp2)
        go_ret
        exact ⟨by first | rfl | (simp;done) | (simp [*];done),by repeat (first | exact u1w.refl _ | apply u1w.step)⟩
 · rw [if_neg c3] at H
   have c3b0:((l0.length:Int) == (l1.length:Int)) = false:=beq_eq_false_iff_ne.mpr c3
   have c3b1:((l0.length:Int) != (l1.length:Int)) = true:=bne_iff_ne.mpr c3
   have c3b2:(l0.length == l1.length) = false:=by first | simpa using c3 | (simp at c3 ⊢;omega)
   obtain rfl:=Option.some.inj H
   go_enter Tryz.func40,Tryz.ntmps40
   go_wp2
   repeat (go_quiet (fail);try go_wp2)
   go_ret
   exact ⟨by first | rfl | (simp;done) | (simp [*];done),by repeat (first | exact u1w.refl _ | apply u1w.step)⟩
end Go.Proofs.YtgnehcgaplnfkaaGreatDoor.PAll
namespace Go.Proofs.YtgnehcgaplnfkaaGreatDoor.PAll
open Go.RowKit Go.Proofs.YtgnehcgaplnfkaaGreatDoorW.PrintWords Go.Proofs.YtgnehcgaplnfkaaGreatDoorW.PrintLast Go.Proofs.YtgnehcgaplnfkaaGreatDoorW.PrintMore
attribute [local go_sem] u3r u3t u4c u4b u3n u3o u3u u3s
set_option linter.unusedVariables false
set_option linter.unusedSimpArgs false
abbrev ul.SS:=ug.SS
def ul.byt:ul.SS → Int × ul.SS
 | ⟨b,true⟩ => (0,⟨b,true⟩)
 | ⟨[],false⟩ => (0,⟨[],true⟩)
 | ⟨c :: r,false⟩ => (c,⟨r,false⟩)
structure ul.St (w0 W:World) (g:Nat) (M:Nat → Prop) (s:ug.SS):Prop where
 below:Below w0.heap.size w0 W
 base:w0.heap.size ≤ g
 far:∀ k,M k → k ≠ g
 cells:∃ A c,W.heap[g]? = some (.cells #[.slice A s.b.length c,.bool s.bad] 104 (0,0)) ∧ s.b.length ≤ c ∧ Kd.F (Kd.int .u8) W M A s.b.length s.b
theorem ul.St.lt {w0 W:World} {g:Nat} {M:Nat → Prop} {s:ug.SS} (h:ul.St w0 W g M s):g < W.heap.size:=by
 obtain ⟨A,c,hb,_⟩:=h.cells
 exact u3c hb
theorem ul.St.keep {w0 W W':World} {g:Nat} {M:Nat → Prop} {s:ug.SS} (h:ul.St w0 W g M s) (hb:Below w0.heap.size w0 W') (hk:∀ k,k < W.heap.size → W'.heap[k]? = W.heap[k]?):ul.St w0 W' g M s:=by
 obtain ⟨A,c,hc,hl,hr⟩:=h.cells
 exact ⟨hb,h.base,h.far,A,c,(hk g h.lt).trans hc,hl,Kd.F_step hr (fun k _ hlt => hk k hlt)⟩
theorem ul.St.more {w0 W W':World} {g:Nat} {M:Nat → Prop} {s:ug.SS} (h:ul.St w0 W g M s) (hb:Below W.heap.size W W'):ul.St w0 W' g M s :=
 h.keep (u1c h.below h.below.size hb) (fun k hk => hb.block k hk)
theorem ul.St.drew {w0 W:World} {g:Nat} {M:Nat → Prop} {s:ug.SS} (h:ul.St w0 W g M s) (n:Nat):ul.St w0 (W.drewN n) g M s :=
 h.more (uh (Below.refl _ _) n)
theorem ul.St.look {w0 W:World} {g:Nat} {M:Nat → Prop} {s:ug.SS} (h:ul.St w0 W g M s):∃ A c,(W.cell? ⟨g,0,none⟩ = some (.slice A s.b.length c) ∧ W.cell? ⟨g,1,none⟩ = some (.bool s.bad)) ∧ (W.frozen? ⟨g,0,none⟩ = false ∧ W.frozen? ⟨g,1,none⟩ = false) ∧ s.b.length ≤ c ∧ W.heap[g]? = some (.cells #[.slice A s.b.length c,.bool s.bad] 104 (0,0)) ∧ Kd.F (Kd.int .u8) W M A s.b.length s.b:=by
 obtain ⟨A,c,hb,hl,hr⟩:=h.cells
 have h0:=uk hb 0
 have h1:=uk hb 1
 simp only [List.size_toArray,List.length_cons,List.length_nil,List.getElem?_toArray,List.getElem?_cons_zero,List.getElem?_cons_succ] at h0 h1
 exact ⟨A,c,⟨h0,h1⟩,⟨ut hb 0,ut hb 1⟩,hl,hb,hr⟩
theorem ul.St.setBad {w0 W:World} {g:Nat} {M:Nat → Prop} {s:ug.SS} (h:ul.St w0 W g M s) (b:Bool):ul.St w0 (W.setCell ⟨g,1,none⟩ (.bool b)) g M ⟨s.b,b⟩:=by
 obtain ⟨A,c,hb,hl,hr⟩:=h.cells
 exact ⟨h.below.setCell h.base _,h.base,h.far,A,c,by rw [u4f hb];rfl,hl,Kd.F_far hr h.far _⟩
theorem ul.St.setB {w0 W:World} {g:Nat} {M:Nat → Prop} {s:ug.SS} (h:ul.St w0 W g M s) (A:Option Addr) (c:Nat) (b:List Int) (hl:b.length ≤ c) (hF:Kd.F (Kd.int .u8) W M A b.length b):ul.St w0 (W.setCell ⟨g,0,none⟩ (.slice A b.length c)) g M ⟨b,s.bad⟩:=by
 obtain ⟨A0,c0,hb,_,_⟩:=h.cells
 exact ⟨h.below.setCell h.base _,h.base,h.far,A,c,by rw [u4f hb];rfl,hl,Kd.F_far hF h.far _⟩
theorem ul.St.move {w0 W W':World} {g:Nat} {M:Nat → Prop} {s:ug.SS} (h:ul.St w0 W g M s) (hb:Below w0.heap.size w0 W') (hg:W'.heap[g]? = W.heap[g]?) (hk:∀ k,M k → k < W.heap.size → W'.heap[k]? = W.heap[k]?):ul.St w0 W' g M s:=by
 obtain ⟨A,c,hc,hl,hr⟩:=h.cells
 exact ⟨hb,h.base,h.far,A,c,hg.trans hc,hl,Kd.F_step hr hk⟩
theorem ul.St.mono {w0 W:World} {g:Nat} {M M':Nat → Prop} {s:ug.SS} (h:ul.St w0 W g M s) (hM:∀ k,k < W.heap.size → M k → M' k) (hf:∀ k,M' k → k ≠ g):ul.St w0 W g M' s:=by
 obtain ⟨A,c,hc,hl,hr⟩:=h.cells
 exact ⟨h.below,h.base,hf,A,c,hc,hl,Kd.F_mono (Kd.F_bound hr) (fun k hk => hM k hk.2 hk.1)⟩
set_option maxHeartbeats 4000000 in
set_option maxRecDepth 10000 in
theorem ul.calls (w0 W:World) (g:Nat) (M:Nat → Prop) (s:ul.SS) (h:ul.St w0 W g M s) (h256:∀ y ∈ s.b,0 ≤ y ∧ y < 256) :
 Calls Tryz.prog 57 #[.pointer (some ⟨g,0,none⟩)] W fun e W' => e = .returned (.int .i64 (ul.byt s).1) ∧ ul.St w0 W' g M (ul.byt s).2 ∧ u3e W W' g none:=by
 have HS:=Aside0.mk h
 obtain ⟨b,bad⟩:=s
 obtain ⟨A,c,⟨h0,h1⟩,⟨f0,f1⟩,hl,hb,hr⟩:=h.look
 simp only at h0 h1 hl hr
 have HR:=Aside0.mk hr
 have HLT:Aside0 (g < W.heap.size):=⟨h.lt⟩
 have HB:=Aside0.mk h256
 clear h hb hr h256
 cases bad with
 | true =>
   have HE:Aside0 (ul.byt ⟨b,true⟩ = (0,⟨b,true⟩)):=⟨by cases b <;> rfl⟩
   rw [HE.out]
   go_enter Tryz.func57,Tryz.ntmps57
   go_wp2
   go_ret
   exact ⟨rfl,HS.out.setBad true,(u3e.refl _ _ _).set_ 1 _⟩
 | false =>
   cases b with
   | nil =>
     have HE:Aside0 (ul.byt ⟨[],false⟩ = (0,⟨[],true⟩)):=⟨rfl⟩
     rw [HE.out]
     go_enter Tryz.func57,Tryz.ntmps57
     go_wp2
     go_ret
     exact ⟨rfl,HS.out.setBad true,(u3e.refl _ _ _).set_ 1 _⟩
   | cons x r =>
     have HE:Aside0 (ul.byt ⟨x :: r,false⟩ = (x,⟨r,false⟩)):=⟨rfl⟩
     rw [HE.out]
     obtain ⟨ae,e,hx⟩:=Kd.at_int (Kd.F_now HR.out) 0 (by omega) (by simp)
     subst e
     have hx0:W.cell? ae = some (.int .u8 x):=by simpa [rd,Addr.add] using hx
     have hne:ae.block ≠ g ∨ True:=Or.inr trivial
     have hx1:(W.setCell ⟨g,1,none⟩ (.bool false)).cell? ae = some (.int .u8 x):=by
      have h9:=Kd.at_int (Kd.F_now (Kd.F_far (p:=⟨g,1,none⟩) HR.out HS.out.far (.bool false))) 0 (by omega) (by simp)
      obtain ⟨ae2,e2,hx2⟩:=h9
      injection e2 with e2
      subst e2
      simpa [rd,Addr.add] using hx2
     have hw:wrap64 x = x:=by
      have:=HB.out x (by simp)
      unfold wrap64
      omega
     have d1:decide (((x :: r).length:Int) = 0) = false:=decide_eq_false (by simp;omega)
     have d2:(((x :: r).length:Int) == 0) = false:=beq_eq_false_iff_ne.2 (by simp;omega)
     obtain ⟨i0,hi0,_,hsz,_⟩:=info_parts info5
     have hlc:r.length + 1 ≤ c:=by simpa using hl
     have hcut2:=cut_from (P:=Tryz.prog) 22 5 .i64 Tryz.underlying22 hi0 1 hsz (some ae) (r.length + 1) c 1 (by omega) (by omega)
     simp only [Int.toNat_one] at hcut2
     obtain ⟨A1,hA1⟩:∃ A1,A1 = (if c = 1 then some ae else (some ae:Option Addr).map (·.add (1 * 1))):=⟨_,rfl⟩
     have HF:Aside0 (Kd.F (Kd.int .u8) W M A1 r.length r):=⟨by rw [hA1];exact Kd.F_cut (m:=1) HR.out (by simp) hl⟩
     rw [← hA1] at hcut2
     clear hA1 hx hne
     simp only [List.length_cons] at h0
     have HL:=Aside0.mk hlc
     clear hl d1 d2
     have d3:((r.length:Int) + 1 == 0) = false:=beq_eq_false_iff_ne.2 (by omega)
     go_enter Tryz.func57,Tryz.ntmps57
     go_wp2
     go_ret
     exact ⟨rfl,(HS.out.setBad false).setB A1 (c - 1) r (by have:=HL.out;omega) (Kd.F_far (p:=⟨g,1,none⟩) HF.out HS.out.far _),((u3e.refl _ _ _).set_ 1 _).set_ 0 _⟩
theorem ul.byt_range {s:ul.SS} (h256:∀ y ∈ s.b,0 ≤ y ∧ y < 256):(0 ≤ (ul.byt s).1 ∧ (ul.byt s).1 < 256) ∧ (∀ y ∈ (ul.byt s).2.b,0 ≤ y ∧ y < 256) ∧ (ul.byt s).2.b.length ≤ s.b.length:=by
 obtain ⟨b,bad⟩:=s
 cases bad with
 | true => cases b with
   | nil => exact ⟨⟨by decide,by decide⟩,h256,Nat.le_refl _⟩
   | cons x r => exact ⟨⟨Int.le_refl 0,(by show (0:Int) < 256;decide)⟩,h256,Nat.le_refl _⟩
 | false => cases b with
   | nil => exact ⟨⟨by decide,by decide⟩,h256,Nat.le_refl _⟩
   | cons x r => exact ⟨h256 x (by simp),fun y hy => h256 y (by simp [show y ∈ r from hy]),Nat.le_succ _⟩
abbrev u1a.SS:=ug.SS
def u1a.txt (s:u1a.SS):ByteArray × u1a.SS :=
 if (ul.byt s).2.bad = true ∨ ((ul.byt s).2.b.length:Int) < (ul.byt s).1 then (⟨#[]⟩,⟨(ul.byt s).2.b,true⟩)
 else (strOfNums ((ul.byt s).2.b.take (ul.byt s).1.toNat),⟨(ul.byt s).2.b.drop (ul.byt s).1.toNat,false⟩)
theorem u1a.txt_range {s:u1a.SS} (h256:∀ y ∈ s.b,0 ≤ y ∧ y < 256):(∀ y ∈ (u1a.txt s).2.b,0 ≤ y ∧ y < 256) ∧ (u1a.txt s).2.b.length ≤ s.b.length:=by
 obtain ⟨_,h2,h3⟩:=ul.byt_range h256
 unfold u1a.txt
 split
 · exact ⟨h2,h3⟩
 · exact ⟨fun y hy => h2 y (List.mem_of_mem_drop hy),by simp only [List.length_drop];omega⟩
set_option maxHeartbeats 4000000 in
set_option maxRecDepth 10000 in
theorem u1a.calls (w0 W:World) (g:Nat) (M:Nat → Prop) (s:u1a.SS) (h:ul.St w0 W g M s) (h256:∀ y ∈ s.b,0 ≤ y ∧ y < 256) :
 Calls Tryz.prog 81 #[.pointer (some ⟨g,0,none⟩)] W fun e W' => e = .returned (.string (u1a.txt s).1) ∧ ul.St w0 W' g M (u1a.txt s).2 ∧ u3e W W' g none:=by
 have HS:=Aside0.mk h
 have HB:=Aside0.mk h256
 obtain ⟨hn,hb2,_⟩:=ul.byt_range h256
 obtain ⟨⟨n,b,bad⟩,hby⟩:∃ z:Int × u1a.SS,ul.byt s = z:=⟨_,rfl⟩
 have HE:Aside0 (u1a.txt s = if bad = true ∨ (b.length:Int) < n then (⟨#[]⟩,⟨b,true⟩) else (strOfNums (b.take n.toNat),⟨b.drop n.toNat,false⟩)):=⟨by unfold u1a.txt;rw [hby]⟩
 rw [hby] at hn hb2
 simp only at hn hb2
 obtain ⟨m,rfl⟩:∃ m:Nat,n = (m:Int):=⟨n.toNat,by omega⟩
 have HBY:=Aside0.mk hby
 clear h h256 hb2 hby hn
 rw [HE.out]
 simp only [Int.toNat_natCast]
 cases bad with
 | true =>
   rw [if_pos (Or.inl rfl)]
   go_enter Tryz.func81,Tryz.ntmps81
   go_wp2_with (go_at_call 57;(with_reducible refine (ul.calls w0 W g M s HS.out HB.out).mono ?_);rintro e W1 ⟨rfl,hS1,hK1⟩;rw [HBY.out] at hS1 ⊢;obtain ⟨A,c,⟨h0,h1⟩,⟨f0,f1⟩,_⟩:=hS1.look;simp only at h0 h1;have HS1:=Aside0.mk hS1;have HK1:=Aside0.mk hK1;clear hS1 hK1)
   go_ret
   exact ⟨rfl,HS1.out.setBad true,HK1.out.set_ 1 _⟩
 | false =>
   by_cases hlt:b.length < m
   · rw [if_pos (Or.inr (by omega))]
     have d1:decide ((b.length:Int) < (m:Int)) = true:=decide_eq_true (by omega)
     have d2:decide (b.length < m) = true:=decide_eq_true hlt
     clear hlt
     go_enter Tryz.func81,Tryz.ntmps81
     go_wp2_with (go_at_call 57;(with_reducible refine (ul.calls w0 W g M s HS.out HB.out).mono ?_);rintro e W1 ⟨rfl,hS1,hK1⟩;rw [HBY.out] at hS1 ⊢;obtain ⟨A,c,⟨h0,h1⟩,⟨f0,f1⟩,_⟩:=hS1.look;simp only at h0 h1;have HS1:=Aside0.mk hS1;have HK1:=Aside0.mk hK1;clear hS1 hK1)
     go_ret
     exact ⟨rfl,HS1.out.setBad true,HK1.out.set_ 1 _⟩
   · rw [if_neg (by rintro (h9 | h9);cases h9;omega)]
     have d1:decide ((b.length:Int) < (m:Int)) = false:=decide_eq_false (by omega)
     have d2:decide (b.length < m) = false:=decide_eq_false hlt
     have HLE:Aside0 (m ≤ b.length):=⟨by omega⟩
     clear hlt
     go_enter Tryz.func81,Tryz.ntmps81
     go_wp2_with (go_at_call 57;(with_reducible refine (ul.calls w0 W g M s HS.out HB.out).mono ?_);rintro e W1 ⟨rfl,hS1,hK1⟩;rw [HBY.out] at hS1 ⊢;obtain ⟨A,c,⟨h0,h1⟩,⟨f0,f1⟩,hl,_,hr⟩:=hS1.look;simp only at h0 h1 hl hr;have HS1:=Aside0.mk hS1;have HK1:=Aside0.mk hK1;clear hS1 hK1;have hle:=HLE.out;obtain ⟨i0,hi0,_,hsz,_⟩:=info_parts info5;have hcut:=cut_to (P:=Tryz.prog) 22 5 .i64 Tryz.underlying22 hi0 A b.length c (m:Int) (by omega) (by omega) hl;have hcut2:=cut_from (P:=Tryz.prog) 22 5 .i64 Tryz.underlying22 hi0 1 hsz A b.length c (m:Int) (by omega) (by omega);simp only [Int.toNat_natCast] at hcut hcut2;obtain ⟨A1,hA1⟩:∃ A1,A1 = (if c = m then A else A.map (·.add (m * 1))):=⟨_,rfl⟩;have HF:Aside0 (Kd.F (Kd.int .u8) W1 M A1 (b.drop m).length (b.drop m)):=⟨by rw [hA1];exact Kd.F_cut hr hle hl⟩;rw [← hA1] at hcut2;clear hA1;have hC9:Kd.C (Kd.int .u8) (W1.setCell ⟨g,1,none⟩ (.bool false)) A m (b.take m):=(by have h9:=Kd.C_take (Kd.F_now (Kd.F_far (p:=⟨g,1,none⟩) hr HS1.out.far (.bool false))) hle;rw [show (b.take m).length = m by rw [List.length_take];omega] at h9;exact h9);have hcs:=Kd.C_string (P:=Tryz.prog) (c:=c) Tryz.underlying22 Tryz.underlying5 Tryz.underlying9 hC9;have HLC:=Aside0.mk hl;clear hC9 hr)
     go_ret
     have hld:b.length - m = (b.drop m).length:=List.length_drop.symm
     rw [hld]
     exact ⟨rfl,(HS1.out.setBad false).setB A1 (c - m) (b.drop m) (by have:=HLC.out;rw [List.length_drop];omega) (Kd.F_far (p:=⟨g,1,none⟩) HF.out HS1.out.far _),(HK1.out.set_ 1 _).set_ 0 _⟩
def ua.f:Option Int:=none
structure ua.RS where
 at_:Nat
 bad:Bool
def ua.Rn (W:World) (gp:Nat) (A:Option Addr) (p:List Int):Prop:=(∃ o,W.heap[gp]? = some o ∧ ∀ cs t f,o = .cells cs t f → t = 21) ∧ ∀ W':World,W'.heap[gp]? = W.heap[gp]? → (Kd.int .i32).C W' A p.length p
theorem ua.Rn.move {W W':World} {gp:Nat} {A:Option Addr} {p:List Int} (h:ua.Rn W gp A p) (hm:W'.heap[gp]? = W.heap[gp]?):ua.Rn W' gp A p :=
 ⟨by obtain ⟨c,hc,ht⟩:=h.1;exact ⟨c,hm.trans hc,ht⟩,fun W2 h2 => h.2 W2 (h2.trans hm)⟩
theorem ua.Rn.lt {W:World} {gp:Nat} {A:Option Addr} {p:List Int} (h:ua.Rn W gp A p):gp < W.heap.size:=by
 obtain ⟨o,ho,_⟩:=h.1
 exact (Array.getElem?_eq_some_iff.1 ho).1
theorem ua.Rn.ne {W:World} {gp:Nat} {A:Option Addr} {p:List Int} (h:ua.Rn W gp A p) {g t:Nat} {cs:Array Value} {f:Nat × Nat} (hb:W.heap[g]? = some (.cells cs t f)) (ht:t ≠ 21):gp ≠ g:=by
 rintro rfl
 obtain ⟨o,ho,hc⟩:=h.1
 rw [hb] at ho
 exact ht (hc cs t f (Option.some.inj ho).symm)
theorem ua.Rn.ne_row {α:Type} {d:Kd α} {W:World} {gp:Nat} {A:Option Addr} {p:List Int} (h:ua.Rn W gp A p) {e base:Nat} {ok:Nat → Prop} {v:Value} {xs:List α} (hR:Kd.R d e W base ok v xs) (he:e ≠ 21):some gp ≠ v.ownBlock:=by
 intro h9
 obtain ⟨_,inner,ho,_⟩:=hR
 obtain ⟨cells,hc⟩:=own_typed ho gp h9.symm
 exact h.ne hc he rfl
structure ua.St (w0 W:World) (g gp:Nat) (l:List Int) (s:ua.RS):Prop where
 below:Below w0.heap.size w0 W
 base:w0.heap.size ≤ g
 cells:∃ A c,W.heap[g]? = some (.cells #[.slice A l.length c,.int .i64 (s.at_:Int),.bool s.bad] 169 (0,0)) ∧ l.length ≤ c ∧ ua.Rn W gp A l
def ua.Kq (W W':World) (g:Nat):Prop:=W.heap.size ≤ W'.heap.size ∧ ∀ k,k < W.heap.size → k ≠ g → W'.heap[k]? = W.heap[k]?
theorem ua.Kq.refl (W:World) (g:Nat):ua.Kq W W g:=⟨Nat.le_refl _,fun _ _ _ => rfl⟩
theorem ua.Kq.trans {W W' W'':World} {g:Nat} (h:ua.Kq W W' g) (h':ua.Kq W' W'' g):ua.Kq W W'' g:=⟨Nat.le_trans h.1 h'.1,fun k hk hg => (h'.2 k (Nat.lt_of_lt_of_le hk h.1) hg).trans (h.2 k hk hg)⟩
theorem ua.Kq.set (W:World) (g i:Nat) (u:Value):ua.Kq W (W.setCell ⟨g,i,none⟩ u) g:=⟨by simp [World.setCell],fun k _ hg => Below.heap_setCell W ⟨g,i,none⟩ u k hg⟩
theorem ua.Kq.below {W W':World} (h:Below W.heap.size W W') (g:Nat):ua.Kq W W' g:=⟨h.size,fun k hk _ => h.block k hk⟩
theorem ua.St.ne_gp {w0 W:World} {g gp:Nat} {l:List Int} {s:ua.RS} (h:ua.St w0 W g gp l s):gp ≠ g:=by
 obtain ⟨A,c,hb,_,hr⟩:=h.cells
 exact hr.ne hb (by decide)
theorem ua.St.gp_lt {w0 W:World} {g gp:Nat} {l:List Int} {s:ua.RS} (h:ua.St w0 W g gp l s):gp < W.heap.size ∧ g < W.heap.size:=by
 obtain ⟨A,c,hb,_,hr⟩:=h.cells
 exact ⟨hr.lt,u3c hb⟩
theorem ua.St.keep {w0 W W':World} {g gp:Nat} {l:List Int} {s:ua.RS} (h:ua.St w0 W g gp l s) (hb:Below w0.heap.size w0 W') (hk:∀ k,k < W.heap.size → k = g ∨ k = gp → W'.heap[k]? = W.heap[k]?):ua.St w0 W' g gp l s:=by
 obtain ⟨A,c,hc,hl,hr⟩:=h.cells
 exact ⟨hb,h.base,A,c,(hk g h.gp_lt.2 (Or.inl rfl)).trans hc,hl,hr.move (hk gp h.gp_lt.1 (Or.inr rfl))⟩
theorem ua.St.more {w0 W W':World} {g gp:Nat} {l:List Int} {s:ua.RS} (h:ua.St w0 W g gp l s) (hb:Below W.heap.size W W'):ua.St w0 W' g gp l s :=
 h.keep (u1c h.below h.below.size hb) (fun k hk _ => hb.block k hk)
theorem ua.St.drew {w0 W:World} {g gp:Nat} {l:List Int} {s:ua.RS} (h:ua.St w0 W g gp l s) (n:Nat):ua.St w0 (W.drewN n) g gp l s :=
 h.more (uh (Below.refl _ _) n)
theorem ua.St.look {w0 W:World} {g gp:Nat} {l:List Int} {s:ua.RS} (h:ua.St w0 W g gp l s):∃ A c,(W.cell? ⟨g,0,none⟩ = some (.slice A l.length c) ∧ W.cell? ⟨g,1,none⟩ = some (.int .i64 (s.at_:Int)) ∧ W.cell? ⟨g,2,none⟩ = some (.bool s.bad)) ∧ (W.frozen? ⟨g,0,none⟩ = false ∧ W.frozen? ⟨g,1,none⟩ = false ∧ W.frozen? ⟨g,2,none⟩ = false) ∧ l.length ≤ c ∧ W.heap[g]? = some (.cells #[.slice A l.length c,.int .i64 (s.at_:Int),.bool s.bad] 169 (0,0)) ∧ ua.Rn W gp A l:=by
 obtain ⟨A,c,hb,hl,hr⟩:=h.cells
 have h0:=uk hb 0
 have h1:=uk hb 1
 have h2:=uk hb 2
 simp only [List.size_toArray,List.length_cons,List.length_nil,List.getElem?_toArray,List.getElem?_cons_zero,List.getElem?_cons_succ] at h0 h1 h2
 exact ⟨A,c,⟨h0,h1,h2⟩,⟨ut hb 0,ut hb 1,ut hb 2⟩,hl,hb,hr⟩
theorem ua.St.setAt {w0 W:World} {g gp:Nat} {l:List Int} {s:ua.RS} (h:ua.St w0 W g gp l s) (n:Nat):ua.St w0 (W.setCell ⟨g,1,none⟩ (.int .i64 (n:Int))) g gp l ⟨n,s.bad⟩:=by
 obtain ⟨A,c,hb,hl,hr⟩:=h.cells
 exact ⟨h.below.setCell h.base _,h.base,A,c,by rw [u4f hb];rfl,hl,hr.move (Below.heap_setCell _ _ _ _ h.ne_gp)⟩
theorem ua.St.up {w0 W:World} {g gp:Nat} {l:List Int} {s:ua.RS} (h:ua.St w0 W g gp l s):ua.St w0 (W.setCell ⟨g,1,none⟩ (.int .i64 ((s.at_:Int) + 1))) g gp l ⟨s.at_ + 1,s.bad⟩:=h.setAt (s.at_ + 1)
theorem ua.St.setBad {w0 W:World} {g gp:Nat} {l:List Int} {s:ua.RS} (h:ua.St w0 W g gp l s) (b:Bool):ua.St w0 (W.setCell ⟨g,2,none⟩ (.bool b)) g gp l ⟨s.at_,b⟩:=by
 obtain ⟨A,c,hb,hl,hr⟩:=h.cells
 exact ⟨h.below.setCell h.base _,h.base,A,c,by rw [u4f hb];rfl,hl,hr.move (Below.heap_setCell _ _ _ _ h.ne_gp)⟩
def ua.pk (l:List Int) (s:ua.RS):Int:=(l[s.at_]?).getD (-1)
set_option maxHeartbeats 2000000 in
set_option maxRecDepth 10000 in
theorem ua.calls (w0 W:World) (g gp:Nat) (l:List Int) (s:ua.RS) (h:ua.St w0 W g gp l s) :
 Calls Tryz.prog 125 #[.pointer (some ⟨g,0,none⟩)] W fun e W' => e = .returned (.int .i32 (ua.pk l s)) ∧ ∃ n,W' = W.drewN n:=by
 obtain ⟨a,bad⟩:=s
 obtain ⟨A,c,⟨h0,h1,h2⟩,⟨f0,f1,f2⟩,hl,hb,hr⟩:=h.look
 simp only at h0 h1 h2
 clear h hb f0 f1 f2 hl
 by_cases hlt:a < l.length
 · have hv:Aside0 (ua.pk l ⟨a,bad⟩ = rd l (a:Int)):=⟨by simp [ua.pk,rd,hlt]⟩
   rw [hv.out]
   obtain ⟨ad,e,hx⟩:=Kd.at_int (hr.2 W rfl) (a:Int) (by omega) (by omega)
   subst e
   simp only [Int.toNat_natCast] at hx
   have hi:(0:Int) ≤ (a:Int) ∧ (a:Int) < (l.length:Int):=by omega
   have hd:decide ((l.length:Int) ≤ (a:Int)) = false:=decide_eq_false (by omega)
   have hd2:decide (l.length ≤ a) = false:=decide_eq_false (by omega)
   clear hr
   go_enter Tryz.func125,Tryz.ntmps125
   go_wp2
   repeat (go_quiet (fail))
   go_wp2
   repeat (go_quiet (fail))
   go_wp2
   all_goals
    go_ret
    exact ⟨rfl,_,by first | rfl | exact World.drewN_drewN _ _ _⟩
 · have hv:Aside0 (ua.pk l ⟨a,bad⟩ = -1):=⟨by simp [ua.pk,List.getElem?_eq_none (show l.length ≤ a by omega)]⟩
   rw [hv.out]
   have hd:decide ((l.length:Int) ≤ (a:Int)) = true:=decide_eq_true (by omega)
   have hd2:decide (l.length ≤ a) = true:=decide_eq_true (by omega)
   clear hr
   go_enter Tryz.func125,Tryz.ntmps125
   go_wp2
   repeat (go_quiet (fail))
   go_wp2
   all_goals
    go_ret
    exact ⟨rfl,_,rfl⟩
abbrev u1j.RS:=ua.RS
def u1j.esc (l:List Int) (s:u1j.RS):Int × u1j.RS:=(ua.pk l s,⟨s.at_ + 1,s.bad || decide (ua.pk l s < 0)⟩)
set_option maxHeartbeats 2000000 in
set_option maxRecDepth 10000 in
theorem u1j.calls (w0 W:World) (g gp:Nat) (l:List Int) (s:u1j.RS) (h:ua.St w0 W g gp l s) (ha:s.at_ ≤ 1000000) :
 Calls Tryz.prog 147 #[.pointer (some ⟨g,0,none⟩)] W fun e W' => e = .returned (.int .i32 (u1j.esc l s).1) ∧ ua.St w0 W' g gp l (u1j.esc l s).2 ∧ ua.Kq W W' g:=by
 have HS:=Aside0.mk h
 obtain ⟨c,hc⟩:∃ c,Aside0 (ua.pk l s = c):=⟨_,⟨rfl⟩⟩
 have HE:Aside0 (u1j.esc l s = (c,⟨s.at_ + 1,s.bad || decide (c < 0)⟩)):=⟨by unfold u1j.esc;rw [hc.out]⟩
 rw [HE.out]
 obtain ⟨a,bad⟩:=s
 obtain ⟨A,cp,⟨h0,h1,h2⟩,⟨f0,f1,f2⟩,hl,hb,hr⟩:=h.look
 simp only at h0 h1 h2 ha
 clear h hb hl hr h0
 by_cases hn:c < 0
 · have hd:decide (c < 0) = true:=decide_eq_true hn
   go_enter Tryz.func147,Tryz.ntmps147
   go_wp2_with (go_at_call 125;(with_reducible refine (ua.calls w0 W g gp l ⟨a,bad⟩ HS.out).mono ?_);rintro e w' ⟨rfl,nq,rfl⟩;rw [hc.out])
   go_ret
   refine ⟨rfl,?_,((ua.Kq.below (uh (Below.refl _ _) _) g).trans (ua.Kq.set _ _ _ _)).trans (ua.Kq.set _ _ _ _)⟩
   rw [hd]
   have h9:=((HS.out.drew nq).setBad true).up
   simpa using h9
 · have hd:decide (c < 0) = false:=decide_eq_false hn
   go_enter Tryz.func147,Tryz.ntmps147
   go_wp2_with (go_at_call 125;(with_reducible refine (ua.calls w0 W g gp l ⟨a,bad⟩ HS.out).mono ?_);rintro e w' ⟨rfl,nq,rfl⟩;rw [hc.out])
   go_ret
   refine ⟨rfl,?_,(ua.Kq.below (uh (Below.refl _ _) _) g).trans (ua.Kq.set _ _ _ _)⟩
   rw [hd]
   have h9:=(HS.out.drew nq).up
   simpa using h9
end Go.Proofs.YtgnehcgaplnfkaaGreatDoor.PAll
