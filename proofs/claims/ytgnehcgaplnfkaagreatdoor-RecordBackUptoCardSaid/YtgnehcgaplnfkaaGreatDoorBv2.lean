/- Texts of this seat, joined in the order in which they build. -/
import Derived.Test.YtgnehcgaplnfkaaGreatDoorBv1
import Derived.Laws.BitsLemmas
import Derived.Lib.TrimUEq
import Derived.Test.YtgnehcgaplnfkaaGreatDoorRows
import Derived.Lib.LaidU8
import Derived.LaidMore
import Derived.MakeChecks
import Derived.Handed
import Derived.HandedShaped
import Derived.Laws.Cover4
import Derived.Lib.MapLaws
import Derived.JoinedCond
namespace Go.Proofs.YtgnehcgaplnfkaaGreatDoor.PAll
open Go.RowKit Go.Proofs.YtgnehcgaplnfkaaGreatDoorW.PrintWords Go.Proofs.YtgnehcgaplnfkaaGreatDoorW.PrintLast Go.Proofs.YtgnehcgaplnfkaaGreatDoorW.PrintMore
attribute [local go_sem] u3o u3n u3x u3w u3j u3i u3p u3q
set_option linter.unusedVariables false
set_option linter.unusedSimpArgs false
def u3s.f:Option Int:=none
theorem u3s.info32:(Tryz.prog.info? 21).map (fun i => (i.zero,i.size,i.bytes)) = some (some (.int .i32 0),1,4):=by kernel_rfl
set_option maxHeartbeats 2000000 in
theorem u3s.calls (s:ByteArray) (w:World) (hs:s.size ≤ 35184372088830):Calls Tryz.prog 104 #[.string s] w fun e w' => ∃ v,e = .returned v ∧ Kd.R (Kd.int .i32) 21 w' w.heap.size (fun _ => True) v (Base.runesOf s) ∧ Below w.heap.size w w' ∧ ∃ (gi pos:Nat),w'.heap[gi]? = some (Obj.stringIter s pos):=by
 obtain ⟨R,hR⟩:∃ R,Aside0 (Base.runesOf s = R):=⟨_,⟨rfl⟩⟩
 rw [hR.out]
 go_enter Tryz.func104,Tryz.ntmps104
 go_wp2
 go_loopw [3] (fun v3 wr => ∃ (pos fuel:Nat) (acc:List Int),wr.heap[w.heap.size]? = some (.stringIter s pos) ∧ Aside0 (Below w.heap.size w wr) ∧ Aside0 (Kd.R (Kd.int .i32) 21 wr w.heap.size (fun k => k ≠ w.heap.size) v3 acc) ∧ Aside0 (acc ++ Base.runesFrom s fuel pos = R) ∧ s.size ≤ fuel + pos ∧ acc.length ≤ pos)
  (fun v3 wr => s.size - wr.iterPos w.heap.size)
 case atStart =>
  refine ⟨0,s.size,[],?_,⟨uj (Below.refl _ _) _⟩,⟨Kd.R_nil _ _ _ _ _⟩,⟨hR.out⟩,by omega,by simp⟩
  have:=World.iter_heap w s 0
  simpa using this
 case round =>
  obtain ⟨pos,fuel,acc,hit,hbw,HR,HE,hfu,hal⟩:=hrel
  by_cases hp:pos < s.size
  · have hnx:∀ ty,(Instr.next (.pointer (some ⟨w.heap.size,0,none⟩)) true ty).run Tryz.prog wr = _:=fun ty => Lib.run_next_any_at wr w.heap.size s pos ty hit hp
    have hwd:=Base.width_pos s pos hp
    obtain ⟨f,rfl⟩:∃ f,fuel = f + 1:=⟨fuel - 1,by omega⟩
    have hst:=Base.runesFrom_step s f pos hp
    obtain ⟨u,hu⟩:∃ u:Nat,(Utf8.decode s pos).1 = u:=⟨_,rfl⟩
    obtain ⟨pos2,hpos2⟩:∃ q,pos + (Utf8.decode s pos).2 = q:=⟨_,rfl⟩
    rw [hu] at hnx hst
    rw [hpos2] at hnx hst
    rw [hst] at HE
    have hpl:pos < pos2:=by omega
    clear hst hu hpos2 hwd
    have hit2:=Aside0.mk (Lib.iterAt_heap wr w.heap.size s pos pos2 hit)
    have hbw2:Aside0 (Below w.heap.size w (wr.iterAt w.heap.size s pos2)):=⟨Lib.below_iterAt hbw.out (Nat.le_refl _) s pos2⟩
    have HR2:Aside0 (Kd.R (Kd.int .i32) 21 (wr.iterAt w.heap.size s pos2) w.heap.size (fun k => k ≠ w.heap.size) _ acc):=⟨Kd.R_move HR.out (fun k hk => Lib.iterAt_other wr w.heap.size k s pos2 hk)⟩
    clear HR
    have HLI:Aside0 (w.heap.size < (wr.iterAt w.heap.size s pos2).heap.size):=⟨(Array.getElem?_eq_some_iff.1 hit2.out).1⟩
    go_wp2_with (
     ((with_reducible refine u2z (b:=.append) (xs:=#[.tmp 11,.tmp 13]) rfl ?_);at_builtin
      refine Kd.R_append (Kd.int .i32) (w0:=w) w.heap.size rfl (.tmp 11) (.tmp 13) 157 21 (.int .i32 0) 4 rfl Tryz.underlying157 u3s.info32 rfl (by decide) (by decide) _ acc (u:Int) [.int .i32 u] (fun k => k ≠ w.heap.size) (fun _ => False) rfl rfl rfl (fun _ hk => hk.elim) (fun k hk => by have:=HLI.out;omega) HR2.out hbw2.out hbw2.out.size (by omega) ?_
      intro vx Wx hRx hBx hgx hatx
      have HRx:=Aside0.mk hRx
      have HBx:=Aside0.mk hBx
      have HIx:Aside0 (Wx.heap[w.heap.size]? = some (.stringIter s pos2)):=⟨(hgx.block _ HLI.out (fun e9 => (HR2.out.1 _ e9.symm) rfl)).trans hit2.out⟩
      clear hRx hBx hgx hatx))
    go_roundw
    case rel => exact ⟨pos2,f,acc ++ [(u:Int)],HIx.out,HBx,HRx,⟨by rw [List.append_assoc];exact HE.out⟩,by omega,by simp;omega⟩
    case measure =>
     have h9:=HIx.out
     simp only [World.iterPos,h9,hit]
     omega
  · have HIT:=Aside0.mk hit
    have hnx:∀ ty,(Instr.next (.pointer (some ⟨w.heap.size,0,none⟩)) true ty).run Tryz.prog wr = _:=fun ty => Lib.run_next_end_at wr w.heap.size s pos ty hit hp
    have HH:Aside0 (acc = R):=⟨by
     have h9:=HE.out
     rw [Base.runesFrom_end s fuel pos hp,List.append_nil] at h9
     exact h9⟩
    go_wp2
    go_ret
    exact ⟨_,rfl,by rw [← HH.out];exact Kd.R_mono HR.out (fun _ _ => trivial),hbw.out,_,_,HIT.out⟩
def u2v.f (a0:ByteArray):Option Bool:=some (Base.plainTextB a0)
def u2v.badB (r:Int):Bool:=decide (r < 32) || decide (r = 127) || decide (r = 65533)
set_option maxHeartbeats 1000000 in
set_option maxRecDepth 100000 in
theorem u2v.calls (a0:ByteArray) (r:Bool) (w:World) (h:u2v.f a0 = some r) :
 Calls Tryz.prog 89 #[.string a0] w fun e w' => e = .returned (.bool r) ∧ Below w.heap.size w w':=by
 obtain rfl:Base.plainTextB a0 = r:=by simpa [u2v.f] using h
 clear h
 go_enter Tryz.func89,Tryz.ntmps89
 go_wp2
 go_loopw [] (fun wr => ∃ (pos fuel:Nat),wr.heap[w.heap.size]? = some (.stringIter a0 pos) ∧ Below w.heap.size w wr ∧ Aside0 (Base.plainTextB a0 = (Base.runesFrom a0 fuel pos).all (fun r => !u2v.badB r)) ∧ a0.size ≤ fuel + pos)
  (fun wr => a0.size - wr.iterPos w.heap.size)
 case atStart =>
  refine ⟨0,a0.size,?_,(Below.refl _ w).alloc (Nat.le_refl _) _,⟨rfl⟩,by omega⟩
  have:=World.iter_heap w a0 0
  simpa using this
 case round =>
  obtain ⟨pos,fuel,hit,hbw,HE,hfu⟩:=hrel
  have hsz:w.heap.size < wr.heap.size:=(Array.getElem?_eq_some_iff.1 hit).1
  by_cases hp:pos < a0.size
  · have hnx:∀ ty,(Instr.next (.pointer (some ⟨w.heap.size,0,none⟩)) true ty).run Tryz.prog wr = _:=fun ty => Lib.run_next_any_at wr w.heap.size a0 pos ty hit hp
    have hwd:=Base.width_pos a0 pos hp
    have hd1:=decode_le a0 pos
    have hit2:=Lib.iterAt_heap wr w.heap.size a0 pos (pos + (Utf8.decode a0 pos).2) hit
    have hbw2:=Lib.below_iterAt hbw (k:=w.heap.size) (by omega) a0 (pos + (Utf8.decode a0 pos).2)
    obtain ⟨f,rfl⟩:∃ f,fuel = f + 1:=⟨fuel - 1,by omega⟩
    have hst:=Base.runesFrom_step a0 f pos hp
    rw [hst] at HE
    clear hst
    have hbad:Aside0 (u2v.badB ((Utf8.decode a0 pos).1:Int) = true ↔ ((Utf8.decode a0 pos).1 < 32 ∨ (Utf8.decode a0 pos).1 = 127 ∨ (Utf8.decode a0 pos).1 = 65533)):=⟨by
     simp only [u2v.badB,Bool.or_eq_true,decide_eq_true_eq]
     omega⟩
    by_cases h1:(Utf8.decode a0 pos).1 < 32
    · go_wp2
      go_ret
      have h2:=HE.out
      rw [List.all_cons,hbad.out.2 (.inl h1)] at h2
      exact ⟨by rw [h2];rfl,hbw2⟩
    · by_cases h3:(Utf8.decode a0 pos).1 = 127
      · have hb3:(((Utf8.decode a0 pos).1:Int) == 127) = true:=by simp;omega
        have H3:=Aside0.mk h3
        clear h3
        go_wp2
        go_ret
        have h2:=HE.out
        rw [List.all_cons,hbad.out.2 (.inr (.inl H3.out))] at h2
        exact ⟨by rw [h2];rfl,hbw2⟩
      · have hb3:(((Utf8.decode a0 pos).1:Int) == 127) = false:=by simp;omega
        by_cases h4:(Utf8.decode a0 pos).1 = 65533
        · have hb4:(((Utf8.decode a0 pos).1:Int) == 65533) = true:=by simp;omega
          have H4:=Aside0.mk h4
          clear h4
          go_wp2
          go_ret
          have h2:=HE.out
          rw [List.all_cons,hbad.out.2 (.inr (.inr H4.out))] at h2
          exact ⟨by rw [h2];rfl,hbw2⟩
        · have hb4:(((Utf8.decode a0 pos).1:Int) == 65533) = false:=by simp;omega
          have hgood:u2v.badB ((Utf8.decode a0 pos).1:Int) = false:=by
           cases hq:u2v.badB ((Utf8.decode a0 pos).1:Int) with
           | false => rfl
           | true => have:=hbad.out.1 hq;omega
          have Hg:=Aside0.mk hgood
          clear hgood
          go_wp2
          go_roundw
          case rel =>
           refine ⟨pos + (Utf8.decode a0 pos).2,f,by simpa using hit2,hbw2,⟨?_⟩,by omega⟩
           have h2:=HE.out
           rw [List.all_cons,Hg.out,Bool.not_false,Bool.true_and] at h2
           exact h2
          case measure =>
           simp only [World.iterPos,hit2,hit]
           omega
  · have hnx:∀ ty,(Instr.next (.pointer (some ⟨w.heap.size,0,none⟩)) true ty).run Tryz.prog wr = _:=fun ty => Lib.run_next_end_at wr w.heap.size a0 pos ty hit hp
    have h1:=HE.out
    rw [Base.runesFrom_end a0 fuel pos hp,List.all_nil] at h1
    have H1:=Aside0.mk h1
    clear h1 HE
    go_wp2
    go_ret
    exact ⟨by rw [H1.out];rfl,hbw⟩
def u2y.f (a0:ByteArray):Option (Bool):=if (a0.size:Int) ≥ 1 then (if (a0.size:Int) ≤ 40 then ((u2v.f a0).bind fun t106 => (some t106)) else (some false)) else (some false)
set_option maxHeartbeats 8000000 in
set_option maxRecDepth 100000 in
theorem u2y.calls (a0:ByteArray) (r:Bool) (w:World) (h:u2y.f a0 = some r) :
 Calls Tryz.prog 70 #[.string a0] w fun e w' => e = .returned (.bool r) ∧ Below w.heap.size w w':=by
 have HB:=Aside0.mk (Below.refl w.heap.size w)
 have H:(if (a0.size:Int) ≥ 1 then (if (a0.size:Int) ≤ 40 then ((u2v.f a0).bind fun t106 => (some t106)) else (some false)) else (some false)) = some r:=h
 clear h
 by_cases c2:(a0.size:Int) ≥ 1
 · rw [if_pos c2] at H
   have c2b0:decide (1 ≤ (a0.size:Int)) = true:=decide_eq_true c2
   have c2b1:decide (1 ≤ a0.size) = true:=decide_eq_true (by omega)
   clear c2
   by_cases c3:(a0.size:Int) ≤ 40
   · rw [if_pos c3] at H
     have c3b0:decide ((a0.size:Int) ≤ 40) = true:=decide_eq_true c3
     have c3b1:decide (a0.size ≤ 40) = true:=decide_eq_true (by omega)
     clear c3
     replace H:=Option.bind_eq_some_iff.mp H
     obtain ⟨t106,A40,H⟩:=H
     replace H:(some t106) = some r:=H
     have A4:=Aside0.mk A40
     clear A40
     obtain rfl:=Option.some.inj H
     go_enter Tryz.func70,Tryz.ntmps70
     go_wp2_with (first | (go_at_call 89;(with_reducible refine (u2v.calls a0 t106 _ A4.out).mono ?_);rintro e w5 ⟨rfl,hb⟩;have n0_:=Aside0.mk (u2k (by repeat (first | (with_reducible first | exact HB.out | apply uj | apply ui | apply ur) | exact HB.out)) hb);clear HB;have HB:=n0_;clear n0_;(try clear hb);(try clear hb2);(try clear hk);(try clear hi)))
     go_ret
     exact ⟨by first | rfl | (simp [u2i,u2j] <;> rfl) | (simp [*,u2i,u2j] <;> rfl),by repeat (first | (with_reducible first | exact HB.out | apply uj | apply ui | apply ur) | exact HB.out)⟩
   · rw [if_neg c3] at H
     have c3b0:decide ((a0.size:Int) ≤ 40) = false:=decide_eq_false c3
     have c3b1:decide (a0.size ≤ 40) = false:=decide_eq_false (by omega)
     clear c3
     obtain rfl:=Option.some.inj H
     go_enter Tryz.func70,Tryz.ntmps70
     go_wp2
     go_ret
     exact ⟨by first | rfl | (simp [u2i,u2j] <;> rfl) | (simp [*,u2i,u2j] <;> rfl),by repeat (first | (with_reducible first | exact HB.out | apply uj | apply ui | apply ur) | exact HB.out)⟩
 · rw [if_neg c2] at H
   have c2b0:decide (1 ≤ (a0.size:Int)) = false:=decide_eq_false c2
   have c2b1:decide (1 ≤ a0.size) = false:=decide_eq_false (by omega)
   clear c2
   obtain rfl:=Option.some.inj H
   go_enter Tryz.func70,Tryz.ntmps70
   go_wp2
   go_ret
   exact ⟨by first | rfl | (simp [u2i,u2j] <;> rfl) | (simp [*,u2i,u2j] <;> rfl),by repeat (first | (with_reducible first | exact HB.out | apply uj | apply ui | apply ur) | exact HB.out)⟩
def u3l.f (a0:ByteArray):Option Bool:=some (Base.valueB a0)
theorem u3l.plain_is (x:Int):labels_plain.f x = some (Base.plainB x):=by
 unfold labels_plain.f Base.plainB
 by_cases h1:x ≥ 32
 · rw [if_pos h1]
   by_cases h2:x = 127
   · simp [h1,h2]
   · rw [if_neg h2]
     by_cases h3:x = 65533 <;> simp [h1,h2,h3]
 · rw [if_neg h1]
   simp only [ge_iff_le] at h1
   simp [h1]
set_option maxHeartbeats 1000000 in
set_option maxRecDepth 100000 in
theorem u3l.calls (a0:ByteArray) (r:Bool) (w:World) (h:u3l.f a0 = some r) :
 Calls Tryz.prog 64 #[.string a0] w fun e w' => e = .returned (.bool r) ∧ Below w.heap.size w w':=by
 obtain rfl:Base.valueB a0 = r:=by simpa [u3l.f] using h
 clear h
 go_enter Tryz.func64,Tryz.ntmps64
 go_wp2
 go_loopw [] (fun wr => ∃ (pos fuel:Nat),wr.heap[w.heap.size]? = some (.stringIter a0 pos) ∧ Below w.heap.size w wr ∧ Aside0 ((Base.runesOf a0).all Base.plainB = (Base.runesFrom a0 fuel pos).all Base.plainB) ∧ a0.size ≤ fuel + pos)
  (fun wr => a0.size - wr.iterPos w.heap.size)
 case atStart =>
  refine ⟨0,a0.size,?_,(Below.refl _ w).alloc (Nat.le_refl _) _,⟨rfl⟩,by omega⟩
  have:=World.iter_heap w a0 0
  simpa using this
 case round =>
  obtain ⟨pos,fuel,hit,hbw,HE,hfu⟩:=hrel
  have hsz:w.heap.size < wr.heap.size:=(Array.getElem?_eq_some_iff.1 hit).1
  by_cases hp:pos < a0.size
  · have hnx:∀ ty,(Instr.next (.pointer (some ⟨w.heap.size,0,none⟩)) true ty).run Tryz.prog wr = _:=fun ty => Lib.run_next_any_at wr w.heap.size a0 pos ty hit hp
    have hwd:=Base.width_pos a0 pos hp
    have hd1:=decode_le a0 pos
    have hit2:=Lib.iterAt_heap wr w.heap.size a0 pos (pos + (Utf8.decode a0 pos).2) hit
    have hbw2:=Lib.below_iterAt hbw (k:=w.heap.size) (by omega) a0 (pos + (Utf8.decode a0 pos).2)
    obtain ⟨f,rfl⟩:∃ f,fuel = f + 1:=⟨fuel - 1,by omega⟩
    have hst:=Base.runesFrom_step a0 f pos hp
    rw [hst] at HE
    clear hst
    cases hpl:Base.plainB ((Utf8.decode a0 pos).1:Int) with
    | true =>
      go_wp2_with (go_at_call 86;refine (labels_plain.calls _ _ _ (u3l.plain_is _)).mono ?_;rintro e W1 ⟨rfl,⟨nd,rfl⟩⟩)
      go_roundw
      case rel =>
       refine ⟨pos + (Utf8.decode a0 pos).2,f,by simpa using hit2,ui hbw2 nd,⟨?_⟩,by omega⟩
       have h1:=HE.out
       rw [List.all_cons,hpl,Bool.true_and] at h1
       exact h1
      case measure =>
       have e1:((wr.iterAt w.heap.size a0 (pos + (Utf8.decode a0 pos).2)).drewN nd).heap[w.heap.size]? = some (.stringIter a0 (pos + (Utf8.decode a0 pos).2)):=by simpa using hit2
       simp only [World.iterPos,e1,hit]
       omega
    | false =>
      go_wp2_with (go_at_call 86;refine (labels_plain.calls _ _ _ (u3l.plain_is _)).mono ?_;rintro e W1 ⟨rfl,⟨nd,rfl⟩⟩)
      go_ret
      have h1:=HE.out
      rw [List.all_cons,hpl,Bool.false_and] at h1
      refine ⟨?_,ui hbw2 nd⟩
      simp [Base.valueB,h1]
  · have hnx:∀ ty,(Instr.next (.pointer (some ⟨w.heap.size,0,none⟩)) true ty).run Tryz.prog wr = _:=fun ty => Lib.run_next_end_at wr w.heap.size a0 pos ty hit hp
    have h1:=HE.out
    rw [Base.runesFrom_end a0 fuel pos hp,List.all_nil] at h1
    have H1:=Aside0.mk h1
    clear h1 HE
    go_wp2
    all_goals
     go_ret
     refine ⟨?_,hbw⟩
     have h1:=H1.out
     have hz:=Base.toList_nil a0
     first
      | (have he:a0.toList = []:=by assumption
         have h0:a0.size = 0:=hz.1 he
         simp [Base.valueB,h1,h0,he];done)
      | (have he:¬ a0.toList = []:=by assumption
         have h0:0 < a0.size:=by
          rcases Nat.eq_zero_or_pos a0.size with h | h
          · exact absurd (hz.2 h) he
          · exact h
         have hi:a0.toList.isEmpty = false:=by
          cases hl:a0.toList with
          | nil => exact absurd hl he
          | cons _ _ => rfl
         have hd:decide ((a0.size:Int) ≤ 40) = decide (a0.size ≤ 40):=by
          rw [Bool.eq_iff_iff]
          simp only [decide_eq_true_eq]
          omega
         simp [Base.valueB,h1,h0,hi,hd];done)
def u1p.at (n:Int) (i:Nat):Int:=(n / 2 ^ (8 * i)) % 256
def u1p.put (n:Int):Nat → List Int
 | 0 => []
 | m + 1 => u1p.at n m :: u1p.put n m
def u1p.f (a0 a1:Int):Option (List Int):=if a1 = 4 ∨ a1 = 8 ∨ a1 = 2 then some (u1p.put a0 a1.toNat) else none
theorem u1p.info:(Tryz.prog.info? 5).map (fun i => (i.zero,i.size,i.bytes)) = some (some (.int .u8 0),1,1):=by kernel_rfl
theorem u1p.put2 (a0:Int):u1p.put a0 2 = [a0 / 256 % 256,a0 % 256]:=by
 simp [u1p.put,u1p.at]
set_option maxHeartbeats 4000000 in
set_option maxRecDepth 100000 in
theorem u1p.calls2 (a0:Int) (w:World):Calls Tryz.prog 28 #[.int .u64 a0,.int .i64 2] w fun e w' => ∃ v:Value,e = .returned v ∧ Kd.R (Kd.int .u8) 5 w' w.heap.size (fun _ => True) v (u1p.put a0 2) ∧ Below w.heap.size w w':=by
 have hm:∀ W:World,(Instr.makeSlice 22 (.int .i64 2) (.int .i64 2)).run Tryz.prog W = .ok (.slice (some ⟨W.heap.size,0,none⟩) 2 2) (W.alloc (.cells #[.int .u8 0,.int .u8 0] 5)):=fun W => by
  have h:=print_make (P:=Tryz.prog) 22 5 .u8 1 Tryz.underlying22 u1p.info (by decide) 2 (by decide) W
  rw [show madeCells #[Value.int .u8 0] 2 = #[.int .u8 0,.int .u8 0] from by kernel_rfl] at h
  exact h
 have HO:Aside0 (Kd.R (Kd.int .u8) 5 (w.alloc (.cells #[.int .u8 (a0 / 256 % 256),.int .u8 (a0 % 256)] 5)) w.heap.size (fun _ => True) (.slice (some ⟨w.heap.size,0,none⟩) 2 2) (u1p.put a0 2)):=⟨by
  rw [u1p.put2]
  exact Kd.R_of_own (own_lit w w.heap.size 5 .u8 [a0 / 256 % 256,a0 % 256] (Nat.le_refl _) (by simp)) (fun _ _ => trivial)⟩
 go_enter Tryz.func28,Tryz.ntmps28
 go_wp2
 repeat (first
  | (refine wp_loop_rounds 3 ?_;rw [rounds_succ];go_wp2)
  | (rw [rounds_succ];go_wp2))
 go_ret
 exact ⟨_,rfl,HO.out,uj (Below.refl _ _) _⟩
theorem u1p.put4 (a0:Int):u1p.put a0 4 = [a0 / 16777216 % 256,a0 / 65536 % 256,a0 / 256 % 256,a0 % 256]:=by
 simp [u1p.put,u1p.at]
set_option maxHeartbeats 4000000 in
set_option maxRecDepth 100000 in
theorem u1p.calls4 (a0:Int) (w:World):Calls Tryz.prog 28 #[.int .u64 a0,.int .i64 4] w fun e w' => ∃ v:Value,e = .returned v ∧ Kd.R (Kd.int .u8) 5 w' w.heap.size (fun _ => True) v (u1p.put a0 4) ∧ Below w.heap.size w w':=by
 have hm:∀ W:World,(Instr.makeSlice 22 (.int .i64 4) (.int .i64 4)).run Tryz.prog W = .ok (.slice (some ⟨W.heap.size,0,none⟩) 4 4) (W.alloc (.cells #[.int .u8 0,.int .u8 0,.int .u8 0,.int .u8 0] 5)):=fun W => by
  have h:=print_make (P:=Tryz.prog) 22 5 .u8 1 Tryz.underlying22 u1p.info (by decide) 4 (by decide) W
  rw [show madeCells #[Value.int .u8 0] 4 = #[.int .u8 0,.int .u8 0,.int .u8 0,.int .u8 0] from by kernel_rfl] at h
  exact h
 have HO:Aside0 (Kd.R (Kd.int .u8) 5 (w.alloc (.cells #[.int .u8 (a0 / 16777216 % 256),.int .u8 (a0 / 65536 % 256),.int .u8 (a0 / 256 % 256),.int .u8 (a0 % 256)] 5)) w.heap.size (fun _ => True) (.slice (some ⟨w.heap.size,0,none⟩) 4 4) (u1p.put a0 4)):=⟨by
  rw [u1p.put4]
  exact Kd.R_of_own (own_lit w w.heap.size 5 .u8 [a0 / 16777216 % 256,a0 / 65536 % 256,a0 / 256 % 256,a0 % 256] (Nat.le_refl _) (by simp)) (fun _ _ => trivial)⟩
 go_enter Tryz.func28,Tryz.ntmps28
 go_wp2
 repeat (first
  | (refine wp_loop_rounds 5 ?_;rw [rounds_succ];go_wp2)
  | (rw [rounds_succ];go_wp2))
 go_ret
 exact ⟨_,rfl,HO.out,uj (Below.refl _ _) _⟩
theorem u1p.put8 (a0:Int):u1p.put a0 8 = [a0 / 72057594037927936 % 256,a0 / 281474976710656 % 256,a0 / 1099511627776 % 256,a0 / 4294967296 % 256,a0 / 16777216 % 256,a0 / 65536 % 256,a0 / 256 % 256,a0 % 256]:=by
 simp [u1p.put,u1p.at]
set_option maxHeartbeats 4000000 in
set_option maxRecDepth 100000 in
theorem u1p.calls8 (a0:Int) (w:World):Calls Tryz.prog 28 #[.int .u64 a0,.int .i64 8] w fun e w' => ∃ v:Value,e = .returned v ∧ Kd.R (Kd.int .u8) 5 w' w.heap.size (fun _ => True) v (u1p.put a0 8) ∧ Below w.heap.size w w':=by
 have hm:∀ W:World,(Instr.makeSlice 22 (.int .i64 8) (.int .i64 8)).run Tryz.prog W = .ok (.slice (some ⟨W.heap.size,0,none⟩) 8 8) (W.alloc (.cells #[.int .u8 0,.int .u8 0,.int .u8 0,.int .u8 0,.int .u8 0,.int .u8 0,.int .u8 0,.int .u8 0] 5)):=fun W => by
  have h:=print_make (P:=Tryz.prog) 22 5 .u8 1 Tryz.underlying22 u1p.info (by decide) 8 (by decide) W
  rw [show madeCells #[Value.int .u8 0] 8 = #[.int .u8 0,.int .u8 0,.int .u8 0,.int .u8 0,.int .u8 0,.int .u8 0,.int .u8 0,.int .u8 0] from by kernel_rfl] at h
  exact h
 have HO:Aside0 (Kd.R (Kd.int .u8) 5 (w.alloc (.cells #[.int .u8 (a0 / 72057594037927936 % 256),.int .u8 (a0 / 281474976710656 % 256),.int .u8 (a0 / 1099511627776 % 256),.int .u8 (a0 / 4294967296 % 256),.int .u8 (a0 / 16777216 % 256),.int .u8 (a0 / 65536 % 256),.int .u8 (a0 / 256 % 256),.int .u8 (a0 % 256)] 5)) w.heap.size (fun _ => True) (.slice (some ⟨w.heap.size,0,none⟩) 8 8) (u1p.put a0 8)):=⟨by
  rw [u1p.put8]
  exact Kd.R_of_own (own_lit w w.heap.size 5 .u8 [a0 / 72057594037927936 % 256,a0 / 281474976710656 % 256,a0 / 1099511627776 % 256,a0 / 4294967296 % 256,a0 / 16777216 % 256,a0 / 65536 % 256,a0 / 256 % 256,a0 % 256] (Nat.le_refl _) (by simp)) (fun _ _ => trivial)⟩
 go_enter Tryz.func28,Tryz.ntmps28
 go_wp2
 repeat (first
  | (refine wp_loop_rounds 9 ?_;rw [rounds_succ];go_wp2)
  | (rw [rounds_succ];go_wp2))
 go_ret
 exact ⟨_,rfl,HO.out,uj (Below.refl _ _) _⟩
theorem u1p.calls (a0 a1:Int) (r:List Int) (w:World) (h:u1p.f a0 a1 = some r):Calls Tryz.prog 28 #[.int .u64 a0,.int .i64 a1] w fun e w' => ∃ v0_:Value,e = .returned (v0_) ∧ Kd.R (Kd.int .u8) 5 w' w.heap.size (fun _ => True) v0_ r ∧ Below w.heap.size w w':=by
 unfold u1p.f at h
 split at h
 · rename_i hc
   obtain rfl:=Option.some.inj h
   rcases hc with rfl | rfl | rfl
   · exact u1p.calls4 a0 w
   · exact u1p.calls8 a0 w
   · exact u1p.calls2 a0 w
 · cases h
def record_long.f (a0:Int):Option (List Int):=(u1p.f (IntKind.u64.wrap (a0)) 8).bind fun t121 => (some t121)
set_option maxHeartbeats 8000000 in
set_option maxRecDepth 100000 in
theorem record_long.calls (a0:Int) (r:List Int) (w:World) (h:record_long.f a0 = some r) :
 Calls Tryz.prog 31 #[.int .i64 a0] w fun e w' => ∃ v0_:Value,e = .returned (v0_) ∧ Kd.R (Kd.int .u8) 5 w' w.heap.size (fun _ => True) v0_ r ∧ Below w.heap.size w w':=by
 have HB:=Aside0.mk (Below.refl w.heap.size w)
 have H:((u1p.f (IntKind.u64.wrap (a0)) 8).bind fun t121 => (some t121)) = some r:=h
 clear h
 replace H:=Option.bind_eq_some_iff.mp H
 obtain ⟨t121,A20,H⟩:=H
 replace H:(some t121) = some r:=H
 have A2:=Aside0.mk A20
 clear A20
 obtain rfl:=Option.some.inj H
 go_enter Tryz.func31,Tryz.ntmps31
 go_wp2_with (first | ((with_reducible refine u3m (f:=28) rfl ?_);refine goesL_ (some 5) rfl rfl Tryz.func28 (by kernel_rfl) rfl #[.int .u64 (IntKind.u64.wrap (a0)),.int .i64 8] rfl (by (try simp only [List.map_toArray,List.map_cons,List.map_nil]);first | done | rfl | (simp only [List.length_drop,List.length_take];rfl)) ?_;(with_reducible refine (u1p.calls (IntKind.u64.wrap (a0)) 8 t121 _ A2.out).mono ?_);rintro e w3 ⟨v122,rfl,ho0,hb⟩;refine ⟨_,rfl,?_⟩;have n0_:=Aside0.mk (Kd.R_lower ho0 (u2p (by repeat (first | (with_reducible first | exact HB.out | apply uj | apply ui | apply ur) | exact HB.out))));have n1_:=Aside0.mk (u2k (by repeat (first | (with_reducible first | exact HB.out | apply uj | apply ui | apply ur) | exact HB.out)) hb);clear HB;have HO123:=n0_;have HB:=n1_;clear n0_ n1_;(try clear hb);(try clear hb2);(try clear hk);(try clear hi);(try clear ho0)))
 go_ret
 exact ⟨_,by first | rfl | (simp [u2i,u2j] <;> rfl) | (simp [*,u2i,u2j] <;> rfl),by (with_reducible repeat (first | apply Kd.R_alloc | apply Kd.R_drewN | apply Kd.R_drew));exact HO123.out,by repeat (first | (with_reducible first | exact HB.out | apply uj | apply ui | apply ur) | exact HB.out)⟩
structure uf.CS where
 p:List Int
 code:List S164
 bad:Bool
def uf.Runes (W:World) (gp:Nat) (A:Option Addr) (p:List Int):Prop:=(∃ cells,W.heap[gp]? = some (.cells cells 21 (0,0))) ∧ ∀ W':World,W'.heap[gp]? = W.heap[gp]? → (Kd.int .i32).C W' A p.length p
theorem uf.Runes.move {W W':World} {gp:Nat} {A:Option Addr} {p:List Int} (h:uf.Runes W gp A p) (hm:W'.heap[gp]? = W.heap[gp]?):uf.Runes W' gp A p :=
 ⟨by obtain ⟨c,hc⟩:=h.1;exact ⟨c,hm.trans hc⟩,fun W2 h2 => h.2 W2 (h2.trans hm)⟩
structure uf.St (w0 W:World) (g gp:Nat) (vc:Value) (s:uf.CS):Prop where
 below:Below w0.heap.size w0 W
 base:w0.heap.size ≤ g
 cells:∃ A c,W.heap[g]? = some (.cells #[.slice A s.p.length c,vc,.bool s.bad] 159 (0,0)) ∧ s.p.length ≤ c ∧ uf.Runes W gp A s.p
 code:Kd.R k164 164 W w0.heap.size (fun _ => True) vc s.code
def uf.Kp (W W':World) (g:Nat):Prop:=W'.heap.size = W.heap.size ∧ ∀ k,k ≠ g → W'.heap[k]? = W.heap[k]?
theorem uf.Kp.refl (W:World) (g:Nat):uf.Kp W W g:=⟨rfl,fun _ _ => rfl⟩
theorem uf.Kp.set (W:World) (g i:Nat) (u:Value):uf.Kp W (W.setCell ⟨g,i,none⟩ u) g:=⟨by simp [World.setCell],fun k hk => Below.heap_setCell W ⟨g,i,none⟩ u k hk⟩
theorem uf.Kp.trans {W W' W'':World} {g:Nat} (h:uf.Kp W W' g) (h':uf.Kp W' W'' g):uf.Kp W W'' g:=⟨h'.1.trans h.1,fun k hk => (h'.2 k hk).trans (h.2 k hk)⟩
theorem uf.St.look {w0 W:World} {g gp:Nat} {vc:Value} {s:uf.CS} (h:uf.St w0 W g gp vc s):∃ A c,(W.cell? ⟨g,0,none⟩ = some (.slice A s.p.length c) ∧ W.cell? ⟨g,1,none⟩ = some vc ∧ W.cell? ⟨g,2,none⟩ = some (.bool s.bad)) ∧ (W.frozen? ⟨g,0,none⟩ = false ∧ W.frozen? ⟨g,1,none⟩ = false ∧ W.frozen? ⟨g,2,none⟩ = false) ∧ s.p.length ≤ c ∧ W.heap[g]? = some (.cells #[.slice A s.p.length c,vc,.bool s.bad] 159 (0,0)) ∧ uf.Runes W gp A s.p:=by
 obtain ⟨A,c,hb,hl,hr⟩:=h.cells
 have h0:=uk hb 0
 have h1:=uk hb 1
 have h2:=uk hb 2
 simp only [List.size_toArray,List.length_cons,List.length_nil,List.getElem?_toArray,List.getElem?_cons_zero,List.getElem?_cons_succ] at h0 h1 h2
 exact ⟨A,c,⟨h0,h1,h2⟩,⟨uq hb 0,uq hb 1,uq hb 2⟩,hl,hb,hr⟩
def uf.step (s:uf.CS):Int × uf.CS:=match s.p with
 | [] => (0,{ s with bad:=true })
 | r :: q => (r,{ s with p:=q })
theorem uf.ne_gp {W:World} {g gp:Nat} {cs:Array Value} {A:Option Addr} {p:List Int} (hb:W.heap[g]? = some (.cells cs 159 (0,0))) (hr:uf.Runes W gp A p):gp ≠ g:=by
 obtain ⟨c,hc⟩:=hr.1
 exact blk_ne hc hb (by decide)
theorem uf.St.set {w0 W:World} {g gp:Nat} {vc:Value} {s:uf.CS} (h:uf.St w0 W g gp vc s) {i:Nat} {u:Value} {s':uf.CS} {A:Option Addr} {c:Nat} {cs:Array Value}
 (hb:W.heap[g]? = some (.cells cs 159 (0,0))) (hc:cs.setIfInBounds i u = #[.slice A s'.p.length c,vc,.bool s'.bad]) (hl:s'.p.length ≤ c) (hr:uf.Runes W gp A s'.p) (hcode:s'.code = s.code):uf.St w0 (W.setCell ⟨g,i,none⟩ u) g gp vc s' where
 below:=h.below.setCell h.base _
 base:=h.base
 cells:=⟨A,c,by rw [u3v hb i u,hc],hl,hr.move (Below.heap_setCell _ _ _ _ (uf.ne_gp hb hr))⟩
 code:=by
  rw [hcode]
  exact Kd.R_set h.code hb (by intro q hq;simp [k164,Kd.iso,Kd.pair,Kd.slice,Kd.int,Kd.scalar,Kd.bool,k191] at hq;omega) i u
set_option maxHeartbeats 2000000 in
set_option maxRecDepth 10000 in
theorem uf.calls (w0 W:World) (g gp:Nat) (vc:Value) (s:uf.CS) (h:uf.St w0 W g gp vc s) :
 Calls Tryz.prog 121 #[.pointer (some ⟨g,0,none⟩)] W fun e W' => e = .returned (.int .i32 (uf.step s).1) ∧ uf.St w0 W' g gp vc (uf.step s).2 ∧ uf.Kp W W' g:=by
 obtain ⟨p,code,bad⟩:=s
 obtain ⟨A,c,hb,hl,hr⟩:=h.cells
 have h0:=uk hb 0
 have h1:=uk hb 1
 have h2:=uk hb 2
 have f0:=uq hb 0
 have f2:=uq hb 2
 simp only at hb hl hr h0 h1 h2
 simp only [List.size_toArray,List.length_cons,List.length_nil,List.getElem?_toArray,List.getElem?_cons_zero,List.getElem?_cons_succ] at h0 h1 h2
 have HB:=Aside0.mk hb
 have HS:=Aside0.mk h
 have HR:=Aside0.mk hr
 clear hb hr h
 cases p with
 | nil =>
   go_enter Tryz.func121,Tryz.ntmps121
   go_wp2
   go_ret
   exact ⟨rfl,HS.out.set (i:=2) (u:=.bool true) (A:=A) (c:=c) HB.out rfl hl HR.out rfl,uf.Kp.set _ _ _ _⟩
 | cons r q =>
   obtain ⟨ad,e,hx⟩:=Kd.at_int (HR.out.2 W rfl) 0 (by omega) (by simp)
   subst e
   have hx0:W.cell? ad = some (.int .i32 r):=by simpa [rd,Addr.add] using hx
   clear hx
   have HR2:Aside0 (uf.Runes W gp (if c = 1 then some ad else some ⟨ad.block,ad.off + 1,none⟩) q):=⟨by
    refine ⟨HR.out.1,fun W' hW' => ?_⟩
    have hd:=Kd.C_drop (m:=1) (c:=c) (HR.out.2 W' hW') (by simp) (by simpa using hl)
    have hsz:(Kd.int .i32).sz = 1:=rfl
    by_cases h9:c = 1
    · simpa [h9,hsz,Addr.add] using hd
    · simpa [h9,hsz,Addr.add] using hd⟩
   simp only [List.length_cons] at hl
   have hl2:q.length ≤ c - 1:=by omega
   go_enter Tryz.func121,Tryz.ntmps121
   go_wp2
   all_goals
    go_ret
    refine ⟨rfl,HS.out.set (i:=0) (s':=⟨q,code,bad⟩) (c:=c - 1) HB.out ?_ hl2 HR2.out rfl,uf.Kp.set _ _ _ _⟩
    simp [h]
def u2l.mo (s:uf.CS):Bool:=!s.p.isEmpty && !s.bad
set_option maxHeartbeats 2000000 in
set_option maxRecDepth 10000 in
theorem u2l.calls (w0 W:World) (g gp:Nat) (vc:Value) (s:uf.CS) (h:uf.St w0 W g gp vc s) :
 Calls Tryz.prog 119 #[.pointer (some ⟨g,0,none⟩)] W fun e W' => e = .returned (.bool (u2l.mo s)) ∧ W' = W:=by
 obtain ⟨p,code,bad⟩:=s
 obtain ⟨A,c,⟨h0,h1,h2⟩,⟨f0,f1,f2⟩,hl,hb,hr⟩:=h.look
 simp only at h0 h1 h2 hl hr
 clear h hb hr
 cases p with
 | nil =>
   go_enter Tryz.func119,Tryz.ntmps119
   go_wp2
   go_ret
   exact ⟨rfl,rfl⟩
 | cons r q =>
   go_enter Tryz.func119,Tryz.ntmps119
   go_wp2
   all_goals
    go_ret
    refine ⟨?_,rfl⟩
    simp_all [u2l.mo]
def u2r.nx (s:uf.CS):Int:=match s.p with
 | [] => 0
 | r :: _ => r
set_option maxHeartbeats 2000000 in
set_option maxRecDepth 10000 in
theorem u2r.calls (w0 W:World) (g gp:Nat) (vc:Value) (s:uf.CS) (h:uf.St w0 W g gp vc s) :
 Calls Tryz.prog 120 #[.pointer (some ⟨g,0,none⟩)] W fun e W' => e = .returned (.int .i32 (u2r.nx s)) ∧ W' = W:=by
 obtain ⟨p,code,bad⟩:=s
 obtain ⟨A,c,⟨h0,h1,h2⟩,⟨f0,f1,f2⟩,hl,hb,hr⟩:=h.look
 simp only at h0 h1 h2 hl hr
 clear h hb
 cases p with
 | nil =>
   clear hr
   go_enter Tryz.func120,Tryz.ntmps120
   go_wp2
   go_ret
   exact ⟨rfl,rfl⟩
 | cons r q =>
   obtain ⟨ad,e,hx⟩:=Kd.at_int (hr.2 W rfl) 0 (by omega) (by simp)
   subst e
   have hx0:W.cell? ad = some (.int .i32 r):=by simpa [rd,Addr.add] using hx
   clear hx hr
   go_enter Tryz.func120,Tryz.ntmps120
   go_wp2
   all_goals
    go_ret
    exact ⟨rfl,rfl⟩
def uu.am (m:ByteArray) (s:uf.CS):Bool:=match s.p with
 | [] => false
 | r :: _ => decide (0 ≤ Lib.indexByte m.data.toList (UInt8.ofNat (r % 256).toNat)) && decide (r < 128)
set_option maxHeartbeats 2000000 in
set_option maxRecDepth 10000 in
theorem uu.calls (w0 W:World) (g gp:Nat) (vc:Value) (s:uf.CS) (m:ByteArray) (h:uf.St w0 W g gp vc s) :
 Calls Tryz.prog 132 #[.pointer (some ⟨g,0,none⟩),.string m] W fun e W' => e = .returned (.bool (uu.am m s)) ∧ W' = W:=by
 obtain ⟨p,code,bad⟩:=s
 obtain ⟨A,c,⟨h0,h1,h2⟩,⟨f0,f1,f2⟩,hl,hb,hr⟩:=h.look
 simp only at h0 h1 h2 hl hr
 have HS:=Aside0.mk h
 clear h hb
 cases p with
 | nil =>
   clear hr
   go_enter Tryz.func132,Tryz.ntmps132
   go_wp2
   go_ret
   exact ⟨rfl,rfl⟩
 | cons r q =>
   obtain ⟨ad,e,hx⟩:=Kd.at_int (hr.2 W rfl) 0 (by omega) (by simp)
   subst e
   have hx0:W.cell? ad = some (.int .i32 r):=by simpa [rd,Addr.add] using hx
   clear hx hr
   go_enter Tryz.func132,Tryz.ntmps132
   go_wp2_with (go_at_call 143;refine (strings_IndexByte.calls _ _ _).mono ?_;rintro e w' ⟨rfl,hw⟩;rw [hw])
   all_goals
    go_ret
    refine ⟨?_,rfl⟩
    simp_all [uu.am]
   all_goals omega
def u2h.mem (s:uf.CS):Int × uf.CS :=
 let s0:uf.CS:={ s with bad:=s.bad || uu.am ⟨#[93,45]⟩ s }
 let x:=uf.step s0
 if x.1 = 92 then uf.step x.2 else x
set_option maxHeartbeats 2000000 in
set_option maxRecDepth 10000 in
theorem u2h.calls (w0 W:World) (g gp:Nat) (vc:Value) (s:uf.CS) (h:uf.St w0 W g gp vc s) :
 Calls Tryz.prog 150 #[.pointer (some ⟨g,0,none⟩)] W fun e W' => e = .returned (.int .i32 (u2h.mem s).1) ∧ uf.St w0 W' g gp vc (u2h.mem s).2 ∧ uf.Kp W W' g:=by
 obtain ⟨s0,hs0⟩:∃ s0:uf.CS,Aside0 (s0 = { s with bad:=s.bad || uu.am ⟨#[93,45]⟩ s }):=⟨_,⟨rfl⟩⟩
 have HM:Aside0 (u2h.mem s = if (uf.step s0).1 = 92 then uf.step (uf.step s0).2 else uf.step s0):=⟨by rw [hs0.out];rfl⟩
 obtain ⟨A,c,⟨h0,h1,h2⟩,⟨f0,f1,f2⟩,hl,hb,hr⟩:=h.look
 have HS:=Aside0.mk h
 have HB:Aside0 (uu.am ⟨#[93,45]⟩ s = true → uf.St w0 (W.setCell ⟨g,2,none⟩ (.bool true)) g gp vc s0):=⟨fun hm => by
  rw [hs0.out,hm,Bool.or_true]
  exact h.set hb rfl hl hr rfl⟩
 have HC:Aside0 (uu.am ⟨#[93,45]⟩ s = false → uf.St w0 W g gp vc s0):=⟨fun hm => by
  rw [hs0.out,hm,Bool.or_false]
  exact h⟩
 clear h hb hr hl hs0
 obtain ⟨am,ham⟩:∃ am,Aside0 (uu.am ⟨#[93,45]⟩ s = am):=⟨_,⟨rfl⟩⟩
 rw [ham.out] at HB HC
 obtain ⟨x1,hx1⟩:∃ x1,Aside0 (uf.step s0 = x1):=⟨_,⟨rfl⟩⟩
 obtain ⟨x2,hx2⟩:∃ x2,Aside0 (uf.step x1.2 = x2):=⟨_,⟨rfl⟩⟩
 rw [hx1.out,hx2.out] at HM
 obtain ⟨r1,s1⟩:=x1
 obtain ⟨r2,s2⟩:=x2
 go_enter Tryz.func150,Tryz.ntmps150
 go_wp2_with (first
  | (go_at_call 132;(with_reducible refine (uu.calls w0 _ g gp vc s _ HS.out).mono ?_);rintro e W0 ⟨rfl,hW0⟩;rw [hW0,ham.out])
  | (go_at_call 121;(with_reducible refine (uf.calls w0 _ g gp vc s0 (by first | exact HB.out (by assumption) | exact HC.out (by assumption))).mono ?_);rintro e W1 ⟨rfl,hS1,hK1⟩;rw [hx1.out] at hS1 ⊢;have HS1:=Aside0.mk hS1;have HK1:=Aside0.mk hK1;clear hS1 hK1)
  | (go_at_call 121;(with_reducible refine (uf.calls w0 _ g gp vc s1 HS1.out).mono ?_);rintro e W2 ⟨rfl,hS2,hK2⟩;rw [hx2.out] at hS2 ⊢;have HS2:=Aside0.mk hS2;have HK2:=Aside0.mk hK2;clear hS2 hK2))
 all_goals
  go_ret
  rw [HM.out]
  first
   | (have h9:(r1 == 92) = true:=by assumption
      rw [if_pos (by simpa using h9)]
      first
       | exact ⟨rfl,HS2.out,HK1.out.trans HK2.out⟩
       | exact ⟨rfl,HS2.out,(uf.Kp.set _ _ _ _).trans (HK1.out.trans HK2.out)⟩)
   | (have h9:(r1 == 92) = false:=by assumption
      rw [if_neg (by simpa using h9)]
      first
       | exact ⟨rfl,HS1.out,HK1.out⟩
       | exact ⟨rfl,HS1.out,(uf.Kp.set _ _ _ _).trans HK1.out⟩)
theorem u1b.info:(Tryz.prog.info? 5).map (fun i => (i.zero,i.size,i.bytes)) = some (some (.int .u8 0),1,1):=by kernel_rfl
def u1b.Parts (w:World) (vs:List (Value × List Int)):Prop:=∀ p ∈ vs,∃ A c,p.1 = .slice A p.2.length c ∧ p.2.length ≤ c ∧ Kd.C (Kd.int .u8) w A p.2.length p.2
def u1b.len (vs:List (Value × List Int)):Nat:=(vs.flatMap (·.2)).length
theorem u1b.len_take (vs:List (Value × List Int)) (i:Nat) (h:i < vs.length):u1b.len (vs.take (i + 1)) = u1b.len (vs.take i) + vs[i].2.length:=by
 simp only [u1b.len]
 rw [List.take_succ_eq_append_getElem h,List.flatMap_append,List.length_append]
 simp
theorem u1b.len_le (vs:List (Value × List Int)) (i:Nat):u1b.len (vs.take i) ≤ u1b.len vs:=by
 simp only [u1b.len]
 conv => rhs;rw [← List.take_append_drop i vs]
 rw [List.flatMap_append,List.length_append]
 omega
set_option maxHeartbeats 4000000 in
set_option maxRecDepth 100000 in
theorem u1b.callsG (g:Nat) (vs:List (Value × List Int)) (w:World) (hblk:w.heap[g]? = some (.cells (vs.map (·.1)).toArray 22 (0,0))) (hp:u1b.Parts w vs) (hn:vs.length ≤ 1000) (hl:u1b.len vs ≤ 140737488355328) :
 Calls Tryz.prog 30 #[.slice (some ⟨g,0,none⟩) vs.length vs.length] w fun e w' => ∃ v:Value,e = .returned v ∧ Kd.R (Kd.int .u8) 5 w' w.heap.size (fun _ => True) v (vs.flatMap (·.2)) ∧ Below w.heap.size w w':=by
 have HK:=Aside0.mk hblk
 have HP:=Aside0.mk hp
 have HL:=Aside0.mk hl
 clear hblk hp hl
 have HB0:=Aside0.mk (Below.refl w.heap.size w)
 go_enter Tryz.func30,Tryz.ntmps30
 go_wp2
 go_loopg [3,11] (vs.length) (fun kq v3 v11 wr => ∃ (i:Nat),i ≤ vs.length ∧ v11 = .int .i64 i ∧ v3 = .int .i64 (u1b.len (vs.take i):Nat) ∧ vs.length ≤ kq + i ∧ Aside0 (Below w.heap.size w wr))
 case atStart => exact ⟨0,by omega,rfl,rfl,by omega,HB0⟩
 case round =>
  obtain ⟨i,hi,rfl,rfl,hk,HB⟩:=hrel
  by_cases hlt:i < vs.length
  · obtain ⟨g1,rfl⟩:∃ g1,gk = g1 + 1:=⟨gk - 1,by omega⟩
    obtain ⟨A,c,e,hle,hC⟩:=HP.out vs[i] (List.getElem_mem hlt)
    have HC:=Aside0.mk (Kd.C_below hC HB.out)
    have hcell:wr.cell? ⟨g,i,none⟩ = some (.slice A vs[i].2.length c):=by
     have h1:=uk (u1a HK.out HB.out) i
     rw [h1]
     simp [hlt,e]
    have hle2:u1b.len (vs.take i) + vs[i].2.length ≤ 140737488355328:=by
     have h1:=u1b.len_le vs (i + 1)
     rw [u1b.len_take vs i hlt] at h1
     have:=HL.out
     omega
    have hnext:Aside0 (u1b.len (vs.take i) + vs[i].2.length = u1b.len (vs.take (i + 1))):=⟨(u1b.len_take vs i hlt).symm⟩
    clear e hC
    generalize vs[i].2.length = m at hcell hle hle2 hnext HC
    generalize u1b.len (vs.take i) = acc at hle2 hnext
    have hneg:¬ ((acc:Int) + (m:Int) < 0):=by omega
    go_wp2
    go_roundg g1
    case rel => exact ⟨i + 1,by omega,by go_num,(by rw [← hnext.out];go_num),by omega,HB⟩
    case measure => omega
  · have hin:i = vs.length:=by omega
    have hfull:u1b.len (vs.take i) = u1b.len vs:=by rw [hin,List.take_length]
    rw [hfull]
    obtain ⟨T,hT⟩:∃ T,Aside0 (u1b.len vs = T):=⟨_,⟨rfl⟩⟩
    rw [hT.out]
    have hT2:T ≤ 140737488355328:=by rw [← hT.out];exact HL.out
    clear hfull
    go_wp2_with (go_at_call 62;(with_reducible refine (slices_Grow_byte_byte.calls_nil T _ hT2).mono ?_);rintro e w3 ⟨v6,rfl,hR3,hB3⟩;have HB3:=Aside0.mk (u2k HB.out hB3);have HR3:=Aside0.mk (Kd.R_lower hR3 HB.out.size);clear hR3 hB3)
    go_loopg [6,27] (vs.length) (fun kq v6 v27 wr => ∃ (i:Nat),i ≤ vs.length ∧ v27 = .int .i64 i ∧ Aside0 (Kd.R (Kd.int .u8) 5 wr w.heap.size (fun _ => True) v6 ((vs.take i).flatMap (·.2))) ∧ vs.length ≤ kq + i ∧ Aside0 (Below w.heap.size w wr))
    case atStart => exact ⟨0,by omega,rfl,HR3,by omega,HB3⟩
    case round =>
     clear HR3 HB3 HB
     obtain ⟨j,hj,rfl,HR,hkj,HB⟩:=hrel
     by_cases hlt2:j < vs.length
     · obtain ⟨g1,rfl⟩:∃ g1,gk = g1 + 1:=⟨gk - 1,by omega⟩
       obtain ⟨A,c,e,hle,hC⟩:=HP.out vs[j] (List.getElem_mem hlt2)
       have HC:=Aside0.mk (Kd.C_below hC HB.out)
       have hcell:wr.cell? ⟨g,j,none⟩ = some (.slice A vs[j].2.length c):=by
        have h1:=uk (u1a HK.out HB.out) j
        rw [h1]
        simp [hlt2,e]
       have hle2:((vs.take j).flatMap (·.2)).length + vs[j].2.length ≤ 140737488355328:=by
        have h1:=u1b.len_le vs (j + 1)
        rw [u1b.len_take vs j hlt2] at h1
        have:=HL.out
        simp only [u1b.len] at h1 this
        omega
       have hnext:Aside0 ((vs.take j).flatMap (·.2) ++ vs[j].2 = (vs.take (j + 1)).flatMap (·.2)):=⟨by
        rw [List.take_succ_eq_append_getElem hlt2,List.flatMap_append]
        simp⟩
       clear e hC
       generalize vs[j].2 = ys at hcell hle hle2 hnext HC
       generalize (vs.take j).flatMap (·.2) = pre at HR hle2 hnext
       go_wp2_with (at_builtin;refine Kd.R_append_row (w0:=w) (Value.int .u8) (0:Int) (h1:=fun _ => rfl) w.heap.size rfl (.tmp 31) (.tmp 32) 22 5 (.int .u8 0) 1 rfl Tryz.underlying22 u1b.info rfl (by decide) _ pre ys A ys.length c (fun _ => True) rfl rfl (fun _ _ => trivial) HR.out HC.out HB.out HB.out.size ?_ ?_)
       · omega
       · intro v1 w7 hR7 hB7 _ _
         have HR7:=Aside0.mk hR7
         have HB7:=Aside0.mk hB7
         clear hR7 hB7
         go_wp2
         go_roundg g1
         case rel => exact ⟨j + 1,by omega,by go_num,⟨by rw [← hnext.out];exact HR7.out⟩,by omega,HB7⟩
         case measure => omega
     · have hjn:j = vs.length:=by omega
       have hfull:Aside0 ((vs.take j).flatMap (·.2) = vs.flatMap (·.2)):=⟨by rw [hjn,List.take_length]⟩
       go_wp2
       go_ret
       exact ⟨_,rfl,by rw [← hfull.out];exact HR.out,HB.out⟩
mutual
def crc_Get.j0:Nat → List Int → Bool → Option (Int × Bool)
 | 0,_,_ => none
 | k + 1,x0,x14 => if x14 = true then (some (0,false)) else (crc_Get.l0 k 0 x0 (x0.length:Int) 0)
def crc_Get.l0:Nat → Int → List Int → Int → Int → Option (Int × Bool)
 | 0,_,_,_,_ => none
 | k + 1,x4,x15,x16,x17 => if x17 < x16 then (if 0 ≤ x17 then (if x17 < (x15.length:Int) then (crc_Get.l0 k (Go.bits .or .u64 (IntKind.u64.wrap (x4 * 256)) (IntKind.u64.wrap (rd x15 x17))) x15 x16 (wrap64 (x17 + 1))) else (none)) else (none)) else (some (x4,true))
end
def crc_Get.f (k:Nat) (l0:List Int):Option (Int × Bool):=if (l0.length:Int) = 0 then (crc_Get.j0 k l0 true) else (crc_Get.j0 k l0 (decide ((l0.length:Int) > 8)))
set_option maxHeartbeats 8000000 in
set_option maxRecDepth 100000 in
theorem crc_Get.calls (k:Nat) (A0:Option Addr) (c0:Nat) (l0:List Int) (r1:Int) (r2:Bool) (w:World) (hr0:Kd.C (Kd.int .u8) w A0 l0.length l0) (hc0:l0.length ≤ c0) (h:crc_Get.f k l0 = some (r1,r2)) :
 Calls Tryz.prog 55 #[.slice A0 l0.length c0] w fun e w' => e = .returned (.tuple #[.int .u64 r1,.bool r2]) ∧ u1v w w':=by
 have HR0:=Aside0.mk hr0
 have HC0:=Aside0.mk hc0
 clear hr0 hc0
 have H:(if (l0.length:Int) = 0 then (crc_Get.j0 k l0 true) else (crc_Get.j0 k l0 (decide ((l0.length:Int) > 8)))) = some (r1,r2):=h
 clear h
 have HC2:=Aside0.mk H
 clear H
 go_enter Tryz.func55,Tryz.ntmps55
 go_upto_region 1 with (fail)
 go_cut [14] (fun v14 wc => ∃ (kq:Nat) (x14_1:Bool),v14 = .bool x14_1 ∧ Aside0 (crc_Get.j0 kq l0 x14_1 = some (r1,r2)) ∧ Aside0 (kq ≤ k) ∧ u1v w wc)
 case first =>
  have H:=HC2.out
  clear HC2
  by_cases c3:(l0.length:Int) = 0
  · rw [if_pos c3] at H
    have c3b0:((l0.length:Int) == 0) = true:=beq_iff_eq.mpr c3
    have c3b1:((l0.length:Int) != 0) = false:=bne_eq_false_iff_eq.mpr c3
    clear c3
    (first | rw [c3b0] | (simp only [i64_w,i32_w];rw [c3b0]) | skip)
    have H':=Aside0.mk H
    clear H
    go_wp2
    go_meet
    case rel => exact ⟨_,(true),(by first | rfl | (simp;done) | (simp [*];done)),H',⟨by first | omega | exact Nat.le_refl _⟩,by repeat (first | exact u1v.refl _ | apply u1v.step)⟩
  · rw [if_neg c3] at H
    have c3b0:((l0.length:Int) == 0) = false:=beq_eq_false_iff_ne.mpr c3
    have c3b1:((l0.length:Int) != 0) = true:=bne_iff_ne.mpr c3
    have c3b2:¬ (l0 = []):=fun h_ => c3 (by rw [h_];rfl)
    (first | rw [c3b0] | (simp only [i64_w,i32_w];rw [c3b0]) | skip)
    have H':=Aside0.mk H
    clear H
    go_wp2
    go_meet
    case rel => exact ⟨_,(decide ((l0.length:Int) > 8)),(by first | rfl | (simp;done) | (simp [*];done)),H',⟨by first | omega | exact Nat.le_refl _⟩,by repeat (first | exact u1v.refl _ | apply u1v.step)⟩
 case rest =>
  clear HC2
  try clear p2
  try clear c3
  try clear c3b0
  try clear c3b1
  try clear c3b2
  obtain ⟨kq,x14_1,rfl,HA,HJ1,⟨mc1,rfl⟩⟩:=hcut
  cases kq with
  | zero => exact absurd HA.out (by simp [crc_Get.j0])
  | succ kj1 =>
    have H:=HA.out
    clear HA
    simp only [crc_Get.j0] at H
    by_cases c4:x14_1 = true
    · subst c4
      have H1:(some (0,false)) = some (r1,r2):=by rw [if_pos rfl] at H;exact H
      clear H
      have H:=H1
      clear H1
      simp only [Option.some.injEq,Prod.mk.injEq] at H
      obtain ⟨rfl,rfl⟩:=H
      go_wp2
      go_ret2
      exact ⟨by first | rfl | (simp;done) | (simp [*];done),by repeat (first | exact u1v.refl _ | apply u1v.step)⟩
    · replace c4:=Bool.eq_false_iff.mpr c4
      subst c4
      have H1:(crc_Get.l0 kj1 0 l0 (l0.length:Int) 0) = some (r1,r2):=by rw [if_neg (show ¬ (false = true) by decide)] at H;exact H
      clear H
      have H:=H1
      clear H1
      have H':=Aside0.mk H
      clear H
      go_wp2
      go_loopg [4,17] kj1 (fun kq v4 v17 w' => ∃ (x4_2:Int) (x17_2:Int),v4 = .int .u64 x4_2 ∧ v17 = .int .i64 x17_2 ∧ Aside0 (crc_Get.l0 kq x4_2 l0 (l0.length:Int) x17_2 = some (r1,r2)) ∧ Aside0 (kq ≤ kj1) ∧ u1v w w')
      case atStart => exact ⟨(0),(0),(by first | rfl | (simp;done) | (simp [*];done)),(by first | rfl | (simp;done) | (simp [*];done)),H',⟨Nat.le_refl _⟩,by repeat (first | exact u1v.refl _ | apply u1v.step)⟩
      case round =>
       clear H'
       try clear c1
       try clear p2
       try clear c3
       try clear c3b0
       try clear c3b1
       try clear c3b2
       try clear c4
       try clear p2
       obtain ⟨x4_2,x17_2,rfl,rfl,HA,HK2,⟨m2,rfl⟩⟩:=hrel
       cases gk with
       | zero => exact absurd HA.out (by simp [crc_Get.l0])
       | succ k2 =>
         have H:=HA.out
         clear HA
         simp only [crc_Get.l0] at H
         by_cases c5:x17_2 < (l0.length:Int)
         · rw [if_pos c5] at H
           have c5b0:decide (x17_2 < (l0.length:Int)) = true:=decide_eq_true c5
           clear c5
           by_cases c6:0 ≤ x17_2
           · rw [if_pos c6] at H
             have c6b0:decide (0 ≤ x17_2) = true:=decide_eq_true c6
             clear c6
             by_cases c7:x17_2 < (l0.length:Int)
             · rw [if_pos c7] at H
               have c7b0:decide (x17_2 < (l0.length:Int)) = true:=decide_eq_true c7
               clear c7
               have H':=Aside0.mk H
               clear H
               have p105:0 ≤ (x17_2:Int):=of_decide_eq_true (by first | (with_reducible assumption) | assumption)
               have q105:x17_2 < (l0.length:Int):=of_decide_eq_true (by first | (with_reducible assumption) | assumption)
               obtain ⟨ad105,e105,hx105_0⟩:=Kd.at_int HR0.out x17_2 p105 q105
               cases e105
               replace p105:=eq_true p105
               replace q105:=eq_true q105
               go_wp2
               go_roundg k2
               case measure => have:=HJ1.out;have:=HK2.out;omega
               case rel => exact ⟨(Go.bits .or .u64 (IntKind.u64.wrap (x4_2 * 256)) (IntKind.u64.wrap (rd l0 x17_2))),(wrap64 (x17_2 + 1)),(by first | rfl | (simp;done) | (simp [*];done)),(by first | rfl | (simp;done) | (simp [*];done)),H',⟨by have:=HJ1.out;have:=HK2.out;omega⟩,by repeat (first | exact u1v.refl _ | apply u1v.step)⟩
             · rw [if_neg c7] at H
               exact absurd H (by simp)
           · rw [if_neg c6] at H
             exact absurd H (by simp)
         · rw [if_neg c5] at H
           have c5b0:decide (x17_2 < (l0.length:Int)) = false:=decide_eq_false c5
           clear c5
           simp only [Option.some.injEq,Prod.mk.injEq] at H
           obtain ⟨rfl,rfl⟩:=H
           go_wp2
           go_ret2
           exact ⟨by first | rfl | (simp;done) | (simp [*];done),by repeat (first | exact u1v.refl _ | apply u1v.step)⟩
def u1o.l0:Nat → List Int → List Int → Int → Int → Option (Bool)
 | 0,_,_,_,_ => none
 | k + 1,x0,x1,x12,x13 => if x13 < x12 then (if 0 ≤ x13 then (if x13 < (x0.length:Int) then (if x13 < (x1.length:Int) then (if (rd x0 x13) = (rd x1 x13) then (u1o.l0 k x0 x1 x12 (wrap64 (x13 + 1))) else (some false)) else (none)) else (none)) else (none)) else (some true)
def u1o.f (k:Nat) (l0:List Int) (l1:List Int):Option (Bool):=if (l0.length:Int) = (l1.length:Int) then (u1o.l0 k l0 l1 (l0.length:Int) 0) else (some false)
set_option maxHeartbeats 8000000 in
set_option maxRecDepth 100000 in
theorem u1o.calls (k:Nat) (A0:Option Addr) (c0:Nat) (l0:List Int) (A1:Option Addr) (c1:Nat) (l1:List Int) (r:Bool) (w:World) (hr0:Kd.C (Kd.int .u8) w A0 l0.length l0) (hc0:l0.length ≤ c0) (hr1:Kd.C (Kd.int .u8) w A1 l1.length l1) (hc1:l1.length ≤ c1) (h:u1o.f k l0 l1 = some r) :
 Calls Tryz.prog 10 #[.slice A0 l0.length c0,.slice A1 l1.length c1] w fun e w' => e = .returned (.bool r) ∧ u1v w w':=by
 have HR0:=Aside0.mk hr0
 have HC0:=Aside0.mk hc0
 clear hr0 hc0
 have HR1:=Aside0.mk hr1
 have HC1:=Aside0.mk hc1
 clear hr1 hc1
 have H:(if (l0.length:Int) = (l1.length:Int) then (u1o.l0 k l0 l1 (l0.length:Int) 0) else (some false)) = some r:=h
 clear h
 by_cases c3:(l0.length:Int) = (l1.length:Int)
 · rw [if_pos c3] at H
   have c3b0:((l0.length:Int) == (l1.length:Int)) = true:=beq_iff_eq.mpr c3
   have c3b1:((l0.length:Int) != (l1.length:Int)) = false:=bne_eq_false_iff_eq.mpr c3
   have c3b2:(l0.length == l1.length) = true:=by first | simpa using c3 | (simp at c3 ⊢;omega)
   clear c3
   have H':=Aside0.mk H
   clear H
   go_enter Tryz.func10,Tryz.ntmps10
   go_wp2
   repeat (go_quiet (fail);try go_wp2)
   go_loopg [13] k (fun kq v13 w' => ∃ (x13_1:Int),v13 = .int .i64 x13_1 ∧ Aside0 (u1o.l0 kq l0 l1 (l0.length:Int) x13_1 = some r) ∧ Aside0 (kq ≤ k) ∧ u1v w w')
   case atStart => exact ⟨(0),(by first | rfl | (simp;done) | (simp [*];done)),H',⟨Nat.le_refl _⟩,by repeat (first | exact u1v.refl _ | apply u1v.step)⟩
   case round =>
    clear H'
    try clear c1
    try clear p2
    try clear c3
    try clear c3b0
    try clear c3b1
    try clear c3b2
    obtain ⟨x13_1,rfl,HA,HK1,⟨m1,rfl⟩⟩:=hrel
    cases gk with
    | zero => exact absurd HA.out (by simp [u1o.l0])
    | succ k1 =>
      have H:=HA.out
      clear HA
      simp only [u1o.l0] at H
      by_cases c4:x13_1 < (l0.length:Int)
      · rw [if_pos c4] at H
        have c4b0:decide (x13_1 < (l0.length:Int)) = true:=decide_eq_true c4
        clear c4
        by_cases c5:0 ≤ x13_1
        · rw [if_pos c5] at H
          have c5b0:decide (0 ≤ x13_1) = true:=decide_eq_true c5
          clear c5
          by_cases c6:x13_1 < (l0.length:Int)
          · rw [if_pos c6] at H
            have c6b0:decide (x13_1 < (l0.length:Int)) = true:=decide_eq_true c6
            clear c6
            by_cases c7:x13_1 < (l1.length:Int)
            · rw [if_pos c7] at H
              have c7b0:decide (x13_1 < (l1.length:Int)) = true:=decide_eq_true c7
              clear c7
              by_cases c8:(rd l0 x13_1) = (rd l1 x13_1)
              · rw [if_pos c8] at H
                have c8b0:((rd l0 x13_1) == (rd l1 x13_1)) = true:=beq_iff_eq.mpr c8
                have c8b1:((rd l0 x13_1) != (rd l1 x13_1)) = false:=bne_eq_false_iff_eq.mpr c8
                clear c8
                have H':=Aside0.mk H
                clear H
                have p145:0 ≤ (x13_1:Int):=of_decide_eq_true (by first | (with_reducible assumption) | assumption)
                have q145:x13_1 < (l0.length:Int):=of_decide_eq_true (by first | (with_reducible assumption) | assumption)
                obtain ⟨ad145,e145,hx145_0⟩:=Kd.at_int HR0.out x13_1 p145 q145
                cases e145
                replace p145:=eq_true p145
                replace q145:=eq_true q145
                have p146:0 ≤ (x13_1:Int):=of_decide_eq_true (by first | (with_reducible assumption) | assumption)
                have q146:x13_1 < (l1.length:Int):=of_decide_eq_true (by first | (with_reducible assumption) | assumption)
                obtain ⟨ad146,e146,hx146_0⟩:=Kd.at_int HR1.out x13_1 p146 q146
                cases e146
                replace p146:=eq_true p146
                replace q146:=eq_true q146
                go_wp2
                repeat (go_quiet (fail);try go_wp2)
                go_roundg k1
                case measure => have:=HK1.out;omega
                case rel => exact ⟨(wrap64 (x13_1 + 1)),(by first | rfl | (simp;done) | (simp [*];done)),H',⟨by have:=HK1.out;omega⟩,by repeat (first | exact u1v.refl _ | apply u1v.step)⟩
              · rw [if_neg c8] at H
                have c8b0:((rd l0 x13_1) == (rd l1 x13_1)) = false:=beq_eq_false_iff_ne.mpr c8
                have c8b1:((rd l0 x13_1) != (rd l1 x13_1)) = true:=bne_iff_ne.mpr c8
                obtain rfl:=Option.some.inj H
                have p145:0 ≤ (x13_1:Int):=of_decide_eq_true (by first | (with_reducible assumption) | assumption)
                have q145:x13_1 < (l0.length:Int):=of_decide_eq_true (by first | (with_reducible assumption) | assumption)
                obtain ⟨ad145,e145,hx145_0⟩:=Kd.at_int HR0.out x13_1 p145 q145
                cases e145
                replace p145:=eq_true p145
                replace q145:=eq_true q145
                have p146:0 ≤ (x13_1:Int):=of_decide_eq_true (by first | (with_reducible assumption) | assumption)
                have q146:x13_1 < (l1.length:Int):=of_decide_eq_true (by first | (with_reducible assumption) | assumption)
                obtain ⟨ad146,e146,hx146_0⟩:=Kd.at_int HR1.out x13_1 p146 q146
                cases e146
                replace p146:=eq_true p146
                replace q146:=eq_true q146
                go_wp2
                repeat (go_quiet (fail);try go_wp2)
                go_ret
                exact ⟨by first | rfl | (simp;done) | (simp [*];done),by repeat (first | exact u1v.refl _ | apply u1v.step)⟩
            · rw [if_neg c7] at H
              exact absurd H (by simp)
          · rw [if_neg c6] at H
            exact absurd H (by simp)
        · rw [if_neg c5] at H
          exact absurd H (by simp)
      · rw [if_neg c4] at H
        have c4b0:decide (x13_1 < (l0.length:Int)) = false:=decide_eq_false c4
        clear c4
        obtain rfl:=Option.some.inj H
        go_wp2
        repeat (go_quiet (fail);try go_wp2)
        go_ret
        exact ⟨by first | rfl | (simp;done) | (simp [*];done),by repeat (first | exact u1v.refl _ | apply u1v.step)⟩
 · rw [if_neg c3] at H
   have c3b0:((l0.length:Int) == (l1.length:Int)) = false:=beq_eq_false_iff_ne.mpr c3
   have c3b1:((l0.length:Int) != (l1.length:Int)) = true:=bne_iff_ne.mpr c3
   have c3b2:(l0.length == l1.length) = false:=by first | simpa using c3 | (simp at c3 ⊢;omega)
   obtain rfl:=Option.some.inj H
   go_enter Tryz.func10,Tryz.ntmps10
   go_wp2
   repeat (go_quiet (fail);try go_wp2)
   go_ret
   exact ⟨by first | rfl | (simp;done) | (simp [*];done),by repeat (first | exact u1v.refl _ | apply u1v.step)⟩
def u2f.f (a0:ByteArray):Option Bool:=some (Base.nameB a0)
theorem u2f.letter_is (x:Int):labels_letter.f x = some (Base.letterB x):=by
 unfold labels_letter.f Base.letterB
 by_cases h1:x = 95
 · simp [h1]
 · rw [if_neg h1]
   by_cases h2:Go.bits .or .u8 x 32 ≥ 97
   · rw [if_pos h2]
     simp only [ge_iff_le] at h2
     simp [h1,h2]
   · rw [if_neg h2]
     simp only [ge_iff_le] at h2
     simp [h1,h2]
theorem u2f.digit_is (x:Int):labels_digit.f x = some (Base.digitB x):=by
 unfold labels_digit.f Base.digitB
 by_cases h1:x ≥ 48
 · rw [if_pos h1]
   simp only [ge_iff_le] at h1
   simp [h1]
 · rw [if_neg h1]
   simp only [ge_iff_le] at h1
   simp [h1]
def u2f.badB (c:Int):Bool:=!Base.letterB c && !Base.digitB c
set_option maxHeartbeats 400000 in
theorem u2f.test (c:Int) (w:World):Calls Tryz.prog 84 #[.int .u8 c] w fun e w' => e = .returned (.bool (u2f.badB c)) ∧ u1v w w':=by
 unfold u2f.badB
 cases hl:Base.letterB c with
 | true =>
   go_enter Tryz.func84,Tryz.ntmps84
   go_wp2_with (go_at_call 82;refine (labels_letter.calls _ _ _ (u2f.letter_is _)).mono ?_;rintro e W1 ⟨rfl,⟨nd,rfl⟩⟩)
   go_ret
   exact ⟨rfl,⟨nd,rfl⟩⟩
 | false =>
   go_enter Tryz.func84,Tryz.ntmps84
   go_wp2_with (first | (go_at_call 82;refine (labels_letter.calls _ _ _ (u2f.letter_is _)).mono ?_;rintro e W1 ⟨rfl,⟨nd,rfl⟩⟩) | (go_at_call 85;refine (labels_digit.calls _ _ _ (u2f.digit_is _)).mono ?_;rintro e W2 ⟨rfl,⟨md,rfl⟩⟩))
   go_ret
   exact ⟨rfl,⟨_,rfl⟩⟩
set_option maxHeartbeats 1000000 in
theorem u2f.index (A:Option Addr) (c:Nat) (l:List Int) (w:World) (hr:Kd.C (Kd.int .u8) w A l.length l) (hm:l.length ≤ 140737488355328) :
 Calls Tryz.prog 95 #[.slice A l.length c,.func (.func 84) #[] #[]] w fun e w' => (∃ i:Int,e = .returned (.int .i64 i) ∧ decide (0 ≤ i) = l.any u2f.badB) ∧ u1v w w':=by
 have HR:=Aside0.mk hr
 clear hr
 go_enter Tryz.func95,Tryz.ntmps95
 go_wp2
 go_loopg [8] (l.length) (fun kq v8 w' => ∃ (x:Nat),x ≤ l.length ∧ v8 = .int .i64 x ∧ Aside0 ((l.take x).any u2f.badB = false) ∧ l.length ≤ kq + x ∧ u1v w w')
 case atStart => exact ⟨0,by omega,rfl,⟨rfl⟩,by omega,u1v.refl _⟩
 case round =>
  obtain ⟨x,hx,rfl,HN,hk,⟨m1,rfl⟩⟩:=hrel
  by_cases hlt:x < l.length
  · obtain ⟨ad,e,hc⟩:=Kd.at_int HR.out (x:Int) (by omega) (by omega)
    subst e
    have hc2:w.cell? (ad.add x) = some (.int .u8 (rd l x)):=by simpa using hc
    clear hc
    have htk:l.take (x + 1) = l.take x ++ [rd l x]:=by
     rw [List.take_succ_eq_append_getElem hlt]
     simp [rd,List.getD_eq_getElem?_getD,hlt]
    have HT:=Aside0.mk htk
    clear htk
    cases hb:u2f.badB (rd l x) with
    | true =>
      go_wp2_with (go_at_call 84;refine (u2f.test _ _).mono ?_;rintro e W1 ⟨rfl,⟨nd,rfl⟩⟩)
      go_ret
      refine ⟨⟨_,rfl,?_⟩,⟨_,rfl⟩⟩
      have h1:l.any u2f.badB = true:=by
       rw [List.any_eq_true]
       refine ⟨rd l x,?_,hb⟩
       have h2:rd l x ∈ l.take (x + 1):=by rw [HT.out];simp
       exact List.mem_of_mem_take h2
      rw [h1]
      simp
    | false =>
      go_wp2_with (go_at_call 84;refine (u2f.test _ _).mono ?_;rintro e W1 ⟨rfl,⟨nd,rfl⟩⟩)
      obtain ⟨g1,rfl⟩:∃ g1,gk = g1 + 1:=⟨gk - 1,by omega⟩
      go_roundg g1
      case rel =>
       refine ⟨x + 1,by omega,by go_num,⟨?_⟩,by omega,⟨_,rfl⟩⟩
       rw [HT.out,List.any_append,HN.out]
       simp [hb]
      case measure => omega
  · go_wp2
    go_ret
    refine ⟨⟨_,rfl,?_⟩,⟨_,rfl⟩⟩
    have h1:=HN.out
    rw [List.take_of_length_le (by omega)] at h1
    rw [h1]
    simp
theorem u2f.contains (A:Option Addr) (c:Nat) (l:List Int) (w:World) (hr:Kd.C (Kd.int .u8) w A l.length l) (hm:l.length ≤ 140737488355328) :
 Calls Tryz.prog 83 #[.slice A l.length c,.func (.func 84) #[] #[]] w fun e w' => e = .returned (.bool (l.any u2f.badB)) ∧ u1v w w':=by
 go_enter Tryz.func83,Tryz.ntmps83
 go_wp2_with (go_at_call 95;refine (u2f.index _ _ _ _ hr hm).mono ?_;rintro e W1 ⟨⟨i,rfl,hi⟩,⟨nd,rfl⟩⟩)
 go_ret
 exact ⟨by simp,⟨_,rfl⟩⟩
theorem u2f.contains_n (A:Option Addr) (c n:Nat) (l:List Int) (w:World) (hn:l.length = n) (hr:Kd.C (Kd.int .u8) w A n l) (hm:n ≤ 140737488355328) :
 Calls Tryz.prog 83 #[.slice A n c,.func (.func 84) #[] #[]] w fun e w' => e = .returned (.bool (l.any u2f.badB)) ∧ u1v w w':=by
 subst hn
 exact u2f.contains A c l w hr hm
set_option maxHeartbeats 1000000 in
theorem u2f.calls (a0:ByteArray) (r:Bool) (w:World) (h:u2f.f a0 = some r) :
 Calls Tryz.prog 63 #[.string a0] w fun e w' => e = .returned (.bool r) ∧ Below w.heap.size w w':=by
 obtain rfl:Base.nameB a0 = r:=by simpa [u2f.f] using h
 clear h
 by_cases h0:a0.size = 0
 · have he:a0.toList = []:=(Base.toList_nil a0).2 h0
   have hv:Aside0 (Base.nameB a0 = false):=⟨by simp [Base.nameB,h0]⟩
   have hi:a0.toList.isEmpty = true:=by rw [he];rfl
   clear he h0
   go_enter Tryz.func63,Tryz.ntmps63
   go_wp2
   go_ret
   exact ⟨by rw [hv.out];rfl,Below.refl _ _⟩
 · have he:a0.toList.isEmpty = false:=by
    cases hl:a0.toList with
    | nil => exact absurd ((Base.toList_nil a0).1 hl) h0
    | cons _ _ => rfl
   have hen:¬ a0.toList = []:=by intro hl;rw [hl] at he;simp at he
   by_cases h24:a0.size ≤ 24
   · have hp:0 < a0.size:=by omega
     have hbt:((a0[0]'hp).toNat:Int) = bt a0 0:=by simpa using bt_at a0 0 (by simpa using hp)
     have hh:(u3g a0).headD 0 = bt a0 0:=by
      rw [← rd_bytesOf]
      cases u3g a0 <;> rfl
     have HH:=Aside0.mk hh
     clear hh
     cases hl:Base.letterB (bt a0 0) with
     | false =>
       have hv:Aside0 (Base.nameB a0 = false):=⟨by unfold Base.nameB;rw [HH.out,hl];simp⟩
       go_enter Tryz.func63,Tryz.ntmps63
       go_wp2_with (go_at_call 82;refine (labels_letter.calls _ _ _ (u2f.letter_is _)).mono ?_;rintro e W1 ⟨rfl,⟨nd,rfl⟩⟩)
       go_ret
       exact ⟨by rw [hv.out];rfl,ui (Below.refl _ _) nd⟩
     | true =>
       have kb:=fun W => print_bytes (P:=Tryz.prog) 9 22 5 Tryz.underlying9 Tryz.underlying22 Tryz.underlying5 a0 W
       have hv:Aside0 (Base.nameB a0 = !(u3g a0).any u2f.badB):=⟨by
        have h1:(u3g a0).all (fun c => Base.letterB c || Base.digitB c) = !(u3g a0).any u2f.badB:=by
         rw [List.all_eq_not_any_not]
         congr 2
         funext c
         simp [u2f.badB]
        unfold Base.nameB
        rw [HH.out,hl,h1]
        simp [hp,h24]⟩
       go_enter Tryz.func63,Tryz.ntmps63
       go_wp2_with (go_at_call 82;refine (labels_letter.calls _ _ _ (u2f.letter_is _)).mono ?_;rintro e W1 ⟨rfl,⟨nd,rfl⟩⟩)
       have hr:=bytes_reads (w.drewN nd) 5 a0 (by omega)
       have hc:Kd.C (Kd.int .u8) (Lib.bytesWorld (w.drewN nd) 5 a0) (some ⟨w.heap.size,0,none⟩) a0.size (u3g a0):=Kd.C_of_reads (d:=(0:Int)) (h1:=fun _ => rfl) hr
       refine (u2f.contains_n _ _ _ _ _ (u2x a0) hc (by omega)).mono ?_
       rintro e W2 ⟨rfl,⟨md,rfl⟩⟩
       clear hr hc
       go_wp2
       go_ret
       exact ⟨by rw [hv.out];rfl,ui (bytes_below (ui (Below.refl _ _) nd) (by simp) _ _) md⟩
   · have hv:Aside0 (Base.nameB a0 = false):=⟨by simp [Base.nameB,h24]⟩
     go_enter Tryz.func63,Tryz.ntmps63
     go_wp2
     go_ret
     exact ⟨by rw [hv.out];rfl,Below.refl _ _⟩
end Go.Proofs.YtgnehcgaplnfkaaGreatDoor.PAll
namespace Go.Proofs.YtgnehcgaplnfkaaGreatDoor.PAll
open Go.RowKit Go.Proofs.YtgnehcgaplnfkaaGreatDoorW.PrintWords Go.Proofs.YtgnehcgaplnfkaaGreatDoorW.PrintLast Go.Proofs.YtgnehcgaplnfkaaGreatDoorW.PrintMore
attribute [local go_sem] u3o u3n u3x u3w u3j u3i u3p u3q
set_option linter.unusedVariables false
set_option linter.unusedSimpArgs false
attribute [local go_sem high] eqA111
def u3y.l0:Nat → List (S111) → List (S111) → Int → Int → Option (Bool)
 | 0,_,_,_,_ => none
 | k + 1,x0,x1,x12,x13 => if x13 < x12 then (if 0 ≤ x13 then (if x13 < (x0.length:Int) then (if x13 < (x1.length:Int) then (if (!((((u1r x0 x13).f0).toList) == (((u1r x1 x13).f0).toList)) || (!((((u1r x0 x13).f1).toList) == (((u1r x1 x13).f1).toList)))) = true then (some false) else (u3y.l0 k x0 x1 x12 (wrap64 (x13 + 1)))) else (none)) else (none)) else (none)) else (some true)
def u3y.f (k:Nat) (l0:List (S111)) (l1:List (S111)):Option (Bool):=if (l0.length:Int) = (l1.length:Int) then (u3y.l0 k l0 l1 (l0.length:Int) 0) else (some false)
set_option maxHeartbeats 8000000 in
set_option maxRecDepth 100000 in
theorem u3y.calls (k:Nat) (A0:Option Addr) (c0:Nat) (l0:List (S111)) (A1:Option Addr) (c1:Nat) (l1:List (S111)) (r:Bool) (w:World) (hr0:Kd.C k111 w A0 l0.length l0) (hc0:l0.length ≤ c0) (hr1:Kd.C k111 w A1 l1.length l1) (hc1:l1.length ≤ c1) (h:u3y.f k l0 l1 = some r) :
 Calls Tryz.prog 74 #[.slice A0 l0.length c0,.slice A1 l1.length c1] w fun e w' => e = .returned (.bool r) ∧ u1v w w':=by
 have hu111:=Tryz.underlying111
 have HR0:=Aside0.mk hr0
 have HC0:=Aside0.mk hc0
 clear hr0 hc0
 have HR1:=Aside0.mk hr1
 have HC1:=Aside0.mk hc1
 clear hr1 hc1
 have H:(if (l0.length:Int) = (l1.length:Int) then (u3y.l0 k l0 l1 (l0.length:Int) 0) else (some false)) = some r:=h
 clear h
 by_cases c3:(l0.length:Int) = (l1.length:Int)
 · rw [if_pos c3] at H
   have c3b0:((l0.length:Int) == (l1.length:Int)) = true:=beq_iff_eq.mpr c3
   have c3b1:((l0.length:Int) != (l1.length:Int)) = false:=bne_eq_false_iff_eq.mpr c3
   have c3b2:(l0.length == l1.length) = true:=by first | simpa using c3 | (simp at c3 ⊢;omega)
   clear c3
   have H':=Aside0.mk H
   clear H
   go_enter Tryz.func74,Tryz.ntmps74
   go_wp2
   repeat (go_quiet (fail);try go_wp2)
   go_loopg [13] k (fun kq v13 w' => ∃ (x13_1:Int),v13 = .int .i64 x13_1 ∧ Aside0 (u3y.l0 kq l0 l1 (l0.length:Int) x13_1 = some r) ∧ Aside0 (kq ≤ k) ∧ u1v w w')
   case atStart => exact ⟨(0),(by first | rfl | (simp;done) | (simp [*];done)),H',⟨Nat.le_refl _⟩,by repeat (first | exact u1v.refl _ | apply u1v.step)⟩
   case round =>
    clear H'
    try clear c1
    try clear p2
    try clear c3
    try clear c3b0
    try clear c3b1
    try clear c3b2
    obtain ⟨x13_1,rfl,HA,HK1,⟨m1,rfl⟩⟩:=hrel
    cases gk with
    | zero => exact absurd HA.out (by simp [u3y.l0])
    | succ k1 =>
      have H:=HA.out
      clear HA
      simp only [u3y.l0] at H
      by_cases c4:x13_1 < (l0.length:Int)
      · rw [if_pos c4] at H
        have c4b0:decide (x13_1 < (l0.length:Int)) = true:=decide_eq_true c4
        clear c4
        by_cases c5:0 ≤ x13_1
        · rw [if_pos c5] at H
          have c5b0:decide (0 ≤ x13_1) = true:=decide_eq_true c5
          clear c5
          by_cases c6:x13_1 < (l0.length:Int)
          · rw [if_pos c6] at H
            have c6b0:decide (x13_1 < (l0.length:Int)) = true:=decide_eq_true c6
            clear c6
            by_cases c7:x13_1 < (l1.length:Int)
            · rw [if_pos c7] at H
              have c7b0:decide (x13_1 < (l1.length:Int)) = true:=decide_eq_true c7
              clear c7
              by_cases c8:(!((((u1r l0 x13_1).f0).toList) == (((u1r l1 x13_1).f0).toList)) || (!((((u1r l0 x13_1).f1).toList) == (((u1r l1 x13_1).f1).toList)))) = true
              · rw [if_pos c8] at H
                have c8b0:(!((((u1r l0 x13_1).f0).toList) == (((u1r l1 x13_1).f0).toList)) || (!((((u1r l0 x13_1).f1).toList) == (((u1r l1 x13_1).f1).toList)))) = true:=c8
                clear c8
                obtain rfl:=Option.some.inj H
                have p155:0 ≤ (x13_1:Int):=of_decide_eq_true (by first | (with_reducible assumption) | assumption)
                have q155:x13_1 < (l0.length:Int):=of_decide_eq_true (by first | (with_reducible assumption) | assumption)
                obtain ⟨ad155,e155,hx155_0,hx155_1⟩:=at_T111 HR0.out x13_1 p155 q155
                cases e155
                replace p155:=eq_true p155
                replace q155:=eq_true q155
                have p156:0 ≤ (x13_1:Int):=of_decide_eq_true (by first | (with_reducible assumption) | assumption)
                have q156:x13_1 < (l1.length:Int):=of_decide_eq_true (by first | (with_reducible assumption) | assumption)
                obtain ⟨ad156,e156,hx156_0,hx156_1⟩:=at_T111 HR1.out x13_1 p156 q156
                cases e156
                replace p156:=eq_true p156
                replace q156:=eq_true q156
                go_wp2
                repeat (go_quiet (fail);try go_wp2)
                go_ret
                exact ⟨by first | rfl | (simp;done) | (simp [*];done),by repeat (first | exact u1v.refl _ | apply u1v.step)⟩
              · rw [if_neg c8] at H
                have c8b0:(!((((u1r l0 x13_1).f0).toList) == (((u1r l1 x13_1).f0).toList)) || (!((((u1r l0 x13_1).f1).toList) == (((u1r l1 x13_1).f1).toList)))) = false:=by simpa using c8
                clear c8
                have H':=Aside0.mk H
                clear H
                have p155:0 ≤ (x13_1:Int):=of_decide_eq_true (by first | (with_reducible assumption) | assumption)
                have q155:x13_1 < (l0.length:Int):=of_decide_eq_true (by first | (with_reducible assumption) | assumption)
                obtain ⟨ad155,e155,hx155_0,hx155_1⟩:=at_T111 HR0.out x13_1 p155 q155
                cases e155
                replace p155:=eq_true p155
                replace q155:=eq_true q155
                have p156:0 ≤ (x13_1:Int):=of_decide_eq_true (by first | (with_reducible assumption) | assumption)
                have q156:x13_1 < (l1.length:Int):=of_decide_eq_true (by first | (with_reducible assumption) | assumption)
                obtain ⟨ad156,e156,hx156_0,hx156_1⟩:=at_T111 HR1.out x13_1 p156 q156
                cases e156
                replace p156:=eq_true p156
                replace q156:=eq_true q156
                go_wp2
                repeat (go_quiet (fail);try go_wp2)
                go_roundg k1
                case measure => have:=HK1.out;omega
                case rel => exact ⟨(wrap64 (x13_1 + 1)),(by first | rfl | (simp;done) | (simp [*];done)),H',⟨by have:=HK1.out;omega⟩,by repeat (first | exact u1v.refl _ | apply u1v.step)⟩
            · rw [if_neg c7] at H
              exact absurd H (by simp)
          · rw [if_neg c6] at H
            exact absurd H (by simp)
        · rw [if_neg c5] at H
          exact absurd H (by simp)
      · rw [if_neg c4] at H
        have c4b0:decide (x13_1 < (l0.length:Int)) = false:=decide_eq_false c4
        clear c4
        obtain rfl:=Option.some.inj H
        go_wp2
        repeat (go_quiet (fail);try go_wp2)
        go_ret
        exact ⟨by first | rfl | (simp;done) | (simp [*];done),by repeat (first | exact u1v.refl _ | apply u1v.step)⟩
 · rw [if_neg c3] at H
   have c3b0:((l0.length:Int) == (l1.length:Int)) = false:=beq_eq_false_iff_ne.mpr c3
   have c3b1:((l0.length:Int) != (l1.length:Int)) = true:=bne_iff_ne.mpr c3
   have c3b2:(l0.length == l1.length) = false:=by first | simpa using c3 | (simp at c3 ⊢;omega)
   obtain rfl:=Option.some.inj H
   go_enter Tryz.func74,Tryz.ntmps74
   go_wp2
   repeat (go_quiet (fail);try go_wp2)
   go_ret
   exact ⟨by first | rfl | (simp;done) | (simp [*];done),by repeat (first | exact u1v.refl _ | apply u1v.step)⟩
end Go.Proofs.YtgnehcgaplnfkaaGreatDoor.PAll
namespace Go.Proofs.YtgnehcgaplnfkaaGreatDoor.PAll
open Go.RowKit Go.Proofs.YtgnehcgaplnfkaaGreatDoorW.PrintWords Go.Proofs.YtgnehcgaplnfkaaGreatDoorW.PrintLast Go.Proofs.YtgnehcgaplnfkaaGreatDoorW.PrintMore
attribute [local go_sem] u3o u3n u3x u3w u3j u3i u3p u3q
set_option linter.unusedVariables false
set_option linter.unusedSimpArgs false
def u1u.same (k:Nat) (x y:S59):Option Bool:=(u3y.f k x.f0 y.f0).bind fun b => some (b && (x.f1 == y.f1) && (x.f2 == y.f2))
def u1u.all (k:Nat):List S59 → List S59 → Option Bool
 | [],_ => some true
 | _ :: _,[] => some true
 | x :: r,y :: q => (u1u.same k x y).bind fun b => if b = true then u1u.all k r q else some false
def u1u.f (k:Nat) (l0 l1:List S59):Option Bool:=if l0.length = l1.length then (if l0.length ≤ 4611686018427387904 then u1u.all k l0 l1 else none) else some false
set_option maxHeartbeats 4000000 in
set_option maxRecDepth 100000 in
theorem u1u.calls_one (k:Nat) (x y:S59) (A0 A1:Option Addr) (c0 c1:Nat) (b:Bool) (w:World) (hx:x.f0.length ≤ c0) (gx:Kd.C k111 w A0 x.f0.length x.f0) (hy:y.f0.length ≤ c1) (gy:Kd.C k111 w A1 y.f0.length y.f0) (h:u1u.same k x y = some b) :
 Calls Tryz.prog 73 #[.agg #[.slice A0 x.f0.length c0,.int .i64 x.f1,.int .u64 x.f2],.agg #[.slice A1 y.f0.length c1,.int .i64 y.f1,.int .u64 y.f2]] w fun e w' => e = .returned (.bool b) ∧ Below w.heap.size w w':=by
 obtain ⟨c,hc,h2⟩:=Option.bind_eq_some_iff.1 h
 have HCc:=Aside0.mk hc
 have H2:=Aside0.mk (Option.some.inj h2)
 have GX:=Aside0.mk gx
 have GY:=Aside0.mk gy
 have HX:=Aside0.mk hx
 have HY:=Aside0.mk hy
 clear hc h2 h gx gy hx hy
 cases c with
 | false =>
   have hb:false = b:=by simpa using H2.out
   subst hb
   go_enter Tryz.func73,Tryz.ntmps73
   go_wp2_with (go_at_call 74;(with_reducible refine (u3y.calls k _ _ x.f0 _ _ y.f0 false _ (Kd.C_alloc (Kd.C_alloc GX.out _) _) HX.out (Kd.C_alloc (Kd.C_alloc GY.out _) _) HY.out HCc.out).mono ?_);rintro e w3 ⟨rfl,⟨nd,rfl⟩⟩)
   all_goals
    go_ret
    refine ⟨?_,by repeat (first | exact Below.refl _ _ | apply uj | apply ui)⟩
    first | rfl | (rw [← H2.out];simp [*];done) | (rw [← H2.out];simp [*];rfl)
 | true =>
   go_enter Tryz.func73,Tryz.ntmps73
   go_wp2_with (go_at_call 74;(with_reducible refine (u3y.calls k _ _ x.f0 _ _ y.f0 true _ (Kd.C_alloc (Kd.C_alloc GX.out _) _) HX.out (Kd.C_alloc (Kd.C_alloc GY.out _) _) HY.out HCc.out).mono ?_);rintro e w3 ⟨rfl,⟨nd,rfl⟩⟩)
   all_goals
    go_ret
    refine ⟨?_,by repeat (first | exact Below.refl _ _ | apply uj | apply ui)⟩
    first | rfl | (rw [← H2.out];simp [*];done) | (rw [← H2.out];simp [*];rfl)
theorem u1u.calls (k:Nat) (A0:Option Addr) (c0:Nat) (l0:List S59) (A1:Option Addr) (c1:Nat) (l1:List S59) (r:Bool) (w:World) (hr0:Kd.C k59 w A0 l0.length l0) (hc0:l0.length ≤ c0) (hr1:Kd.C k59 w A1 l1.length l1) (hc1:l1.length ≤ c1) (h:u1u.f k l0 l1 = some r) :
 Calls Tryz.prog 39 #[.slice A0 l0.length c0,.slice A1 l1.length c1] w fun e w' => e = .returned (.bool r) ∧ Below w.heap.size w w':=by
 have HR0:=Aside0.mk hr0
 have HR1:=Aside0.mk hr1
 clear hr0 hr1
 unfold u1u.f at h
 by_cases hlen:l0.length = l1.length
 · rw [if_pos hlen] at h
   by_cases hmax:l0.length ≤ 4611686018427387904
   · rw [if_pos hmax] at h
     have H:=Aside0.mk h
     clear h
     go_enter Tryz.func39,Tryz.ntmps39
     go_wp2_with (go_in)
     go_loopg [17] (l0.length) (fun kq v17 wr => ∃ (i:Nat) (ra rb:List S59),i ≤ l0.length ∧ v17 = .int .i64 i ∧ Aside0 (l0.drop i = ra ∧ l1.drop i = rb ∧ u1u.all k ra rb = some r) ∧ l0.length ≤ kq + i ∧ Aside0 (Below w.heap.size w wr))
     case atStart => exact ⟨0,l0,l1,by omega,rfl,⟨rfl,rfl,H.out⟩,by omega,⟨Below.refl _ _⟩⟩
     case round =>
      clear H
      obtain ⟨i,ra,rb,hi,rfl,HA,hk,HB⟩:=hrel
      by_cases hlt:i < l0.length
      · obtain ⟨g1,rfl⟩:∃ g1,gk = g1 + 1:=⟨gk - 1,by omega⟩
        obtain ⟨x,ra2,hx⟩:∃ x ra2,Aside0 (ra = x :: ra2 ∧ u3z l0 (i:Int) = x):=by
         have h1:=HA.out.1
         rw [List.drop_eq_getElem_cons hlt] at h1
         exact ⟨_,_,⟨h1.symm,by simp [u3z,List.getD_eq_getElem?_getD,hlt]⟩⟩
        obtain ⟨y,rb2,hy⟩:∃ y rb2,Aside0 (rb = y :: rb2 ∧ u3z l1 (i:Int) = y):=by
         have h1:=HA.out.2.1
         have hlt2:i < l1.length:=by omega
         rw [List.drop_eq_getElem_cons hlt2] at h1
         exact ⟨_,_,⟨h1.symm,by simp [u3z,List.getD_eq_getElem?_getD,hlt2]⟩⟩
        obtain ⟨b,hb,HA2⟩:∃ b,Aside0 (u1u.same k x y = some b) ∧ Aside0 ((if b = true then u1u.all k ra2 rb2 else some false) = some r):=by
         have h1:=HA.out.2.2
         rw [hx.out.1,hy.out.1] at h1
         obtain ⟨b,h2,h3⟩:=Option.bind_eq_some_iff.1 h1
         exact ⟨b,⟨h2⟩,⟨h3⟩⟩
        have HD:Aside0 (l0.drop (i + 1) = ra2 ∧ l1.drop (i + 1) = rb2):=⟨by
         have h1:=HA.out
         rw [hx.out.1,hy.out.1] at h1
         rw [← List.drop_drop,← List.drop_drop,h1.1,h1.2.1]
         exact ⟨rfl,rfl⟩⟩
        obtain ⟨ad0,B0,d0,e0,f00,f01,f02,g00,g01⟩:=at_T59 (Kd.C_below HR0.out HB.out) (i:Int) (by omega) (by omega)
        subst e0
        obtain ⟨ad1,B1,d1,e1,f10,f11,f12,g10,g11⟩:=at_T59 (Kd.C_below HR1.out HB.out) (i:Int) (by omega) (by omega)
        subst e1
        rw [hx.out.2] at f00 f01 f02 g00 g01
        rw [hy.out.2] at f10 f11 f12 g10 g11
        simp only [Int.toNat_natCast] at f00 f01 f02 f10 f11 f12
        have hlt1:i < l1.length:=by omega
        have q0:∀ o:Obj,(wr.alloc o).cell? _ = some _:=fun o => ((uj (Below.refl wr.heap.size wr) o).cell (World.block_lt_of_cell? wr _ f10)).trans f10
        have q1:∀ o:Obj,(wr.alloc o).cell? _ = some _:=fun o => ((uj (Below.refl wr.heap.size wr) o).cell (World.block_lt_of_cell? wr _ f11)).trans f11
        have q2:∀ o:Obj,(wr.alloc o).cell? _ = some _:=fun o => ((uj (Below.refl wr.heap.size wr) o).cell (World.block_lt_of_cell? wr _ f12)).trans f12
        have GX:=Aside0.mk g01
        have GY:=Aside0.mk g11
        have HX:=Aside0.mk g00
        have HY:=Aside0.mk g10
        clear g00 g01 g10 g11 HA hx hy
        cases b with
        | false =>
          have hr:Aside0 (r = false):=⟨by simpa using HA2.out.symm⟩
          go_wp2_with (go_at_call 73;(with_reducible refine (u1u.calls_one k x y _ _ _ _ false _ HX.out (Kd.C_alloc (Kd.C_alloc GX.out _) _) HY.out (Kd.C_alloc (Kd.C_alloc GY.out _) _) hb.out).mono ?_);rintro e w3 ⟨rfl,hb3⟩;have HB3:=Aside0.mk (u2k (uj (uj HB.out _) _) hb3);clear hb3)
          go_ret
          exact ⟨by rw [hr.out];rfl,HB3.out⟩
        | true =>
          have HA3:Aside0 (u1u.all k ra2 rb2 = some r):=⟨by simpa using HA2.out⟩
          go_wp2_with (go_at_call 73;(with_reducible refine (u1u.calls_one k x y _ _ _ _ true _ HX.out (Kd.C_alloc (Kd.C_alloc GX.out _) _) HY.out (Kd.C_alloc (Kd.C_alloc GY.out _) _) hb.out).mono ?_);rintro e w3 ⟨rfl,hb3⟩;have HB3:=Aside0.mk (u2k (uj (uj HB.out _) _) hb3);clear hb3)
          go_roundg g1
          case rel => exact ⟨i + 1,ra2,rb2,by omega,by go_num,⟨HD.out.1,HD.out.2,HA3.out⟩,by omega,HB3⟩
          case measure => omega
      · have hr:Aside0 (r = true):=⟨by
         have h1:=HA.out
         rw [List.drop_eq_nil_of_le (by omega)] at h1
         rw [← h1.1] at h1
         simpa [u1u.all] using h1.2.2.symm⟩
        go_wp2
        go_ret
        exact ⟨by rw [hr.out];rfl,HB.out⟩
   · rw [if_neg hmax] at h
     cases h
 · rw [if_neg hlen] at h
   obtain rfl:=Option.some.inj h
   have hne:¬ (l0.length:Int) = (l1.length:Int):=by omega
   go_enter Tryz.func39,Tryz.ntmps39
   go_wp2_with (go_in)
   go_ret
   exact ⟨rfl,Below.refl _ _⟩
end Go.Proofs.YtgnehcgaplnfkaaGreatDoor.PAll
namespace Go.Proofs.YtgnehcgaplnfkaaGreatDoor.PAll
open Go.RowKit Go.Proofs.YtgnehcgaplnfkaaGreatDoorW.PrintWords Go.Proofs.YtgnehcgaplnfkaaGreatDoorW.PrintLast Go.Proofs.YtgnehcgaplnfkaaGreatDoorW.PrintMore
attribute [local go_sem] u3o u3n u3x u3w u3j u3i u3p u3q
set_option linter.unusedVariables false
set_option linter.unusedSimpArgs false
attribute [local go_sem high] eqA79
def u3r.l0:Nat → List (S79) → List (S79) → Int → Int → Option (Bool)
 | 0,_,_,_,_ => none
 | k + 1,x0,x1,x12,x13 => if x13 < x12 then (if 0 ≤ x13 then (if x13 < (x0.length:Int) then (if x13 < (x1.length:Int) then (if (!(((u1w x0 x13).f0) == ((u1w x1 x13).f0)) || (!((((u1w x0 x13).f1).toList) == (((u1w x1 x13).f1).toList)) || (!((((u1w x0 x13).f2).toList) == (((u1w x1 x13).f2).toList))))) = true then (some false) else (u3r.l0 k x0 x1 x12 (wrap64 (x13 + 1)))) else (none)) else (none)) else (none)) else (some true)
def u3r.f (k:Nat) (l0:List (S79)) (l1:List (S79)):Option (Bool):=if (l0.length:Int) = (l1.length:Int) then (u3r.l0 k l0 l1 (l0.length:Int) 0) else (some false)
set_option maxHeartbeats 8000000 in
set_option maxRecDepth 100000 in
theorem u3r.calls (k:Nat) (A0:Option Addr) (c0:Nat) (l0:List (S79)) (A1:Option Addr) (c1:Nat) (l1:List (S79)) (r:Bool) (w:World) (hr0:Kd.C k79 w A0 l0.length l0) (hc0:l0.length ≤ c0) (hr1:Kd.C k79 w A1 l1.length l1) (hc1:l1.length ≤ c1) (h:u3r.f k l0 l1 = some r) :
 Calls Tryz.prog 40 #[.slice A0 l0.length c0,.slice A1 l1.length c1] w fun e w' => e = .returned (.bool r) ∧ u1v w w':=by
 have hu79:=Tryz.underlying79
 have HR0:=Aside0.mk hr0
 have HC0:=Aside0.mk hc0
 clear hr0 hc0
 have HR1:=Aside0.mk hr1
 have HC1:=Aside0.mk hc1
 clear hr1 hc1
 have H:(if (l0.length:Int) = (l1.length:Int) then (u3r.l0 k l0 l1 (l0.length:Int) 0) else (some false)) = some r:=h
 clear h
 by_cases c3:(l0.length:Int) = (l1.length:Int)
 · rw [if_pos c3] at H
   have c3b0:((l0.length:Int) == (l1.length:Int)) = true:=beq_iff_eq.mpr c3
   have c3b1:((l0.length:Int) != (l1.length:Int)) = false:=bne_eq_false_iff_eq.mpr c3
   have c3b2:(l0.length == l1.length) = true:=by first | simpa using c3 | (simp at c3 ⊢;omega)
   clear c3
   have H':=Aside0.mk H
   clear H
   go_enter Tryz.func40,Tryz.ntmps40
   go_wp2
   repeat (go_quiet (fail);try go_wp2)
   go_loopg [13] k (fun kq v13 w' => ∃ (x13_1:Int),v13 = .int .i64 x13_1 ∧ Aside0 (u3r.l0 kq l0 l1 (l0.length:Int) x13_1 = some r) ∧ Aside0 (kq ≤ k) ∧ u1v w w')
   case atStart => exact ⟨(0),(by first | rfl | (simp;done) | (simp [*];done)),H',⟨Nat.le_refl _⟩,by repeat (first | exact u1v.refl _ | apply u1v.step)⟩
   case round =>
    clear H'
    try clear c1
    try clear p2
    try clear c3
    try clear c3b0
    try clear c3b1
    try clear c3b2
    obtain ⟨x13_1,rfl,HA,HK1,⟨m1,rfl⟩⟩:=hrel
    cases gk with
    | zero => exact absurd HA.out (by simp [u3r.l0])
    | succ k1 =>
      have H:=HA.out
      clear HA
      simp only [u3r.l0] at H
      by_cases c4:x13_1 < (l0.length:Int)
      · rw [if_pos c4] at H
        have c4b0:decide (x13_1 < (l0.length:Int)) = true:=decide_eq_true c4
        clear c4
        by_cases c5:0 ≤ x13_1
        · rw [if_pos c5] at H
          have c5b0:decide (0 ≤ x13_1) = true:=decide_eq_true c5
          clear c5
          by_cases c6:x13_1 < (l0.length:Int)
          · rw [if_pos c6] at H
            have c6b0:decide (x13_1 < (l0.length:Int)) = true:=decide_eq_true c6
            clear c6
            by_cases c7:x13_1 < (l1.length:Int)
            · rw [if_pos c7] at H
              have c7b0:decide (x13_1 < (l1.length:Int)) = true:=decide_eq_true c7
              clear c7
              by_cases c8:(!(((u1w l0 x13_1).f0) == ((u1w l1 x13_1).f0)) || (!((((u1w l0 x13_1).f1).toList) == (((u1w l1 x13_1).f1).toList)) || (!((((u1w l0 x13_1).f2).toList) == (((u1w l1 x13_1).f2).toList))))) = true
              · rw [if_pos c8] at H
                have c8b0:(!(((u1w l0 x13_1).f0) == ((u1w l1 x13_1).f0)) || (!((((u1w l0 x13_1).f1).toList) == (((u1w l1 x13_1).f1).toList)) || (!((((u1w l0 x13_1).f2).toList) == (((u1w l1 x13_1).f2).toList))))) = true:=c8
                clear c8
                obtain rfl:=Option.some.inj H
                have p157:0 ≤ (x13_1:Int):=of_decide_eq_true (by first | (with_reducible assumption) | assumption)
                have q157:x13_1 < (l0.length:Int):=of_decide_eq_true (by first | (with_reducible assumption) | assumption)
                obtain ⟨ad157,e157,hx157_0,hx157_1,hx157_2⟩:=at_T79 HR0.out x13_1 p157 q157
                cases e157
                replace p157:=eq_true p157
                replace q157:=eq_true q157
                have p158:0 ≤ (x13_1:Int):=of_decide_eq_true (by first | (with_reducible assumption) | assumption)
                have q158:x13_1 < (l1.length:Int):=of_decide_eq_true (by first | (with_reducible assumption) | assumption)
                obtain ⟨ad158,e158,hx158_0,hx158_1,hx158_2⟩:=at_T79 HR1.out x13_1 p158 q158
                cases e158
                replace p158:=eq_true p158
                replace q158:=eq_true q158
                go_wp2
                repeat (go_quiet (fail);try go_wp2)
                go_ret
                exact ⟨by first | rfl | (simp;done) | (simp [*];done),by repeat (first | exact u1v.refl _ | apply u1v.step)⟩
              · rw [if_neg c8] at H
                have c8b0:(!(((u1w l0 x13_1).f0) == ((u1w l1 x13_1).f0)) || (!((((u1w l0 x13_1).f1).toList) == (((u1w l1 x13_1).f1).toList)) || (!((((u1w l0 x13_1).f2).toList) == (((u1w l1 x13_1).f2).toList))))) = false:=by simpa using c8
                clear c8
                have H':=Aside0.mk H
                clear H
                have p157:0 ≤ (x13_1:Int):=of_decide_eq_true (by first | (with_reducible assumption) | assumption)
                have q157:x13_1 < (l0.length:Int):=of_decide_eq_true (by first | (with_reducible assumption) | assumption)
                obtain ⟨ad157,e157,hx157_0,hx157_1,hx157_2⟩:=at_T79 HR0.out x13_1 p157 q157
                cases e157
                replace p157:=eq_true p157
                replace q157:=eq_true q157
                have p158:0 ≤ (x13_1:Int):=of_decide_eq_true (by first | (with_reducible assumption) | assumption)
                have q158:x13_1 < (l1.length:Int):=of_decide_eq_true (by first | (with_reducible assumption) | assumption)
                obtain ⟨ad158,e158,hx158_0,hx158_1,hx158_2⟩:=at_T79 HR1.out x13_1 p158 q158
                cases e158
                replace p158:=eq_true p158
                replace q158:=eq_true q158
                go_wp2
                repeat (go_quiet (fail);try go_wp2)
                go_roundg k1
                case measure => have:=HK1.out;omega
                case rel => exact ⟨(wrap64 (x13_1 + 1)),(by first | rfl | (simp;done) | (simp [*];done)),H',⟨by have:=HK1.out;omega⟩,by repeat (first | exact u1v.refl _ | apply u1v.step)⟩
            · rw [if_neg c7] at H
              exact absurd H (by simp)
          · rw [if_neg c6] at H
            exact absurd H (by simp)
        · rw [if_neg c5] at H
          exact absurd H (by simp)
      · rw [if_neg c4] at H
        have c4b0:decide (x13_1 < (l0.length:Int)) = false:=decide_eq_false c4
        clear c4
        obtain rfl:=Option.some.inj H
        go_wp2
        repeat (go_quiet (fail);try go_wp2)
        go_ret
        exact ⟨by first | rfl | (simp;done) | (simp [*];done),by repeat (first | exact u1v.refl _ | apply u1v.step)⟩
 · rw [if_neg c3] at H
   have c3b0:((l0.length:Int) == (l1.length:Int)) = false:=beq_eq_false_iff_ne.mpr c3
   have c3b1:((l0.length:Int) != (l1.length:Int)) = true:=bne_iff_ne.mpr c3
   have c3b2:(l0.length == l1.length) = false:=by first | simpa using c3 | (simp at c3 ⊢;omega)
   obtain rfl:=Option.some.inj H
   go_enter Tryz.func40,Tryz.ntmps40
   go_wp2
   repeat (go_quiet (fail);try go_wp2)
   go_ret
   exact ⟨by first | rfl | (simp;done) | (simp [*];done),by repeat (first | exact u1v.refl _ | apply u1v.step)⟩
end Go.Proofs.YtgnehcgaplnfkaaGreatDoor.PAll
namespace Go.Proofs.YtgnehcgaplnfkaaGreatDoor.PAll
open Go.RowKit Go.Proofs.YtgnehcgaplnfkaaGreatDoorW.PrintWords Go.Proofs.YtgnehcgaplnfkaaGreatDoorW.PrintLast Go.Proofs.YtgnehcgaplnfkaaGreatDoorW.PrintMore
attribute [local go_sem] u3o u3n u3x u3w u3j u3i u3p u3q
set_option linter.unusedVariables false
set_option linter.unusedSimpArgs false
set_option maxHeartbeats 2000000 in
theorem dryrotplain_SameOp.calls1 (k:Nat) (l:List S59) (A1 A2 B1 B2:Option Addr) (c1 n2 c2 d1 m2 d2:Nat) (a3 a4 a5 b3 b4 b5:Int) (w:World) (hr1:Kd.C k59 w A1 l.length l) (hc1:l.length ≤ c1) (hr2:Kd.C k59 w B1 l.length l) (hc2:l.length ≤ d1) (h:u1u.f k l l = some true) :
 Calls Tryz.prog 15 #[.agg #[.int .i64 1,.slice A1 l.length c1,.slice A2 n2 c2,.int .i64 a3,.int .i64 a4,.int .i64 a5],.agg #[.int .i64 1,.slice B1 l.length d1,.slice B2 m2 d2,.int .i64 b3,.int .i64 b4,.int .i64 b5]] w fun e w' => e = .returned (.bool true) ∧ Below w.heap.size w w':=by
 obtain ⟨Wa,hWa⟩:∃ Wa,Aside0 ((w.alloc (.cells #[.int .i64 1,.slice A1 l.length c1,.slice A2 n2 c2,.int .i64 a3,.int .i64 a4,.int .i64 a5] 26)).alloc (.cells #[.int .i64 1,.slice B1 l.length d1,.slice B2 m2 d2,.int .i64 b3,.int .i64 b4,.int .i64 b5] 26) = Wa):=⟨_,⟨rfl⟩⟩
 have hbl:Below w.heap.size w Wa:=by rw [← hWa.out];exact uj (uj (Below.refl _ _) _) _
 have HB:=Aside0.mk hbl
 have G1:=Aside0.mk (Kd.C_below hr1 hbl)
 have G2:=Aside0.mk (Kd.C_below hr2 hbl)
 have HC1:=Aside0.mk hc1
 have HC2:=Aside0.mk hc2
 have H:=Aside0.mk h
 clear hbl hr1 hr2 h hc1 hc2
 go_enter Tryz.func15,Tryz.ntmps15
 go_wp2_with (go_at_call 39;rw [hWa.out];(with_reducible refine (u1u.calls k A1 c1 l B1 d1 l true Wa G1.out HC1.out G2.out HC2.out H.out).mono ?_);rintro e W1 ⟨rfl,hb1⟩;have HB1:=Aside0.mk hb1;clear hb1)
 go_ret
 exact ⟨rfl,u1c HB.out HB.out.size HB1.out⟩
set_option maxHeartbeats 2000000 in
theorem dryrotplain_SameOp.calls2 (k:Nat) (m:List S79) (A1 A2 B1 B2:Option Addr) (n1 c1 c2 m1 d1 d2:Nat) (a3 a4 a5 b5:Int) (w:World) (hr1:Kd.C k79 w A2 m.length m) (hc1:m.length ≤ c2) (hr2:Kd.C k79 w B2 m.length m) (hc2:m.length ≤ d2) (h:u3r.f k m m = some true) :
 Calls Tryz.prog 15 #[.agg #[.int .i64 2,.slice A1 n1 c1,.slice A2 m.length c2,.int .i64 a3,.int .i64 a4,.int .i64 a5],.agg #[.int .i64 2,.slice B1 m1 d1,.slice B2 m.length d2,.int .i64 a3,.int .i64 a4,.int .i64 b5]] w fun e w' => e = .returned (.bool true) ∧ Below w.heap.size w w':=by
 obtain ⟨Wa,hWa⟩:∃ Wa,Aside0 ((w.alloc (.cells #[.int .i64 2,.slice A1 n1 c1,.slice A2 m.length c2,.int .i64 a3,.int .i64 a4,.int .i64 a5] 26)).alloc (.cells #[.int .i64 2,.slice B1 m1 d1,.slice B2 m.length d2,.int .i64 a3,.int .i64 a4,.int .i64 b5] 26) = Wa):=⟨_,⟨rfl⟩⟩
 have hbl:Below w.heap.size w Wa:=by rw [← hWa.out];exact uj (uj (Below.refl _ _) _) _
 have HB:=Aside0.mk hbl
 have G1:=Aside0.mk (Kd.C_below hr1 hbl)
 have G2:=Aside0.mk (Kd.C_below hr2 hbl)
 have HC1:=Aside0.mk hc1
 have HC2:=Aside0.mk hc2
 have H:=Aside0.mk h
 clear hbl hr1 hr2 h hc1 hc2
 go_enter Tryz.func15,Tryz.ntmps15
 go_wp2_with (go_at_call 40;rw [hWa.out];(with_reducible refine (u3r.calls k A2 c2 m B2 d2 m true Wa G1.out HC1.out G2.out HC2.out H.out).mono ?_);rintro e W1 ⟨rfl,nd,rfl⟩;rw [← hWa.out])
 go_ret
 exact ⟨rfl,ui (by rw [hWa.out];exact HB.out) nd⟩
set_option maxHeartbeats 2000000 in
theorem dryrotplain_SameOp.calls3 (A1 A2 B1 B2:Option Addr) (n1 c1 n2 c2 m1 d1 m2 d2:Nat) (a3 a4 a5 b3 b4:Int) (w:World) :
 Calls Tryz.prog 15 #[.agg #[.int .i64 3,.slice A1 n1 c1,.slice A2 n2 c2,.int .i64 a3,.int .i64 a4,.int .i64 a5],.agg #[.int .i64 3,.slice B1 m1 d1,.slice B2 m2 d2,.int .i64 b3,.int .i64 b4,.int .i64 a5]] w fun e w' => e = .returned (.bool true) ∧ Below w.heap.size w w':=by
 go_enter Tryz.func15,Tryz.ntmps15
 go_wp2
 go_ret
 exact ⟨by simp,uj (uj (Below.refl _ _) _) _⟩
def ua.f:Option Int:=none
structure ua.RS where
 at_:Nat
 bad:Bool
def ua.Rn (W:World) (gp:Nat) (A:Option Addr) (p:List Int):Prop:=(∃ o,W.heap[gp]? = some o ∧ ∀ cs t f,o = .cells cs t f → t = 21) ∧ ∀ W':World,W'.heap[gp]? = W.heap[gp]? → (Kd.int .i32).C W' A p.length p
theorem ua.Rn.move {W W':World} {gp:Nat} {A:Option Addr} {p:List Int} (h:ua.Rn W gp A p) (hm:W'.heap[gp]? = W.heap[gp]?):ua.Rn W' gp A p :=
 ⟨by obtain ⟨c,hc,ht⟩:=h.1;exact ⟨c,hm.trans hc,ht⟩,fun W2 h2 => h.2 W2 (h2.trans hm)⟩
theorem ua.Rn.lt {W:World} {gp:Nat} {A:Option Addr} {p:List Int} (h:ua.Rn W gp A p):gp < W.heap.size:=by
 obtain ⟨o,ho,_⟩:=h.1
 exact (Array.getElem?_eq_some_iff.1 ho).1
theorem ua.Rn.ne {W:World} {gp:Nat} {A:Option Addr} {p:List Int} (h:ua.Rn W gp A p) {g t:Nat} {cs:Array Value} {f:Nat × Nat} (hb:W.heap[g]? = some (.cells cs t f)) (ht:t ≠ 21):gp ≠ g:=by
 rintro rfl
 obtain ⟨o,ho,hc⟩:=h.1
 rw [hb] at ho
 exact ht (hc cs t f (Option.some.inj ho).symm)
theorem ua.Rn.ne_row {α:Type} {d:Kd α} {W:World} {gp:Nat} {A:Option Addr} {p:List Int} (h:ua.Rn W gp A p) {e base:Nat} {ok:Nat → Prop} {v:Value} {xs:List α} (hR:Kd.R d e W base ok v xs) (he:e ≠ 21):some gp ≠ v.ownBlock:=by
 intro h9
 obtain ⟨_,inner,ho,_⟩:=hR
 obtain ⟨cells,hc⟩:=own_typed ho gp h9.symm
 exact h.ne hc he rfl
structure ua.St (w0 W:World) (g gp:Nat) (l:List Int) (s:ua.RS):Prop where
 below:Below w0.heap.size w0 W
 base:w0.heap.size ≤ g
 cells:∃ A c,W.heap[g]? = some (.cells #[.slice A l.length c,.int .i64 (s.at_:Int),.bool s.bad] 169 (0,0)) ∧ l.length ≤ c ∧ ua.Rn W gp A l
def ua.Kq (W W':World) (g:Nat):Prop:=W.heap.size ≤ W'.heap.size ∧ ∀ k,k < W.heap.size → k ≠ g → W'.heap[k]? = W.heap[k]?
theorem ua.Kq.refl (W:World) (g:Nat):ua.Kq W W g:=⟨Nat.le_refl _,fun _ _ _ => rfl⟩
theorem ua.Kq.trans {W W' W'':World} {g:Nat} (h:ua.Kq W W' g) (h':ua.Kq W' W'' g):ua.Kq W W'' g:=⟨Nat.le_trans h.1 h'.1,fun k hk hg => (h'.2 k (Nat.lt_of_lt_of_le hk h.1) hg).trans (h.2 k hk hg)⟩
theorem ua.Kq.set (W:World) (g i:Nat) (u:Value):ua.Kq W (W.setCell ⟨g,i,none⟩ u) g:=⟨by simp [World.setCell],fun k _ hg => Below.heap_setCell W ⟨g,i,none⟩ u k hg⟩
theorem ua.Kq.below {W W':World} (h:Below W.heap.size W W') (g:Nat):ua.Kq W W' g:=⟨h.size,fun k hk _ => h.block k hk⟩
theorem ua.St.ne_gp {w0 W:World} {g gp:Nat} {l:List Int} {s:ua.RS} (h:ua.St w0 W g gp l s):gp ≠ g:=by
 obtain ⟨A,c,hb,_,hr⟩:=h.cells
 exact hr.ne hb (by decide)
theorem ua.St.gp_lt {w0 W:World} {g gp:Nat} {l:List Int} {s:ua.RS} (h:ua.St w0 W g gp l s):gp < W.heap.size ∧ g < W.heap.size:=by
 obtain ⟨A,c,hb,_,hr⟩:=h.cells
 exact ⟨hr.lt,u2m hb⟩
theorem ua.St.keep {w0 W W':World} {g gp:Nat} {l:List Int} {s:ua.RS} (h:ua.St w0 W g gp l s) (hb:Below w0.heap.size w0 W') (hk:∀ k,k < W.heap.size → k = g ∨ k = gp → W'.heap[k]? = W.heap[k]?):ua.St w0 W' g gp l s:=by
 obtain ⟨A,c,hc,hl,hr⟩:=h.cells
 exact ⟨hb,h.base,A,c,(hk g h.gp_lt.2 (Or.inl rfl)).trans hc,hl,hr.move (hk gp h.gp_lt.1 (Or.inr rfl))⟩
theorem ua.St.more {w0 W W':World} {g gp:Nat} {l:List Int} {s:ua.RS} (h:ua.St w0 W g gp l s) (hb:Below W.heap.size W W'):ua.St w0 W' g gp l s :=
 h.keep (u1c h.below h.below.size hb) (fun k hk _ => hb.block k hk)
theorem ua.St.drew {w0 W:World} {g gp:Nat} {l:List Int} {s:ua.RS} (h:ua.St w0 W g gp l s) (n:Nat):ua.St w0 (W.drewN n) g gp l s :=
 h.more (ui (Below.refl _ _) n)
theorem ua.St.look {w0 W:World} {g gp:Nat} {l:List Int} {s:ua.RS} (h:ua.St w0 W g gp l s):∃ A c,(W.cell? ⟨g,0,none⟩ = some (.slice A l.length c) ∧ W.cell? ⟨g,1,none⟩ = some (.int .i64 (s.at_:Int)) ∧ W.cell? ⟨g,2,none⟩ = some (.bool s.bad)) ∧ (W.frozen? ⟨g,0,none⟩ = false ∧ W.frozen? ⟨g,1,none⟩ = false ∧ W.frozen? ⟨g,2,none⟩ = false) ∧ l.length ≤ c ∧ W.heap[g]? = some (.cells #[.slice A l.length c,.int .i64 (s.at_:Int),.bool s.bad] 169 (0,0)) ∧ ua.Rn W gp A l:=by
 obtain ⟨A,c,hb,hl,hr⟩:=h.cells
 have h0:=uk hb 0
 have h1:=uk hb 1
 have h2:=uk hb 2
 simp only [List.size_toArray,List.length_cons,List.length_nil,List.getElem?_toArray,List.getElem?_cons_zero,List.getElem?_cons_succ] at h0 h1 h2
 exact ⟨A,c,⟨h0,h1,h2⟩,⟨uq hb 0,uq hb 1,uq hb 2⟩,hl,hb,hr⟩
theorem ua.St.setAt {w0 W:World} {g gp:Nat} {l:List Int} {s:ua.RS} (h:ua.St w0 W g gp l s) (n:Nat):ua.St w0 (W.setCell ⟨g,1,none⟩ (.int .i64 (n:Int))) g gp l ⟨n,s.bad⟩:=by
 obtain ⟨A,c,hb,hl,hr⟩:=h.cells
 exact ⟨h.below.setCell h.base _,h.base,A,c,by rw [u3v hb];rfl,hl,hr.move (Below.heap_setCell _ _ _ _ h.ne_gp)⟩
theorem ua.St.up {w0 W:World} {g gp:Nat} {l:List Int} {s:ua.RS} (h:ua.St w0 W g gp l s):ua.St w0 (W.setCell ⟨g,1,none⟩ (.int .i64 ((s.at_:Int) + 1))) g gp l ⟨s.at_ + 1,s.bad⟩:=h.setAt (s.at_ + 1)
theorem ua.St.setBad {w0 W:World} {g gp:Nat} {l:List Int} {s:ua.RS} (h:ua.St w0 W g gp l s) (b:Bool):ua.St w0 (W.setCell ⟨g,2,none⟩ (.bool b)) g gp l ⟨s.at_,b⟩:=by
 obtain ⟨A,c,hb,hl,hr⟩:=h.cells
 exact ⟨h.below.setCell h.base _,h.base,A,c,by rw [u3v hb];rfl,hl,hr.move (Below.heap_setCell _ _ _ _ h.ne_gp)⟩
def ua.pk (l:List Int) (s:ua.RS):Int:=(l[s.at_]?).getD (-1)
set_option maxHeartbeats 2000000 in
set_option maxRecDepth 10000 in
theorem ua.calls (w0 W:World) (g gp:Nat) (l:List Int) (s:ua.RS) (h:ua.St w0 W g gp l s) :
 Calls Tryz.prog 125 #[.pointer (some ⟨g,0,none⟩)] W fun e W' => e = .returned (.int .i32 (ua.pk l s)) ∧ ∃ n,W' = W.drewN n:=by
 obtain ⟨a,bad⟩:=s
 obtain ⟨A,c,⟨h0,h1,h2⟩,⟨f0,f1,f2⟩,hl,hb,hr⟩:=h.look
 simp only at h0 h1 h2
 clear h hb f0 f1 f2 hl
 by_cases hlt:a < l.length
 · have hv:Aside0 (ua.pk l ⟨a,bad⟩ = rd l (a:Int)):=⟨by simp [ua.pk,rd,hlt]⟩
   rw [hv.out]
   obtain ⟨ad,e,hx⟩:=Kd.at_int (hr.2 W rfl) (a:Int) (by omega) (by omega)
   subst e
   simp only [Int.toNat_natCast] at hx
   have hi:(0:Int) ≤ (a:Int) ∧ (a:Int) < (l.length:Int):=by omega
   have hd:decide ((l.length:Int) ≤ (a:Int)) = false:=decide_eq_false (by omega)
   have hd2:decide (l.length ≤ a) = false:=decide_eq_false (by omega)
   clear hr
   go_enter Tryz.func125,Tryz.ntmps125
   go_wp2
   repeat (go_quiet (fail))
   go_wp2
   repeat (go_quiet (fail))
   go_wp2
   all_goals
    go_ret
    exact ⟨rfl,_,by first | rfl | exact World.drewN_drewN _ _ _⟩
 · have hv:Aside0 (ua.pk l ⟨a,bad⟩ = -1):=⟨by simp [ua.pk,List.getElem?_eq_none (show l.length ≤ a by omega)]⟩
   rw [hv.out]
   have hd:decide ((l.length:Int) ≤ (a:Int)) = true:=decide_eq_true (by omega)
   have hd2:decide (l.length ≤ a) = true:=decide_eq_true (by omega)
   clear hr
   go_enter Tryz.func125,Tryz.ntmps125
   go_wp2
   repeat (go_quiet (fail))
   go_wp2
   all_goals
    go_ret
    exact ⟨rfl,_,rfl⟩
abbrev u1j.RS:=ua.RS
def u1j.esc (l:List Int) (s:u1j.RS):Int × u1j.RS:=(ua.pk l s,⟨s.at_ + 1,s.bad || decide (ua.pk l s < 0)⟩)
set_option maxHeartbeats 2000000 in
set_option maxRecDepth 10000 in
theorem u1j.calls (w0 W:World) (g gp:Nat) (l:List Int) (s:u1j.RS) (h:ua.St w0 W g gp l s) (ha:s.at_ ≤ 1000000) :
 Calls Tryz.prog 147 #[.pointer (some ⟨g,0,none⟩)] W fun e W' => e = .returned (.int .i32 (u1j.esc l s).1) ∧ ua.St w0 W' g gp l (u1j.esc l s).2 ∧ ua.Kq W W' g:=by
 have HS:=Aside0.mk h
 obtain ⟨c,hc⟩:∃ c,Aside0 (ua.pk l s = c):=⟨_,⟨rfl⟩⟩
 have HE:Aside0 (u1j.esc l s = (c,⟨s.at_ + 1,s.bad || decide (c < 0)⟩)):=⟨by unfold u1j.esc;rw [hc.out]⟩
 rw [HE.out]
 obtain ⟨a,bad⟩:=s
 obtain ⟨A,cp,⟨h0,h1,h2⟩,⟨f0,f1,f2⟩,hl,hb,hr⟩:=h.look
 simp only at h0 h1 h2 ha
 clear h hb hl hr h0
 by_cases hn:c < 0
 · have hd:decide (c < 0) = true:=decide_eq_true hn
   go_enter Tryz.func147,Tryz.ntmps147
   go_wp2_with (go_at_call 125;(with_reducible refine (ua.calls w0 W g gp l ⟨a,bad⟩ HS.out).mono ?_);rintro e w' ⟨rfl,nq,rfl⟩;rw [hc.out])
   go_ret
   refine ⟨rfl,?_,((ua.Kq.below (ui (Below.refl _ _) _) g).trans (ua.Kq.set _ _ _ _)).trans (ua.Kq.set _ _ _ _)⟩
   rw [hd]
   have h9:=((HS.out.drew nq).setBad true).up
   simpa using h9
 · have hd:decide (c < 0) = false:=decide_eq_false hn
   go_enter Tryz.func147,Tryz.ntmps147
   go_wp2_with (go_at_call 125;(with_reducible refine (ua.calls w0 W g gp l ⟨a,bad⟩ HS.out).mono ?_);rintro e w' ⟨rfl,nq,rfl⟩;rw [hc.out])
   go_ret
   refine ⟨rfl,?_,(ua.Kq.below (ui (Below.refl _ _) _) g).trans (ua.Kq.set _ _ _ _)⟩
   rw [hd]
   have h9:=(HS.out.drew nq).up
   simpa using h9
abbrev ug.RS:=ua.RS
def ug.mk (c:Int) (m:List Int):Bool:=u1h.oneB c m
theorem ug.marks {m:ByteArray} {r:List Int} (h:Base.runesOf m = r) (c:Int):u1h.f c m = some (ug.mk c r):=by
 unfold u1h.f ug.mk
 rw [h]
def ug.mem (l:List Int) (s:ug.RS):Int × ug.RS :=
 if ua.pk l s < 0 ∨ ug.mk (ua.pk l s) [93,45] = true then (ua.pk l s,⟨s.at_,true⟩)
 else if ua.pk l s = 92 then u1j.esc l ⟨s.at_ + 1,s.bad⟩
 else (ua.pk l s,⟨s.at_ + 1,s.bad⟩)
set_option maxHeartbeats 4000000 in
set_option maxRecDepth 10000 in
theorem ug.calls (w0 W:World) (g gp:Nat) (l:List Int) (s:ug.RS) (h:ua.St w0 W g gp l s) (ha:s.at_ ≤ 100000) :
 Calls Tryz.prog 151 #[.pointer (some ⟨g,0,none⟩)] W fun e W' => e = .returned (.int .i32 (ug.mem l s).1) ∧ ua.St w0 W' g gp l (ug.mem l s).2 ∧ ua.Kq W W' g:=by
 have HS:=Aside0.mk h
 obtain ⟨c,hc⟩:∃ c,Aside0 (ua.pk l s = c):=⟨_,⟨rfl⟩⟩
 obtain ⟨b,hbm⟩:∃ b,Aside0 (ug.mk c [93,45] = b):=⟨_,⟨rfl⟩⟩
 have HO:Aside0 (u1h.f c ⟨#[93,45]⟩ = some b):=⟨by rw [ug.marks (show Base.runesOf (⟨#[93,45]⟩:ByteArray) = [93,45] by kernel_rfl),hbm.out]⟩
 have HE:Aside0 (ug.mem l s = if c < 0 ∨ b = true then (c,⟨s.at_,true⟩) else if c = 92 then u1j.esc l ⟨s.at_ + 1,s.bad⟩ else (c,⟨s.at_ + 1,s.bad⟩)):=⟨by unfold ug.mem;rw [hc.out,hbm.out]⟩
 rw [HE.out]
 obtain ⟨a,bad⟩:=s
 obtain ⟨A,cp,⟨h0,h1,h2⟩,⟨f0,f1,f2⟩,hl,hb,hr⟩:=h.look
 have HL:Aside0 (g < W.heap.size):=⟨h.gp_lt.2⟩
 simp only at h0 h1 h2 ha
 clear h hb hl hr h0
 by_cases hn:c < 0
 · have hd:decide (c < 0) = true:=decide_eq_true hn
   rw [if_pos (Or.inl hn)]
   go_enter Tryz.func151,Tryz.ntmps151
   go_wp2_with (go_at_call 125;(with_reducible refine (ua.calls w0 W g gp l ⟨a,bad⟩ HS.out).mono ?_);rintro e w' ⟨rfl,nq,rfl⟩;rw [hc.out])
   go_ret
   exact ⟨rfl,(HS.out.drew nq).setBad true,(ua.Kq.below (ui (Below.refl _ _) _) g).trans (ua.Kq.set _ _ _ _)⟩
 · have hd:decide (c < 0) = false:=decide_eq_false hn
   have ARM:Aside0 (∀ nq w2,Below (W.drewN nq).heap.size (W.drewN nq) w2 → (w2.cell? ⟨g,1,none⟩ = some (.int .i64 (a:Int)) ∧ w2.cell? ⟨g,2,none⟩ = some (.bool bad) ∧ w2.frozen? ⟨g,1,none⟩ = false ∧ w2.frozen? ⟨g,2,none⟩ = false) ∧ ua.St w0 w2 g gp l ⟨a,bad⟩ ∧ ua.Kq W w2 g):=⟨fun nq w2 hB => by
    have hS2:=(HS.out.drew nq).more hB
    obtain ⟨A2,c2,⟨k0,k1,k2⟩,⟨q0,q1,q2⟩,_⟩:=hS2.look
    exact ⟨⟨k1,k2,q1,q2⟩,hS2,(ua.Kq.below (ui (Below.refl _ _) _) g).trans (ua.Kq.below hB g)⟩⟩
   cases b with
   | true =>
     rw [if_pos (Or.inr rfl)]
     go_enter Tryz.func151,Tryz.ntmps151
     go_wp2_with (first
      | (go_at_call 125;(with_reducible refine (ua.calls w0 W g gp l ⟨a,bad⟩ HS.out).mono ?_);rintro e w' ⟨rfl,nq,rfl⟩;rw [hc.out])
      | (go_at_call 105;(with_reducible refine (u1h.calls c ⟨#[93,45]⟩ true _ HO.out).mono ?_);rintro e w2 ⟨rfl,hB2⟩;obtain ⟨⟨k1,k2,q1,q2⟩,hS2,hK2⟩:=ARM.out _ _ hB2;have HS2:=Aside0.mk hS2;have HK2:=Aside0.mk hK2;clear hB2 hS2 hK2))
     go_ret
     exact ⟨rfl,HS2.out.setBad true,HK2.out.trans (ua.Kq.set _ _ _ _)⟩
   | false =>
     rw [if_neg (by rintro (h9 | h9);exact hn h9;cases h9)]
     by_cases h92:c = 92
     · rw [if_pos h92]
       have hd2:(c == 92) = true:=by simp [h92]
       have hd3:decide (c = 92) = true:=decide_eq_true h92
       clear h92
       go_enter Tryz.func151,Tryz.ntmps151
       go_wp2_with (first
        | (go_at_call 125;(with_reducible refine (ua.calls w0 W g gp l ⟨a,bad⟩ HS.out).mono ?_);rintro e w' ⟨rfl,nq,rfl⟩;rw [hc.out])
        | (go_at_call 105;(with_reducible refine (u1h.calls c ⟨#[93,45]⟩ false _ HO.out).mono ?_);rintro e w2 ⟨rfl,hB2⟩;obtain ⟨⟨k1,k2,q1,q2⟩,hS2,hK2⟩:=ARM.out _ _ hB2;have HS2:=Aside0.mk hS2;have HK2:=Aside0.mk hK2;clear hB2 hS2 hK2)
        | (go_at_call 147;(with_reducible refine (u1j.calls w0 _ g gp l ⟨a + 1,bad⟩ HS2.out.up (by simp only;omega)).mono ?_);rintro e w3 ⟨rfl,hS3,hK3⟩;have HS3:=Aside0.mk hS3;have HK3:=Aside0.mk hK3;clear hS3 hK3))
       go_ret
       exact ⟨rfl,HS3.out,(HK2.out.trans (ua.Kq.set _ _ _ _)).trans HK3.out⟩
     · rw [if_neg h92]
       have hd2:(c == 92) = false:=by simp [h92]
       have hd3:decide (c = 92) = false:=decide_eq_false h92
       clear h92
       go_enter Tryz.func151,Tryz.ntmps151
       go_wp2_with (first
        | (go_at_call 125;(with_reducible refine (ua.calls w0 W g gp l ⟨a,bad⟩ HS.out).mono ?_);rintro e w' ⟨rfl,nq,rfl⟩;rw [hc.out])
        | (go_at_call 105;(with_reducible refine (u1h.calls c ⟨#[93,45]⟩ false _ HO.out).mono ?_);rintro e w2 ⟨rfl,hB2⟩;obtain ⟨⟨k1,k2,q1,q2⟩,hS2,hK2⟩:=ARM.out _ _ hB2;have HS2:=Aside0.mk hS2;have HK2:=Aside0.mk hK2;clear hB2 hS2 hK2))
       go_ret
       exact ⟨rfl,HS2.out.up,HK2.out.trans (ua.Kq.set _ _ _ _)⟩
theorem u2t.info:(Tryz.prog.info? 164).map (fun i => (i.zero,i.size,i.bytes)) = some (some (.agg #[.int .i64 0,.slice none 0 0,.bool false,.int .i64 0,.int .i64 0]),5,56):=by kernel_rfl
theorem u2t.E_inst:k164.E = [191]:=by
 simp [k164,Kd.iso,Kd.pair,Kd.slice,Kd.int,Kd.scalar,Kd.bool,k191]
def u2t.Deep (W:World) (k:Nat):Prop:=∃ q,q ∈ k164.E ∧ ∃ cells,W.heap[k]? = some (.cells cells q (0,0))
def u2t.ReadsM (w0 W:World) (A:Option Addr) (l:List S164):Prop:=ReadsRow (k164.M W w0.heap.size (u2t.Deep W)) 5 W A l.length l
theorem u2t.reads_M {w0 W:World} {v:Value} {ok:Nat → Prop} {l:List S164} (h:Kd.R k164 164 W w0.heap.size ok v l):∃ A c,v = .slice A l.length c ∧ l.length ≤ c ∧ u2t.ReadsM w0 W A l:=by
 have h2:u4b (k164.M W w0.heap.size (u2t.Deep W)) 164 5 W w0.heap.size v l:=u4b.imp_ h.2 (fun _ _ hp => k164.M_mono (fun k hk => hk.2.2.2) (k164.M_bound hp))
 exact h2.reads
theorem u2t.ReadsM.below {w0 W W':World} {A:Option Addr} {l:List S164} (h:u2t.ReadsM w0 W A l) (hb:Below W.heap.size W W'):u2t.ReadsM w0 W' A l :=
 ReadsRow.imp_ h hb (fun _ _ hp => k164.M_mono (fun k hk => by
  obtain ⟨q,hq,cells,hc⟩:=hk
  exact ⟨q,hq,cells,u1a hc hb⟩) (Kd.M_below hp hb))
theorem u2t.ReadsM.drop {w0 W:World} {A:Option Addr} {l:List S164} {m c:Nat} (h:u2t.ReadsM w0 W A l) (hm:m ≤ l.length) (hc:l.length ≤ c):u2t.ReadsM w0 W (if c = m then A else A.map (·.add (m * 5))) (l.drop m):=by
 have hl:(l.drop m).length = l.length - m:=List.length_drop
 refine ⟨rfl,by rw [hl];have:=h.2.1;omega,fun hp => ?_⟩
 rw [hl] at hp
 obtain ⟨ad,rfl,hcell⟩:=h.2.2 (by omega)
 rw [if_neg (by omega)]
 refine ⟨ad.add (m * 5),rfl,fun j p hj => ?_⟩
 rw [List.getElem?_drop] at hj
 obtain ⟨cs,h1,h2,h3⟩:=hcell (m + j) p hj
 refine ⟨cs,h1,h2,fun i u hu => ?_⟩
 have h4:=h3 i u hu
 rw [add_add,show m * 5 + (j * 5 + i) = (m + j) * 5 + i by omega]
 exact h4
theorem u2t.not_own {w0 W:World} {v:Value} {ok:Nat → Prop} {l:List S164} (h:Kd.R k164 164 W w0.heap.size ok v l) {k:Nat} (hk:u2t.Deep W k):some k ≠ v.ownBlock:=by
 obtain ⟨q,hq,cells,hc⟩:=hk
 rw [u2t.E_inst] at hq
 simp at hq
 subst hq
 exact Kd.R_ne h hc (by decide)
theorem u2t.store {w0 W:World} {gb n cv:Nat} {xs:List S164} (i j:Nat) (z:Int) (hj:j = 3 ∨ j = 4) (HO:Kd.R k164 164 W w0.heap.size (fun _ => True) (.slice (some ⟨gb,0,none⟩) n cv) xs) (x:S164) (hx:xs[i]? = some x) (x':S164)
 (hx':x' = if j = 3 then ⟨x.f0,x.f1,x.f2,z,x.f4⟩ else ⟨x.f0,x.f1,x.f2,x.f3,z⟩) :
 W.cell? ⟨gb,i * 5 + j,none⟩ = some (.int .i64 (if j = 3 then x.f3 else x.f4)) ∧ W.frozen? ⟨gb,i * 5 + j,none⟩ = false ∧
  Kd.R k164 164 (W.setCell ⟨gb,i * 5 + j,none⟩ (.int .i64 z)) w0.heap.size (fun _ => True) (.slice (some ⟨gb,0,none⟩) n cv) (xs.set i x') ∧ W.grownBy (W.setCell ⟨gb,i * 5 + j,none⟩ (.int .i64 z)) (some gb):=by
 have hn:n = xs.length:=(Kd.R_reads' HO).1
 have hlt:i < xs.length:=(List.getElem?_eq_some_iff.1 hx).1
 obtain ⟨c,hcl,hM,hcc⟩:=Kd.R_get HO z164 (i:Int) (by omega) (by omega)
 have hxx:xs.getD ((i:Int)).toNat z164 = x:=by simp [List.getD_eq_getElem?_getD,hx]
 rw [hxx] at hM
 obtain ⟨v1,hc,hsp⟩:=k164_openM hM
 have hadd:∀ m:Nat,(⟨gb,0,none⟩:Addr).add (((i:Int)).toNat * k164.sz + m) = ⟨gb,i * 5 + m,none⟩:=by
  intro m
  have e:k164.sz = 5:=rfl
  rw [e,Int.toNat_natCast]
  unfold Addr.add
  split
  · rename_i h0
    rw [h0]
  · simp
 have hcell:∀ m u,c[m]? = some u → W.cell? ⟨gb,i * 5 + m,none⟩ = some u:=fun m u hu => by
  have h9:=hcc m u hu
  rwa [hadd m] at h9
 have hseg:=Kd.R_seg (okp:=fun k => True ∧ k ≠ gb) (x':=x') (seg:=[.int .i64 z]) (c:=c) (j:=j) HO (i:Int) (by omega) (by omega) hcl (by
  intro m u hu
  have e:k164.sz = 5:=rfl
  rw [e,Int.toNat_natCast]
  exact hcell m u hu) (by have e:k164.sz = 5:=rfl;rw [e];simp only [List.length_cons,List.length_nil];omega) (by
  have hsp2:Kd.R k191 191 W w0.heap.size (fun k => True ∧ k ≠ gb) v1 x.f1:=Kd.R_mono hsp (fun k hk => ⟨trivial,fun he => hk.2 (by rw [he];rfl)⟩)
  subst hc
  rcases hj with rfl | rfl
  · rw [hx']
    exact k164_mkM _ _ _ ⟨x.f0,x.f1,x.f2,z,x.f4⟩ hsp2
  · rw [hx']
    exact k164_mkM _ _ _ ⟨x.f0,x.f1,x.f2,x.f3,z⟩ hsp2) (fun k hk => hk)
 have e:((i:Int)).toNat * k164.sz + j = i * 5 + j:=by
  have e:k164.sz = 5:=rfl
  rw [e,Int.toNat_natCast]
 rw [e,Int.toNat_natCast] at hseg
 refine ⟨?_,?_,hseg.1,hseg.2⟩
 · rcases hj with rfl | rfl
   · exact hcell 3 _ (by rw [hc];rfl)
   · exact hcell 4 _ (by rw [hc];rfl)
 · obtain ⟨_,inner,ho,_⟩:=HO
   rcases ho.2 with ⟨hv,_⟩ | ⟨g',cap',cur,hv,_,hh,_⟩
   · cases hv
   · injection hv with ha _ _
     injection ha with ha
     injection ha with hg'
     subst hg'
     exact uq hh _
theorem u2t.form {w0 W:World} {n c:Nat} {A:Option Addr} {ok:Nat → Prop} {xs:List S164} (h:Kd.R k164 164 W w0.heap.size ok (.slice A n c) xs) (hn:0 < n):∃ g,A = some ⟨g,0,none⟩:=by
 obtain ⟨_,_,ho,_⟩:=h
 rcases ho.2 with ⟨hv,h0⟩ | ⟨g,cap,cur,hv,_⟩
 · injection hv with _ h1
   omega
 · injection hv with h1
   exact ⟨g,h1⟩
set_option maxHeartbeats 1000000 in
theorem u2t.calls (w0 W:World) (A0:Option Addr) (c0:Nat) (l:List S164) (hbel:Below w0.heap.size w0 W) (hr:u2t.ReadsM w0 W A0 l) (hc0:l.length ≤ c0) (hsz:l.length ≤ 1000000) :
 Calls Tryz.prog 134 #[.slice A0 l.length c0] W fun e W' => ∃ v:Value,e = .returned v ∧ Kd.R k164 164 W' w0.heap.size (fun _ => True) v l ∧ Below W.heap.size W W' ∧ (∀ k,v.ownBlock = some k → W.heap.size ≤ k):=by
 have HR:=Aside0.mk hr
 have HL:=Aside0.mk hbel
 have HSZ:=Aside0.mk hsz
 clear hr hbel hsz
 cases hA:A0 with
 | none =>
   rw [hA] at HR
   have h0:l = []:=by
    cases l with
    | nil => rfl
    | cons x q => obtain ⟨ad,e,_⟩:=HR.out.2.2 (by simp);cases e
   subst h0
   have hnil:∀ W,(binOp .eql 143 (.slice none 0 c0) (.slice none 0 0)).run Tryz.prog W = .ok (.bool true) W:=fun W => Lib.run_eql_slice_nil W 143 164 none 0 c0 0 0 Tryz.underlying143
   show Calls Tryz.prog 134 #[.slice none 0 c0] W _
   go_enter Tryz.func134,Tryz.ntmps134
   go_wp2
   go_ret
   exact ⟨_,rfl,Kd.R_nil _ _ _ _ _,Below.refl _ _,fun k hk => by simp [Value.ownBlock,Array.getD] at hk⟩
 | some ad =>
   rw [hA] at HR
   have hnil:∀ W,(binOp .eql 143 (.slice (some ad) l.length c0) (.slice none 0 0)).run Tryz.prog W = .ok (.bool false) W:=fun W => Lib.run_eql_slice_nil W 143 164 (some ad) l.length c0 0 0 Tryz.underlying143
   go_enter Tryz.func134,Tryz.ntmps134
   go_wp2_with (first
    | ((with_reducible refine u4a (N:=5) rfl ?_);refine Kd.R_lit k164 (w0:=w0) w0.heap.size 164 ?hg (N:=5) ?hd (xs:=([]:List S164)) (inner:=[]) (ok:=fun _ => True) (okp:=fun _ => True) ?hr ?hp (fun _ hk => hk) trivial HL.out HL.out.size (by simp) ?_;(case hd => rfl);(case hg => rfl);(case hr => first | (go_simp;done) | (go_simp;rfl));(case hp => exact (Reps.none _ _));intro v1 w3 ho hb hg_ hnew_;have HO:=Aside0.mk ho;have HB:=Aside0.mk hb;have HG:=Aside0.mk hg_;have HN:=Aside0.mk hnew_;clear ho hb hg_ hnew_)
    | ((with_reducible refine u2z (b:=.append) (xs:=#[.tmp 5,.tmp 6]) rfl ?_);at_builtin;refine Kd.R_append_rows k164 (w0:=w0) w0.heap.size rfl (.tmp 5) (.tmp 6) 143 164 (.agg #[.int .i64 0,.slice none 0 0,.bool false,.int .i64 0,.int .i64 0]) 56 rfl Tryz.underlying143 u2t.info rfl (by decide) (by omega) _ [] l _ _ _ (fun _ => True) _ rfl rfl HO.out (HR.out.below ⟨HG.out.os,HG.out.tape,HG.out.output,HG.out.size,fun k hk => HG.out.block k hk (by simp)⟩) (fun _ _ h => h) (fun k hk => ⟨trivial,u2t.not_own HO.out hk⟩) (fun _ _ => trivial) HB.out HB.out.size ?hbig ?_;(case hbig => have:=HSZ.out;simp;omega);intro v4 w5 ho4 hb4 hg4 hat4;have HO4:=Aside0.mk ho4;have HG4:=Aside0.mk hg4;have HAT4:=Aside0.mk hat4;clear ho4 hb4 hg4 hat4))
   have hv4:w3.grownBy w5 v1.ownBlock:=HG4.out
   have hat:v4.ownBlock = v1.ownBlock ∨ ∃ b,v4.ownBlock = some b ∧ w3.heap.size ≤ b:=HAT4.out
   obtain ⟨b,hb1,hb2⟩:=HN.out
   have hs3:=HG.out.size
   go_ret
   refine ⟨v4,rfl,HO4.out,⟨hv4.os.trans HG.out.os,hv4.tape.trans HG.out.tape,hv4.output.trans HG.out.output,Nat.le_trans hs3 hv4.size,fun k hk => ?_⟩,fun k hk => ?_⟩
   · rw [hb1] at hv4
     exact (hv4.block k (by omega) (by intro he;injection he with he;omega)).trans (HG.out.block k hk (by simp))
   · rcases hat with h9 | ⟨b2,h9,h8⟩
     · rw [h9,hb1] at hk
       injection hk with hk
       omega
     · rw [h9] at hk
       injection hk with hk
       omega
def u2c.sh (by_:Int) (x:S164):S164:=⟨x.f0,x.f1,x.f2,wrap64 (x.f3 + by_),wrap64 (x.f4 + by_)⟩
set_option maxHeartbeats 4000000 in
set_option maxRecDepth 10000 in
theorem u2c.calls (w0 W:World) (A0:Option Addr) (c0:Nat) (l:List S164) (b:Int) (hbel:Below w0.heap.size w0 W) (hr:u2t.ReadsM w0 W A0 l) (hc0:l.length ≤ c0) (hsz:l.length ≤ 1000000) :
 Calls Tryz.prog 123 #[.slice A0 l.length c0,.int .i64 b] W fun e W' => ∃ v:Value,e = .returned v ∧ Kd.R k164 164 W' w0.heap.size (fun _ => True) v (l.map (u2c.sh b)) ∧ Below W.heap.size W W' ∧ (∀ k,v.ownBlock = some k → W.heap.size ≤ k):=by
 have HR:=Aside0.mk hr
 have HL:=Aside0.mk hbel
 have HSZ:=Aside0.mk hsz
 clear hr hbel
 go_enter Tryz.func123,Tryz.ntmps123
 go_wp2_with (go_at_call 134;(with_reducible refine (u2t.calls w0 W A0 c0 l HL.out HR.out hc0 HSZ.out).mono ?_);rintro e w1 ⟨v1,rfl,hR1,hB1,hN1⟩;obtain ⟨A1,c1,e1⟩:=Kd.R_slice hR1;subst e1;have HR1:=Aside0.mk hR1;have HB1:=Aside0.mk hB1;have HN1:=Aside0.mk hN1;clear hR1 hB1 hN1)
 go_loopg [11] (l.length) (fun kq v11 wr => ∃ (i:Nat),i ≤ l.length ∧ v11 = .int .i64 i ∧ Aside0 (Kd.R k164 164 wr w0.heap.size (fun _ => True) (.slice A1 l.length c1) ((l.take i).map (u2c.sh b) ++ l.drop i)) ∧ l.length ≤ kq + i ∧ Aside0 (Below W.heap.size W wr))
 case atStart => exact ⟨0,by omega,rfl,HR1,by omega,HB1⟩
 case round =>
  clear HR1 HB1
  obtain ⟨i,hi,rfl,HRi,hk,HBi⟩:=hrel
  by_cases hlt:i < l.length
  · obtain ⟨g1,rfl⟩:∃ g1,gk = g1 + 1:=⟨gk - 1,by omega⟩
    obtain ⟨gb,eg⟩:=u2t.form HRi.out (by omega)
    subst eg
    obtain ⟨x,hx⟩:∃ x,Aside0 (l[i]? = some x):=⟨l[i],⟨List.getElem?_eq_getElem hlt⟩⟩
    have hlen:((l.take i).map (u2c.sh b)).length = i:=by simp;omega
    have hat:((l.take i).map (u2c.sh b) ++ l.drop i)[i]? = some x:=by
     rw [List.getElem?_append_right (by omega),hlen,Nat.sub_self,List.getElem?_drop,Nat.add_zero]
     exact hx.out
    obtain ⟨q1,q2,q3,q4⟩:=u2t.store (w0:=w0) i 3 (wrap64 (x.f3 + b)) (Or.inl rfl) HRi.out x hat ⟨x.f0,x.f1,x.f2,wrap64 (x.f3 + b),x.f4⟩ rfl
    have hset:∀ y:S164,((l.take i).map (u2c.sh b) ++ l.drop i).set i y = (l.take i).map (u2c.sh b) ++ y :: l.drop (i + 1):=by
     intro y
     rw [List.set_append_right _ _ (by omega),hlen,Nat.sub_self,List.drop_eq_getElem_cons hlt]
     rfl
    rw [hset] at q3
    have hat2:((l.take i).map (u2c.sh b) ++ (⟨x.f0,x.f1,x.f2,wrap64 (x.f3 + b),x.f4⟩:S164) :: l.drop (i + 1))[i]? = some ⟨x.f0,x.f1,x.f2,wrap64 (x.f3 + b),x.f4⟩:=by
     rw [List.getElem?_append_right (by omega),hlen,Nat.sub_self]
     rfl
    obtain ⟨p1,p2,p3,p4⟩:=u2t.store (w0:=w0) i 4 (wrap64 (x.f4 + b)) (Or.inr rfl) q3 _ hat2 (u2c.sh b x) rfl
    have hset2:((l.take i).map (u2c.sh b) ++ (⟨x.f0,x.f1,x.f2,wrap64 (x.f3 + b),x.f4⟩:S164) :: l.drop (i + 1)).set i (u2c.sh b x) = (l.take (i + 1)).map (u2c.sh b) ++ l.drop (i + 1):=by
     rw [List.set_append_right _ _ (by omega),hlen,Nat.sub_self,List.take_succ_eq_append_getElem hlt]
     have hxe:l[i] = x:=by have:=hx.out;rw [List.getElem?_eq_getElem hlt] at this;exact Option.some.inj this
     simp [hxe]
    rw [hset2] at p3
    have hgb:W.heap.size ≤ gb:=HN1.out gb rfl
    have HQ3:=Aside0.mk p3
    have HBq:Aside0 (Below W.heap.size W ((wr.setCell ⟨gb,i * 5 + 3,none⟩ (.int .i64 (wrap64 (x.f3 + b)))).setCell ⟨gb,i * 5 + 4,none⟩ (.int .i64 (wrap64 (x.f4 + b))))):=⟨(HBi.out.setCell hgb _).setCell hgb _⟩
    simp only [if_true,if_false,show (4:Nat) = 3 ↔ False from by decide] at q1 p1
    clear q3 q4 p3 p4 hset hset2 hat hat2 hlen hx
    go_wp2
    go_roundg g1
    case rel => exact ⟨i + 1,by omega,by go_num,HQ3,by omega,HBq⟩
    case measure => omega
  · have hil:i = l.length:=by omega
    have hfin:Aside0 ((l.take i).map (u2c.sh b) ++ l.drop i = l.map (u2c.sh b)):=⟨by rw [hil,List.take_length,List.drop_length,List.append_nil]⟩
    go_wp2
    go_ret
    exact ⟨_,rfl,by rw [← hfin.out];exact HRi.out,HBi.out,HN1.out⟩
theorem u3c.St_below {w0 W W':World} {g gp:Nat} {vc:Value} {s:uf.CS} (h:uf.St w0 W g gp vc s) (hb:Below W.heap.size W W'):uf.St w0 W' g gp vc s where
 below:=u1c h.below h.below.size hb
 base:=h.base
 cells:=by
  obtain ⟨A,c,h1,h2,h3⟩:=h.cells
  obtain ⟨cz,hcz⟩:=h3.1
  exact ⟨A,c,u1a h1 hb,h2,h3.move ((u1a hcz hb).trans hcz.symm)⟩
 code:=Kd.R_below h.code hb
theorem u3c.St_code {w0 W:World} {g gp:Nat} {vc vc':Value} {p:List Int} {code':List S164} {bad:Bool} {A:Option Addr} {c:Nat} (hbel:Below w0.heap.size w0 W) (hbase:w0.heap.size ≤ g)
 (hb:W.heap[g]? = some (.cells #[.slice A p.length c,vc,.bool bad] 159 (0,0))) (hl:p.length ≤ c) (hr:uf.Runes W gp A p) (hcode:Kd.R k164 164 W w0.heap.size (fun _ => True) vc' code'):uf.St w0 (W.setCell ⟨g,1,none⟩ vc') g gp vc' ⟨p,code',bad⟩ where
 below:=hbel.setCell hbase _
 base:=hbase
 cells:=⟨A,c,by rw [u3v hb 1 _];rfl,hl,hr.move (Below.heap_setCell _ _ _ _ (uf.ne_gp hb hr))⟩
 code:=Kd.R_set hcode hb (by intro q hq;rw [u2t.E_inst] at hq;simp at hq;omega) 1 _
set_option maxHeartbeats 2000000 in
set_option maxRecDepth 10000 in
theorem u3c.calls (w0 W:World) (g gp:Nat) (vc:Value) (s:uf.CS) (m:Nat) (h:uf.St w0 W g gp vc s) (hm:m ≤ s.code.length) (hsz:s.code.length ≤ 1000000) :
 Calls Tryz.prog 122 #[.pointer (some ⟨g,0,none⟩),.int .i64 m] W fun e W' => ∃ v vc',e = .returned v ∧ Kd.R k164 164 W' w0.heap.size (fun _ => True) v (s.code.drop m) ∧ uf.St w0 W' g gp vc' ⟨s.p,s.code.take m,s.bad⟩ ∧ (∀ k,v.ownBlock = some k → some k ≠ vc'.ownBlock):=by
 obtain ⟨p,code,bad⟩:=s
 obtain ⟨A,c,hb,hlc,hr⟩:=h.cells
 obtain ⟨Ac,cc,ec⟩:=Kd.R_slice h.code
 subst ec
 have h1:=uk hb 1
 simp only [List.size_toArray,List.length_cons,List.length_nil,List.getElem?_toArray,List.getElem?_cons_zero,List.getElem?_cons_succ] at h1
 simp only at hm hsz
 have hcc:code.length ≤ cc:=(Kd.R_reads' h.code).2.1
 obtain ⟨i0,hi0,hz0⟩:∃ i0,Tryz.prog.info? 164 = some i0 ∧ i0.size = 5:=by
  obtain ⟨i0,hi,hz⟩:=Option.map_eq_some_iff.1 u2t.info
  simp only [Prod.mk.injEq] at hz
  exact ⟨i0,hi,hz.2.1⟩
 obtain ⟨Av,hAv⟩:∃ Av,Aside0 ((if cc = m then Ac else Ac.map (·.add (m * 5))) = Av):=⟨_,⟨rfl⟩⟩
 obtain ⟨dr,hdr⟩:∃ dr,Aside0 (code.drop m = dr):=⟨_,⟨rfl⟩⟩
 have hl3:dr.length = code.length - m:=by rw [← hdr.out];exact List.length_drop
 have hcut1:∀ W:World,(Instr.slice 143 (.slice Ac code.length cc) (some (.int .i64 (m:Int))) none none).run Tryz.prog W = .ok (.slice Av dr.length (cc - m)) W:=fun W => by
  have h9:=cut_from (P:=Tryz.prog) 143 164 .i64 Tryz.underlying143 hi0 5 hz0 Ac code.length cc (m:Int) (by omega) (by omega) W
  simp only [Int.toNat_natCast] at h9
  rw [hAv.out,← hl3] at h9
  exact h9
 have hcut2:∀ W:World,(Instr.slice 143 (.slice Ac code.length cc) none (some (.int .i64 (m:Int))) none).run Tryz.prog W = .ok (.slice Ac m cc) W:=fun W => by
  have h9:=cut_to (P:=Tryz.prog) 143 164 .i64 Tryz.underlying143 hi0 Ac code.length cc (m:Int) (by omega) (by omega) hcc W
  simpa using h9
 have HRM:Aside0 (u2t.ReadsM w0 W Av dr):=⟨by
  obtain ⟨A9,c9,e9,h9,h8⟩:=u2t.reads_M h.code
  injection e9 with e1 e2 e3
  subst e1 e3
  have h7:=h8.drop hm h9
  rw [hAv.out,hdr.out] at h7
  exact h7⟩
 have hlv:dr.length ≤ cc - m:=by omega
 have hlz:dr.length ≤ 1000000:=by omega
 have HB:=Aside0.mk hb
 have HS:=Aside0.mk h
 have HR:=Aside0.mk hr
 have HC:=Aside0.mk hcc
 have HM:=Aside0.mk hm
 have HL3:=Aside0.mk hl3
 clear hb hr h hAv hcc hm hl3 hi0 hz0 hsz
 go_enter Tryz.func122,Tryz.ntmps122
 go_wp2_with (go_at_call 134;(with_reducible refine (u2t.calls w0 W Av (cc - m) dr HS.out.below HRM.out hlv hlz).mono ?_);rintro e W1 ⟨v1,rfl,hR1,hB1,hN1⟩
              have hb1:=u1a HB.out hB1
              have h3:=uk hb1 1
              have f3:=uq hb1 1
              have HB1:=Aside0.mk hb1
              have HS1:=Aside0.mk (u3c.St_below HS.out hB1)
              obtain ⟨cz,hcz⟩:=HR.out.1
              have HR1:=Aside0.mk (HR.out.move ((u1a hcz hB1).trans hcz.symm))
              have HV1:=Aside0.mk hR1
              have HN1:=Aside0.mk hN1
              clear hb1 hcz hR1 hB1 hN1
              simp only [List.size_toArray,List.length_cons,List.length_nil,List.getElem?_toArray,List.getElem?_cons_zero,List.getElem?_cons_succ] at h3)
 have hmt:(code.take m).length = m:=by rw [List.length_take];have:=HM.out;omega
 have HT:=Aside0.mk (Kd.R_take HS1.out.code HM.out)
 have HN:∀ k,(Value.slice Ac m cc).ownBlock = some k → k < W.heap.size:=fun k hk => Kd.R_lt HS.out.code k (by cases Ac <;> exact hk)
 go_ret
 refine ⟨v1,.slice Ac m cc,rfl,?_,u3c.St_code HS1.out.below HS1.out.base HB1.out hlc HR1.out HT.out,fun k hk he => ?_⟩
 · rw [hdr.out]
   exact Kd.R_set HV1.out HB1.out (by intro q hq;rw [u2t.E_inst] at hq;simp at hq;omega) 1 _
 · have h8:=HN1.out k hk
   have h9:=HN k he.symm
   omega
abbrev ut.I:=S164
def ut.Eps (code:List ut.I) (i j:Nat):Prop:=∃ x,code[i]? = some x ∧ ((x.f0 = 2 ∧ (x.f3 = (j:Int) ∨ x.f4 = (j:Int))) ∨ (x.f0 = 3 ∧ x.f3 = (j:Int)))
def ut.RN (code:List ut.I):Nat → Nat → Nat → Prop
 | 0,i,j => i = j
 | n + 1,i,k => ∃ j,ut.RN code n i j ∧ ut.Eps code j k
def ut.Reach (code:List ut.I) (i j:Nat):Prop:=∃ n,ut.RN code n i j
theorem ut.Reach.refl (code:List ut.I) (i:Nat):ut.Reach code i i:=⟨0,rfl⟩
theorem ut.Reach.step {code:List ut.I} {i j k:Nat} (h:ut.Reach code i j) (e:ut.Eps code j k):ut.Reach code i k:=by
 obtain ⟨n,hn⟩:=h
 exact ⟨n + 1,j,hn,e⟩
theorem ut.Reach.trans {code:List ut.I} {i j k:Nat} (h:ut.Reach code i j) (h2:ut.Reach code j k):ut.Reach code i k:=by
 obtain ⟨n,hn⟩:=h2
 induction n generalizing k with
 | zero =>
   have:j = k:=hn
   rw [← this]
   exact h
 | succ n ih =>
   obtain ⟨m,h1,h3⟩:=hn
   exact (ih h1).step h3
structure ut.WF (code:List ut.I):Prop where
 split:∀ (i:Nat) (x:ut.I),code[i]? = some x → x.f0 = 2 → 0 ≤ x.f3 ∧ x.f3 < code.length ∧ 0 ≤ x.f4 ∧ x.f4 < code.length
 jump:∀ (i:Nat) (x:ut.I),code[i]? = some x → x.f0 = 3 → 0 ≤ x.f3 ∧ x.f3 < code.length
 rune:∀ (i:Nat) (x:ut.I),code[i]? = some x → x.f0 = 1 → i + 1 < code.length
def ut.sn (seen:List Bool) (i:Nat):Prop:=seen[i]? = some true
structure ut.Fol (code:List ut.I) (seen:List Bool) (a0:Nat) (seen':List Bool):Prop where
 len:seen'.length = seen.length
 sub:∀ i,ut.sn seen i → ut.sn seen' i
 here:ut.sn seen' a0
 origin:∀ i,ut.sn seen' i → ¬ ut.sn seen i → ut.Reach code a0 i
 closed:∀ i j,ut.sn seen' i → ¬ ut.sn seen i → ut.Eps code i j → ut.sn seen' j
structure ut.Pend (code:List ut.I) (seen:List Bool) (a0:Nat) (cur:List Bool) (a:Nat):Prop where
 len:cur.length = seen.length
 sub:∀ i,ut.sn seen i → ut.sn cur i
 start:ut.sn cur a0 ∨ a = a0
 way:ut.Reach code a0 a
 origin:∀ i,ut.sn cur i → ¬ ut.sn seen i → ut.Reach code a0 i
 closed:∀ i j,ut.sn cur i → ¬ ut.sn seen i → ut.Eps code i j → ut.sn cur j ∨ j = a
theorem ut.Pend.first (code:List ut.I) (seen:List Bool) (a0:Nat):ut.Pend code seen a0 seen a0 :=
 ⟨rfl,fun _ h => h,Or.inr rfl,ut.Reach.refl code a0,fun _ h h2 => absurd h h2,fun _ _ h h2 => absurd h h2⟩
theorem ut.Pend.done {code:List ut.I} {seen cur:List Bool} {a0 a:Nat} (h:ut.Pend code seen a0 cur a) (hs:ut.sn cur a):ut.Fol code seen a0 cur:=by
 refine ⟨h.len,h.sub,?_,h.origin,fun i j h1 h2 h3 => ?_⟩
 · rcases h.start with h9 | h9
   · exact h9
   · rw [← h9]
     exact hs
 · rcases h.closed i j h1 h2 h3 with h9 | h9
   · exact h9
   · rw [h9]
     exact hs
theorem ut.sn_set {cur:List Bool} {a:Nat} (ha:a < cur.length) (i:Nat):ut.sn (cur.set a true) i ↔ (ut.sn cur i ∨ i = a):=by
 unfold ut.sn
 by_cases h:i = a
 · subst h
   simp [ha]
 · rw [List.getElem?_set_ne (fun h9 => h h9.symm)]
   simp [h]
theorem ut.Pend.stop {code:List ut.I} {seen cur:List Bool} {a0 a:Nat} (h:ut.Pend code seen a0 cur a) (ha:a < cur.length) (hn:∀ j,¬ ut.Eps code a j):ut.Pend code seen a0 (cur.set a true) a:=by
 refine ⟨by rw [List.length_set];exact h.len,fun i hi => (ut.sn_set ha i).2 (Or.inl (h.sub i hi)),?_,h.way,fun i h1 h2 => ?_,fun i j h1 h2 h3 => ?_⟩
 · rcases h.start with h9 | h9
   · exact Or.inl ((ut.sn_set ha a0).2 (Or.inl h9))
   · exact Or.inr h9
 · rcases (ut.sn_set ha i).1 h1 with h9 | rfl
   · exact h.origin i h9 h2
   · exact h.way
 · rcases (ut.sn_set ha i).1 h1 with h9 | rfl
   · rcases h.closed i j h9 h2 h3 with h8 | h8
     · exact Or.inl ((ut.sn_set ha j).2 (Or.inl h8))
     · exact Or.inr h8
   · exact absurd h3 (hn j)
theorem ut.Pend.one {code:List ut.I} {seen cur:List Bool} {a0 a b:Nat} (h:ut.Pend code seen a0 cur a) (ha:a < cur.length) (hb:ut.Eps code a b) (hn:∀ j,ut.Eps code a j → j = b):ut.Pend code seen a0 (cur.set a true) b:=by
 refine ⟨by rw [List.length_set];exact h.len,fun i hi => (ut.sn_set ha i).2 (Or.inl (h.sub i hi)),?_,h.way.step hb,fun i h1 h2 => ?_,fun i j h1 h2 h3 => ?_⟩
 · rcases h.start with h9 | h9
   · exact Or.inl ((ut.sn_set ha a0).2 (Or.inl h9))
   · exact Or.inl ((ut.sn_set ha a0).2 (Or.inr h9.symm))
 · rcases (ut.sn_set ha i).1 h1 with h9 | rfl
   · exact h.origin i h9 h2
   · exact h.way
 · rcases (ut.sn_set ha i).1 h1 with h9 | rfl
   · rcases h.closed i j h9 h2 h3 with h8 | h8
     · exact Or.inl ((ut.sn_set ha j).2 (Or.inl h8))
     · exact Or.inl ((ut.sn_set ha j).2 (Or.inr h8))
   · exact Or.inr (hn j h3)
theorem ut.Pend.two {code:List ut.I} {seen cur cur2:List Bool} {a0 a x y:Nat} (h:ut.Pend code seen a0 cur a) (ha:a < cur.length) (hx:ut.Eps code a x) (hy:ut.Eps code a y) (hn:∀ j,ut.Eps code a j → j = x ∨ j = y) (hf:ut.Fol code (cur.set a true) x cur2):ut.Pend code seen a0 cur2 y:=by
 have hsub:∀ i,ut.sn cur i ∨ i = a → ut.sn cur2 i:=fun i hi => hf.sub i ((ut.sn_set ha i).2 hi)
 refine ⟨by rw [hf.len,List.length_set];exact h.len,fun i hi => hsub i (Or.inl (h.sub i hi)),?_,h.way.step hy,fun i h1 h2 => ?_,fun i j h1 h2 h3 => ?_⟩
 · rcases h.start with h9 | h9
   · exact Or.inl (hsub a0 (Or.inl h9))
   · exact Or.inl (hsub a0 (Or.inr h9.symm))
 · by_cases h9:ut.sn (cur.set a true) i
   · rcases (ut.sn_set ha i).1 h9 with h8 | rfl
     · exact h.origin i h8 h2
     · exact h.way
   · exact (h.way.step hx).trans (hf.origin i h1 h9)
 · by_cases h9:ut.sn (cur.set a true) i
   · rcases (ut.sn_set ha i).1 h9 with h8 | rfl
     · rcases h.closed i j h8 h2 h3 with h7 | h7
       · exact Or.inl (hsub j (Or.inl h7))
       · exact Or.inl (hsub j (Or.inr h7))
     · rcases hn j h3 with rfl | rfl
       · exact Or.inl hf.here
       · exact Or.inr rfl
   · exact Or.inl (hf.closed i j h1 h9 h3)
theorem u1n.info:(Tryz.prog.info? 164).map (fun i => (i.zero,i.size,i.bytes)) = some (some (.agg #[.int .i64 0,.slice none 0 0,.bool false,.int .i64 0,.int .i64 0]),5,56):=by kernel_rfl
structure u1n.Fr (W W':World) (g:Nat) (vc vc':Value):Prop where
 size:W.heap.size ≤ W'.heap.size
 kept:∀ k,k < W.heap.size → k ≠ g → some k ≠ vc.ownBlock → W'.heap[k]? = W.heap[k]?
 row:vc'.ownBlock = vc.ownBlock ∨ ∃ b,vc'.ownBlock = some b ∧ W.heap.size ≤ b
theorem u1n.reads_M {α:Type} {d:Kd α} {e base:Nat} {ok:Nat → Prop} {w:World} {v:Value} {xs:List α} (h:d.R e w base ok v xs) :
 ∃ A c,v = .slice A xs.length c ∧ xs.length ≤ c ∧ ReadsRow (d.M w base (fun k => ∃ q,q ∈ d.E ∧ ∃ cells,w.heap[k]? = some (.cells cells q (0,0)))) d.sz w A xs.length xs:=by
 have h2:u4b (d.M w base (fun k => ∃ q,q ∈ d.E ∧ ∃ cells,w.heap[k]? = some (.cells cells q (0,0)))) e d.sz w base v xs :=
  h.2.imp_ (fun _ _ hp => d.M_mono (fun k hk => hk.2.2.2) (d.M_bound hp))
 exact h2.reads
theorem u1n.E_inst:k164.E = [191]:=by
 simp [k164,Kd.iso,Kd.pair,Kd.slice,Kd.int,Kd.scalar,Kd.bool,k191]
set_option maxHeartbeats 2000000 in
set_option maxRecDepth 10000 in
theorem u1n.calls (w0 W:World) (g gp:Nat) (vc vl:Value) (s:uf.CS) (l:List S164) (h:uf.St w0 W g gp vc s) (hl:Kd.R k164 164 W w0.heap.size (fun _ => True) vl l) (hsz:s.code.length + l.length ≤ 1000000) :
 Calls Tryz.prog 103 #[.pointer (some ⟨g,0,none⟩),vl] W fun e W' => e = .returned (.tuple #[]) ∧ ∃ vc',uf.St w0 W' g gp vc' ⟨s.p,s.code ++ l,s.bad⟩ ∧ u1n.Fr W W' g vc vc':=by
 obtain ⟨p,code,bad⟩:=s
 obtain ⟨A,c,hb,hlc,hr⟩:=h.cells
 have h1:=uk hb 1
 have f1:=uq hb 1
 simp only [List.size_toArray,List.length_cons,List.length_nil,List.getElem?_toArray,List.getElem?_cons_zero,List.getElem?_cons_succ] at h1
 obtain ⟨Al,cl,el,hcl,hrl⟩:=u1n.reads_M hl
 subst el
 have HB:=Aside0.mk hb
 have HS:=Aside0.mk h
 have HR:=Aside0.mk hr
 have HL:=Aside0.mk hrl
 have HSZ:=Aside0.mk hsz
 clear hb hr h hl hrl hsz
 go_enter Tryz.func103,Tryz.ntmps103
 go_wp2_with ((with_reducible refine u2z (b:=.append) (xs:=#[.tmp 8,.tmp 9]) rfl ?_);at_builtin;refine Kd.R_append_rows k164 (w0:=w0) w0.heap.size rfl (.tmp 8) (.tmp 9) 143 164 (.agg #[.int .i64 0,.slice none 0 0,.bool false,.int .i64 0,.int .i64 0]) 56 rfl Tryz.underlying143 u1n.info rfl (by decide) (by omega) _ code l _ _ _ (fun _ => True) _ rfl rfl HS.out.code HL.out (fun _ _ h => h) ?hokp (fun _ _ => trivial) HS.out.below HS.out.below.size ?hbig ?_;(case hbig => have:=HSZ.out;simp only at this;omega);(case hokp => intro k hk;refine ⟨trivial,fun he => ?_⟩;obtain ⟨q,hq,cells,hc⟩:=hk;rw [u1n.E_inst] at hq;simp at hq;subst hq;exact Kd.R_ne HS.out.code hc (by decide) he.symm.symm);intro v1 W1 hR1 hB1 hg1 hat1
              have hg:W.grownBy W1 vc.ownBlock:=hg1
              have hat:v1.ownBlock = vc.ownBlock ∨ ∃ b,v1.ownBlock = some b ∧ W.heap.size ≤ b:=hat1
              have hb1:=blk_grown HB.out hg (Kd.R_ne HS.out.code HB.out (by decide))
              have h3:=uk hb1 1
              have f3:=uq hb1 1
              obtain ⟨cz,hcz⟩:=HR.out.1
              have hgp:W1.heap[gp]? = W.heap[gp]? := (blk_grown hcz hg (Kd.R_ne HS.out.code hcz (by decide))).trans hcz.symm
              obtain ⟨A1,c1,e1⟩:=Kd.R_slice hR1
              subst e1
              have HB1:=Aside0.mk hb1
              have HG:=Aside0.mk hg
              have HAT:=Aside0.mk hat
              have HGP:=Aside0.mk hgp
              have HR1:=Aside0.mk hR1
              have HBL:=Aside0.mk hB1
              clear hg1 hat1 hg hat hb1 hcz hgp hR1 hB1
              simp only [List.size_toArray,List.length_cons,List.length_nil,List.getElem?_toArray,List.getElem?_cons_zero,List.getElem?_cons_succ] at h3)
 go_end0
 refine ⟨rfl,.slice A1 (code ++ l).length c1,⟨HBL.out.setCell HS.out.base _,HS.out.base,⟨A,c,?_,hlc,?_⟩,?_⟩,⟨?_,?_,HAT.out⟩⟩
 · rw [u3v HB1.out 1 _]
   simp
 · exact HR.out.move ((Below.heap_setCell _ _ _ _ (uf.ne_gp HB.out HR.out)).trans HGP.out)
 · exact Kd.R_set HR1.out HB1.out (by intro q hq;rw [u1n.E_inst] at hq;simp at hq;omega) 1 _
 · have:=HG.out.size
   simpa [World.setCell] using this
 · intro k hk h1 h2
   exact (Below.heap_setCell _ _ _ _ h1).trans (HG.out.block k hk h2)
theorem u1n.one {w0 W:World} {vs:Value} {op x y:Int} {no:Bool} {l:List S191} (hbel:Below w0.heap.size w0 W) (hs:Kd.R k191 191 W w0.heap.size (fun _ => True) vs l) :
 Kd.R k164 164 (W.alloc (.cells #[.int .i64 op,vs,.bool no,.int .i64 x,.int .i64 y] 164)) w0.heap.size (fun _ => True) (.slice (some ⟨W.heap.size,0,none⟩) 1 1) [⟨op,l,no,x,y⟩]:=by
 have hbl:Below W.heap.size W (W.alloc (.cells #[.int .i64 op,vs,.bool no,.int .i64 x,.int .i64 y] 164)):=uj (Below.refl _ _) _
 have hs2:Kd.R k191 191 (W.alloc (.cells #[.int .i64 op,vs,.bool no,.int .i64 x,.int .i64 y] 164)) w0.heap.size (fun k => True ∧ some k ≠ (Value.slice (some ⟨W.heap.size,0,none⟩) 1 1).ownBlock) vs l :=
  Kd.R_mono (Kd.R_below (Kd.R_mono (Kd.R_bound hs) (fun k hk => hk.2.2.1)) hbl) (fun k hk => ⟨trivial,fun he => by
   have h3:k = W.heap.size:=by simpa [Value.ownBlock] using he
   omega⟩)
 refine ⟨fun _ _ => trivial,[.int .i64 op,vs,.bool no,.int .i64 x,.int .i64 y],?_,?_⟩
 · exact World.ownsRow_lit (base:=w0.heap.size) (e:=164) (size:=5) W #[.int .i64 op,vs,.bool no,.int .i64 x,.int .i64 y] 1 hbel.size (by decide) rfl
 · refine ⟨rfl,fun j q hj => ?_⟩
   cases j with
   | zero =>
     simp only [List.getElem?_cons_zero,Option.some.injEq] at hj
     subst hj
     exact k164_mkM _ _ _ ⟨op,l,no,x,y⟩ hs2
   | succ j => simp at hj
theorem u1n.put1a {w0 W:World} {g gp:Nat} {vc vs:Value} {s:uf.CS} {op x y:Int} {no:Bool} {l:List S191} {a:Nat} (ha:a = W.heap.size) (h:uf.St w0 W g gp vc s) (hs:Kd.R k191 191 W w0.heap.size (fun _ => True) vs l) (hsz:s.code.length + 1 ≤ 1000000) :
 Calls Tryz.prog 103 #[.pointer (some ⟨g,0,none⟩),.slice (some ⟨a,0,none⟩) 1 1] (W.alloc (.cells #[.int .i64 op,vs,.bool no,.int .i64 x,.int .i64 y] 164)) fun e W' => e = .returned (.tuple #[]) ∧ ∃ vc',uf.St w0 W' g gp vc' ⟨s.p,s.code ++ [⟨op,l,no,x,y⟩],s.bad⟩ ∧ u1n.Fr W W' g vc vc':=by
 subst ha
 have hbl:Below W.heap.size W (W.alloc (.cells #[.int .i64 op,vs,.bool no,.int .i64 x,.int .i64 y] 164)):=uj (Below.refl _ _) _
 have hst:uf.St w0 (W.alloc (.cells #[.int .i64 op,vs,.bool no,.int .i64 x,.int .i64 y] 164)) g gp vc s:=by
  obtain ⟨A,c,h1,h2,h3⟩:=h.cells
  obtain ⟨cz,hcz⟩:=h3.1
  exact ⟨u1c h.below h.below.size hbl,h.base,⟨A,c,u1a h1 hbl,h2,h3.move ((u1a hcz hbl).trans hcz.symm)⟩,Kd.R_below h.code hbl⟩
 refine (u1n.calls w0 _ g gp vc (.slice (some ⟨W.heap.size,0,none⟩) 1 1) s [⟨op,l,no,x,y⟩] hst (u1n.one h.below hs) hsz).mono ?_
 rintro e W' ⟨rfl,vc',h1,h2⟩
 refine ⟨rfl,vc',h1,⟨Nat.le_trans hbl.size h2.size,fun k hk h3 h4 => (h2.kept k (Nat.lt_of_lt_of_le hk hbl.size) h3 h4).trans (hbl.block k hk),?_⟩⟩
 rcases h2.row with h9 | ⟨b,h9,h8⟩
 · exact Or.inl h9
 · exact Or.inr ⟨b,h9,Nat.le_trans hbl.size h8⟩
theorem u1n.put1 {w0 W:World} {g gp:Nat} {vc vs:Value} {s:uf.CS} {op x y:Int} {no:Bool} {l:List S191} (h:uf.St w0 W g gp vc s) (hs:Kd.R k191 191 W w0.heap.size (fun _ => True) vs l) (hsz:s.code.length + 1 ≤ 1000000) :
 Calls Tryz.prog 103 #[.pointer (some ⟨g,0,none⟩),.slice (some ⟨W.heap.size,0,none⟩) 1 1] (W.alloc (.cells #[.int .i64 op,vs,.bool no,.int .i64 x,.int .i64 y] 164)) fun e W' => e = .returned (.tuple #[]) ∧ ∃ vc',uf.St w0 W' g gp vc' ⟨s.p,s.code ++ [⟨op,l,no,x,y⟩],s.bad⟩ ∧ u1n.Fr W W' g vc vc':=u1n.put1a rfl h hs hsz
theorem u1n.span1 {w0 W:World} {a:Nat} {lo hi:Int} (ha:a = W.heap.size) (hbel:Below w0.heap.size w0 W) :
 Kd.R k191 191 (W.alloc (.cells #[.int .i32 lo,.int .i32 hi] 191)) w0.heap.size (fun _ => True) (.slice (some ⟨a,0,none⟩) 1 1) [⟨lo,hi⟩]:=by
 subst ha
 refine ⟨fun _ _ => trivial,[.int .i32 lo,.int .i32 hi],?_,?_⟩
 · exact World.ownsRow_lit (base:=w0.heap.size) (e:=191) (size:=2) W #[.int .i32 lo,.int .i32 hi] 1 hbel.size (by decide) rfl
 · refine ⟨rfl,fun j q hj => ?_⟩
   cases j with
   | zero =>
     simp only [List.getElem?_cons_zero,Option.some.injEq] at hj
     subst hj
     exact k191_mkM _ _ _ ⟨lo,hi⟩
   | succ j => simp at hj
structure ue.SS where
 b:List Int
 bad:Bool
def ue.step (x c:Int):Int:=Go.bits .or .u64 (IntKind.u64.wrap (x * 256)) (IntKind.u64.wrap c)
def ue.val (l:List Int):Int:=l.foldl ue.step 0
def ue.num (n:Nat) (s:ue.SS):Int × ue.SS:=if s.bad = true ∨ s.b.length < n then (0,⟨s.b,true⟩) else (ue.val (s.b.take n),⟨s.b.drop n,false⟩)
theorem ue.get_loop (l:List Int) (hl:l.length ≤ 8):∀ (k i:Nat) (x:Int),i ≤ l.length → l.length < k + i → crc_Get.l0 k x l (l.length:Int) (i:Int) = some ((l.drop i).foldl ue.step x,true)
 | 0,i,x,h1,h2 => by omega
 | k + 1,i,x,h1,h2 => by
   unfold crc_Get.l0
   by_cases hi:i < l.length
   · rw [if_pos (by omega),if_pos (by omega),if_pos (by omega),List.drop_eq_getElem_cons hi,List.foldl_cons]
     have e1:wrap64 ((i:Int) + 1) = ((i + 1:Nat):Int):=by
      unfold wrap64
      omega
     have e2:rd l (i:Int) = l[i]'hi:=by simp [rd,hi]
     rw [e1,e2]
     exact ue.get_loop l hl k (i + 1) _ (by omega) (by omega)
   · rw [if_neg (by omega),List.drop_eq_nil_of_le (by omega)]
     rfl
theorem ue.get_is (l:List Int) (h1:1 ≤ l.length) (hl:l.length ≤ 8):crc_Get.f 11 l = some (ue.val l,true):=by
 unfold crc_Get.f
 rw [if_neg (by omega),decide_eq_false (by omega)]
 show (if (false:Bool) = true then some (0,false) else crc_Get.l0 10 0 l (l.length:Int) 0) = _
 rw [if_neg (by decide)]
 exact ue.get_loop l hl 10 0 0 (by omega) (by omega)
structure ue.St (w0 W:World) (g:Nat) (M:Nat → Prop) (s:ue.SS):Prop where
 below:Below w0.heap.size w0 W
 base:w0.heap.size ≤ g
 far:∀ k,M k → k ≠ g
 cells:∃ A c,W.heap[g]? = some (.cells #[.slice A s.b.length c,.bool s.bad] 54 (0,0)) ∧ s.b.length ≤ c ∧ Kd.F (Kd.int .u8) W M A s.b.length s.b
theorem ue.St.lt {w0 W:World} {g:Nat} {M:Nat → Prop} {s:ue.SS} (h:ue.St w0 W g M s):g < W.heap.size:=by
 obtain ⟨A,c,hb,_⟩:=h.cells
 exact u2m hb
theorem ue.St.keep {w0 W W':World} {g:Nat} {M:Nat → Prop} {s:ue.SS} (h:ue.St w0 W g M s) (hb:Below w0.heap.size w0 W') (hk:∀ k,k < W.heap.size → W'.heap[k]? = W.heap[k]?):ue.St w0 W' g M s:=by
 obtain ⟨A,c,hc,hl,hr⟩:=h.cells
 exact ⟨hb,h.base,h.far,A,c,(hk g h.lt).trans hc,hl,Kd.F_step hr (fun k _ hlt => hk k hlt)⟩
theorem ue.St.more {w0 W W':World} {g:Nat} {M:Nat → Prop} {s:ue.SS} (h:ue.St w0 W g M s) (hb:Below W.heap.size W W'):ue.St w0 W' g M s :=
 h.keep (u1c h.below h.below.size hb) (fun k hk => hb.block k hk)
theorem ue.St.drew {w0 W:World} {g:Nat} {M:Nat → Prop} {s:ue.SS} (h:ue.St w0 W g M s) (n:Nat):ue.St w0 (W.drewN n) g M s :=
 h.more (ui (Below.refl _ _) n)
theorem ue.St.look {w0 W:World} {g:Nat} {M:Nat → Prop} {s:ue.SS} (h:ue.St w0 W g M s):∃ A c,(W.cell? ⟨g,0,none⟩ = some (.slice A s.b.length c) ∧ W.cell? ⟨g,1,none⟩ = some (.bool s.bad)) ∧ (W.frozen? ⟨g,0,none⟩ = false ∧ W.frozen? ⟨g,1,none⟩ = false) ∧ s.b.length ≤ c ∧ W.heap[g]? = some (.cells #[.slice A s.b.length c,.bool s.bad] 54 (0,0)) ∧ Kd.F (Kd.int .u8) W M A s.b.length s.b:=by
 obtain ⟨A,c,hb,hl,hr⟩:=h.cells
 have h0:=uk hb 0
 have h1:=uk hb 1
 simp only [List.size_toArray,List.length_cons,List.length_nil,List.getElem?_toArray,List.getElem?_cons_zero,List.getElem?_cons_succ] at h0 h1
 exact ⟨A,c,⟨h0,h1⟩,⟨uq hb 0,uq hb 1⟩,hl,hb,hr⟩
theorem ue.St.setBad {w0 W:World} {g:Nat} {M:Nat → Prop} {s:ue.SS} (h:ue.St w0 W g M s) (b:Bool):ue.St w0 (W.setCell ⟨g,1,none⟩ (.bool b)) g M ⟨s.b,b⟩:=by
 obtain ⟨A,c,hb,hl,hr⟩:=h.cells
 exact ⟨h.below.setCell h.base _,h.base,h.far,A,c,by rw [u3v hb];rfl,hl,Kd.F_far hr h.far _⟩
theorem ue.St.setB {w0 W:World} {g:Nat} {M:Nat → Prop} {s:ue.SS} (h:ue.St w0 W g M s) (A:Option Addr) (c:Nat) (b:List Int) (hl:b.length ≤ c) (hF:Kd.F (Kd.int .u8) W M A b.length b):ue.St w0 (W.setCell ⟨g,0,none⟩ (.slice A b.length c)) g M ⟨b,s.bad⟩:=by
 obtain ⟨A0,c0,hb,_,_⟩:=h.cells
 exact ⟨h.below.setCell h.base _,h.base,h.far,A,c,by rw [u3v hb];rfl,hl,Kd.F_far hF h.far _⟩
theorem ue.get_at (A:Option Addr) (c n:Nat) (l:List Int) (W:World) (hn:l.length = n) (h1:1 ≤ n) (h8:n ≤ 8) (hC:Kd.C (Kd.int .u8) W A l.length l) (hc:n ≤ c):Calls Tryz.prog 55 #[.slice A n c] W fun e w' => e = .returned (.tuple #[.int .u64 (ue.val l),.bool true]) ∧ u1v W w':=by
 subst hn
 exact crc_Get.calls 11 A c l (ue.val l) true W hC hc (ue.get_is l h1 h8)
set_option maxHeartbeats 4000000 in
set_option maxRecDepth 10000 in
theorem ue.calls (n:Nat) (h1n:1 ≤ n) (hn8:n ≤ 8) (w0 W:World) (g:Nat) (M:Nat → Prop) (s:ue.SS) (h:ue.St w0 W g M s) :
 Calls Tryz.prog 22 #[.pointer (some ⟨g,0,none⟩),.int .i64 (n:Int)] W fun e W' => e = .returned (.int .u64 (ue.num n s).1) ∧ ue.St w0 W' g M (ue.num n s).2 ∧ u2s W W' g none:=by
 have HS:=Aside0.mk h
 obtain ⟨b,bad⟩:=s
 obtain ⟨A,c,⟨h0,h1⟩,⟨f0,f1⟩,hl,hb,hr⟩:=h.look
 simp only at h0 h1 hl hr
 have HR:=Aside0.mk hr
 have HLT:Aside0 (g < W.heap.size):=⟨h.lt⟩
 clear h hb hr
 cases bad with
 | true =>
   have HE:Aside0 (ue.num n ⟨b,true⟩ = (0,⟨b,true⟩)):=⟨if_pos (Or.inl rfl)⟩
   rw [HE.out]
   go_enter Tryz.func22,Tryz.ntmps22
   go_wp2
   go_ret
   exact ⟨rfl,HS.out.setBad true,(u2s.refl _ _ _).set_ 1 _⟩
 | false =>
   by_cases hlt:b.length < n
   · have HE:Aside0 (ue.num n ⟨b,false⟩ = (0,⟨b,true⟩)):=⟨if_pos (Or.inr hlt)⟩
     rw [HE.out]
     have hd:decide ((b.length:Int) < (n:Int)) = true:=decide_eq_true (by omega)
     have hd2:decide (b.length < n) = true:=decide_eq_true hlt
     clear hlt
     go_enter Tryz.func22,Tryz.ntmps22
     go_wp2
     go_ret
     exact ⟨rfl,HS.out.setBad true,(u2s.refl _ _ _).set_ 1 _⟩
   · have HE:Aside0 (ue.num n ⟨b,false⟩ = (ue.val (b.take n),⟨b.drop n,false⟩)):=⟨if_neg (by rintro (h9 | h9);cases h9;exact hlt h9)⟩
     rw [HE.out]
     have hd:decide ((b.length:Int) < (n:Int)) = false:=decide_eq_false (by omega)
     have hd2:decide (b.length < n) = false:=decide_eq_false hlt
     have hle:n ≤ b.length:=by omega
     obtain ⟨i0,hi0,_,hsz,_⟩:=info_parts info5
     have hcut:=cut_to (P:=Tryz.prog) 22 5 .i64 Tryz.underlying22 hi0 A b.length c (n:Int) (by omega) (by omega) hl
     have hcut2:=cut_from (P:=Tryz.prog) 22 5 .i64 Tryz.underlying22 hi0 1 hsz A b.length c (n:Int) (by omega) (by omega)
     simp only [Int.toNat_natCast] at hcut hcut2
     obtain ⟨A1,hA1⟩:∃ A1,A1 = (if c = n then A else A.map (·.add (n * 1))):=⟨_,rfl⟩
     have HF:Aside0 (Kd.F (Kd.int .u8) W M A1 (b.drop n).length (b.drop n)):=⟨by rw [hA1];exact Kd.F_cut HR.out hle hl⟩
     rw [← hA1] at hcut2
     clear hA1
     have HA:Aside0 (∀ W',u2s W W' g none → Kd.C (Kd.int .u8) W' A (b.take n).length (b.take n)):=⟨fun W' hk => Kd.C_take (Kd.F_now (Kd.F_keep HR.out hk HS.out.far)) hle⟩
     have HLY:Aside0 ((b.take n).length = n):=⟨by rw [List.length_take];omega⟩
     have HLN:=Aside0.mk hle
     have HLC:=Aside0.mk hl
     have HCN:Aside0 (n ≤ c):=⟨by omega⟩
     have HLD:Aside0 ((b.drop n).length = b.length - n):=⟨List.length_drop⟩
     go_enter Tryz.func22,Tryz.ntmps22
     go_wp2_with (go_at_call 55;(with_reducible refine (ue.get_at A c n (b.take n) _ HLY.out h1n hn8 (HA.out _ ((u2s.refl _ _ _).set_ 1 _)) HCN.out).mono ?_);rintro e w1 ⟨rfl,nd,rfl⟩)
     go_ret
     rw [← HLD.out]
     refine ⟨rfl,ue.St.setB ((HS.out.setBad false).drew nd) _ _ (b.drop n) ?_ ?_,(((u2s.refl _ _ _).set_ 1 _).trans (u2s.of_below (ui (Below.refl _ _) nd) g none) (Or.inl rfl)).set_ 0 _⟩
     · rw [HLD.out]
       have:=HLC.out
       omega
     · exact Kd.F_drewN (Kd.F_far (p:=⟨g,1,none⟩) HF.out HS.out.far _) nd
theorem ue.calls8 (w0 W:World) (g:Nat) (M:Nat → Prop) (s:ue.SS) (h:ue.St w0 W g M s):Calls Tryz.prog 22 #[.pointer (some ⟨g,0,none⟩),.int .i64 8] W fun e W' => e = .returned (.int .u64 (ue.num 8 s).1) ∧ ue.St w0 W' g M (ue.num 8 s).2 ∧ u2s W W' g none:=ue.calls 8 (by decide) (by decide) w0 W g M s h
theorem ue.calls2 (w0 W:World) (g:Nat) (M:Nat → Prop) (s:ue.SS) (h:ue.St w0 W g M s):Calls Tryz.prog 22 #[.pointer (some ⟨g,0,none⟩),.int .i64 2] W fun e W' => e = .returned (.int .u64 (ue.num 2 s).1) ∧ ue.St w0 W' g M (ue.num 2 s).2 ∧ u2s W W' g none:=ue.calls 2 (by decide) (by decide) w0 W g M s h
theorem ue.calls1 (w0 W:World) (g:Nat) (M:Nat → Prop) (s:ue.SS) (h:ue.St w0 W g M s):Calls Tryz.prog 22 #[.pointer (some ⟨g,0,none⟩),.int .i64 1] W fun e W' => e = .returned (.int .u64 (ue.num 1 s).1) ∧ ue.St w0 W' g M (ue.num 1 s).2 ∧ u2s W W' g none:=ue.calls 1 (by decide) (by decide) w0 W g M s h
theorem ue.St.move {w0 W W':World} {g:Nat} {M:Nat → Prop} {s:ue.SS} (h:ue.St w0 W g M s) (hb:Below w0.heap.size w0 W') (hg:W'.heap[g]? = W.heap[g]?) (hk:∀ k,M k → k < W.heap.size → W'.heap[k]? = W.heap[k]?):ue.St w0 W' g M s:=by
 obtain ⟨A,c,hc,hl,hr⟩:=h.cells
 exact ⟨hb,h.base,h.far,A,c,hg.trans hc,hl,Kd.F_step hr hk⟩
theorem ue.St.mono {w0 W:World} {g:Nat} {M M':Nat → Prop} {s:ue.SS} (h:ue.St w0 W g M s) (hM:∀ k,k < W.heap.size → M k → M' k) (hf:∀ k,M' k → k ≠ g):ue.St w0 W g M' s:=by
 obtain ⟨A,c,hc,hl,hr⟩:=h.cells
 exact ⟨h.below,h.base,hf,A,c,hc,hl,Kd.F_mono (Kd.F_bound hr) (fun k hk => hM k hk.2 hk.1)⟩
end Go.Proofs.YtgnehcgaplnfkaaGreatDoor.PAll
namespace Go.Proofs.YtgnehcgaplnfkaaGreatDoor.Laws
open Go.RowKit Go.Proofs.YtgnehcgaplnfkaaGreatDoor.PAll Go.Proofs.YtgnehcgaplnfkaaGreatDoorW.PrintWords Go.Proofs.YtgnehcgaplnfkaaGreatDoorW.PrintLast
set_option linter.unusedVariables false
set_option linter.unusedSimpArgs false
def u2o (y:Int):Prop:=0 ≤ y ∧ y < 256
def bvS (x c:Int):Int:=x * 256 + c
def bv (l:List Int):Int:=l.foldl bvS 0
theorem u64_of (x:Int) (h1:0 ≤ x) (h2:x < 18446744073709551616):IntKind.u64.wrap x = x:=by
 show x % _ = x
 exact Int.emod_eq_of_lt h1 h2
theorem step_is (x c:Int) (h1:0 ≤ x) (h2:x < 72057594037927936) (hc:u2o c):ue.step x c = bvS x c:=by
 unfold ue.step bvS
 rw [u64_of (x * 256) (by omega) (by omega),u64_of c hc.1 (by have:=hc.2;omega)]
 exact bits_join .u64 64 (by decide) (fun n h3 h4 => u64_of n h3 (by simpa using h4)) 8 (x * 256) c (by omega) (by omega) (by omega) hc.1 (by have:=hc.2;omega) (by have:=hc.2;omega)
theorem rstep_is (x c:Int) (h1:0 ≤ x) (h2:x < 72057594037927936) (hc:u2o c):u2a.step x c = bvS x c:=by
 unfold u2a.step bvS
 have:=hc.1
 have:=hc.2
 rw [u64_of (x * 256) (by omega) (by omega),u64_of c hc.1 (by omega),u64_of _ (by omega) (by omega)]
theorem pow7:∀ m:Nat,m ≤ 7 → (256:Int) ^ m ≤ 72057594037927936:=by decide
theorem fold_is (f:Int → Int → Int) (hf:∀ x c,0 ≤ x → x < 72057594037927936 → u2o c → f x c = bvS x c):∀ (l:List Int) (x:Int) (m:Nat),l.length + m ≤ 8 → 0 ≤ x → x < 256 ^ m → (∀ y ∈ l,u2o y) → l.foldl f x = l.foldl bvS x ∧ 0 ≤ l.foldl bvS x ∧ l.foldl bvS x < 256 ^ (m + l.length)
 | [],x,m,_,h0,h1,_ => ⟨rfl,h0,by simpa using h1⟩
 | c :: l,x,m,hl,h0,h1,hb => by
   have hc:=hb c (List.mem_cons_self ..)
   have hm:m ≤ 7:=by simp at hl;omega
   have h2:(256:Int) ^ m ≤ 72057594037927936:=pow7 m hm
   have h3:bvS x c < 256 ^ (m + 1):=by
    rw [Int.pow_succ]
    unfold bvS
    have:=hc.2
    omega
   have h4:0 ≤ bvS x c:=by
    unfold bvS
    have:=hc.1
    omega
   obtain ⟨i1,i2,i3⟩:=fold_is f hf l (bvS x c) (m + 1) (by simp at hl;omega) h4 h3 (fun y hy => hb y (List.mem_cons_of_mem _ hy))
   have h5:f x c = bvS x c:=hf x c h0 (by omega) hc
   rw [List.foldl_cons,List.foldl_cons,h5]
   exact ⟨i1,i2,by rw [List.length_cons,Nat.add_comm l.length 1,← Nat.add_assoc];exact i3⟩
theorem val_is (l:List Int) (hl:l.length ≤ 8) (hb:∀ y ∈ l,u2o y):ue.val l = bv l ∧ u2a.val l = bv l ∧ 0 ≤ bv l ∧ bv l < 256 ^ l.length:=by
 obtain ⟨h1,h2,h3⟩:=fold_is ue.step step_is l 0 0 (by omega) (by decide) (by decide) hb
 obtain ⟨h4,_,_⟩:=fold_is u2a.step rstep_is l 0 0 (by omega) (by decide) (by decide) hb
 exact ⟨h1,h4,h2,by rw [Nat.zero_add] at h3;exact h3⟩
theorem bv8_lt (l:List Int) (hl:l.length = 8) (hb:∀ y ∈ l,u2o y):0 ≤ bv l ∧ bv l < 18446744073709551616:=by
 obtain ⟨_,_,h1,h2⟩:=val_is l (by omega) hb
 rw [hl] at h2
 exact ⟨h1,by simpa using h2⟩
theorem put8_bv (l:List Int) (hl:l.length = 8) (hb:∀ y ∈ l,u2o y):u1p.put (bv l) 8 = l:=by
 match l,hl with
 | [a,b,c,d,e,f,g,h],_ =>
   have ha:=hb a (by simp)
   have hb':=hb b (by simp)
   have hc:=hb c (by simp)
   have hd:=hb d (by simp)
   have he:=hb e (by simp)
   have hf:=hb f (by simp)
   have hg:=hb g (by simp)
   have hh:=hb h (by simp)
   unfold u2o at ha hb' hc hd he hf hg hh
   rw [u1p.put8]
   simp only [bv,List.foldl,bvS]
   simp only [List.cons.injEq,and_true]
   refine ⟨?_,?_,?_,?_,?_,?_,?_,?_⟩ <;> omega
theorem put2_bv (l:List Int) (hl:l.length = 2) (hb:∀ y ∈ l,u2o y):u1p.put (bv l) 2 = l:=by
 match l,hl with
 | [a,b],_ =>
   have ha:=hb a (by simp)
   have hb':=hb b (by simp)
   unfold u2o at ha hb'
   rw [u1p.put2]
   simp only [bv,List.foldl,bvS]
   simp only [List.cons.injEq,and_true]
   refine ⟨?_,?_⟩ <;> omega
theorem u64_w64 (x:Int) (h1:0 ≤ x) (h2:x < 18446744073709551616):IntKind.u64.wrap (wrap64 x) = x:=by
 show (wrap64 x) % 18446744073709551616 = x
 unfold wrap64
 omega
theorem num_int (n:Nat) (b:List Int) (h1:n ≤ 8) (hb:∀ y ∈ b,u2o y):(u2a.int n b = none ∧ (ue.num n ⟨b,false⟩).2.bad = true) ∨ (n ≤ b.length ∧ u2a.int n b = some (wrap64 (bv (b.take n)),b.drop n) ∧ ue.num n ⟨b,false⟩ = (bv (b.take n),⟨b.drop n,false⟩)):=by
 unfold u2a.int ue.num
 by_cases hl:b.length < n
 · left
   rw [if_pos hl,if_pos (Or.inr hl)]
   exact ⟨rfl,rfl⟩
 · right
   have hv:=val_is (b.take n) (by rw [List.length_take];omega) (fun y hy => hb y (List.mem_of_mem_take hy))
   rw [if_neg hl,if_neg (by rintro (h9 | h9);cases h9;exact hl h9),hv.1,hv.2.1]
   exact ⟨by omega,rfl,rfl⟩
theorem num_bad (n:Nat) (b:List Int):ue.num n ⟨b,true⟩ = (0,⟨b,true⟩):=if_pos (Or.inl rfl)
end Go.Proofs.YtgnehcgaplnfkaaGreatDoor.Laws
namespace Go.Proofs.YtgnehcgaplnfkaaGreatDoor.PAll
open Go.RowKit Go.Proofs.YtgnehcgaplnfkaaGreatDoorW.PrintWords Go.Proofs.YtgnehcgaplnfkaaGreatDoorW.PrintLast Go.Proofs.YtgnehcgaplnfkaaGreatDoorW.PrintMore
attribute [local go_sem] u3o u3n u3x u3w u3j u3i u3p u3q
set_option linter.unusedVariables false
set_option linter.unusedSimpArgs false
abbrev ul.SS:=ue.SS
def ul.byt:ul.SS → Int × ul.SS
 | ⟨b,true⟩ => (0,⟨b,true⟩)
 | ⟨[],false⟩ => (0,⟨[],true⟩)
 | ⟨c :: r,false⟩ => (c,⟨r,false⟩)
structure ul.St (w0 W:World) (g:Nat) (M:Nat → Prop) (s:ue.SS):Prop where
 below:Below w0.heap.size w0 W
 base:w0.heap.size ≤ g
 far:∀ k,M k → k ≠ g
 cells:∃ A c,W.heap[g]? = some (.cells #[.slice A s.b.length c,.bool s.bad] 104 (0,0)) ∧ s.b.length ≤ c ∧ Kd.F (Kd.int .u8) W M A s.b.length s.b
theorem ul.St.lt {w0 W:World} {g:Nat} {M:Nat → Prop} {s:ue.SS} (h:ul.St w0 W g M s):g < W.heap.size:=by
 obtain ⟨A,c,hb,_⟩:=h.cells
 exact u2m hb
theorem ul.St.keep {w0 W W':World} {g:Nat} {M:Nat → Prop} {s:ue.SS} (h:ul.St w0 W g M s) (hb:Below w0.heap.size w0 W') (hk:∀ k,k < W.heap.size → W'.heap[k]? = W.heap[k]?):ul.St w0 W' g M s:=by
 obtain ⟨A,c,hc,hl,hr⟩:=h.cells
 exact ⟨hb,h.base,h.far,A,c,(hk g h.lt).trans hc,hl,Kd.F_step hr (fun k _ hlt => hk k hlt)⟩
theorem ul.St.more {w0 W W':World} {g:Nat} {M:Nat → Prop} {s:ue.SS} (h:ul.St w0 W g M s) (hb:Below W.heap.size W W'):ul.St w0 W' g M s :=
 h.keep (u1c h.below h.below.size hb) (fun k hk => hb.block k hk)
theorem ul.St.drew {w0 W:World} {g:Nat} {M:Nat → Prop} {s:ue.SS} (h:ul.St w0 W g M s) (n:Nat):ul.St w0 (W.drewN n) g M s :=
 h.more (ui (Below.refl _ _) n)
theorem ul.St.look {w0 W:World} {g:Nat} {M:Nat → Prop} {s:ue.SS} (h:ul.St w0 W g M s):∃ A c,(W.cell? ⟨g,0,none⟩ = some (.slice A s.b.length c) ∧ W.cell? ⟨g,1,none⟩ = some (.bool s.bad)) ∧ (W.frozen? ⟨g,0,none⟩ = false ∧ W.frozen? ⟨g,1,none⟩ = false) ∧ s.b.length ≤ c ∧ W.heap[g]? = some (.cells #[.slice A s.b.length c,.bool s.bad] 104 (0,0)) ∧ Kd.F (Kd.int .u8) W M A s.b.length s.b:=by
 obtain ⟨A,c,hb,hl,hr⟩:=h.cells
 have h0:=uk hb 0
 have h1:=uk hb 1
 simp only [List.size_toArray,List.length_cons,List.length_nil,List.getElem?_toArray,List.getElem?_cons_zero,List.getElem?_cons_succ] at h0 h1
 exact ⟨A,c,⟨h0,h1⟩,⟨uq hb 0,uq hb 1⟩,hl,hb,hr⟩
theorem ul.St.setBad {w0 W:World} {g:Nat} {M:Nat → Prop} {s:ue.SS} (h:ul.St w0 W g M s) (b:Bool):ul.St w0 (W.setCell ⟨g,1,none⟩ (.bool b)) g M ⟨s.b,b⟩:=by
 obtain ⟨A,c,hb,hl,hr⟩:=h.cells
 exact ⟨h.below.setCell h.base _,h.base,h.far,A,c,by rw [u3v hb];rfl,hl,Kd.F_far hr h.far _⟩
theorem ul.St.setB {w0 W:World} {g:Nat} {M:Nat → Prop} {s:ue.SS} (h:ul.St w0 W g M s) (A:Option Addr) (c:Nat) (b:List Int) (hl:b.length ≤ c) (hF:Kd.F (Kd.int .u8) W M A b.length b):ul.St w0 (W.setCell ⟨g,0,none⟩ (.slice A b.length c)) g M ⟨b,s.bad⟩:=by
 obtain ⟨A0,c0,hb,_,_⟩:=h.cells
 exact ⟨h.below.setCell h.base _,h.base,h.far,A,c,by rw [u3v hb];rfl,hl,Kd.F_far hF h.far _⟩
theorem ul.St.move {w0 W W':World} {g:Nat} {M:Nat → Prop} {s:ue.SS} (h:ul.St w0 W g M s) (hb:Below w0.heap.size w0 W') (hg:W'.heap[g]? = W.heap[g]?) (hk:∀ k,M k → k < W.heap.size → W'.heap[k]? = W.heap[k]?):ul.St w0 W' g M s:=by
 obtain ⟨A,c,hc,hl,hr⟩:=h.cells
 exact ⟨hb,h.base,h.far,A,c,hg.trans hc,hl,Kd.F_step hr hk⟩
theorem ul.St.mono {w0 W:World} {g:Nat} {M M':Nat → Prop} {s:ue.SS} (h:ul.St w0 W g M s) (hM:∀ k,k < W.heap.size → M k → M' k) (hf:∀ k,M' k → k ≠ g):ul.St w0 W g M' s:=by
 obtain ⟨A,c,hc,hl,hr⟩:=h.cells
 exact ⟨h.below,h.base,hf,A,c,hc,hl,Kd.F_mono (Kd.F_bound hr) (fun k hk => hM k hk.2 hk.1)⟩
set_option maxHeartbeats 4000000 in
set_option maxRecDepth 10000 in
theorem ul.calls (w0 W:World) (g:Nat) (M:Nat → Prop) (s:ul.SS) (h:ul.St w0 W g M s) (h256:∀ y ∈ s.b,0 ≤ y ∧ y < 256) :
 Calls Tryz.prog 57 #[.pointer (some ⟨g,0,none⟩)] W fun e W' => e = .returned (.int .i64 (ul.byt s).1) ∧ ul.St w0 W' g M (ul.byt s).2 ∧ u2s W W' g none:=by
 have HS:=Aside0.mk h
 obtain ⟨b,bad⟩:=s
 obtain ⟨A,c,⟨h0,h1⟩,⟨f0,f1⟩,hl,hb,hr⟩:=h.look
 simp only at h0 h1 hl hr
 have HR:=Aside0.mk hr
 have HLT:Aside0 (g < W.heap.size):=⟨h.lt⟩
 have HB:=Aside0.mk h256
 clear h hb hr h256
 cases bad with
 | true =>
   have HE:Aside0 (ul.byt ⟨b,true⟩ = (0,⟨b,true⟩)):=⟨by cases b <;> rfl⟩
   rw [HE.out]
   go_enter Tryz.func57,Tryz.ntmps57
   go_wp2
   go_ret
   exact ⟨rfl,HS.out.setBad true,(u2s.refl _ _ _).set_ 1 _⟩
 | false =>
   cases b with
   | nil =>
     have HE:Aside0 (ul.byt ⟨[],false⟩ = (0,⟨[],true⟩)):=⟨rfl⟩
     rw [HE.out]
     go_enter Tryz.func57,Tryz.ntmps57
     go_wp2
     go_ret
     exact ⟨rfl,HS.out.setBad true,(u2s.refl _ _ _).set_ 1 _⟩
   | cons x r =>
     have HE:Aside0 (ul.byt ⟨x :: r,false⟩ = (x,⟨r,false⟩)):=⟨rfl⟩
     rw [HE.out]
     obtain ⟨ae,e,hx⟩:=Kd.at_int (Kd.F_now HR.out) 0 (by omega) (by simp)
     subst e
     have hx0:W.cell? ae = some (.int .u8 x):=by simpa [rd,Addr.add] using hx
     have hne:ae.block ≠ g ∨ True:=Or.inr trivial
     have hx1:(W.setCell ⟨g,1,none⟩ (.bool false)).cell? ae = some (.int .u8 x):=by
      have h9:=Kd.at_int (Kd.F_now (Kd.F_far (p:=⟨g,1,none⟩) HR.out HS.out.far (.bool false))) 0 (by omega) (by simp)
      obtain ⟨ae2,e2,hx2⟩:=h9
      injection e2 with e2
      subst e2
      simpa [rd,Addr.add] using hx2
     have hw:wrap64 x = x:=by
      have:=HB.out x (by simp)
      unfold wrap64
      omega
     have d1:decide (((x :: r).length:Int) = 0) = false:=decide_eq_false (by simp;omega)
     have d2:(((x :: r).length:Int) == 0) = false:=beq_eq_false_iff_ne.2 (by simp;omega)
     obtain ⟨i0,hi0,_,hsz,_⟩:=info_parts info5
     have hlc:r.length + 1 ≤ c:=by simpa using hl
     have hcut2:=cut_from (P:=Tryz.prog) 22 5 .i64 Tryz.underlying22 hi0 1 hsz (some ae) (r.length + 1) c 1 (by omega) (by omega)
     simp only [Int.toNat_one] at hcut2
     obtain ⟨A1,hA1⟩:∃ A1,A1 = (if c = 1 then some ae else (some ae:Option Addr).map (·.add (1 * 1))):=⟨_,rfl⟩
     have HF:Aside0 (Kd.F (Kd.int .u8) W M A1 r.length r):=⟨by rw [hA1];exact Kd.F_cut (m:=1) HR.out (by simp) hl⟩
     rw [← hA1] at hcut2
     clear hA1 hx hne
     simp only [List.length_cons] at h0
     have HL:=Aside0.mk hlc
     clear hl d1 d2
     have d3:((r.length:Int) + 1 == 0) = false:=beq_eq_false_iff_ne.2 (by omega)
     go_enter Tryz.func57,Tryz.ntmps57
     go_wp2
     go_ret
     exact ⟨rfl,(HS.out.setBad false).setB A1 (c - 1) r (by have:=HL.out;omega) (Kd.F_far (p:=⟨g,1,none⟩) HF.out HS.out.far _),((u2s.refl _ _ _).set_ 1 _).set_ 0 _⟩
theorem ul.byt_range {s:ul.SS} (h256:∀ y ∈ s.b,0 ≤ y ∧ y < 256):(0 ≤ (ul.byt s).1 ∧ (ul.byt s).1 < 256) ∧ (∀ y ∈ (ul.byt s).2.b,0 ≤ y ∧ y < 256) ∧ (ul.byt s).2.b.length ≤ s.b.length:=by
 obtain ⟨b,bad⟩:=s
 cases bad with
 | true => cases b with
   | nil => exact ⟨⟨by decide,by decide⟩,h256,Nat.le_refl _⟩
   | cons x r => exact ⟨⟨Int.le_refl 0,(by show (0:Int) < 256;decide)⟩,h256,Nat.le_refl _⟩
 | false => cases b with
   | nil => exact ⟨⟨by decide,by decide⟩,h256,Nat.le_refl _⟩
   | cons x r => exact ⟨h256 x (by simp),fun y hy => h256 y (by simp [show y ∈ r from hy]),Nat.le_succ _⟩
abbrev ux.SS:=ue.SS
def ux.txt (s:ux.SS):ByteArray × ux.SS :=
 if (ul.byt s).2.bad = true ∨ ((ul.byt s).2.b.length:Int) < (ul.byt s).1 then (⟨#[]⟩,⟨(ul.byt s).2.b,true⟩)
 else (strOfNums ((ul.byt s).2.b.take (ul.byt s).1.toNat),⟨(ul.byt s).2.b.drop (ul.byt s).1.toNat,false⟩)
theorem ux.txt_range {s:ux.SS} (h256:∀ y ∈ s.b,0 ≤ y ∧ y < 256):(∀ y ∈ (ux.txt s).2.b,0 ≤ y ∧ y < 256) ∧ (ux.txt s).2.b.length ≤ s.b.length:=by
 obtain ⟨_,h2,h3⟩:=ul.byt_range h256
 unfold ux.txt
 split
 · exact ⟨h2,h3⟩
 · exact ⟨fun y hy => h2 y (List.mem_of_mem_drop hy),by simp only [List.length_drop];omega⟩
set_option maxHeartbeats 4000000 in
set_option maxRecDepth 10000 in
theorem ux.calls (w0 W:World) (g:Nat) (M:Nat → Prop) (s:ux.SS) (h:ul.St w0 W g M s) (h256:∀ y ∈ s.b,0 ≤ y ∧ y < 256) :
 Calls Tryz.prog 81 #[.pointer (some ⟨g,0,none⟩)] W fun e W' => e = .returned (.string (ux.txt s).1) ∧ ul.St w0 W' g M (ux.txt s).2 ∧ u2s W W' g none:=by
 have HS:=Aside0.mk h
 have HB:=Aside0.mk h256
 obtain ⟨hn,hb2,_⟩:=ul.byt_range h256
 obtain ⟨⟨n,b,bad⟩,hby⟩:∃ z:Int × ux.SS,ul.byt s = z:=⟨_,rfl⟩
 have HE:Aside0 (ux.txt s = if bad = true ∨ (b.length:Int) < n then (⟨#[]⟩,⟨b,true⟩) else (strOfNums (b.take n.toNat),⟨b.drop n.toNat,false⟩)):=⟨by unfold ux.txt;rw [hby]⟩
 rw [hby] at hn hb2
 simp only at hn hb2
 obtain ⟨m,rfl⟩:∃ m:Nat,n = (m:Int):=⟨n.toNat,by omega⟩
 have HBY:=Aside0.mk hby
 clear h h256 hb2 hby hn
 rw [HE.out]
 simp only [Int.toNat_natCast]
 cases bad with
 | true =>
   rw [if_pos (Or.inl rfl)]
   go_enter Tryz.func81,Tryz.ntmps81
   go_wp2_with (go_at_call 57;(with_reducible refine (ul.calls w0 W g M s HS.out HB.out).mono ?_);rintro e W1 ⟨rfl,hS1,hK1⟩;rw [HBY.out] at hS1 ⊢;obtain ⟨A,c,⟨h0,h1⟩,⟨f0,f1⟩,_⟩:=hS1.look;simp only at h0 h1;have HS1:=Aside0.mk hS1;have HK1:=Aside0.mk hK1;clear hS1 hK1)
   go_ret
   exact ⟨rfl,HS1.out.setBad true,HK1.out.set_ 1 _⟩
 | false =>
   by_cases hlt:b.length < m
   · rw [if_pos (Or.inr (by omega))]
     have d1:decide ((b.length:Int) < (m:Int)) = true:=decide_eq_true (by omega)
     have d2:decide (b.length < m) = true:=decide_eq_true hlt
     clear hlt
     go_enter Tryz.func81,Tryz.ntmps81
     go_wp2_with (go_at_call 57;(with_reducible refine (ul.calls w0 W g M s HS.out HB.out).mono ?_);rintro e W1 ⟨rfl,hS1,hK1⟩;rw [HBY.out] at hS1 ⊢;obtain ⟨A,c,⟨h0,h1⟩,⟨f0,f1⟩,_⟩:=hS1.look;simp only at h0 h1;have HS1:=Aside0.mk hS1;have HK1:=Aside0.mk hK1;clear hS1 hK1)
     go_ret
     exact ⟨rfl,HS1.out.setBad true,HK1.out.set_ 1 _⟩
   · rw [if_neg (by rintro (h9 | h9);cases h9;omega)]
     have d1:decide ((b.length:Int) < (m:Int)) = false:=decide_eq_false (by omega)
     have d2:decide (b.length < m) = false:=decide_eq_false hlt
     have HLE:Aside0 (m ≤ b.length):=⟨by omega⟩
     clear hlt
     go_enter Tryz.func81,Tryz.ntmps81
     go_wp2_with (go_at_call 57;(with_reducible refine (ul.calls w0 W g M s HS.out HB.out).mono ?_);rintro e W1 ⟨rfl,hS1,hK1⟩;rw [HBY.out] at hS1 ⊢;obtain ⟨A,c,⟨h0,h1⟩,⟨f0,f1⟩,hl,_,hr⟩:=hS1.look;simp only at h0 h1 hl hr;have HS1:=Aside0.mk hS1;have HK1:=Aside0.mk hK1;clear hS1 hK1;have hle:=HLE.out;obtain ⟨i0,hi0,_,hsz,_⟩:=info_parts info5;have hcut:=cut_to (P:=Tryz.prog) 22 5 .i64 Tryz.underlying22 hi0 A b.length c (m:Int) (by omega) (by omega) hl;have hcut2:=cut_from (P:=Tryz.prog) 22 5 .i64 Tryz.underlying22 hi0 1 hsz A b.length c (m:Int) (by omega) (by omega);simp only [Int.toNat_natCast] at hcut hcut2;obtain ⟨A1,hA1⟩:∃ A1,A1 = (if c = m then A else A.map (·.add (m * 1))):=⟨_,rfl⟩;have HF:Aside0 (Kd.F (Kd.int .u8) W1 M A1 (b.drop m).length (b.drop m)):=⟨by rw [hA1];exact Kd.F_cut hr hle hl⟩;rw [← hA1] at hcut2;clear hA1;have hC9:Kd.C (Kd.int .u8) (W1.setCell ⟨g,1,none⟩ (.bool false)) A m (b.take m):=(by have h9:=Kd.C_take (Kd.F_now (Kd.F_far (p:=⟨g,1,none⟩) hr HS1.out.far (.bool false))) hle;rw [show (b.take m).length = m by rw [List.length_take];omega] at h9;exact h9);have hcs:=Kd.C_string (P:=Tryz.prog) (c:=c) Tryz.underlying22 Tryz.underlying5 Tryz.underlying9 hC9;have HLC:=Aside0.mk hl;clear hC9 hr)
     go_ret
     have hld:b.length - m = (b.drop m).length:=List.length_drop.symm
     rw [hld]
     exact ⟨rfl,(HS1.out.setBad false).setB A1 (c - m) (b.drop m) (by have:=HLC.out;rw [List.length_drop];omega) (Kd.F_far (p:=⟨g,1,none⟩) HF.out HS1.out.far _),(HK1.out.set_ 1 _).set_ 0 _⟩
abbrev u1l.SS:=ue.SS
def u1l.mat (s:u1l.SS):S79 × u1l.SS:=(⟨(ul.byt s).1,(ux.txt (ul.byt s).2).1,(ux.txt (ux.txt (ul.byt s).2).2).1⟩,(ux.txt (ux.txt (ul.byt s).2).2).2)
theorem u1l.mat_range {s:u1l.SS} (h256:∀ y ∈ s.b,0 ≤ y ∧ y < 256):(∀ y ∈ (u1l.mat s).2.b,0 ≤ y ∧ y < 256) ∧ (u1l.mat s).2.b.length ≤ s.b.length:=by
 obtain ⟨_,a1,a2⟩:=ul.byt_range h256
 obtain ⟨b1,b2⟩:=ux.txt_range a1
 obtain ⟨c1,c2⟩:=ux.txt_range b1
 exact ⟨c1,Nat.le_trans c2 (Nat.le_trans b2 a2)⟩
set_option maxHeartbeats 4000000 in
set_option maxRecDepth 10000 in
theorem u1l.calls (w0 W:World) (g:Nat) (M:Nat → Prop) (s:u1l.SS) (h:ul.St w0 W g M s) (h256:∀ y ∈ s.b,0 ≤ y ∧ y < 256) :
 Calls Tryz.prog 58 #[.agg #[.pointer (some ⟨g,0,none⟩)]] W fun e W' => e = .returned (.agg #[.int .i64 (u1l.mat s).1.f0,.string (u1l.mat s).1.f1,.string (u1l.mat s).1.f2]) ∧ ul.St w0 W' g M (u1l.mat s).2 ∧ u2s W W' g none:=by
 obtain ⟨_,a1,a2⟩:=ul.byt_range h256
 obtain ⟨b1,b2⟩:=ux.txt_range a1
 obtain ⟨x1,s1,hn1⟩:∃ x1 s1,ul.byt s = (x1,s1):=⟨_,_,rfl⟩
 obtain ⟨x2,s2,hn2⟩:∃ x2 s2,ux.txt s1 = (x2,s2):=⟨_,_,rfl⟩
 obtain ⟨x3,s3,hn3⟩:∃ x3 s3,ux.txt s2 = (x3,s3):=⟨_,_,rfl⟩
 have HE:Aside0 (u1l.mat s = (⟨x1,x2,x3⟩,s3)):=⟨by unfold u1l.mat;simp only [hn1,hn2,hn3]⟩
 rw [HE.out]
 simp only [hn1] at a1 b1
 simp only [hn2] at b1
 have HM1:=Aside0.mk hn1
 have HM2:=Aside0.mk hn2
 have HM3:=Aside0.mk hn3
 have HA1:=Aside0.mk a1
 have HA2:=Aside0.mk b1
 have HA0:=Aside0.mk h256
 have HLT:=Aside0.mk h.lt
 have HS:=Aside0.mk (h.mono (M':=fun k => M k ∧ k < W.heap.size) (fun k9 h9 hk9 => ⟨hk9,h9⟩) (fun k9 hk9 => h.far _ hk9.1))
 have HFR:Aside0 (∀ k,M k → k ≠ g):=⟨h.far⟩
 clear h hn1 hn2 hn3 a1 a2 b1 b2 h256
 obtain ⟨W2,hW2⟩:∃ W2,Aside0 ((W.alloc (.cells #[.pointer (some ⟨g,0,none⟩)] 106)).alloc (.cells #[.int .i64 0,.string ⟨#[]⟩,.string ⟨#[]⟩] 79) = W2):=⟨_,⟨rfl⟩⟩
 have HBL:Aside0 (Below W.heap.size W W2.drew):=⟨by rw [← hW2.out];exact ur (uj (uj (Below.refl _ _) _) _)⟩
 have HX:Aside0 (W2.drew.heap[W.heap.size]? = some (.cells #[.pointer (some ⟨g,0,none⟩)] 106 (0,0))):=⟨by rw [← hW2.out];exact u1a (u1a (u3d W (.cells #[.pointer (some ⟨g,0,none⟩)] 106)) (uj (Below.refl _ _) _)) (ur (Below.refl _ _))⟩
 have HY:Aside0 (W2.drew.heap[W.heap.size + 1]? = some (.cells #[.int .i64 0,.string ⟨#[]⟩,.string ⟨#[]⟩] 79 (0,0))):=⟨by have h9:=u3d (W.alloc (.cells #[.pointer (some ⟨g,0,none⟩)] 106)) (.cells #[.int .i64 0,.string ⟨#[]⟩,.string ⟨#[]⟩] 79);simp only [World.size_alloc] at h9;rw [← hW2.out];exact u1a h9 (ur (Below.refl _ _))⟩
 have HS2:=Aside0.mk (HS.out.more HBL.out)
 have hc0:=uk HX.out 0
 simp only [List.size_toArray,List.length_cons,List.length_nil,List.getElem?_toArray,List.getElem?_cons_zero,List.getElem?_cons_succ] at hc0
 have HC0:=Aside0.mk hc0
 clear hc0
 go_enter Tryz.func58,Tryz.ntmps58
 go_wp2
 rw [hW2.out]
 refine startO_ (n:=11) (S:=fun w' => w'.cell? ⟨W.heap.size,0,none⟩ = some (.pointer (some ⟨g,0,none⟩))) (ds:=[10]) [(0,3),(3,6),(6,9),(1,4),(4,7),(7,10),(2,0),(5,0),(8,0),(9,12),(10,0)] (by kernel_rfl) rfl HC0.out (fun hHeld => ?_)
 iterate 3 (refine hd_ (v:=?_) (a':=?_) rfl rfl (by kernel_rfl) (Or.inl ⟨by kernel_rfl,?_⟩) ?_ ?_;rotate_left;(intro w';go_simp;with_reducible rfl);rotate_left;(simp only [Act.put,List.setIfInBounds_toArray,List.set_cons_zero,List.set_cons_succ,i64_w,i32_w];rfl))
 iterate 3 (refine hdS_ (v:=?_) (a':=?_) rfl rfl (by kernel_rfl) (Or.inl ⟨by kernel_rfl,?_⟩) hHeld ?_ ?_;rotate_left;(rintro w' hS';go_simp;(try with_reducible rfl));rotate_left;(simp only [Act.put,List.setIfInBounds_toArray,List.set_cons_zero,List.set_cons_succ,i64_w,i32_w];rfl))
 refine oneO_ (N:=some 5) rfl rfl (by kernel_rfl) (by decide) (fun K hK => ?_)
 refine goes_ Tryz.func57 (by kernel_rfl) rfl #[.pointer (some ⟨g,0,none⟩)] (by rfl) rfl rfl (by (try simp only [List.map_toArray,List.map_cons,List.map_nil]);first | done | rfl) ?_
 refine (ul.calls w0 _ g _ _ HS2.out HA0.out).mono ?_
 rintro e W3 ⟨rfl,hS3,hK3⟩
 rw [HM1.out] at hS3 ⊢
 refine ⟨_,rfl,?_⟩
 have HS3:=Aside0.mk hS3
 have HK3:Aside0 (u2s W2.drew W3 g none):=⟨hK3⟩
 have hc3:W3.cell? ⟨W.heap.size,0,none⟩ = some (.pointer (some ⟨g,0,none⟩)):=(uk ((HK3.out.2 _ (u2m HX.out) (by have:=HLT.out;omega) (by simp)).trans HX.out) 0).trans rfl
 have HC3:=Aside0.mk hc3
 clear hS3 hK3 hc3
 refine hK.out (Act.put _ (some 5) (.int .i64 x1)) _ HC3.out (fun hNext => ?_)
 simp only [Act.put,List.setIfInBounds_toArray,List.set_cons_zero,List.set_cons_succ,i64_w,i32_w]
 clear hK hHeld K
 have hHeld:=hNext
 clear hNext
 refine oneO_ (N:=some 8) rfl rfl (by kernel_rfl) (by decide) (fun K hK => ?_)
 refine goes_ Tryz.func81 (by kernel_rfl) rfl #[.pointer (some ⟨g,0,none⟩)] (by rfl) rfl rfl (by (try simp only [List.map_toArray,List.map_cons,List.map_nil]);first | done | rfl) ?_
 refine (ux.calls w0 _ g _ _ HS3.out HA1.out).mono ?_
 rintro e W4 ⟨rfl,hS4,hK4⟩
 rw [HM2.out] at hS4 ⊢
 refine ⟨_,rfl,?_⟩
 have HS4:=Aside0.mk hS4
 have HK4:Aside0 (u2s W2.drew W4 g none):=⟨HK3.out.trans hK4 (Or.inl rfl)⟩
 have hc4:W4.cell? ⟨W.heap.size,0,none⟩ = some (.pointer (some ⟨g,0,none⟩)):=(uk ((HK4.out.2 _ (u2m HX.out) (by have:=HLT.out;omega) (by simp)).trans HX.out) 0).trans rfl
 have HC4:=Aside0.mk hc4
 clear hS4 hK4 hc4
 refine hK.out (Act.put _ (some 8) (.string x2)) _ HC4.out (fun hNext => ?_)
 simp only [Act.put,List.setIfInBounds_toArray,List.set_cons_zero,List.set_cons_succ,i64_w,i32_w]
 clear hK hHeld K
 have hHeld:=hNext
 clear hNext
 refine oneO_ (N:=some 11) rfl rfl (by kernel_rfl) (by decide) (fun K hK => ?_)
 refine goes_ Tryz.func81 (by kernel_rfl) rfl #[.pointer (some ⟨g,0,none⟩)] (by rfl) rfl rfl (by (try simp only [List.map_toArray,List.map_cons,List.map_nil]);first | done | rfl) ?_
 refine (ux.calls w0 _ g _ _ HS4.out HA2.out).mono ?_
 rintro e W5 ⟨rfl,hS5,hK5⟩
 rw [HM3.out] at hS5 ⊢
 refine ⟨_,rfl,?_⟩
 have HS5:=Aside0.mk hS5
 have HK5:Aside0 (u2s W2.drew W5 g none):=⟨HK4.out.trans hK5 (Or.inl rfl)⟩
 have hc5:W5.cell? ⟨W.heap.size,0,none⟩ = some (.pointer (some ⟨g,0,none⟩)):=(uk ((HK5.out.2 _ (u2m HX.out) (by have:=HLT.out;omega) (by simp)).trans HX.out) 0).trans rfl
 have HC5:=Aside0.mk hc5
 clear hS5 hK5 hc5
 refine hK.out (Act.put _ (some 11) (.string x3)) _ HC5.out (fun hNext => ?_)
 simp only [Act.put,List.setIfInBounds_toArray,List.set_cons_zero,List.set_cons_succ,i64_w,i32_w]
 clear hK hHeld K
 have hHeld:=hNext
 clear hNext
 (refine hd_ (v:=?_) (a':=?_) rfl rfl (by kernel_rfl) (Or.inl ⟨by kernel_rfl,?_⟩) ?_ ?_;rotate_left;(intro w';go_simp;with_reducible rfl);rotate_left;(simp only [Act.put,List.setIfInBounds_toArray,List.set_cons_zero,List.set_cons_succ,i64_w,i32_w];rfl))
 refine lastO_ (N:=none) rfl rfl (by kernel_rfl) (by decide) (fun K hK => ?_)
 have HY5:Aside0 (W5.heap[W.heap.size + 1]? = some (.cells #[.int .i64 0,.string ⟨#[]⟩,.string ⟨#[]⟩] 79 (0,0))):=⟨(HK5.out.2 _ (u2m HY.out) (by have:=HLT.out;omega) (by simp)).trans HY.out⟩
 have a0:=uk HY5.out 0
 have a1:=uk HY5.out 1
 have a2:=uk HY5.out 2
 have b0:=uq HY5.out 0
 have b1:=uq HY5.out 1
 have b2:=uq HY5.out 2
 simp only [List.size_toArray,List.length_cons,List.length_nil,List.getElem?_toArray,List.getElem?_cons_zero,List.getElem?_cons_succ] at a0 a1 a2
 refine skip_ (w1:=(((W5.setCell ⟨W.heap.size + 1,0,none⟩ (.int .i64 x1)).setCell ⟨W.heap.size + 1,1,none⟩ (.string x2)).setCell ⟨W.heap.size + 1,2,none⟩ (.string x3))) (by rfl) rfl ?_ ?_
 · go_simp
   (try rfl)
 refine hK.out _ _ ?_
 clear hK K
 refine doneO_ (by kernel_rfl) ?_
 try go_wp2
 refine bodyPost_ret (v:=.agg #[.int .i64 x1,.string x2,.string x3]) (by simp [results,Tryz.results58,go_sem,a0,a1,a2]) rfl ?_
 have hlt2:=u2m HX.out
 have hst:=HK5.out.1
 have hgl:=HLT.out
 have hkeep:∀ k9,k9 ≠ W.heap.size + 1 → (((W5.setCell ⟨W.heap.size + 1,0,none⟩ (.int .i64 x1)).setCell ⟨W.heap.size + 1,1,none⟩ (.string x2)).setCell ⟨W.heap.size + 1,2,none⟩ (.string x3)).heap[k9]? = W5.heap[k9]? := fun k9 hk9 => by rw [Below.heap_setCell _ _ _ _ hk9,Below.heap_setCell _ _ _ _ hk9,Below.heap_setCell _ _ _ _ hk9]
 refine ⟨rfl,(HS5.out.move ?_ (hkeep g (by omega)) (fun k9 hk9 _ => hkeep k9 (by have:=hk9.2;omega))).mono (fun k9 _ hk9 => hk9.1) HFR.out,⟨?_,fun k9 h9 hg9 _ => ?_⟩⟩
 · have hb:w0.heap.size ≤ W.heap.size + 1:=by have:=HS.out.below.size;omega
   exact ((HS5.out.below.setCell (p:=⟨W.heap.size + 1,0,none⟩) hb _).setCell (p:=⟨W.heap.size + 1,1,none⟩) hb _).setCell (p:=⟨W.heap.size + 1,2,none⟩) hb _
 · simp only [World.setCell,Array.size_modify]
   omega
 · exact (hkeep k9 (by omega)).trans ((HK5.out.2 k9 (by omega) hg9 (by simp)).trans (HBL.out.block k9 h9))
def strings_ToValidUTF8.f:Option Int:=none
def strings_ToValidUTF8.Gd (w:World):Prop:=Lib.Utf8Tabs 1 2 w ∧ ∃ m,w.cell? ⟨0,0,none⟩ = some (.int .i64 m)
theorem strings_ToValidUTF8.Gd.tabs {w:World} (h:strings_ToValidUTF8.Gd w):Lib.Utf8Tabs 1 2 w:=h.1
theorem strings_ToValidUTF8.Gd.cell {w:World} (h:strings_ToValidUTF8.Gd w):∃ m,w.cell? ⟨0,0,none⟩ = some (.int .i64 m):=h.2
theorem strings_ToValidUTF8.Gd.below {w w':World} (h:strings_ToValidUTF8.Gd w) (hb:Below w.heap.size w w'):strings_ToValidUTF8.Gd w':=by
 refine ⟨Go.Proofs.Utf8Tabs_below h.1 hb,?_⟩
 obtain ⟨m,hm⟩:=h.2
 refine ⟨m,?_⟩
 have h0:0 < w.heap.size:=by
  rcases Nat.eq_zero_or_pos w.heap.size with h9 | h9
  · simp [World.cell?,Array.getElem?_eq_none (show w.heap.size ≤ 0 by omega)] at hm
  · exact h9
 have h1:=hb.block 0 h0
 simpa [World.cell?,h1] using hm
def strings_ToValidUTF8.badFrom (s:ByteArray):Nat → Nat → Bool
 | 0,_ => false
 | f + 1,pos => if pos < s.size then decide (Utf8.decode s pos = (65533,1)) || strings_ToValidUTF8.badFrom s f (pos + (Utf8.decode s pos).2) else false
def strings_ToValidUTF8.badW (s:ByteArray):Bool:=strings_ToValidUTF8.badFrom s s.size 0
def strings_ToValidUTF8.Has (l:List UInt8):Prop:=∃ a b,l = a ++ [239,191,189] ++ b
theorem strings_ToValidUTF8.Has.more {l:List UInt8} (h:strings_ToValidUTF8.Has l) (r:List UInt8):strings_ToValidUTF8.Has (l ++ r):=by
 obtain ⟨a,b,rfl⟩:=h
 exact ⟨a,b ++ r,by simp⟩
theorem strings_ToValidUTF8.width_le (s:ByteArray) (pos:Nat) (h:pos < s.size):pos + (Utf8.decode s pos).2 ≤ s.size:=by
 have h1:(s.data.toList.drop pos).length = s.size - pos:=by rw [List.length_drop,data_length]
 have h2:=Lib.decodeL_le (s.data.toList.drop pos) (by intro h9;rw [h9] at h1;simp at h1;omega)
 rw [Lib.decodeL_drop] at h2
 omega
def strings_ToValidUTF8.BF (b:Nat) (acc:List UInt8) (w:World):Prop:=Lib.BuilderAtF 178 5 b b (.pointer (some ⟨b,0,none⟩)) (Lib.byteCells acc) w
theorem strings_ToValidUTF8.BF.below {b:Nat} {acc:List UInt8} {w w':World} (h:strings_ToValidUTF8.BF b acc w) (hb:Below w.heap.size w w'):strings_ToValidUTF8.BF b acc w':=by
 obtain ⟨hB,v,hk,ho,hne⟩:=h
 refine ⟨hB,v,u1a hk hb,⟨ho.1,?_⟩,hne⟩
 rcases ho.2 with h9 | ⟨g,cap,cur,fz,h1,h2,h3,h4⟩
 · exact Or.inl h9
 · refine Or.inr ⟨g,cap,cur,fz,h1,h2,?_,h4⟩
   have hlt:g < w.heap.size:=by
    rcases Nat.lt_or_ge g w.heap.size with h' | h'
    · exact h'
    · simp [Array.getElem?_eq_none h'] at h3
   rw [hb.block g hlt]
   exact h3
theorem strings_ToValidUTF8.BF.is {b:Nat} {acc:List UInt8} {w:World} (h:strings_ToValidUTF8.BF b acc w):Lib.IsBuilderF 178 5 b b (Lib.byteCells acc) w:=Or.inr h
theorem strings_ToValidUTF8.BF.cap {b:Nat} {acc:List UInt8} {w:World} {v:Value} (h:strings_ToValidUTF8.BF b acc w) (hc:w.cell? ⟨b,1,none⟩ = some v) (hp:0 < v.capOf):∃ A c,w.cell? ⟨b,1,none⟩ = some (.slice A acc.length c) ∧ 0 < c:=by
 obtain ⟨hB,v1,hk,ho,hne⟩:=h
 have h8:w.cell? ⟨b,1,none⟩ = some v1:=by rw [Lib.cell_of_heap hk];rfl
 rw [h8] at hc
 injection hc with hc
 subst hc
 rcases ho.2 with ⟨h1,h2⟩ | ⟨g,cap,cur,fz,h1,h2,h3,h4⟩
 · subst h1
   exact absurd hp (by decide)
 · refine ⟨some ⟨g,0,none⟩,cap,?_,?_⟩
   · rw [h8,h1,Lib.byteCells_length]
   · rw [h1] at hp
     exact hp
theorem strings_ToValidUTF8.wstr (w:World) (b:Nat) (acc:List UInt8) (s:ByteArray) (h:strings_ToValidUTF8.BF b acc w) (hlen:acc.length + s.size ≤ 100000) (hbw:b ≤ w.heap.size) :
 Calls Tryz.prog 114 #[.pointer (some ⟨b,0,none⟩),.string s] w fun e w' => e = .returned (.tuple #[.int .i64 s.size,.nilIface]) ∧ strings_ToValidUTF8.BF b (acc ++ s.data.toList) w' ∧ Below b w w' ∧ ∀ v0,w.cell? ⟨b,1,none⟩ = some v0 → ∃ v1,w'.cell? ⟨b,1,none⟩ = some v1 ∧ v0.capOf ≤ v1.capOf:=by
 refine (Tryz.Builder_WriteString_kc b b (Lib.byteCells acc) s w (Or.inr h) (by rw [Lib.byteCells_length];omega) hbw).mono ?_
 rintro e w' ⟨rfl,⟨h1,h2,_⟩,h3⟩
 refine ⟨rfl,?_,h2,h3⟩
 unfold strings_ToValidUTF8.BF
 rw [Lib.byteCells_append]
 exact h1
theorem strings_ToValidUTF8.wbyte (w:World) (b:Nat) (acc:List UInt8) (c:UInt8) (h:strings_ToValidUTF8.BF b acc w) (hlen:acc.length + 1 ≤ 100000) (hbw:b ≤ w.heap.size) :
 Calls Tryz.prog 116 #[.pointer (some ⟨b,0,none⟩),.int .u8 c.toNat] w fun e w' => e = .returned .nilIface ∧ strings_ToValidUTF8.BF b (acc ++ [c]) w' ∧ Below b w w':=by
 refine (Tryz.Builder_WriteByte_k b b (Lib.byteCells acc) c.toNat w (Or.inr h) (by rw [Lib.byteCells_length];omega) hbw).mono ?_
 rintro e w' ⟨rfl,h1,h2,_⟩
 refine ⟨rfl,?_,h2⟩
 unfold strings_ToValidUTF8.BF
 rw [Lib.byteCells_append]
 exact h1
set_option maxHeartbeats 4000000 in
set_option maxRecDepth 10000 in
theorem strings_ToValidUTF8.calls (w:World) (s:ByteArray) (hG:strings_ToValidUTF8.Gd w) (hsz:s.size ≤ 1000) :
 Calls Tryz.prog 101 #[.string s,.string ⟨#[239,191,189]⟩] w fun e w' => ∃ r,e = .returned (.string r) ∧ Below w.heap.size w w' ∧ r.size ≤ 100000 ∧ (strings_ToValidUTF8.badW s = true → strings_ToValidUTF8.Has r.data.toList) ∧ (strings_ToValidUTF8.badW s = false → r = s):=by
 obtain ⟨Wb,hWb⟩:∃ Wb,Aside0 (w.alloc (.cells #[.pointer none,.slice none 0 0] 178) = Wb):=⟨_,⟨rfl⟩⟩
 have hbk:Aside0 (Wb.heap[w.heap.size]? = some (.cells #[.pointer none,.slice none 0 0] 178 (0,0))):=⟨by rw [← hWb.out];exact u3d _ _⟩
 have hbb:Aside0 (Below w.heap.size w Wb):=⟨by rw [← hWb.out];exact uj (Below.refl _ _) _⟩
 have hsb:Aside0 (Wb.heap.size = w.heap.size + 1):=⟨by rw [← hWb.out];simp⟩
 have HG:=Aside0.mk hG
 have HREP:Aside0 ((⟨#[239,191,189]⟩:ByteArray).size = 3):=⟨rfl⟩
 clear hG
 go_enter Tryz.func101,Tryz.ntmps101
 go_wp2
 rw [hWb.out]
 go_loopw [0] (fun v0 wr => ∃ (pos fuel:Nat),v0 = .string s ∧ wr.heap[w.heap.size + 1]? = some (.stringIter s pos) ∧ Aside0 (Below Wb.heap.size Wb wr) ∧ Aside0 (strings_ToValidUTF8.badFrom s fuel pos = strings_ToValidUTF8.badW s) ∧ s.size ≤ fuel + pos)
  (fun v0 wr => s.size - wr.iterPos (w.heap.size + 1))
 case atStart =>
  refine ⟨0,s.size,rfl,?_,⟨?_⟩,⟨rfl⟩,by omega⟩
  · have:=World.iter_heap Wb s 0
    rw [hsb.out] at this
    simpa using this
  · exact (Below.refl _ Wb).alloc (Nat.le_refl _) _
 case round =>
  obtain ⟨pos,fuel,rfl,hit,hbw,HE,hfu⟩:=hrel
  have hbk2:Aside0 (wr.heap[w.heap.size]? = some (.cells #[.pointer none,.slice none 0 0] 178 (0,0))):=⟨u1a hbk.out hbw.out⟩
  have hbw3:Aside0 (Below w.heap.size w wr):=⟨u1c hbb.out hbb.out.size hbw.out⟩
  have cb1:wr.cell? ⟨w.heap.size,1,none⟩ = some (.slice none 0 0):=by
   have h9:=uk hbk2.out 1
   simpa using h9
  by_cases hp:pos < s.size
  · have hnx:∀ ty,(Instr.next (.pointer (some ⟨w.heap.size + 1,0,none⟩)) true ty).run Tryz.prog wr = _:=fun ty => Lib.run_next_any_at wr (w.heap.size + 1) s pos ty hit hp
    have hwd:=Base.width_pos s pos hp
    have hd1:=decode_le s pos
    have hit2:=Lib.iterAt_heap wr (w.heap.size + 1) s pos (pos + (Utf8.decode s pos).2) hit
    have hbw2:=Lib.below_iterAt hbw.out (k:=w.heap.size + 1) (by rw [hsb.out];omega) s (pos + (Utf8.decode s pos).2)
    obtain ⟨f,rfl⟩:∃ f,fuel = f + 1:=⟨fuel - 1,by omega⟩
    have hst:strings_ToValidUTF8.badFrom s (f + 1) pos = (decide (Utf8.decode s pos = (65533,1)) || strings_ToValidUTF8.badFrom s f (pos + (Utf8.decode s pos).2)):=by
     conv => lhs;unfold strings_ToValidUTF8.badFrom
     rw [if_pos hp]
    rw [hst] at HE
    clear hst
    by_cases h4:(Utf8.decode s pos).1 = 65533
    · have hb4:(((Utf8.decode s pos).1:Int) == 65533) = true:=by simp;omega
      have hb5:(((Utf8.decode s pos).1:Int) != 65533) = false:=by simp;omega
      obtain ⟨Wi,hWi⟩:∃ Wi,Aside0 (wr.iterAt (w.heap.size + 1) s (pos + (Utf8.decode s pos).2) = Wi):=⟨_,⟨rfl⟩⟩
      rw [hWi.out] at hit2 hbw2
      have HIT:=Aside0.mk hit2
      have hwi:Aside0 (Below w.heap.size w Wi):=⟨u1c hbb.out hbb.out.size hbw2⟩
      have hgi:Aside0 (strings_ToValidUTF8.Gd Wi):=⟨HG.out.below hwi.out⟩
      have HBW2:=Aside0.mk hbw2
      have HDG:Aside0 (Lib.decodeGo (s.extract pos s.size) = Utf8.decode s pos):=⟨Lib.decodeGo_extract s pos hp⟩
      clear hbw2 hit2
      by_cases hw1:(Utf8.decode s pos).2 = 1
      · have hw2:(((Utf8.decode s pos).2:Int) == 1) = true:=by simp;omega
        have hbad:Aside0 (strings_ToValidUTF8.badW s = true):=⟨by
         rw [← HE.out,show Utf8.decode s pos = (65533,1) from Prod.ext h4 hw1]
         rfl⟩
        obtain ⟨t,ht⟩:∃ t,Aside0 (s.extract pos s.size = t):=⟨_,⟨rfl⟩⟩
        have HTZ:Aside0 (t.size = s.size - pos):=⟨by rw [← ht.out];simp⟩
        have htl:t.size ≤ 1000:=by have:=HTZ.out;omega
        have ht0:Aside0 (Utf8.decode t 0 = (65533,1)):=⟨by
         have h9:=HDG.out
         rw [ht.out] at h9
         unfold Lib.decodeGo at h9
         rw [if_neg (by have:=HTZ.out;omega)] at h9
         rw [h9]
         exact Prod.ext h4 hw1⟩
        clear hw1
        have hnum:Aside0 (((s.size + 3:Nat):Int) = (s.size:Int) + 3):=⟨by omega⟩
        go_wp2_with (first
         | (go_at_call 112;rw [hWi.out];(with_reducible refine (Tryz.utf8_DecodeRuneInString (s.extract pos s.size) Wi hgi.out.tabs).mono ?_);rintro e W1 ⟨rfl,hB1⟩;rw [HDG.out]
            have hbw1:Aside0 (Below w.heap.size w W1):=⟨u1c hwi.out hwi.out.size hB1⟩
            have hbk1:Aside0 (W1.heap[w.heap.size]? = some (.cells #[.pointer none,.slice none 0 0] 178 (0,0))):=⟨u1a (u1a hbk.out HBW2.out) hB1⟩
            clear hB1)
         | (go_at_call 113
            have hGr:=Tryz.Builder_Grow_fresh_cap w.heap.size w.heap.size (s.size + 3) W1 (Nat.le_refl _) hbk1.out hbw1.out.size (by omega)
            rw [hnum.out] at hGr
            (with_reducible refine hGr.mono ?_)
            clear hGr
            rintro e W2 ⟨rfl,⟨hA2,hB2⟩,p2,cap2,hc2,hn2⟩
            have hbw4:Aside0 (Below w.heap.size w W2):=⟨hbw1.out.trans hB2⟩
            have hbf2:Aside0 (strings_ToValidUTF8.BF w.heap.size [] W2):=⟨Lib.BuilderAtF.of hA2⟩
            have hcap2:Aside0 (W2.cell? ⟨w.heap.size,1,none⟩ = some (.slice p2 0 cap2) ∧ 0 < cap2):=⟨hc2,by omega⟩
            clear hA2 hB2 hc2 hn2)
         | (go_at_call 114;(with_reducible refine (strings_ToValidUTF8.wstr W2 w.heap.size [] (s.extract 0 pos) hbf2.out (by simp;omega) hbw4.out.size).mono ?_);rintro e W3 ⟨rfl,hF3,hB3,hc3⟩
            obtain ⟨v3,hv3,hle3⟩:=hc3 _ hcap2.out.1
            obtain ⟨A3,c3,hcell3,hpos3⟩:=hF3.cap hv3 (Nat.lt_of_lt_of_le hcap2.out.2 hle3)
            have hbw5:Aside0 (Below w.heap.size w W3):=⟨hbw4.out.trans hB3⟩
            have hbf3:=Aside0.mk hF3
            have hcz:((c3:Int) == 0) = false:=by simp;omega
            clear hv3 hle3 hc3 hF3 hB3)
         | (go_at_call 115;(with_reducible refine (Tryz.Builder_Cap_cell w.heap.size A3 _ c3 W3 hcell3).mono ?_);rintro e W4 ⟨rfl,hW4⟩;rw [hW4,ht.out]))
        go_loopg [10,11] t.size (fun kq v10 v11 wq => ∃ (i:Nat) (iv:Bool) (acc:List UInt8),v10 = .bool iv ∧ v11 = .int .i64 i ∧ i ≤ t.size ∧ Aside0 (strings_ToValidUTF8.BF w.heap.size acc wq) ∧ Aside0 (Below w.heap.size w wq) ∧ Aside0 ((i = 0 ∧ iv = false ∧ 0 < t.size) ∨ strings_ToValidUTF8.Has acc) ∧ t.size ≤ kq + i ∧ acc.length + 3 * (t.size - i) ≤ 5000)
        case atStart => exact ⟨0,false,_,rfl,rfl,by omega,hbf3,hbw5,⟨Or.inl ⟨rfl,rfl,by have:=HTZ.out;omega⟩⟩,by omega,by have:=HTZ.out;simp;omega⟩
        case round =>
         obtain ⟨i,iv,acc,rfl,rfl,hi,hbf,hbw6,hhas,hk,hlen⟩:=hrel
         clear h4 hb4 hb5 hw2 hcz hcell3 hpos3 cb1 hnx hit hfu hwd hd1
         by_cases hlt:i < t.size
         · obtain ⟨g1,rfl⟩:∃ g1,gk = g1 + 1:=⟨gk - 1,by omega⟩
           by_cases h128:(t[i]'hlt).toNat < 128
           · have hci:decide (((t[i]'hlt).toNat:Int) < 128) = true:=by simp;omega
             have hH:Aside0 (strings_ToValidUTF8.Has acc):=⟨by
              rcases hhas.out with ⟨h1,_,h3⟩ | h9
              · exfalso
                subst h1
                have h2:=decode_ascii t 0 h3 h128
                rw [ht0.out] at h2
                injection h2 with h2 _
                omega
              · exact h9⟩
             go_wp2_with (go_at_call 116;(with_reducible refine (strings_ToValidUTF8.wbyte wr w.heap.size acc (t[i]'hlt) hbf.out (by omega) hbw6.out.size).mono ?_);rintro e W5 ⟨rfl,hF5,hB5⟩;have HF5:=Aside0.mk hF5;have HB5:=Aside0.mk hB5;clear hF5 hB5)
             go_roundg g1
             case rel => exact ⟨i + 1,false,acc ++ [t[i]'hlt],rfl,by go_num,by omega,HF5,⟨hbw6.out.trans HB5.out⟩,⟨Or.inr (hH.out.more _)⟩,by omega,by simp only [List.length_append,List.length_cons,List.length_nil];omega⟩
             case measure => omega
           · have hci:decide (((t[i]'hlt).toNat:Int) < 128) = false:=by simp;omega
             have HGr:Aside0 (strings_ToValidUTF8.Gd wr):=⟨HG.out.below hbw6.out⟩
             have HD:Aside0 (Lib.decodeGo (t.extract i t.size) = Utf8.decode t i):=⟨Lib.decodeGo_extract t i hlt⟩
             have hwd:=Base.width_pos t i hlt
             have hwl:=strings_ToValidUTF8.width_le t i hlt
             obtain ⟨x,hx⟩:∃ x,Aside0 (Utf8.decode t i = x):=⟨_,⟨rfl⟩⟩
             rw [hx.out] at HD hwd hwl
             obtain ⟨ru,wd⟩:=x
             simp only at hwd hwl
             by_cases hw1:wd = 1
             · subst hw1
               cases iv with
               | false =>
                 go_wp2_with (first
                  | (go_at_call 112;(with_reducible refine (Tryz.utf8_DecodeRuneInString (t.extract i t.size) wr HGr.out.tabs).mono ?_);rintro e W4 ⟨rfl,hB4⟩;rw [HD.out];have HB4:=Aside0.mk hB4;clear hB4)
                  | (go_at_call 114;(with_reducible refine (strings_ToValidUTF8.wstr W4 w.heap.size acc ⟨#[239,191,189]⟩ (hbf.out.below HB4.out) (by rw [HREP.out];omega) (Nat.le_trans hbw6.out.size HB4.out.size)).mono ?_);rintro e W5 ⟨rfl,hF5,hB5,_⟩
                     have HF5:=Aside0.mk hF5
                     have HB5:Aside0 (Below w.heap.size w W5):=⟨(u1c hbw6.out hbw6.out.size HB4.out).trans hB5⟩
                     clear hF5 hB5))
                 go_roundg g1
                 case rel => exact ⟨i + 1,true,acc ++ [239,191,189],rfl,by go_num,by omega,HF5,HB5,⟨Or.inr ⟨acc,[],by simp⟩⟩,by omega,by simp only [List.length_append,List.length_cons,List.length_nil];omega⟩
                 case measure => omega
               | true =>
                 have hH:Aside0 (strings_ToValidUTF8.Has acc):=⟨by
                  rcases hhas.out with ⟨_,h1,_⟩ | h9
                  · cases h1
                  · exact h9⟩
                 go_wp2_with (go_at_call 112;(with_reducible refine (Tryz.utf8_DecodeRuneInString (t.extract i t.size) wr HGr.out.tabs).mono ?_);rintro e W4 ⟨rfl,hB4⟩;rw [HD.out];have HB4:=Aside0.mk hB4;clear hB4)
                 go_roundg g1
                 case rel => exact ⟨i + 1,true,acc,rfl,by go_num,by omega,⟨hbf.out.below HB4.out⟩,⟨u1c hbw6.out hbw6.out.size HB4.out⟩,⟨Or.inr hH.out⟩,by omega,by omega⟩
                 case measure => omega
             · have hw2:((wd:Int) == 1) = false:=by simp;omega
               have hH:Aside0 (strings_ToValidUTF8.Has acc):=⟨by
                rcases hhas.out with ⟨h1,_,h3⟩ | h9
                · exfalso
                  subst h1
                  have h2:=hx.out
                  rw [ht0.out] at h2
                  injection h2 with _ h2
                  exact hw1 h2.symm
                · exact h9⟩
               clear hw1
               have hex:Aside0 ((t.extract i (i + wd)).data.toList.length = wd):=⟨by
                rw [Base.extract_list,List.length_take,List.length_drop,data_length]
                omega⟩
               have hnum2:Aside0 ((t.extract i (i + wd)).size = wd):=⟨by rw [← data_length,hex.out]⟩
               go_wp2_with (first
                | (go_at_call 112;(with_reducible refine (Tryz.utf8_DecodeRuneInString (t.extract i t.size) wr HGr.out.tabs).mono ?_);rintro e W4 ⟨rfl,hB4⟩;rw [HD.out];have HB4:=Aside0.mk hB4;clear hB4)
                | (go_at_call 114;(with_reducible refine (strings_ToValidUTF8.wstr W4 w.heap.size acc (t.extract i (i + wd)) (hbf.out.below HB4.out) (by rw [hnum2.out];omega) (Nat.le_trans hbw6.out.size HB4.out.size)).mono ?_);rintro e W5 ⟨rfl,hF5,hB5,_⟩
                   have HF5:=Aside0.mk hF5
                   have HB5:Aside0 (Below w.heap.size w W5):=⟨(u1c hbw6.out hbw6.out.size HB4.out).trans hB5⟩
                   clear hF5 hB5))
               go_roundg g1
               case rel => exact ⟨i + wd,false,acc ++ (t.extract i (i + wd)).data.toList,rfl,by go_num,by omega,HF5,HB5,⟨Or.inr (hH.out.more _)⟩,by omega,by rw [List.length_append,hex.out];omega⟩
               case measure => omega
         · have hH:Aside0 (strings_ToValidUTF8.Has acc):=⟨by
            rcases hhas.out with ⟨h1,_,h3⟩ | h9
            · exfalso
              omega
            · exact h9⟩
           go_wp2_with (go_at_call 117;(with_reducible refine (Tryz.Builder_String_any_f w.heap.size w.heap.size acc wr hbf.out.is hbw6.out.size).mono ?_);rintro e W5 ⟨rfl,_,hB5⟩;have HB5:=Aside0.mk hB5;clear hB5)
           go_ret
           exact ⟨⟨acc.toArray⟩,rfl,hbw6.out.trans HB5.out,by simp [ByteArray.size];omega,fun _ => hH.out,fun h9 => absurd h9 (by rw [hbad.out];decide)⟩
      · have hw2:(((Utf8.decode s pos).2:Int) == 1) = false:=by simp;omega
        have Hg:Aside0 (decide (Utf8.decode s pos = (65533,1)) = false):=⟨by
         simp only [decide_eq_false_iff_not]
         intro h9
         exact hw1 (by rw [h9])⟩
        clear hw1
        go_wp2_with (go_at_call 112;rw [hWi.out];(with_reducible refine (Tryz.utf8_DecodeRuneInString (s.extract pos s.size) Wi hgi.out.tabs).mono ?_);rintro e W1 ⟨rfl,hB1⟩;rw [HDG.out];have HB1:=Aside0.mk hB1;clear hB1)
        go_roundw
        case rel =>
         refine ⟨pos + (Utf8.decode s pos).2,f,rfl,u1a HIT.out HB1.out,⟨u1c HBW2.out HBW2.out.size HB1.out⟩,⟨?_⟩,by omega⟩
         have h2:=HE.out
         rw [Hg.out,Bool.false_or] at h2
         exact h2
        case measure =>
         have e1:=u1a HIT.out HB1.out
         simp only [World.iterPos,e1,hit]
         omega
    · have hb4:(((Utf8.decode s pos).1:Int) == 65533) = false:=by simp;omega
      have hb5:(((Utf8.decode s pos).1:Int) != 65533) = true:=by simp;omega
      have Hg:Aside0 (decide (Utf8.decode s pos = (65533,1)) = false):=⟨by
       simp only [decide_eq_false_iff_not]
       intro h9
       exact h4 (by rw [h9])⟩
      go_wp2
      go_roundw
      case rel =>
       refine ⟨pos + (Utf8.decode s pos).2,f,rfl,by simpa using hit2,⟨hbw2⟩,⟨?_⟩,by omega⟩
       have h2:=HE.out
       rw [Hg.out,Bool.false_or] at h2
       exact h2
      case measure =>
       simp only [World.iterPos,hit2,hit]
       omega
  · have hnx:∀ ty,(Instr.next (.pointer (some ⟨w.heap.size + 1,0,none⟩)) true ty).run Tryz.prog wr = _:=fun ty => Lib.run_next_end_at wr (w.heap.size + 1) s pos ty hit hp
    have H1:Aside0 (strings_ToValidUTF8.badW s = false):=⟨by
     rw [← HE.out]
     cases fuel with
     | zero => rfl
     | succ f =>
       unfold strings_ToValidUTF8.badFrom
       rw [if_neg hp]⟩
    go_wp2_with (go_at_call 115;(with_reducible refine (Tryz.Builder_Cap_cell w.heap.size none 0 0 wr cb1).mono ?_);rintro e W1 ⟨rfl,hW1⟩;rw [hW1])
    go_ret
    exact ⟨s,rfl,hbw3.out,by omega,fun h9 => absurd h9 (by rw [H1.out];decide),fun _ => rfl⟩
end Go.Proofs.YtgnehcgaplnfkaaGreatDoor.PAll
namespace Go.Proofs.YtgnehcgaplnfkaaGreatDoor.PAll
open Go.RowKit Go.Proofs.YtgnehcgaplnfkaaGreatDoorW.PrintWords Go.Proofs.YtgnehcgaplnfkaaGreatDoorW.PrintLast
set_option linter.unusedVariables false
set_option linter.unusedSimpArgs false
namespace Run
end Run
end Go.Proofs.YtgnehcgaplnfkaaGreatDoor.PAll
namespace Go.Proofs.YtgnehcgaplnfkaaGreatDoor.Opens
open Go.Shelf Go.Lib
theorem u8_extra:U8Extra Tryz.prog Tryz.lays260_ren:=⟨by kernel_rfl,by kernel_rfl,by kernel_rfl,by kernel_rfl,by kernel_rfl,by kernel_rfl,by kernel_rfl⟩
theorem first_data:Rows.laid_unicode_utf8_first = firstData:=by kernel_rfl
theorem accept_data:(Rows.laid_unicode_utf8_acceptRanges:DataW Unit) = acceptData:=by kernel_rfl
theorem gd_of {W:World} {l:List (String × DataW Unit)} (hL:laidMet Tryz.prog l W) (hS:W.ShapedOpen Tryz.prog) (h1:("unicode/utf8.first",Rows.laid_unicode_utf8_first) ∈ l) (h2:("unicode/utf8.acceptRanges",Rows.laid_unicode_utf8_acceptRanges) ∈ l):PAll.strings_ToValidUTF8.Gd W:=by
 have r1:=laidMet.reads hL h1
 have r2:=laidMet.reads hL h2
 rw [first_data] at r1
 rw [accept_data] at r2
 exact ⟨utf8Tabs_of_reads Tryz.lays260 u8_extra r1 r2,Tryz.laysM144.s1_3 W hS⟩
theorem gd_of_row {W:World} {l:List (String × DataW Unit)} (hL:laidMetH Tryz.prog l W) (hp:(l.all fun x => x.2.handleName?.isNone) = true) (hS:W.ShapedOpen Tryz.prog) (h1:("unicode/utf8.first",Rows.laid_unicode_utf8_first) ∈ l) (h2:("unicode/utf8.acceptRanges",Rows.laid_unicode_utf8_acceptRanges) ∈ l):PAll.strings_ToValidUTF8.Gd W :=
 gd_of (by rw [← MakeChecks.laidMetH_plain _ _ _ hp];exact hL) hS h1 h2
end Go.Proofs.YtgnehcgaplnfkaaGreatDoor.Opens
namespace Go.Proofs.YtgnehcgaplnfkaaGreatDoor.PAll
open Go.RowKit Go.Proofs.YtgnehcgaplnfkaaGreatDoorW.PrintWords Go.Proofs.YtgnehcgaplnfkaaGreatDoorW.PrintLast
set_option linter.unusedVariables false
set_option linter.unusedSimpArgs false
namespace Utf
def VR (r:Int):Prop:=∃ c:Nat,r = (c:Int) ∧ c ≤ 1114111 ∧ (c < 55296 ∨ 57344 ≤ c)
theorem vr_decode (s:ByteArray) (pos:Nat):VR ((Utf8.decode s pos).1:Int):=by
 refine ⟨_,rfl,?_⟩
 rw [Lib.decode_N]
 rcases Lib.decodeN_shape (s.data.toList.length - pos) (s.data.toList.getD pos 0).toNat (s.data.toList.getD (pos + 1) 0).toNat (s.data.toList.getD (pos + 2) 0).toNat (s.data.toList.getD (pos + 3) 0).toNat with ⟨c,e⟩ | ⟨c1,c2,c3,cv,e⟩ | ⟨c1,c2,c3,c4,cv,cs,e⟩ | ⟨c1,c2,c3,c4,c5,cv,cw,e⟩ | e
 all_goals (rw [e];dsimp only;omega)
theorem vr_from (s:ByteArray):∀ (f pos:Nat) (r:Int),r ∈ Base.runesFrom s f pos → VR r:=by
 intro f
 induction f with
 | zero => exact fun pos r h => by simp [Base.runesFrom] at h
 | succ f ih =>
   intro pos r h
   by_cases hp:pos < s.size
   · rw [Base.runesFrom_step s f pos hp] at h
     rcases List.mem_cons.1 h with rfl | h
     · exact vr_decode s pos
     · exact ih _ _ h
   · rw [Base.runesFrom_end s _ pos hp] at h
     simp at h
theorem vr_of (s:ByteArray) (r:Int) (h:r ∈ Base.runesOf s):VR r:=vr_from s _ _ r h
theorem valid_nat {c:Nat} (h1:c ≤ 1114111) (h2:c < 55296 ∨ 57344 ≤ c):Utf8.valid (c:Int) = true:=by
 simp only [Utf8.valid,Bool.and_eq_true,Bool.or_eq_true,decide_eq_true_eq,Bool.not_eq_true',Bool.and_eq_false_iff,decide_eq_false_iff_not]
 omega
theorem enc_shape {c:Nat} (h1:c ≤ 1114111) (h2:c < 55296 ∨ 57344 ≤ c) :
 (c < 128 ∧ (Utf8.encode (c:Int)).data.toList = [UInt8.ofNat c]) ∨
 (128 ≤ c ∧ c < 2048 ∧ (Utf8.encode (c:Int)).data.toList = [UInt8.ofNat (192 + c / 64),UInt8.ofNat (128 + c % 64)]) ∨
 (2048 ≤ c ∧ c < 65536 ∧ (Utf8.encode (c:Int)).data.toList = [UInt8.ofNat (224 + c / 4096),UInt8.ofNat (128 + c / 64 % 64),UInt8.ofNat (128 + c % 64)]) ∨
 (65536 ≤ c ∧ (Utf8.encode (c:Int)).data.toList = [UInt8.ofNat (240 + c / 262144),UInt8.ofNat (128 + c / 4096 % 64),UInt8.ofNat (128 + c / 64 % 64),UInt8.ofNat (128 + c % 64)]):=by
 have hv:=valid_nat h1 h2
 unfold Utf8.encode
 simp only [hv,if_true,Int.toNat_natCast]
 by_cases c1:c < 128
 · left
   exact ⟨c1,by rw [if_pos c1]⟩
 rw [if_neg c1]
 by_cases c2:c < 2048
 · right;left
   exact ⟨by omega,c2,by rw [if_pos c2]⟩
 rw [if_neg c2]
 by_cases c3:c < 65536
 · right;right;left
   exact ⟨by omega,c3,by rw [if_pos c3]⟩
 · right;right;right
   exact ⟨by omega,by rw [if_neg c3]⟩
theorem enc_len {c:Nat} (h1:c ≤ 1114111) (h2:c < 55296 ∨ 57344 ≤ c):1 ≤ (Utf8.encode (c:Int)).size ∧ (Utf8.encode (c:Int)).size ≤ 4:=by
 rw [Base.size_list]
 rcases enc_shape h1 h2 with ⟨g1,e⟩ | ⟨g1,g2,e⟩ | ⟨g1,g2,e⟩ | ⟨g1,e⟩ <;> rw [e] <;> simp
theorem bad_step (s:ByteArray) (f pos:Nat) (h:pos < s.size):strings_ToValidUTF8.badFrom s (f + 1) pos = (decide (Utf8.decode s pos = (65533,1)) || strings_ToValidUTF8.badFrom s f (pos + (Utf8.decode s pos).2)):=by
 refine Eq.trans (b:=if pos < s.size then (decide (Utf8.decode s pos = (65533,1)) || strings_ToValidUTF8.badFrom s f (pos + (Utf8.decode s pos).2)) else false) rfl ?_
 rw [if_pos h]
theorem bad_end (s:ByteArray) (f pos:Nat) (h:¬ pos < s.size):strings_ToValidUTF8.badFrom s f pos = false:=by
 cases f with
 | zero => rfl
 | succ f =>
   refine Eq.trans (b:=if pos < s.size then (decide (Utf8.decode s pos = (65533,1)) || strings_ToValidUTF8.badFrom s f (pos + (Utf8.decode s pos).2)) else false) rfl ?_
   rw [if_neg h]
end Utf
end Go.Proofs.YtgnehcgaplnfkaaGreatDoor.PAll
namespace Go.Proofs.YtgnehcgaplnfkaaGreatDoor.Opens
open Go.Deep Go.Proofs.YtgnehcgaplnfkaaGreatDoor.PAll Go.Proofs.YtgnehcgaplnfkaaGreatDoorW.PrintWords Go.Proofs.YtgnehcgaplnfkaaGreatDoorW.PrintLast Go.ChangeShapes
open Go.Proofs.YtgnehcgaplnfkaaGreatDoor.Rows (uptoBulk uptoBulkAll uptoSmall)
set_option linter.unusedVariables false
theorem bulk_pos {H:Type} (d:DataW H):1 ≤ uptoBulk d:=by
 cases d with
 | lit l => cases l <;> simp [uptoBulk]
 | nil => simp [uptoBulk]
 | ptr d => simp [uptoBulk]
 | slice a b => simp [uptoBulk]
 | agg a => simp [uptoBulk]
 | iface t d => simp [uptoBulk]
 | map e => simp [uptoBulk]
 | held h => simp [uptoBulk]
theorem bulk_mem {H:Type}:∀ {l:List (DataW H)} {d:DataW H},d ∈ l → uptoBulk d ≤ uptoBulkAll l
 | a :: l,d,hd => by
   simp only [uptoBulkAll]
   rcases List.mem_cons.1 hd with rfl | hd
   · omega
   · have:=bulk_mem hd
     omega
theorem bulk_len {H:Type}:∀ (l:List (DataW H)),l.length ≤ uptoBulkAll l
 | [] => Nat.zero_le _
 | a :: l => by
   have h1:=bulk_pos a
   have h2:=bulk_len l
   simp only [uptoBulkAll,List.length_cons]
   omega
def OpensU {α:Type} (P:Program) (t:TypeId) (d:Kd α) (Q:α → Prop):Prop :=
 ∀ (H:Type) (enc:TypeId × Value → H) (w:World) (fuel:Nat) (cs:List Value) (x:DataW H × List MemPlace),
   DataW.trod enc P w 0 (fun _ => true) true fuel t cs = some x → uptoBulk x.1 ≤ 1048576 → ∃ v,d.K w v cs ∧ Q v
theorem opensU_string {P:Program} {t:TypeId} (ht:P.underlying t = some .string):OpensU P t Kd.string (fun s => s.size ≤ 1048576):=by
 intro H enc w fuel cs x h hz
 obtain ⟨s,rfl,rfl,hs⟩:=DataW.trod_string ht h
 refine ⟨s,rfl,?_⟩
 simp only [uptoBulk] at hz
 rw [data_length] at hz
 omega
theorem opensU_int {P:Program} {t:TypeId} {k:IntKind} (ht:P.underlying t = some (.int k)):OpensU P t (Kd.int k) (fun n => (Lit.int k n).wf = true):=by
 intro H enc w fuel cs x h _
 obtain ⟨n,rfl,_,hn⟩:=DataW.trod_int ht h
 exact ⟨n,rfl,hn⟩
theorem opensU_iso {α β:Type} {P:Program} {t:TypeId} {d:Kd α} {Q:α → Prop} (f:β → α) (g:α → β) (hg:∀ a,f (g a) = a) (hd:OpensU P t d Q):OpensU P t (Kd.iso d f) (fun x => Q (f x)):=by
 intro H enc w fuel cs x h hz
 obtain ⟨v,h1,h2⟩:=hd H enc w fuel cs x h hz
 exact ⟨g v,by show d.K w (f (g v)) cs;rw [hg];exact h1,by show Q (f (g v));rw [hg];exact h2⟩
def OpensFU {α:Type} (P:Program) (fs:List Field) (o:Nat) (d:Kd α) (Q:α → Prop):Prop :=
 ∀ (H:Type) (enc:TypeId × Value → H) (w:World) (fuel:Nat) (cs:List Value) (ys:List (DataW H × List MemPlace)),
   cs.length = o + d.sz → ys.length = fs.length → (∀ (i:Nat) (f:Field),fs[i]? = some f → DataW.trod enc P w 0 (fun _ => true) true fuel f.type ((cs.drop f.offset).take (P.cellsOf f.type)) = ys[i]?) →
   (∀ y ∈ ys,uptoBulk y.1 ≤ 1048576) → ∃ v,d.K w v (cs.drop o) ∧ Q v
theorem opensFU_one {α:Type} {P:Program} {f:Field} {o:Nat} {d:Kd α} {Q:α → Prop} (hd:OpensU P f.type d Q) (ho:f.offset = o) (hc:P.cellsOf f.type = d.sz):OpensFU P [f] o d Q:=by
 intro H enc w fuel cs ys hl hy h hz
 match ys,hy with
 | [y],_ =>
   have h0:=h 0 f rfl
   simp only [List.getElem?_cons_zero] at h0
   rw [ho,hc,List.take_of_length_le (by rw [List.length_drop];omega)] at h0
   exact hd H enc w fuel _ y h0 (hz y (List.mem_cons_self ..))
theorem opensFU_cons {α β:Type} {P:Program} {f:Field} {fs:List Field} {o:Nat} {d0:Kd α} {d1:Kd β} {Q0:α → Prop} {Q1:β → Prop} (h0:OpensU P f.type d0 Q0) (h1:OpensFU P fs (o + d0.sz) d1 Q1) (ho:f.offset = o) (hc:P.cellsOf f.type = d0.sz) :
 OpensFU P (f :: fs) o (Kd.pair d0 d1) (fun p => Q0 p.1 ∧ Q1 p.2):=by
 intro H enc w fuel cs ys hl hy h hz
 have hsz:(Kd.pair d0 d1).sz = d0.sz + d1.sz:=rfl
 rw [hsz] at hl
 match ys,hy with
 | y :: ys,hy =>
   have g0:=h 0 f rfl
   simp only [List.getElem?_cons_zero] at g0
   rw [ho,hc] at g0
   obtain ⟨v0,k0,q0⟩:=h0 H enc w fuel _ y g0 (hz y (List.mem_cons_self ..))
   obtain ⟨v1,k1,q1⟩:=h1 H enc w fuel cs ys (by omega) (by simpa using hy) (fun i g hg => by
    have:=h (i + 1) g (by simpa using hg)
    simpa using this) (fun z hz2 => hz z (List.mem_cons_of_mem _ hz2))
   refine ⟨(v0,v1),⟨_,_,?_,k0,k1⟩,q0,q1⟩
   rw [← List.drop_drop,List.take_append_drop]
theorem opensU_struct {α:Type} {P:Program} {t:TypeId} {fs:List Field} {d:Kd α} {Q:α → Prop} (ht:P.underlying t = some (.struct fs.toArray)) (h:OpensFU P fs 0 d Q) (hc:P.cellsOf t = d.sz):OpensU P t d Q:=by
 intro H enc w fuel cs x hx hz
 obtain ⟨xs,n,_,rfl,hl,hlen,hf⟩:=DataW.trod_struct ht hx
 have h2:=h H enc w n cs xs (by omega) (by simpa using hlen) (fun i f hi => hf i f (by simpa using hi)) (fun y hy => by
  have h9:=bulk_mem (List.mem_map_of_mem (f:=fun x:DataW H × List MemPlace => x.1) hy)
  simp only [uptoBulk] at hz
  omega)
 simpa using h2
theorem opensU_slice_at {α:Type} [Inhabited α] {P:Program} {t e:TypeId} {d:Kd α} {Q:α → Prop} (hd:OpensU P e d Q) (ht:P.underlying t = some (.slice e)) (hsz:P.cellsOf e = d.sz)
 {H:Type} {enc:TypeId × Value → H} {w:World} {fuel:Nat} {cs:List Value} {x:DataW H × List MemPlace} (h:DataW.trod enc P w 0 (fun _ => true) true fuel t cs = some x) (hz:uptoBulk x.1 ≤ 1048576) :
 ∃ (A:Option Addr) (c:Nat) (xs:List α),cs = [.slice A xs.length c] ∧ xs.length ≤ c ∧ c ≤ maxLen ∧ d.C w A xs.length xs ∧ xs.length ≤ 1048576 ∧ ∀ y ∈ xs,Q y:=by
 rcases open_slice ht h with ⟨rfl,_⟩ | ⟨a,len,cap,m,n,D,Pl,rfl,hb,hl,hm,hme,hx,hel⟩
 · exact ⟨none,0,[],rfl,Nat.le_refl _,Nat.zero_le _,⟨rfl,Nat.zero_le _,fun h => absurd h (by simp)⟩,by simp,fun y hy => by cases hy⟩
 · have hlm:len ≤ m:=by
    rw [hme]
    simp
    exact hl
   subst hx
   simp only [uptoBulk] at hz
   obtain ⟨V,hV⟩:=choose_lt (α:=α) (n:=len) (p:=fun i v => Q v ∧ ∃ cs',w.cells? 0 (a.add (i * P.cellsOf e)) (P.cellsOf e) = some cs' ∧ d.K w v cs') (fun i hi => by
    obtain ⟨cs',h1,h2⟩:=hel i (by omega)
    have h9:=bulk_mem (List.mem_map_of_mem (f:=D) (List.mem_range.2 hi))
    obtain ⟨v,hv,hq⟩:=hd _ _ _ _ _ _ h2 (by simp only;omega)
    exact ⟨v,hq,cs',h1,hv⟩)
   have hlen:((List.range len).map V).length = len:=by simp
   have hbulk:len ≤ 1048576:=by
    have h9:=bulk_len ((List.range len).map D)
    simp only [List.length_map,List.length_range] at h9
    omega
   refine ⟨some a,cap,(List.range len).map V,by rw [hlen],by rw [hlen];exact hl,hm,?_,by rw [hlen];exact hbulk,?_⟩
   · refine ⟨rfl,by rw [hlen];have:maxLen ≤ 9223372036854775807:=by decide
                    omega,fun _ => ⟨a,rfl,fun j p hp => ?_⟩⟩
     have hj:j < len:=by
      have:=(List.getElem?_eq_some_iff.1 hp).1
      omega
     simp [hj] at hp
     subst hp
     obtain ⟨_,cs',h1,h2⟩:=hV j hj
     obtain ⟨_,hl',hc⟩:=World.cells?_some h1
     refine ⟨cs',by rw [hl',hsz],h2,fun i u hu => ?_⟩
     have hi:i < P.cellsOf e:=by
      have:=(List.getElem?_eq_some_iff.1 hu).1
      omega
     have e2:=hc i hi
     rw [hu] at e2
     rw [← e2,← hsz,Go.Deep.add_add]
   · intro y hy
     simp only [List.mem_map,List.mem_range] at hy
     obtain ⟨i,hi,rfl⟩:=hy
     exact (hV i hi).1
theorem opensU_slice {α:Type} [Inhabited α] {P:Program} {t e:TypeId} {d:Kd α} {Q:α → Prop} (n:Nat) (hd:OpensU P e d Q) (ht:P.underlying t = some (.slice e)) (hsz:P.cellsOf e = d.sz) :
 OpensU P t (Kd.slice n d) (fun xs => xs.length ≤ 1048576 ∧ ∀ y ∈ xs,Q y):=by
 intro H enc w fuel cs x h hz
 obtain ⟨A,c,xs,rfl,h1,h2,h3,h4,h5⟩:=opensU_slice_at hd ht hsz h hz
 exact ⟨xs,⟨A,c,rfl,h1,h3⟩,h4,h5⟩
theorem openU_struct_arg {α:Type} {P:Program} {t:TypeId} {fs:Array Field} {d:Kd α} {Q:α → Prop} (hd:OpensU P t d Q) (ht:P.underlying t = some (.struct fs))
 {H:Type} {enc:TypeId × Value → H} {W w:World} {r:Reach} {b0:Nat} {v:Value} {x:DataW H} {p:List MemPlace} (hz:uptoBulk x ≤ 1048576) (hval:Value.okWide P W r b0 t v) (h:DataW.Trod enc P w 0 (fun _ => true) true t v x p) :
 ∃ (cs:Array Value) (y:α),v = .agg cs ∧ d.K w y cs.toList ∧ Q y:=by
 obtain ⟨cs,rfl,_⟩:=Go.WideShapes.okWide_struct ht hval
 obtain ⟨fuel,h⟩:=h
 obtain ⟨y,h1,h2⟩:=hd H enc w fuel _ _ h hz
 exact ⟨cs,y,rfl,h1,h2⟩
theorem small_two {H:Type} {a b:DataW H} (h:uptoSmall H [a,b] = true):uptoBulk a ≤ 1048576 ∧ uptoBulk b ≤ 1048576:=by
 have h9:uptoBulkAll [a,b] ≤ 1048576:=of_decide_eq_true h
 simp only [uptoBulkAll] at h9
 omega
theorem openU_matcher:OpensU Tryz.prog 79 k79 (fun x => (Lit.int .i64 x.f0).wf = true ∧ x.f1.size ≤ 1048576 ∧ x.f2.size ≤ 1048576) :=
 opensU_iso (d:=Kd.pair (Kd.int .i64) (Kd.pair Kd.string Kd.string)) (fun x:S79 => (x.f0,x.f1,x.f2)) (fun p => ⟨p.1,p.2.1,p.2.2⟩) (fun _ => rfl)
  (opensU_struct Tryz.underlying79 (opensFU_cons (opensU_int Tryz.underlying3) (opensFU_cons (opensU_string Tryz.underlying9) (opensFU_one (opensU_string Tryz.underlying9) rfl (by kernel_rfl)) rfl (by kernel_rfl)) rfl (by kernel_rfl)) (by kernel_rfl))
theorem openU_label:OpensU Tryz.prog 111 k111 (fun x => x.f0.size ≤ 1048576 ∧ x.f1.size ≤ 1048576) :=
 opensU_iso (d:=Kd.pair Kd.string Kd.string) (fun x:S111 => (x.f0,x.f1)) (fun p => ⟨p.1,p.2⟩) (fun _ => rfl)
  (opensU_struct Tryz.underlying111 (opensFU_cons (opensU_string Tryz.underlying9) (opensFU_one (opensU_string Tryz.underlying9) rfl (by kernel_rfl)) rfl (by kernel_rfl)) (by kernel_rfl))
theorem returns_upto_shaped {f:FuncId} {fn:Func} {H:Type} {enc:TypeId × Value → H} {a:Assume} {C:Checked} {os:Os} {s:OpenSpec} {k:(H:Type) → List (DataW H) → Bool} (hk:s.cond = some k) {F:Stop.Interp} {conds:List PathCond} {apart fresh handsOn again:Bool} {X:World → Array Value → Prop}
 (hX:∀ (w w':World) (args:Array Value),w.heap = w'.heap → X w args → X w' args)
 (own:ownKnob C.prog.godebug = none) (started:os.Started) (noInit:C.prog.inits.idxOf? f = none) (hfn:C.prog.funcs[f]? = some fn)
 (witness:∃ (w:World) (tape:Tape) (i:Input),w.os = os ∧ (w.forCall tape i).Shaped C.prog ∧ i.vars = [] ∧ Input.okWide C.prog (w.forCall tape i) .any w.heap.size f i ∧
   ((s.pre enc C.prog fn conds apart (w.forCall tape i).memory i.args ∧ X (w.forCall tape i).memory i.args) ∧ sizedMet enc C.prog fn s apart (w.forCall tape i).memory i.args) ∧ a.holds C.prog (lone (Frame.enter C.prog f i.args .normal) [] (w.forCall tape i)))
 (contract:∀ (W:World) (base:Nat) (args:Array Value) (ds gs:List (DataW H)) (before:List MemPlace),
   (∀ (j:Nat) t v,fn.params[j]? = some t → args[j]? = some v → Value.okWide C.prog W .any base t v) →
   DataW.Whole enc C.prog fn.params.toList s.vars apart W args.toList ds gs before → k H (ds ++ gs) = true → X W args → W.ShapedOpen C.prog →
   Calls C.prog f args W fun e W' => ∃ v,e = .returned v ∧ (s.at F).post enc C.prog fn apart fresh handsOn again W args v W') :
 ReturnsInHanded a C os f .any (fun w args => (s.pre enc C.prog fn conds apart w args ∧ X w args) ∧ sizedMet enc C.prog fn s apart w args) ((s.at F).post enc C.prog fn apart fresh handsOn again):=by
 refine returnsInHanded_of_calls own started noInit witness ?_
 intro w tape i _ hsh _ hok hpre _
 obtain ⟨_,_,_,fn',hfn',_,_,_,_,hval⟩:=hok
 have e:fn' = fn:=Option.some.inj (hfn'.symm.trans hfn)
 subst e
 obtain ⟨⟨hp,hx⟩,_⟩:=hpre
 obtain ⟨ds,gs,before,hw,_,hkk⟩:=(OpenSpec.pre_some hk conds apart _ _).1 hp
 have hw':=DataW.Whole.of_heap (w':=w.forCall tape i) (by rfl) hw
 refine (contract (w.forCall tape i) w.heap.size i.args ds gs before hval hw' hkk (hX _ _ _ (by rfl) hx) hsh).mono fun e W' ⟨v,he,hp⟩ => ?_
 subst he
 exact ChangeSpec.post_blind hp
theorem witness_upto {H:Type} {enc:TypeId × Value → H} {C:Checked} {os:Os} {f:FuncId} {fn:Func} {s:OpenSpec} {k:(H:Type) → List (DataW H) → Bool} (hk:s.cond = some k) {conds:List PathCond} {apart:Bool} {X:World → Array Value → Prop} (modest:Bool) (w0:World) (args:Array Value) (fuel:Nat) (hos:w0.os = os)
 (hsh:(w0.forCall (fun _ _ => 0) ⟨#[],args,[]⟩).Shaped C.prog)
 (hok:Input.okWideB C.prog (w0.forCall (fun _ _ => 0) ⟨#[],args,[]⟩) f ⟨#[],args,[]⟩ = true)
 {x:List (DataW H) × List (DataW H) × List MemPlace} (hx0:DataW.whole enc C.prog (w0.forCall (fun _ _ => 0) ⟨#[],args,[]⟩).memory fn.params.toList s.vars apart args.toList fuel = some x)
 (hconds:conds.all (PathCond.test C.prog ⟨fn.params.toList,x.1,s.bare.plain.varTypes C.prog,x.2.1⟩) = true) (hkk:k H (x.1 ++ x.2.1) = true)
 (hsz:s.bare.sizedB enc C.prog fn apart (w0.forCall (fun _ _ => 0) ⟨#[],args,[]⟩).memory args fuel = true)
 (hx:X (w0.forCall (fun _ _ => 0) ⟨#[],args,[]⟩).memory args) :
 ∃ (w:World) (tape:Tape) (i:Input),w.os = os ∧ (w.forCall tape i).Shaped C.prog ∧ i.vars = [] ∧ Input.okWide C.prog (w.forCall tape i) .any w.heap.size f i ∧
   ((s.pre enc C.prog fn conds apart (w.forCall tape i).memory i.args ∧ X (w.forCall tape i).memory i.args) ∧ sizedMet enc C.prog fn s apart (w.forCall tape i).memory i.args) ∧ ({ modest:=modest }:Assume).holds C.prog (lone (Frame.enter C.prog f i.args .normal) [] (w.forCall tape i)) :=
 ⟨w0,fun _ _ => 0,⟨#[],args,[]⟩,hos,hsh,(Input.okWide_of_okWideB (base:=0) hok).1,(Input.okWide_of_okWideB hok).2,
   ⟨⟨(OpenSpec.pre_some hk conds apart _ _).2 ⟨x.1,x.2.1,x.2.2,DataW.Whole_of_whole hx0,hconds,hkk⟩,hx⟩,sizedMet_of_sizedB hsz⟩,by
   simp only [Assume.holds]
   exact ⟨by simp,by simp,fun _ => Modest.zero,by simp,by simp⟩⟩
end Go.Proofs.YtgnehcgaplnfkaaGreatDoor.Opens
