/- Texts of this seat, joined in the order in which they build. -/
import Derived.Test.YtmcpeifhapekoaaGreatDoorBk1
import Derived.Deep.Slices
import Derived.ChangeSame
import Derived.WideShapes
import Derived.OpenShut
import Derived.SizedLaws
import Derived.Test.YtmcpeifhapekoaaGreatDoorRows
import Derived.Lib.LaidU8
import Derived.Lib.LaidTab
import Derived.LaidMore
import Derived.MakeChecks
import Derived.Handed
import Derived.Laws.Cover4
import Derived.Lib.MapLaws
namespace Go.Proofs.YtmcpeifhapekoaaGreatDoor.PAll
open Go.RowKit Go.Proofs.YtmcpeifhapekoaaGreatDoorW.PrintWords Go.Proofs.YtmcpeifhapekoaaGreatDoorW.PrintLast Go.Proofs.YtmcpeifhapekoaaGreatDoorW.PrintMore
attribute [local go_sem] max2_int min2_int max_two min_two max_three min_three max_four min_four
set_option linter.unusedVariables false
set_option linter.unusedSimpArgs false
theorem api_Label_65.infoM:(Tryz.prog.info? 66).map (fun i => (i.zero,i.size,i.bytes)) = some (some (.agg #[.string ⟨#[]⟩,.string ⟨#[]⟩]),2,32):=by kernel_rfl
def api_Label_65.f (l0:List S66):Option (List S66):=if l0.length * 32 ≤ 140737488355328 then some l0 else none
set_option maxHeartbeats 1000000 in
theorem api_Label_65.calls (A0:Option Addr) (c0:Nat) (l0 r:List S66) (w:World) (hr0:Kd.C k66 w A0 l0.length l0) (hc0:l0.length ≤ c0) (h:api_Label_65.f l0 = some r) :
 Calls Tryz.prog 65 #[.slice A0 l0.length c0] w fun e w' => ∃ v0_:Value,e = .returned (v0_) ∧ Kd.R k66 66 w' w.heap.size (fun _ => True) v0_ r ∧ Below w.heap.size w w':=by
 unfold api_Label_65.f at h
 by_cases hm:l0.length * 32 ≤ 140737488355328
 · rw [if_pos hm] at h
   obtain rfl:=Option.some.inj h
   clear h
   have HR:=Aside0.mk hr0
   clear hr0
   cases hA:A0 with
   | none =>
     rw [hA] at HR
     have h0:l0 = []:=by
      cases l0 with
      | nil => rfl
      | cons x q => obtain ⟨ad,e,_⟩:=HR.out.2.2 (by simp);cases e
     subst h0
     have hnil:∀ W,(binOp .eql 50 (.slice none 0 c0) (.slice none 0 0)).run Tryz.prog W = .ok (.bool true) W:=fun W => Lib.run_eql_slice_nil W 50 66 none 0 c0 0 0 Tryz.underlying50
     show Calls Tryz.prog 65 #[.slice none 0 c0] w _
     go_enter Tryz.func65,Tryz.ntmps65
     go_wp2
     go_ret
     exact ⟨_,rfl,Kd.R_nil _ _ _ _ _,Below.refl _ _⟩
   | some ad =>
     rw [hA] at HR
     have hnil:∀ W,(binOp .eql 50 (.slice (some ad) l0.length c0) (.slice none 0 0)).run Tryz.prog W = .ok (.bool false) W:=fun W => Lib.run_eql_slice_nil W 50 66 (some ad) l0.length c0 0 0 Tryz.underlying50
     go_enter Tryz.func65,Tryz.ntmps65
     go_wp2_with (first
      | ((with_reducible refine u2u (N:=5) rfl ?_);refine Kd.R_lit k66 (w0:=w) w.heap.size 66 ?hg (N:=5) ?hd (xs:=([]:List S66)) (inner:=[]) (ok:=fun _ => True) (okp:=fun _ => True) ?hr ?hp (fun _ hk => hk) trivial (Below.refl _ _) (Nat.le_refl _) (by simp) ?_;(case hd => rfl);(case hg => rfl);(case hr => first | (go_simp;done) | (go_simp;rfl));(case hp => exact (Reps.none _ _));intro v1 w3 ho hb hg_ hnew_;have HO:=Aside0.mk ho;have HB:=Aside0.mk hb;clear ho hb hg_ hnew_)
      | ((with_reducible refine u3n (b:=.append) (xs:=#[.tmp 5,.tmp 6]) rfl ?_);at_builtin;refine Kd.R_append_rows k66 (w0:=w) w.heap.size rfl (.tmp 5) (.tmp 6) 50 66 (.agg #[(.string ⟨#[]⟩),(.string ⟨#[]⟩)]) 32 rfl Tryz.underlying50 api_Label_65.infoM rfl (by decide) (by omega) _ [] l0 _ _ _ (fun _ => True) (fun _ => False) rfl rfl HO.out (Kd.C_below HR.out HB.out) (fun _ _ h => h) (fun _ h => h.elim) (fun _ _ => trivial) HB.out HB.out.size (by simpa using hm) ?_;intro v4 w5 ho4 hb4 _ _;have HO4:=Aside0.mk ho4;have HB4:=Aside0.mk hb4;clear ho4 hb4))
     go_ret
     exact ⟨_,rfl,HO4.out,HB4.out⟩
 · rw [if_neg hm] at h
   exact absurd h (by simp)
def u2i.l0:Nat → ByteArray → Int → Option (Bool)
 | 0,_,_ => none
 | k + 1,x0,x3 => if x3 < (x0.size:Int) then (if 0 ≤ x3 then (if (bt x0 x3) < 32 then (some false) else (u2i.l0 k x0 (wrap64 (x3 + 1)))) else (none)) else (some true)
def u2i.f (k:Nat) (a0:ByteArray):Option (Bool):=u2i.l0 k a0 0
set_option maxHeartbeats 8000000 in
set_option maxRecDepth 100000 in
theorem u2i.calls (k:Nat) (a0:ByteArray) (r:Bool) (w:World) (h:u2i.f k a0 = some r) :
 Calls Tryz.prog 39 #[.string a0] w fun e w' => e = .returned (.bool r) ∧ u1b w w':=by
 have H:(u2i.l0 k a0 0) = some r:=h
 clear h
 have H':=Aside0.mk H
 clear H
 go_enter Tryz.func39,Tryz.ntmps39
 go_wp2
 go_loopg [3] k (fun kq v3 w' => ∃ (x3_1:Int),v3 = .int .i64 x3_1 ∧ Aside0 (u2i.l0 kq a0 x3_1 = some r) ∧ Aside0 (kq ≤ k) ∧ u1b w w')
 case atStart => exact ⟨(0),(by first | rfl | (simp;done) | (simp [*];done)),H',⟨Nat.le_refl _⟩,by repeat (first | exact u1b.refl _ | apply u1b.step)⟩
 case round =>
  clear H'
  obtain ⟨x3_1,rfl,HA,HK1,⟨m1,rfl⟩⟩:=hrel
  cases gk with
  | zero => exact absurd HA.out (by simp [u2i.l0])
  | succ k1 =>
    have H:=HA.out
    clear HA
    simp only [u2i.l0] at H
    by_cases c2:x3_1 < (a0.size:Int)
    · rw [if_pos c2] at H
      have c2b0:decide (x3_1 < (a0.size:Int)) = true:=decide_eq_true c2
      clear c2
      by_cases c3:0 ≤ x3_1
      · rw [if_pos c3] at H
        have c3b0:decide (0 ≤ x3_1) = true:=decide_eq_true c3
        clear c3
        by_cases c5:(bt a0 x3_1) < 32
        · rw [if_pos c5] at H
          have c5b0:decide ((bt a0 x3_1) < 32) = true:=decide_eq_true c5
          clear c5
          obtain rfl:=Option.some.inj H
          have p4:0 ≤ (x3_1:Int):=of_decide_eq_true (by first | (with_reducible assumption) | assumption)
          have q4:x3_1 < (a0.size:Int):=of_decide_eq_true (by first | (with_reducible assumption) | assumption)
          have hx4:=bt_at a0 x3_1
          replace p4:=eq_true p4
          replace q4:=eq_true q4
          go_wp2
          go_ret
          exact ⟨by first | rfl | (simp;done) | (simp [*];done),by repeat (first | exact u1b.refl _ | apply u1b.step)⟩
        · rw [if_neg c5] at H
          have c5b0:decide ((bt a0 x3_1) < 32) = false:=decide_eq_false c5
          clear c5
          have H':=Aside0.mk H
          clear H
          have p4:0 ≤ (x3_1:Int):=of_decide_eq_true (by first | (with_reducible assumption) | assumption)
          have q4:x3_1 < (a0.size:Int):=of_decide_eq_true (by first | (with_reducible assumption) | assumption)
          have hx4:=bt_at a0 x3_1
          replace p4:=eq_true p4
          replace q4:=eq_true q4
          go_wp2
          go_roundg k1
          case measure => have:=HK1.out;omega
          case rel => exact ⟨(wrap64 (x3_1 + 1)),(by first | rfl | (simp;done) | (simp [*];done)),H',⟨by have:=HK1.out;omega⟩,by repeat (first | exact u1b.refl _ | apply u1b.step)⟩
      · rw [if_neg c3] at H
        exact absurd H (by simp)
    · rw [if_neg c2] at H
      have c2b0:decide (x3_1 < (a0.size:Int)) = false:=decide_eq_false c2
      clear c2
      obtain rfl:=Option.some.inj H
      go_wp2
      go_ret
      exact ⟨by first | rfl | (simp;done) | (simp [*];done),by repeat (first | exact u1b.refl _ | apply u1b.step)⟩
def text_named.f (a0:Int):Option (Bool):=if a0 = 95 then (some true) else (if a0 ≥ 48 then (if a0 ≤ 57 then (some true) else (if (Go.bits .or .u8 a0 32) ≥ 97 then (some (decide ((Go.bits .or .u8 a0 32) ≤ 122))) else (some false))) else (if (Go.bits .or .u8 a0 32) ≥ 97 then (some (decide ((Go.bits .or .u8 a0 32) ≤ 122))) else (some false)))
set_option maxHeartbeats 8000000 in
set_option maxRecDepth 100000 in
theorem text_named.calls (a0:Int) (r:Bool) (w:World) (h:text_named.f a0 = some r) :
 Calls Tryz.prog 91 #[.int .u8 a0] w fun e w' => e = .returned (.bool r) ∧ u1b w w':=by
 have H:(if a0 = 95 then (some true) else (if a0 ≥ 48 then (if a0 ≤ 57 then (some true) else (if (Go.bits .or .u8 a0 32) ≥ 97 then (some (decide ((Go.bits .or .u8 a0 32) ≤ 122))) else (some false))) else (if (Go.bits .or .u8 a0 32) ≥ 97 then (some (decide ((Go.bits .or .u8 a0 32) ≤ 122))) else (some false)))) = some r:=h
 clear h
 by_cases c2:a0 = 95
 · rw [if_pos c2] at H
   have c2b0:(a0 == 95) = true:=beq_iff_eq.mpr c2
   have c2b1:(a0 != 95) = false:=bne_eq_false_iff_eq.mpr c2
   clear c2
   obtain rfl:=Option.some.inj H
   go_enter Tryz.func91,Tryz.ntmps91
   go_wp2
   go_ret
   exact ⟨by first | rfl | (simp;done) | (simp [*];done),by repeat (first | exact u1b.refl _ | apply u1b.step)⟩
 · rw [if_neg c2] at H
   have c2b0:(a0 == 95) = false:=beq_eq_false_iff_ne.mpr c2
   have c2b1:(a0 != 95) = true:=bne_iff_ne.mpr c2
   by_cases c3:a0 ≥ 48
   · rw [if_pos c3] at H
     have c3b0:decide (48 ≤ a0) = true:=decide_eq_true c3
     clear c3
     by_cases c4:a0 ≤ 57
     · rw [if_pos c4] at H
       have c4b0:decide (a0 ≤ 57) = true:=decide_eq_true c4
       clear c4
       obtain rfl:=Option.some.inj H
       go_enter Tryz.func91,Tryz.ntmps91
       go_wp2
       go_ret
       exact ⟨by first | rfl | (simp;done) | (simp [*];done),by repeat (first | exact u1b.refl _ | apply u1b.step)⟩
     · rw [if_neg c4] at H
       have c4b0:decide (a0 ≤ 57) = false:=decide_eq_false c4
       clear c4
       by_cases c5:(Go.bits .or .u8 a0 32) ≥ 97
       · rw [if_pos c5] at H
         have c5b0:decide (97 ≤ (Go.bits .or .u8 a0 32)) = true:=decide_eq_true c5
         clear c5
         obtain rfl:=Option.some.inj H
         go_enter Tryz.func91,Tryz.ntmps91
         go_wp2
         go_ret
         exact ⟨by first | rfl | (simp;done) | (simp [*];done),by repeat (first | exact u1b.refl _ | apply u1b.step)⟩
       · rw [if_neg c5] at H
         have c5b0:decide (97 ≤ (Go.bits .or .u8 a0 32)) = false:=decide_eq_false c5
         clear c5
         obtain rfl:=Option.some.inj H
         go_enter Tryz.func91,Tryz.ntmps91
         go_wp2
         go_ret
         exact ⟨by first | rfl | (simp;done) | (simp [*];done),by repeat (first | exact u1b.refl _ | apply u1b.step)⟩
   · rw [if_neg c3] at H
     have c3b0:decide (48 ≤ a0) = false:=decide_eq_false c3
     clear c3
     by_cases c6:(Go.bits .or .u8 a0 32) ≥ 97
     · rw [if_pos c6] at H
       have c6b0:decide (97 ≤ (Go.bits .or .u8 a0 32)) = true:=decide_eq_true c6
       clear c6
       obtain rfl:=Option.some.inj H
       go_enter Tryz.func91,Tryz.ntmps91
       go_wp2
       go_ret
       exact ⟨by first | rfl | (simp;done) | (simp [*];done),by repeat (first | exact u1b.refl _ | apply u1b.step)⟩
     · rw [if_neg c6] at H
       have c6b0:decide (97 ≤ (Go.bits .or .u8 a0 32)) = false:=decide_eq_false c6
       clear c6
       obtain rfl:=Option.some.inj H
       go_enter Tryz.func91,Tryz.ntmps91
       go_wp2
       go_ret
       exact ⟨by first | rfl | (simp;done) | (simp [*];done),by repeat (first | exact u1b.refl _ | apply u1b.step)⟩
def u2n.f (a0:ByteArray) (a1:ByteArray):Option (ByteArray × Bool):=(u1t.f a0 a1).bind fun t106 => (if t106 = true then (if 0 ≤ (a1.size:Int) then (if (a1.size:Int) ≤ (a0.size:Int) then (some (a0.extract ((a1.size:Int):Int).toNat a0.size,true)) else (none)) else (none)) else (some (a0,false)))
set_option maxHeartbeats 8000000 in
set_option maxRecDepth 100000 in
theorem u2n.calls (a0:ByteArray) (a1:ByteArray) (r1:ByteArray) (r2:Bool) (w:World) (h:u2n.f a0 a1 = some (r1,r2)) :
 Calls Tryz.prog 140 #[.string a0,.string a1] w fun e w' => e = .returned (.tuple #[.string r1,.bool r2]) ∧ u1b w w':=by
 have H:((u1t.f a0 a1).bind fun t106 => (if t106 = true then (if 0 ≤ (a1.size:Int) then (if (a1.size:Int) ≤ (a0.size:Int) then (some (a0.extract ((a1.size:Int):Int).toNat a0.size,true)) else (none)) else (none)) else (some (a0,false)))) = some (r1,r2):=h
 clear h
 replace H:=Option.bind_eq_some_iff.mp H
 obtain ⟨t106,A30,H⟩:=H
 replace H:(if t106 = true then (if 0 ≤ (a1.size:Int) then (if (a1.size:Int) ≤ (a0.size:Int) then (some (a0.extract ((a1.size:Int):Int).toNat a0.size,true)) else (none)) else (none)) else (some (a0,false))) = some (r1,r2):=H
 have A3:=Aside0.mk A30
 clear A30
 by_cases c4:t106 = true
 · subst c4
   have H1:(if 0 ≤ (a1.size:Int) then (if (a1.size:Int) ≤ (a0.size:Int) then (some (a0.extract ((a1.size:Int):Int).toNat a0.size,true)) else (none)) else (none)) = some (r1,r2):=by rw [if_pos rfl] at H;exact H
   clear H
   have H:=H1
   clear H1
   by_cases c5:0 ≤ (a1.size:Int)
   · rw [if_pos c5] at H
     have c5b0:=eq_true c5
     have c5b1:decide (0 ≤ (a1.size:Int)) = true:=decide_eq_true c5
     clear c5
     by_cases c6:(a1.size:Int) ≤ (a0.size:Int)
     · rw [if_pos c6] at H
       have c6b0:=eq_true c6
       have c6b1:decide ((a1.size:Int) ≤ (a0.size:Int)) = true:=decide_eq_true c6
       clear c6
       simp only [Option.some.injEq,Prod.mk.injEq] at H
       obtain ⟨rfl,rfl⟩:=H
       go_enter Tryz.func140,Tryz.ntmps140
       go_wp2_with (first | ((with_reducible refine u3d (f:=51) rfl ?_);refine goesL_ (some 8) rfl rfl Tryz.func51 (by kernel_rfl) rfl #[.string a0,.string a1] rfl (by (try simp only [List.map_toArray,List.map_cons,List.map_nil]);first | done | rfl | (simp only [List.length_drop,List.length_take];rfl)) ?_;(with_reducible refine (u1t.calls a0 a1 true _ A3.out).mono ?_);rintro e w' ⟨rfl,⟨nd,rfl⟩⟩;refine ⟨_,rfl,?_⟩))
       go_ret2
       exact ⟨by first | rfl | (simp;done) | (simp [*];done),by repeat (first | exact u1b.refl _ | apply u1b.step)⟩
     · rw [if_neg c6] at H
       exact absurd H (by simp)
   · rw [if_neg c5] at H
     exact absurd H (by simp)
 · replace c4:=Bool.eq_false_iff.mpr c4
   subst c4
   have H1:(some (a0,false)) = some (r1,r2):=by rw [if_neg (show ¬ (false = true) by decide)] at H;exact H
   clear H
   have H:=H1
   clear H1
   simp only [Option.some.injEq,Prod.mk.injEq] at H
   obtain ⟨rfl,rfl⟩:=H
   go_enter Tryz.func140,Tryz.ntmps140
   go_wp2_with (first | ((with_reducible refine u3d (f:=51) rfl ?_);refine goesL_ (some 8) rfl rfl Tryz.func51 (by kernel_rfl) rfl #[.string a0,.string a1] rfl (by (try simp only [List.map_toArray,List.map_cons,List.map_nil]);first | done | rfl | (simp only [List.length_drop,List.length_take];rfl)) ?_;(with_reducible refine (u1t.calls a0 a1 false _ A3.out).mono ?_);rintro e w' ⟨rfl,⟨nd,rfl⟩⟩;refine ⟨_,rfl,?_⟩))
   go_ret2
   exact ⟨by first | rfl | (simp;done) | (simp [*];done),by repeat (first | exact u1b.refl _ | apply u1b.step)⟩
def u1u.f (a0:ByteArray) (a1:ByteArray):Option (ByteArray × Bool):=(u2n.f a0 a1).bind fun bt107 => (some (bt107.1,bt107.2))
set_option maxHeartbeats 8000000 in
set_option maxRecDepth 100000 in
theorem u1u.calls (a0:ByteArray) (a1:ByteArray) (r1:ByteArray) (r2:Bool) (w:World) (h:u1u.f a0 a1 = some (r1,r2)) :
 Calls Tryz.prog 117 #[.string a0,.string a1] w fun e w' => e = .returned (.tuple #[.string r1,.bool r2]) ∧ u1b w w':=by
 have H:((u2n.f a0 a1).bind fun bt107 => (some (bt107.1,bt107.2))) = some (r1,r2):=h
 clear h
 replace H:=Option.bind_eq_some_iff.mp H
 obtain ⟨⟨t107,t108⟩,A30,H⟩:=H
 replace H:(some (t107,t108)) = some (r1,r2):=H
 have A3:=Aside0.mk A30
 clear A30
 simp only [Option.some.injEq,Prod.mk.injEq] at H
 obtain ⟨rfl,rfl⟩:=H
 go_enter Tryz.func117,Tryz.ntmps117
 go_wp2_with (first | ((with_reducible refine u3d (f:=140) rfl ?_);refine goesL_ (some 8) rfl rfl Tryz.func140 (by kernel_rfl) rfl #[.string a0,.string a1] rfl (by (try simp only [List.map_toArray,List.map_cons,List.map_nil]);first | done | rfl | (simp only [List.length_drop,List.length_take];rfl)) ?_;(with_reducible refine (u2n.calls a0 a1 t107 t108 _ A3.out).mono ?_);rintro e w' ⟨rfl,⟨nd,rfl⟩⟩;refine ⟨_,rfl,?_⟩))
 go_ret2
 exact ⟨by first | rfl | (simp;done) | (simp [*];done),by repeat (first | exact u1b.refl _ | apply u1b.step)⟩
def u2x.idx (p:S66 → Bool) (l:List S66):Int:=match l.findIdx? p with | none => -1 | some i => (i:Int)
theorem u2x.idx_hit (p:S66 → Bool) (l:List S66) (x:Nat) (hx:x < l.length) (hp:p l[x] = true) (hn:∀ j (hj:j < x),p (l[j]'(by omega)) = false):u2x.idx p l = (x:Int):=by
 unfold u2x.idx
 have h:l.findIdx? p = some x:=List.findIdx?_eq_some_iff_getElem.2 ⟨hx,hp,fun j hj => by rw [hn j hj];exact Bool.false_ne_true⟩
 rw [h]
theorem u2x.idx_miss (p:S66 → Bool) (l:List S66) (hn:∀ j (hj:j < l.length),p l[j] = false):u2x.idx p l = -1:=by
 unfold u2x.idx
 have h:l.findIdx? p = none:=List.findIdx?_eq_none_iff.2 (fun x hx => by
  obtain ⟨j,hj,rfl⟩:=List.getElem_of_mem hx
  exact hn j hj)
 rw [h]
set_option maxHeartbeats 2000000 in
set_option maxRecDepth 100000 in
theorem u2x.calls (A:Option Addr) (c:Nat) (l:List S66) (fn:Nat) (lb:Array Value) (p:S66 → Bool) (w:World) (hr:Kd.C k66 w A l.length l) (hm:l.length ≤ 9223372036854775807) (eg:∀ args W,(callFunc fn args).run Tryz.prog W = .ok (.enter fn args) W)
 (hp:∀ (W:World) (x:S66),Below w.heap.size w W → x ∈ l → Calls Tryz.prog fn (#[.agg #[.string x.f0,.string x.f1]] ++ lb) W fun e w' => e = .returned (.bool (p x)) ∧ Below W.heap.size W w') :
 Calls Tryz.prog 106 #[.slice A l.length c,.func (.func fn) #[] lb] w fun e w' => e = .returned (.int .i64 (u2x.idx p l)) ∧ Below w.heap.size w w':=by
 have HR:=Aside0.mk hr
 have HP:=Aside0.mk hp
 clear hr hp
 have hu41:=Tryz.underlying66
 go_enter Tryz.func106,Tryz.ntmps106
 go_wp2
 go_loopg [8] (l.length) (fun kq v8 wr => ∃ (x:Nat),x ≤ l.length ∧ v8 = .int .i64 x ∧ Aside0 (∀ j (hj:j < x) (hl:j < l.length),p l[j] = false) ∧ l.length ≤ kq + x ∧ Below w.heap.size w wr)
 case atStart => exact ⟨0,by omega,rfl,⟨fun j hj => absurd hj (by omega)⟩,by omega,Below.refl _ _⟩
 case round =>
  obtain ⟨x,hx,rfl,HN,hk,hB⟩:=hrel
  have HB:=Aside0.mk hB
  clear hB
  by_cases hlt:x < l.length
  · obtain ⟨ad,e,hc0,hc1⟩:=at_T66 HR.out (x:Int) (by omega) (by omega)
    subst e
    obtain ⟨y,hy⟩:∃ y,l[x] = y:=⟨_,rfl⟩
    have hx9:uq l (x:Int) = y:=by rw [← hy];simp [uq,List.getD_eq_getElem?_getD,hlt]
    have hd0:wr.cell? (ad.add (x * 2)) = some (.string y.f0):=(HB.out.cell (World.block_lt_of_cell? w _ (by simpa using hc0))).trans (by simpa [hx9] using hc0)
    have hd1:wr.cell? ⟨(ad.add (x * 2)).block,(ad.add (x * 2)).off + 1,none⟩ = some (.string y.f1):=(HB.out.cell (World.block_lt_of_cell? w _ (by simpa using hc1))).trans (by simpa [hx9] using hc1)
    have HT:=Aside0.mk (HP.out wr y HB.out (by rw [← hy];exact List.getElem_mem hlt))
    clear hc0 hc1 hx9
    cases hb:p y with
    | true =>
      rw [hb] at HT
      have HE:Aside0 (u2x.idx p l = (x:Int)):=⟨u2x.idx_hit p l x hlt (by rw [hy];exact hb) (fun j hj => HN.out j hj (by omega))⟩
      clear hy
      go_wp2_with (go_at_fn fn;refine HT.out.mono ?_;rintro e W1 ⟨rfl,hb1⟩)
      go_ret
      exact ⟨by rw [HE.out];rfl,HB.out.trans (hb1.mono HB.out.size)⟩
    | false =>
      rw [hb] at HT
      have HY:=Aside0.mk hy
      have HBB:=Aside0.mk hb
      clear hy hb
      obtain ⟨g1,rfl⟩:∃ g1,gk = g1 + 1:=⟨gk - 1,by omega⟩
      go_wp2_with (go_at_fn fn;refine HT.out.mono ?_;rintro e W1 ⟨rfl,hb1⟩)
      go_roundg g1
      case rel =>
       refine ⟨x + 1,by omega,by go_num,⟨fun j hj hl => ?_⟩,by omega,HB.out.trans (hb1.mono HB.out.size)⟩
       by_cases hjx:j = x
       · subst hjx
         rw [HY.out]
         exact HBB.out
       · exact HN.out j (by omega) hl
      case measure => omega
  · have HE:Aside0 (u2x.idx p l = -1):=⟨u2x.idx_miss p l (fun j hj => HN.out j (by omega) hj)⟩
    go_wp2
    go_ret
    exact ⟨by rw [HE.out];rfl,HB.out⟩
def u2v.f (a0:ByteArray):Option Bool:=some (Base.plainTextB a0)
def u2v.badB (r:Int):Bool:=decide (r < 32) || decide (r = 127) || decide (r = 65533)
set_option maxHeartbeats 1000000 in
set_option maxRecDepth 100000 in
theorem u2v.calls (a0:ByteArray) (r:Bool) (w:World) (h:u2v.f a0 = some r) :
 Calls Tryz.prog 112 #[.string a0] w fun e w' => e = .returned (.bool r) ∧ Below w.heap.size w w':=by
 obtain rfl:Base.plainTextB a0 = r:=by simpa [u2v.f] using h
 clear h
 go_enter Tryz.func112,Tryz.ntmps112
 go_wp2
 go_loopw [] (fun wr => ∃ (pos fuel:Nat),wr.heap[w.heap.size]? = some (.stringIter a0 pos) ∧ Below w.heap.size w wr ∧ Aside0 (Base.plainTextB a0 = (Base.runesFrom a0 fuel pos).all (fun r => !u2v.badB r)) ∧ a0.size ≤ fuel + pos)
  (fun wr => a0.size - wr.iterPos w.heap.size)
 case atStart =>
  refine ⟨0,a0.size,?_,(Below.refl _ w).alloc (Nat.le_refl _) _,⟨rfl⟩,by omega⟩
  have:=World.iter_heap w a0 0
  simpa using this
 case round =>
  obtain ⟨pos,fuel,hit,hbw,HE,hfu⟩:=hrel
  have hsz:w.heap.size < wr.heap.size:=(Array.getElem?_eq_some_iff.1 hit).1
  by_cases hp:pos < a0.size
  · have hnx:∀ ty,(Instr.next (.pointer (some ⟨w.heap.size,0,none⟩)) true ty).run Tryz.prog wr = _:=fun ty => Lib.run_next_any_at wr w.heap.size a0 pos ty hit hp
    have hwd:=Base.width_pos a0 pos hp
    have hd1:=decode_le a0 pos
    have hit2:=Lib.iterAt_heap wr w.heap.size a0 pos (pos + (Utf8.decode a0 pos).2) hit
    have hbw2:=Lib.below_iterAt hbw (k:=w.heap.size) (by omega) a0 (pos + (Utf8.decode a0 pos).2)
    obtain ⟨f,rfl⟩:∃ f,fuel = f + 1:=⟨fuel - 1,by omega⟩
    have hst:=Base.runesFrom_step a0 f pos hp
    rw [hst] at HE
    clear hst
    have hbad:Aside0 (u2v.badB ((Utf8.decode a0 pos).1:Int) = true ↔ ((Utf8.decode a0 pos).1 < 32 ∨ (Utf8.decode a0 pos).1 = 127 ∨ (Utf8.decode a0 pos).1 = 65533)):=⟨by
     simp only [u2v.badB,Bool.or_eq_true,decide_eq_true_eq]
     omega⟩
    by_cases h1:(Utf8.decode a0 pos).1 < 32
    · go_wp2
      go_ret
      have h2:=HE.out
      rw [List.all_cons,hbad.out.2 (.inl h1)] at h2
      exact ⟨by rw [h2];rfl,hbw2⟩
    · by_cases h3:(Utf8.decode a0 pos).1 = 127
      · have hb3:(((Utf8.decode a0 pos).1:Int) == 127) = true:=by simp;omega
        have H3:=Aside0.mk h3
        clear h3
        go_wp2
        go_ret
        have h2:=HE.out
        rw [List.all_cons,hbad.out.2 (.inr (.inl H3.out))] at h2
        exact ⟨by rw [h2];rfl,hbw2⟩
      · have hb3:(((Utf8.decode a0 pos).1:Int) == 127) = false:=by simp;omega
        by_cases h4:(Utf8.decode a0 pos).1 = 65533
        · have hb4:(((Utf8.decode a0 pos).1:Int) == 65533) = true:=by simp;omega
          have H4:=Aside0.mk h4
          clear h4
          go_wp2
          go_ret
          have h2:=HE.out
          rw [List.all_cons,hbad.out.2 (.inr (.inr H4.out))] at h2
          exact ⟨by rw [h2];rfl,hbw2⟩
        · have hb4:(((Utf8.decode a0 pos).1:Int) == 65533) = false:=by simp;omega
          have hgood:u2v.badB ((Utf8.decode a0 pos).1:Int) = false:=by
           cases hq:u2v.badB ((Utf8.decode a0 pos).1:Int) with
           | false => rfl
           | true => have:=hbad.out.1 hq;omega
          have Hg:=Aside0.mk hgood
          clear hgood
          go_wp2
          go_roundw
          case rel =>
           refine ⟨pos + (Utf8.decode a0 pos).2,f,by simpa using hit2,hbw2,⟨?_⟩,by omega⟩
           have h2:=HE.out
           rw [List.all_cons,Hg.out,Bool.not_false,Bool.true_and] at h2
           exact h2
          case measure =>
           simp only [World.iterPos,hit2,hit]
           omega
  · have hnx:∀ ty,(Instr.next (.pointer (some ⟨w.heap.size,0,none⟩)) true ty).run Tryz.prog wr = _:=fun ty => Lib.run_next_end_at wr w.heap.size a0 pos ty hit hp
    have h1:=HE.out
    rw [Base.runesFrom_end a0 fuel pos hp,List.all_nil] at h1
    have H1:=Aside0.mk h1
    clear h1 HE
    go_wp2
    go_ret
    exact ⟨by rw [H1.out];rfl,hbw⟩
def u2w.f (a0:ByteArray):Option (Bool):=if (a0.size:Int) ≥ 1 then (if (a0.size:Int) ≤ 40 then ((u2v.f a0).bind fun t123 => (some t123)) else (some false)) else (some false)
set_option maxHeartbeats 8000000 in
set_option maxRecDepth 100000 in
theorem u2w.calls (a0:ByteArray) (r:Bool) (w:World) (h:u2w.f a0 = some r) :
 Calls Tryz.prog 70 #[.string a0] w fun e w' => e = .returned (.bool r) ∧ Below w.heap.size w w':=by
 have HB:=Aside0.mk (Below.refl w.heap.size w)
 have H:(if (a0.size:Int) ≥ 1 then (if (a0.size:Int) ≤ 40 then ((u2v.f a0).bind fun t123 => (some t123)) else (some false)) else (some false)) = some r:=h
 clear h
 by_cases c2:(a0.size:Int) ≥ 1
 · rw [if_pos c2] at H
   have c2b0:decide (1 ≤ (a0.size:Int)) = true:=decide_eq_true c2
   have c2b1:decide (1 ≤ a0.size) = true:=decide_eq_true (by omega)
   clear c2
   by_cases c3:(a0.size:Int) ≤ 40
   · rw [if_pos c3] at H
     have c3b0:decide ((a0.size:Int) ≤ 40) = true:=decide_eq_true c3
     have c3b1:decide (a0.size ≤ 40) = true:=decide_eq_true (by omega)
     clear c3
     replace H:=Option.bind_eq_some_iff.mp H
     obtain ⟨t123,A40,H⟩:=H
     replace H:(some t123) = some r:=H
     have A4:=Aside0.mk A40
     clear A40
     obtain rfl:=Option.some.inj H
     go_enter Tryz.func70,Tryz.ntmps70
     go_wp2_with (first | (go_at_call 112;(with_reducible refine (u2v.calls a0 t123 _ A4.out).mono ?_);rintro e w5 ⟨rfl,hb⟩;have n0_:=Aside0.mk (u1d (by repeat (first | (with_reducible first | exact HB.out | apply ud | apply ub | apply uf) | exact HB.out)) hb);clear HB;have HB:=n0_;clear n0_;(try clear hb);(try clear hb2);(try clear hk);(try clear hi)))
     go_ret
     exact ⟨by first | rfl | (simp [u2c,u2b] <;> rfl) | (simp [*,u2c,u2b] <;> rfl),by repeat (first | (with_reducible first | exact HB.out | apply ud | apply ub | apply uf) | exact HB.out)⟩
   · rw [if_neg c3] at H
     have c3b0:decide ((a0.size:Int) ≤ 40) = false:=decide_eq_false c3
     have c3b1:decide (a0.size ≤ 40) = false:=decide_eq_false (by omega)
     clear c3
     obtain rfl:=Option.some.inj H
     go_enter Tryz.func70,Tryz.ntmps70
     go_wp2
     go_ret
     exact ⟨by first | rfl | (simp [u2c,u2b] <;> rfl) | (simp [*,u2c,u2b] <;> rfl),by repeat (first | (with_reducible first | exact HB.out | apply ud | apply ub | apply uf) | exact HB.out)⟩
 · rw [if_neg c2] at H
   have c2b0:decide (1 ≤ (a0.size:Int)) = false:=decide_eq_false c2
   have c2b1:decide (1 ≤ a0.size) = false:=decide_eq_false (by omega)
   clear c2
   obtain rfl:=Option.some.inj H
   go_enter Tryz.func70,Tryz.ntmps70
   go_wp2
   go_ret
   exact ⟨by first | rfl | (simp [u2c,u2b] <;> rfl) | (simp [*,u2c,u2b] <;> rfl),by repeat (first | (with_reducible first | exact HB.out | apply ud | apply ub | apply uf) | exact HB.out)⟩
def u3e.f (a0:ByteArray):Option Bool:=some (Base.valueB a0)
theorem u3e.plain_is (x:Int):labels_plain.f x = some (Base.plainB x):=by
 unfold labels_plain.f Base.plainB
 by_cases h1:x ≥ 32
 · rw [if_pos h1]
   by_cases h2:x = 127
   · simp [h1,h2]
   · rw [if_neg h2]
     by_cases h3:x = 65533 <;> simp [h1,h2,h3]
 · rw [if_neg h1]
   simp only [ge_iff_le] at h1
   simp [h1]
set_option maxHeartbeats 1000000 in
set_option maxRecDepth 100000 in
theorem u3e.calls (a0:ByteArray) (r:Bool) (w:World) (h:u3e.f a0 = some r) :
 Calls Tryz.prog 60 #[.string a0] w fun e w' => e = .returned (.bool r) ∧ Below w.heap.size w w':=by
 obtain rfl:Base.valueB a0 = r:=by simpa [u3e.f] using h
 clear h
 go_enter Tryz.func60,Tryz.ntmps60
 go_wp2
 go_loopw [] (fun wr => ∃ (pos fuel:Nat),wr.heap[w.heap.size]? = some (.stringIter a0 pos) ∧ Below w.heap.size w wr ∧ Aside0 ((Base.runesOf a0).all Base.plainB = (Base.runesFrom a0 fuel pos).all Base.plainB) ∧ a0.size ≤ fuel + pos)
  (fun wr => a0.size - wr.iterPos w.heap.size)
 case atStart =>
  refine ⟨0,a0.size,?_,(Below.refl _ w).alloc (Nat.le_refl _) _,⟨rfl⟩,by omega⟩
  have:=World.iter_heap w a0 0
  simpa using this
 case round =>
  obtain ⟨pos,fuel,hit,hbw,HE,hfu⟩:=hrel
  have hsz:w.heap.size < wr.heap.size:=(Array.getElem?_eq_some_iff.1 hit).1
  by_cases hp:pos < a0.size
  · have hnx:∀ ty,(Instr.next (.pointer (some ⟨w.heap.size,0,none⟩)) true ty).run Tryz.prog wr = _:=fun ty => Lib.run_next_any_at wr w.heap.size a0 pos ty hit hp
    have hwd:=Base.width_pos a0 pos hp
    have hd1:=decode_le a0 pos
    have hit2:=Lib.iterAt_heap wr w.heap.size a0 pos (pos + (Utf8.decode a0 pos).2) hit
    have hbw2:=Lib.below_iterAt hbw (k:=w.heap.size) (by omega) a0 (pos + (Utf8.decode a0 pos).2)
    obtain ⟨f,rfl⟩:∃ f,fuel = f + 1:=⟨fuel - 1,by omega⟩
    have hst:=Base.runesFrom_step a0 f pos hp
    rw [hst] at HE
    clear hst
    cases hpl:Base.plainB ((Utf8.decode a0 pos).1:Int) with
    | true =>
      go_wp2_with (go_at_call 105;refine (labels_plain.calls _ _ _ (u3e.plain_is _)).mono ?_;rintro e W1 ⟨rfl,⟨nd,rfl⟩⟩)
      go_roundw
      case rel =>
       refine ⟨pos + (Utf8.decode a0 pos).2,f,by simpa using hit2,ub hbw2 nd,⟨?_⟩,by omega⟩
       have h1:=HE.out
       rw [List.all_cons,hpl,Bool.true_and] at h1
       exact h1
      case measure =>
       have e1:((wr.iterAt w.heap.size a0 (pos + (Utf8.decode a0 pos).2)).drewN nd).heap[w.heap.size]? = some (.stringIter a0 (pos + (Utf8.decode a0 pos).2)):=by simpa using hit2
       simp only [World.iterPos,e1,hit]
       omega
    | false =>
      go_wp2_with (go_at_call 105;refine (labels_plain.calls _ _ _ (u3e.plain_is _)).mono ?_;rintro e W1 ⟨rfl,⟨nd,rfl⟩⟩)
      go_ret
      have h1:=HE.out
      rw [List.all_cons,hpl,Bool.false_and] at h1
      refine ⟨?_,ub hbw2 nd⟩
      simp [Base.valueB,h1]
  · have hnx:∀ ty,(Instr.next (.pointer (some ⟨w.heap.size,0,none⟩)) true ty).run Tryz.prog wr = _:=fun ty => Lib.run_next_end_at wr w.heap.size a0 pos ty hit hp
    have h1:=HE.out
    rw [Base.runesFrom_end a0 fuel pos hp,List.all_nil] at h1
    have H1:=Aside0.mk h1
    clear h1 HE
    go_wp2
    all_goals
     go_ret
     refine ⟨?_,hbw⟩
     have h1:=H1.out
     have hz:=Base.toList_nil a0
     first
      | (have he:a0.toList = []:=by assumption
         have h0:a0.size = 0:=hz.1 he
         simp [Base.valueB,h1,h0,he];done)
      | (have he:¬ a0.toList = []:=by assumption
         have h0:0 < a0.size:=by
          rcases Nat.eq_zero_or_pos a0.size with h | h
          · exact absurd (hz.2 h) he
          · exact h
         have hi:a0.toList.isEmpty = false:=by
          cases hl:a0.toList with
          | nil => exact absurd hl he
          | cons _ _ => rfl
         have hd:decide ((a0.size:Int) ≤ 40) = decide (a0.size ≤ 40):=by
          rw [Bool.eq_iff_iff]
          simp only [decide_eq_true_eq]
          omega
         simp [Base.valueB,h1,h0,hi,hd];done)
def u3c.idx (p:S34 → Bool) (l:List S34):Int:=match l.findIdx? p with | none => -1 | some i => (i:Int)
theorem u3c.idx_hit (p:S34 → Bool) (l:List S34) (x:Nat) (hx:x < l.length) (hp:p l[x] = true) (hn:∀ j (hj:j < x),p (l[j]'(by omega)) = false):u3c.idx p l = (x:Int):=by
 unfold u3c.idx
 have h:l.findIdx? p = some x:=List.findIdx?_eq_some_iff_getElem.2 ⟨hx,hp,fun j hj => by rw [hn j hj];exact Bool.false_ne_true⟩
 rw [h]
theorem u3c.idx_miss (p:S34 → Bool) (l:List S34) (hn:∀ j (hj:j < l.length),p l[j] = false):u3c.idx p l = -1:=by
 unfold u3c.idx
 have h:l.findIdx? p = none:=List.findIdx?_eq_none_iff.2 (fun x hx => by
  obtain ⟨j,hj,rfl⟩:=List.getElem_of_mem hx
  exact hn j hj)
 rw [h]
theorem u3c.idx_any (p:S34 → Bool) (l:List S34):decide (0 ≤ u3c.idx p l) = l.any p:=by
 unfold u3c.idx
 cases h:l.findIdx? p with
 | none =>
   have h2:=List.findIdx?_eq_none_iff.1 h
   have:l.any p = false:=by
    rw [List.any_eq_false]
    intro x hx
    rw [h2 x hx]
    exact Bool.false_ne_true
   rw [this]
   rfl
 | some i =>
   obtain ⟨hi,h2,_⟩:=List.findIdx?_eq_some_iff_getElem.1 h
   have:l.any p = true:=List.any_eq_true.2 ⟨_,List.getElem_mem hi,h2⟩
   rw [this]
   exact decide_eq_true (by show (0:Int) ≤ (i:Int);omega)
set_option maxHeartbeats 2000000 in
set_option maxRecDepth 100000 in
theorem u3c.calls (A:Option Addr) (c:Nat) (l:List S34) (fn:Nat) (lb:Array Value) (p:S34 → Bool) (w:World) (hr:Kd.C k34 w A l.length l) (hm:l.length ≤ 9223372036854775807) (eg:∀ args W,(callFunc fn args).run Tryz.prog W = .ok (.enter fn args) W)
 (hp:∀ (W:World) (x:S34),Below w.heap.size w W → x ∈ l → Calls Tryz.prog fn (#[.agg #[.string x.f0,.string x.f1,.string x.f2]] ++ lb) W fun e w' => e = .returned (.bool (p x)) ∧ Below W.heap.size W w') :
 Calls Tryz.prog 42 #[.slice A l.length c,.func (.func fn) #[] lb] w fun e w' => e = .returned (.int .i64 (u3c.idx p l)) ∧ Below w.heap.size w w':=by
 have HR:=Aside0.mk hr
 have HP:=Aside0.mk hp
 clear hr hp
 have hu41:=Tryz.underlying34
 go_enter Tryz.func42,Tryz.ntmps42
 go_wp2
 go_loopg [8] (l.length) (fun kq v8 wr => ∃ (x:Nat),x ≤ l.length ∧ v8 = .int .i64 x ∧ Aside0 (∀ j (hj:j < x) (hl:j < l.length),p l[j] = false) ∧ l.length ≤ kq + x ∧ Below w.heap.size w wr)
 case atStart => exact ⟨0,by omega,rfl,⟨fun j hj => absurd hj (by omega)⟩,by omega,Below.refl _ _⟩
 case round =>
  obtain ⟨x,hx,rfl,HN,hk,hB⟩:=hrel
  have HB:=Aside0.mk hB
  clear hB
  by_cases hlt:x < l.length
  · obtain ⟨ad,e,hc0,hc1,hc2⟩:=at_T34 HR.out (x:Int) (by omega) (by omega)
    subst e
    obtain ⟨y,hy⟩:∃ y,l[x] = y:=⟨_,rfl⟩
    have hx9:rd_T34 l (x:Int) = y:=by rw [← hy];simp [rd_T34,List.getD_eq_getElem?_getD,hlt]
    have hd0:wr.cell? (ad.add (x * 3)) = some (.string y.f0):=(HB.out.cell (World.block_lt_of_cell? w _ (by simpa using hc0))).trans (by simpa [hx9] using hc0)
    have hd1:wr.cell? ⟨(ad.add (x * 3)).block,(ad.add (x * 3)).off + 1,none⟩ = some (.string y.f1):=(HB.out.cell (World.block_lt_of_cell? w _ (by simpa using hc1))).trans (by simpa [hx9] using hc1)
    have hd2:wr.cell? ⟨(ad.add (x * 3)).block,(ad.add (x * 3)).off + 2,none⟩ = some (.string y.f2):=(HB.out.cell (World.block_lt_of_cell? w _ (by simpa using hc2))).trans (by simpa [hx9] using hc2)
    have HT:=Aside0.mk (HP.out wr y HB.out (by rw [← hy];exact List.getElem_mem hlt))
    clear hc0 hc1 hc2 hx9
    cases hb:p y with
    | true =>
      rw [hb] at HT
      have HE:Aside0 (u3c.idx p l = (x:Int)):=⟨u3c.idx_hit p l x hlt (by rw [hy];exact hb) (fun j hj => HN.out j hj (by omega))⟩
      clear hy
      go_wp2_with (go_at_fn fn;refine HT.out.mono ?_;rintro e W1 ⟨rfl,hb1⟩)
      go_ret
      exact ⟨by rw [HE.out];rfl,HB.out.trans (hb1.mono HB.out.size)⟩
    | false =>
      rw [hb] at HT
      have HY:=Aside0.mk hy
      have HBB:=Aside0.mk hb
      clear hy hb
      obtain ⟨g1,rfl⟩:∃ g1,gk = g1 + 1:=⟨gk - 1,by omega⟩
      go_wp2_with (go_at_fn fn;refine HT.out.mono ?_;rintro e W1 ⟨rfl,hb1⟩)
      go_roundg g1
      case rel =>
       refine ⟨x + 1,by omega,by go_num,⟨fun j hj hl => ?_⟩,by omega,HB.out.trans (hb1.mono HB.out.size)⟩
       by_cases hjx:j = x
       · subst hjx
         rw [HY.out]
         exact HBB.out
       · exact HN.out j (by omega) hl
      case measure => omega
  · have HE:Aside0 (u3c.idx p l = -1):=⟨u3c.idx_miss p l (fun j hj => HN.out j (by omega) hj)⟩
    go_wp2
    go_ret
    exact ⟨by rw [HE.out];rfl,HB.out⟩
set_option maxHeartbeats 2000000 in
theorem api_Meta_15.calls (A:Option Addr) (c:Nat) (l:List S34) (fn:Nat) (lb:Array Value) (p:S34 → Bool) (w:World) (hr:Kd.C k34 w A l.length l) (hm:l.length ≤ 9223372036854775807) (eg:∀ args W,(callFunc fn args).run Tryz.prog W = .ok (.enter fn args) W)
 (hp:∀ (W:World) (x:S34),Below w.heap.size w W → x ∈ l → Calls Tryz.prog fn (#[.agg #[.string x.f0,.string x.f1,.string x.f2]] ++ lb) W fun e w' => e = .returned (.bool (p x)) ∧ Below W.heap.size W w') :
 Calls Tryz.prog 15 #[.slice A l.length c,.func (.func fn) #[] lb] w fun e w' => e = .returned (.bool (l.any p)) ∧ Below w.heap.size w w':=by
 have HI:=Aside0.mk (u3c.calls A c l fn lb p w hr hm eg hp)
 rw [← u3c.idx_any p l]
 clear hr hp eg
 generalize u3c.idx p l = z at *
 go_enter Tryz.func15,Tryz.ntmps15
 go_wp2_with (go_at_call 42;(with_reducible refine HI.out.mono ?_);rintro e W1 ⟨rfl,hb⟩)
 go_ret
 exact ⟨rfl,hb⟩
def u3h.idx (p:S53 → Bool) (l:List S53):Int:=match l.findIdx? p with | none => -1 | some i => (i:Int)
theorem u3h.idx_hit (p:S53 → Bool) (l:List S53) (x:Nat) (hx:x < l.length) (hp:p l[x] = true) (hn:∀ j (hj:j < x),p (l[j]'(by omega)) = false):u3h.idx p l = (x:Int):=by
 unfold u3h.idx
 have h:l.findIdx? p = some x:=List.findIdx?_eq_some_iff_getElem.2 ⟨hx,hp,fun j hj => by rw [hn j hj];exact Bool.false_ne_true⟩
 rw [h]
theorem u3h.idx_miss (p:S53 → Bool) (l:List S53) (hn:∀ j (hj:j < l.length),p l[j] = false):u3h.idx p l = -1:=by
 unfold u3h.idx
 have h:l.findIdx? p = none:=List.findIdx?_eq_none_iff.2 (fun x hx => by
  obtain ⟨j,hj,rfl⟩:=List.getElem_of_mem hx
  exact hn j hj)
 rw [h]
theorem u3h.idx_any (p:S53 → Bool) (l:List S53):decide (0 ≤ u3h.idx p l) = l.any p:=by
 unfold u3h.idx
 cases h:l.findIdx? p with
 | none =>
   have h2:=List.findIdx?_eq_none_iff.1 h
   have:l.any p = false:=by
    rw [List.any_eq_false]
    intro x hx
    rw [h2 x hx]
    exact Bool.false_ne_true
   rw [this]
   rfl
 | some i =>
   obtain ⟨hi,h2,_⟩:=List.findIdx?_eq_some_iff_getElem.1 h
   have:l.any p = true:=List.any_eq_true.2 ⟨_,List.getElem_mem hi,h2⟩
   rw [this]
   exact decide_eq_true (by show (0:Int) ≤ (i:Int);omega)
set_option maxHeartbeats 2000000 in
set_option maxRecDepth 100000 in
theorem u3h.calls (A:Option Addr) (c:Nat) (l:List S53) (fn:Nat) (lb:Array Value) (p:S53 → Bool) (w:World) (hr:Kd.C k53 w A l.length l) (hm:l.length ≤ 9223372036854775807) (eg:∀ args W,(callFunc fn args).run Tryz.prog W = .ok (.enter fn args) W)
 (hp:∀ (W:World) (x:S53) (A1:Option Addr) (c1:Nat),x.f0.length ≤ c1 → Kd.C k66 W A1 x.f0.length x.f0 → Below w.heap.size w W → x ∈ l → Calls Tryz.prog fn (#[.agg #[.slice A1 x.f0.length c1,.int .i64 x.f1,.int .u64 x.f2]] ++ lb) W fun e w' => e = .returned (.bool (p x)) ∧ Below W.heap.size W w') :
 Calls Tryz.prog 61 #[.slice A l.length c,.func (.func fn) #[] lb] w fun e w' => e = .returned (.int .i64 (u3h.idx p l)) ∧ Below w.heap.size w w':=by
 have HR:=Aside0.mk hr
 have HP:=Aside0.mk hp
 clear hr hp
 have hu41:=Tryz.underlying53
 go_enter Tryz.func61,Tryz.ntmps61
 go_wp2
 go_loopg [8] (l.length) (fun kq v8 wr => ∃ (x:Nat),x ≤ l.length ∧ v8 = .int .i64 x ∧ Aside0 (∀ j (hj:j < x) (hl:j < l.length),p l[j] = false) ∧ l.length ≤ kq + x ∧ Below w.heap.size w wr)
 case atStart => exact ⟨0,by omega,rfl,⟨fun j hj => absurd hj (by omega)⟩,by omega,Below.refl _ _⟩
 case round =>
  obtain ⟨x,hx,rfl,HN,hk,hB⟩:=hrel
  have HB:=Aside0.mk hB
  clear hB
  by_cases hlt:x < l.length
  · obtain ⟨ad,A1,c1,e,hc0,hc1,hc2,gl,gc⟩:=at_T53 HR.out (x:Int) (by omega) (by omega)
    subst e
    obtain ⟨y,hy⟩:∃ y,l[x] = y:=⟨_,rfl⟩
    have hx9:rd_T53 l (x:Int) = y:=by rw [← hy];simp [rd_T53,List.getD_eq_getElem?_getD,hlt]
    have hd0:wr.cell? (ad.add (x * 3)) = some (.slice A1 y.f0.length c1):=(HB.out.cell (World.block_lt_of_cell? w _ (by simpa using hc0))).trans (by simpa [hx9] using hc0)
    have hd1:wr.cell? ⟨(ad.add (x * 3)).block,(ad.add (x * 3)).off + 1,none⟩ = some (.int .i64 y.f1):=(HB.out.cell (World.block_lt_of_cell? w _ (by simpa using hc1))).trans (by simpa [hx9] using hc1)
    have hd2:wr.cell? ⟨(ad.add (x * 3)).block,(ad.add (x * 3)).off + 2,none⟩ = some (.int .u64 y.f2):=(HB.out.cell (World.block_lt_of_cell? w _ (by simpa using hc2))).trans (by simpa [hx9] using hc2)
    have HT:=Aside0.mk (HP.out wr y A1 c1 (by rw [← hx9];exact gl) (by rw [← hx9];exact Kd.C_below gc HB.out) HB.out (by rw [← hy];exact List.getElem_mem hlt))
    clear hc0 hc1 hc2 gl gc hx9
    cases hb:p y with
    | true =>
      rw [hb] at HT
      have HE:Aside0 (u3h.idx p l = (x:Int)):=⟨u3h.idx_hit p l x hlt (by rw [hy];exact hb) (fun j hj => HN.out j hj (by omega))⟩
      clear hy
      go_wp2_with (go_at_fn fn;refine HT.out.mono ?_;rintro e W1 ⟨rfl,hb1⟩)
      go_ret
      exact ⟨by rw [HE.out];rfl,HB.out.trans (hb1.mono HB.out.size)⟩
    | false =>
      rw [hb] at HT
      have HY:=Aside0.mk hy
      have HBB:=Aside0.mk hb
      clear hy hb
      obtain ⟨g1,rfl⟩:∃ g1,gk = g1 + 1:=⟨gk - 1,by omega⟩
      go_wp2_with (go_at_fn fn;refine HT.out.mono ?_;rintro e W1 ⟨rfl,hb1⟩)
      go_roundg g1
      case rel =>
       refine ⟨x + 1,by omega,by go_num,⟨fun j hj hl => ?_⟩,by omega,HB.out.trans (hb1.mono HB.out.size)⟩
       by_cases hjx:j = x
       · subst hjx
         rw [HY.out]
         exact HBB.out
       · exact HN.out j (by omega) hl
      case measure => omega
  · have HE:Aside0 (u3h.idx p l = -1):=⟨u3h.idx_miss p l (fun j hj => HN.out j (by omega) hj)⟩
    go_wp2
    go_ret
    exact ⟨by rw [HE.out];rfl,HB.out⟩
set_option maxHeartbeats 2000000 in
theorem api_Row_34.calls (A:Option Addr) (c:Nat) (l:List S53) (fn:Nat) (lb:Array Value) (p:S53 → Bool) (w:World) (hr:Kd.C k53 w A l.length l) (hm:l.length ≤ 9223372036854775807) (eg:∀ args W,(callFunc fn args).run Tryz.prog W = .ok (.enter fn args) W)
 (hp:∀ (W:World) (x:S53) (A1:Option Addr) (c1:Nat),x.f0.length ≤ c1 → Kd.C k66 W A1 x.f0.length x.f0 → Below w.heap.size w W → x ∈ l → Calls Tryz.prog fn (#[.agg #[.slice A1 x.f0.length c1,.int .i64 x.f1,.int .u64 x.f2]] ++ lb) W fun e w' => e = .returned (.bool (p x)) ∧ Below W.heap.size W w') :
 Calls Tryz.prog 34 #[.slice A l.length c,.func (.func fn) #[] lb] w fun e w' => e = .returned (.bool (l.any p)) ∧ Below w.heap.size w w':=by
 have HI:=Aside0.mk (u3h.calls A c l fn lb p w hr hm eg hp)
 rw [← u3h.idx_any p l]
 clear hr hp eg
 generalize u3h.idx p l = z at *
 go_enter Tryz.func34,Tryz.ntmps34
 go_wp2_with (go_at_call 61;(with_reducible refine HI.out.mono ?_);rintro e W1 ⟨rfl,hb⟩)
 go_ret
 exact ⟨rfl,hb⟩
structure ua.St (w0 W:World) (g:Nat) (s:List UInt8):Prop where
 below:Below w0.heap.size w0 W
 base:w0.heap.size ≤ g
 cells:W.heap[g]? = some (.cells #[.string (Base.ofL s)] 87 (0,0))
theorem ua.St.lt {w0 W:World} {g:Nat} {s:List UInt8} (h:ua.St w0 W g s):g < W.heap.size:=u3a h.cells
theorem ua.St.keep {w0 W W':World} {g:Nat} {s:List UInt8} (h:ua.St w0 W g s) (hb:Below w0.heap.size w0 W') (hk:W'.heap[g]? = W.heap[g]?):ua.St w0 W' g s:=⟨hb,h.base,hk.trans h.cells⟩
theorem ua.St.more {w0 W W':World} {g:Nat} {s:List UInt8} (h:ua.St w0 W g s) (hb:Below W.heap.size W W'):ua.St w0 W' g s:=h.keep (ui h.below h.below.size hb) (hb.block g h.lt)
theorem ua.St.drew {w0 W:World} {g:Nat} {s:List UInt8} (h:ua.St w0 W g s) (n:Nat):ua.St w0 (W.drewN n) g s:=h.more (ub (Below.refl _ _) n)
theorem ua.St.look {w0 W:World} {g:Nat} {s:List UInt8} (h:ua.St w0 W g s):W.cell? ⟨g,0,none⟩ = some (.string (Base.ofL s)) ∧ W.frozen? ⟨g,0,none⟩ = false:=by
 have h0:=uj h.cells 0
 simp only [List.size_toArray,List.length_cons,List.length_nil,List.getElem?_toArray,List.getElem?_cons_zero,List.getElem?_cons_succ] at h0
 exact ⟨h0,uo h.cells 0⟩
theorem ua.St.set {w0 W:World} {g:Nat} {s:List UInt8} (h:ua.St w0 W g s) (t:List UInt8):ua.St w0 (W.setCell ⟨g,0,none⟩ (.string (Base.ofL t))) g t :=
 ⟨h.below.setCell h.base _,h.base,by rw [blk_set h.cells];rfl⟩
def ua.pk (s:List UInt8):Int:=match s with
 | [] => 0
 | c :: _ => (c.toNat:Int)
theorem ua.head (c:UInt8) (r:List UInt8):∃ hp:0 < (Base.ofL (c :: r)).size,(((Base.ofL (c :: r))[0]'hp).toNat:Int) = c.toNat ∧ (Base.ofL (c :: r)).toList.isEmpty = false:=by
 have hs:(Base.ofL (c :: r)).size = r.length + 1:=by rw [← u2k,Base.ofL_data];rfl
 refine ⟨by omega,rfl,?_⟩
 rw [ByteArray.toList_eq,Base.ofL_data]
 rfl
theorem ua.calls (w0 W:World) (g:Nat) (s:List UInt8) (h:ua.St w0 W g s):Calls Tryz.prog 47 #[.pointer (some ⟨g,0,none⟩)] W fun e W' => e = .returned (.int .u8 (ua.pk s)) ∧ u1b W W':=by
 obtain ⟨h0,f0⟩:=h.look
 clear h
 cases s with
 | nil =>
   have he:(Base.ofL []).toList.isEmpty = true:=by rw [ByteArray.toList_eq,Base.ofL_data];rfl
   go_enter Tryz.func47,Tryz.ntmps47
   go_wp2
   go_ret
   exact ⟨rfl,0,rfl⟩
 | cons c r =>
   obtain ⟨hp,hc,he⟩:=ua.head c r
   obtain ⟨x,hx⟩:∃ x:ByteArray,x = Base.ofL (c :: r):=⟨_,rfl⟩
   have hp1:1 ≤ (Base.ofL (c :: r)).size:=hp
   go_enter Tryz.func47,Tryz.ntmps47
   go_wp2
   go_ret
   exact ⟨rfl,0,rfl⟩
theorem ua.look2 {W:World} {b t:Nat} {u v:Value} (h:W.heap[b]? = some (.cells #[u,v] t (0,0))):W.cell? ⟨b,0,none⟩ = some u ∧ W.cell? ⟨b,1,none⟩ = some v ∧ W.frozen? ⟨b,0,none⟩ = false ∧ W.frozen? ⟨b,1,none⟩ = false:=by
 have h0:=uj h 0
 have h1:=uj h 1
 simp only [List.size_toArray,List.length_cons,List.length_nil,List.getElem?_toArray,List.getElem?_cons_zero,List.getElem?_cons_succ] at h0 h1
 exact ⟨h0,h1,uo h 0,uo h 1⟩
theorem ua.new_at (W:World) (o:Obj):(W.alloc o).heap[W.heap.size]? = some o:=by
 show (W.heap.push o)[W.heap.size]? = some o
 simp
theorem ua.new_old {W:World} {b:Nat} {o:Obj} (h:W.heap[b]? = some o) (o2:Obj):(W.alloc o2).heap[b]? = some o:=(Below.heap_alloc W o2 b (u3a h)).trans h
theorem ua.below_at {W W':World} {b:Nat} {o:Obj} (hb:Below W.heap.size W W') (h:W.heap[b]? = some o):W'.heap[b]? = some o:=(hb.block b (u3a h)).trans h
theorem ua.kept_at {W W':World} {g b:Nat} {o:Obj} (hk:u1v W W' g none) (hne:b ≠ g) (h:W.heap[b]? = some o):W'.heap[b]? = some o:=hk.blk h hne (by simp)
theorem ua.St.one_more {w0 W:World} {g:Nat} {s:List UInt8} (h:ua.St w0 W g s) (o:Obj):ua.St w0 (W.alloc o) g s:=h.more (Below.alloc (Below.refl _ _) (Nat.le_refl _) o)
theorem ua.St.far {w0 W:World} {g:Nat} {s:List UInt8} (h:ua.St w0 W g s) {p:Addr} (hb:w0.heap.size ≤ p.block) (hp:¬ g = p.block) (u:Value):ua.St w0 (W.setCell p u) g s :=
 h.keep (h.below.setCell hb u) (Below.heap_setCell W p u g hp)
theorem ua.keep_new {w W:World} {g:Nat} (h:u1v w W g none) {p:Addr} (hp:w.heap.size ≤ p.block) (u:Value):u1v w (W.setCell p u) g none :=
 ⟨by have:=h.1;simpa using this,fun i hi hg hr => (Below.heap_setCell W p u i (by omega)).trans (h.2 i hi hg hr)⟩
theorem ua.keep_from {w W1:World} {g:Nat} {o:Obj} (h:u1v (w.alloc o) W1 g none):u1v w W1 g none:=(keep_alloc (u1v.refl w g none) o).trans h (Or.inl rfl)
theorem ua.keep_then {w W1 W2:World} {g:Nat} (h:u1v w W1 g none) (k:u1v W1 W2 g none):u1v w W2 g none:=h.trans k (Or.inl rfl)
theorem u1s.cut_yes (c:UInt8) (r:List UInt8):u1u.f (Base.ofL (c :: r)) (⟨#[c]⟩:ByteArray) = some (Base.ofL r,true):=by
 have hs:(Base.ofL (c :: r)).size = r.length + 1:=by rw [← u2k,Base.ofL_data];rfl
 have h1:((Base.ofL (c :: r)).extract 0 1).toList = [c]:=by
  rw [ByteArray.toList_eq,Base.extract_list,Base.ofL_data]
  rfl
 have h2:(((Base.ofL (c :: r)).size:Int) ≥ 1):=by omega
 have h3:((1:Int) ≤ ((Base.ofL (c :: r)).size:Int)):=by omega
 have h4:(Base.ofL (c :: r)).extract 1 (Base.ofL (c :: r)).size = Base.ofL r:=Base.ext_data (by rw [Base.extract_rest,Base.ofL_data,Base.ofL_data];rfl)
 simp [u1u.f,u2n.f,u1t.f,Base.size1,h1,h2,h3,h4,ByteArray.toList_eq]
theorem u1s.cut_no (c:UInt8) (s:List UInt8) (h:∀ r,s ≠ c :: r):u1u.f (Base.ofL s) (⟨#[c]⟩:ByteArray) = some (Base.ofL s,false):=by
 by_cases h2:(((Base.ofL s).size:Int) ≥ 1)
 · have h3:((1:Int) ≤ ((Base.ofL s).size:Int)):=by omega
   have h1:¬ List.take 1 (Base.ofL s).data.toList = [c]:=by
    rw [Base.ofL_data]
    cases s with
    | nil => simp
    | cons x q =>
      intro e
      have:x = c:=by simpa using e
      subst this
      exact h q rfl
   simp [u1u.f,u2n.f,u1t.f,Base.size1,h1,h2,h3,ByteArray.toList_eq]
 · have h3:¬ ((1:Int) ≤ ((Base.ofL s).size:Int)):=by omega
   simp [u1u.f,u2n.f,u1t.f,Base.size1,h3]
theorem u1s.calls_ok (w0 W:World) (g:Nat) (c:UInt8) (r:List UInt8) (h:ua.St w0 W g (c :: r)):Calls Tryz.prog 82 #[.pointer (some ⟨g,0,none⟩),.string (⟨#[c]⟩:ByteArray)] W fun e W' => e = .returned (.tuple #[]) ∧ ua.St w0 W' g r ∧ u1v W W' g none:=by
 have HS:=Aside0.mk h
 obtain ⟨h0,f0⟩:=h.look
 clear h
 have HC:=Aside0.mk (u1s.cut_yes c r)
 go_enter Tryz.func82,Tryz.ntmps82
 go_wp2_with (first | (go_at_call 117;refine (u1u.calls _ _ _ _ _ HC.out).mono ?_;rintro e W1 ⟨rfl,⟨nd,rfl⟩⟩) | (go_at_call 83;refine (u2h.calls_ok _).mono ?_;rintro e W1 ⟨rfl,rfl⟩))
 go_end0
 exact ⟨rfl,(HS.out.drew nd).set r,(u1v.of_below (ub (Below.refl _ _) nd) g none).set_ 0 _⟩
theorem u1s.calls_no (w0 W:World) (g:Nat) (c:UInt8) (s:List UInt8) (hs:∀ r,s ≠ c :: r) (h:ua.St w0 W g s):Calls Tryz.prog 82 #[.pointer (some ⟨g,0,none⟩),.string (⟨#[c]⟩:ByteArray)] W fun e W' => e = .panicked (u2q.chain 280) ∧ Below w0.heap.size w0 W':=by
 have HS:=Aside0.mk h
 obtain ⟨h0,f0⟩:=h.look
 clear h
 have HC:=Aside0.mk (u1s.cut_no c s hs)
 go_enter Tryz.func82,Tryz.ntmps82
 go_wp2_with (first | (go_at_call 117;refine (u1u.calls _ _ _ _ _ HC.out).mono ?_;rintro e W1 ⟨rfl,⟨nd,rfl⟩⟩) | (go_at_call 83;refine (u2h.calls_no _).mono ?_;rintro e W1 ⟨rfl,rfl⟩))
 exact ⟨rfl,rfl,(HS.out.drew nd).below⟩
def text_known.f (a0:ByteArray):Option (Bool):=if a0.toList = ([99,111,117,110,116,101,114]:List UInt8) then (some true) else (if a0.toList = ([103,97,117,103,101]:List UInt8) then (some true) else (if a0.toList = ([104,105,115,116,111,103,114,97,109]:List UInt8) then (some true) else (if a0.toList = ([115,117,109,109,97,114,121]:List UInt8) then (some true) else (if a0.toList = ([117,110,116,121,112,101,100]:List UInt8) then (some true) else (some false)))))
set_option maxHeartbeats 8000000 in
set_option maxRecDepth 100000 in
theorem text_known.calls (a0:ByteArray) (r:Bool) (w:World) (h:text_known.f a0 = some r) :
 Calls Tryz.prog 30 #[.string a0] w fun e w' => e = .returned (.bool r) ∧ u1b w w':=by
 have H:(if a0.toList = ([99,111,117,110,116,101,114]:List UInt8) then (some true) else (if a0.toList = ([103,97,117,103,101]:List UInt8) then (some true) else (if a0.toList = ([104,105,115,116,111,103,114,97,109]:List UInt8) then (some true) else (if a0.toList = ([115,117,109,109,97,114,121]:List UInt8) then (some true) else (if a0.toList = ([117,110,116,121,112,101,100]:List UInt8) then (some true) else (some false)))))) = some r:=h
 clear h
 by_cases c2:a0.toList = ([99,111,117,110,116,101,114]:List UInt8)
 · rw [if_pos c2] at H
   have c2b0:(a0.toList == ([99,111,117,110,116,101,114]:List UInt8)) = true:=beq_iff_eq.mpr c2
   have c2b1:(a0.toList != ([99,111,117,110,116,101,114]:List UInt8)) = false:=bne_eq_false_iff_eq.mpr c2
   clear c2
   obtain rfl:=Option.some.inj H
   go_enter Tryz.func30,Tryz.ntmps30
   go_wp2
   go_ret
   exact ⟨by first | rfl | (simp;done) | (simp [*];done),by repeat (first | exact u1b.refl _ | apply u1b.step)⟩
 · rw [if_neg c2] at H
   have c2b0:(a0.toList == ([99,111,117,110,116,101,114]:List UInt8)) = false:=beq_eq_false_iff_ne.mpr c2
   have c2b1:(a0.toList != ([99,111,117,110,116,101,114]:List UInt8)) = true:=bne_iff_ne.mpr c2
   by_cases c3:a0.toList = ([103,97,117,103,101]:List UInt8)
   · rw [if_pos c3] at H
     have c3b0:(a0.toList == ([103,97,117,103,101]:List UInt8)) = true:=beq_iff_eq.mpr c3
     have c3b1:(a0.toList != ([103,97,117,103,101]:List UInt8)) = false:=bne_eq_false_iff_eq.mpr c3
     clear c3
     obtain rfl:=Option.some.inj H
     go_enter Tryz.func30,Tryz.ntmps30
     go_wp2
     go_ret
     exact ⟨by first | rfl | (simp;done) | (simp [*];done),by repeat (first | exact u1b.refl _ | apply u1b.step)⟩
   · rw [if_neg c3] at H
     have c3b0:(a0.toList == ([103,97,117,103,101]:List UInt8)) = false:=beq_eq_false_iff_ne.mpr c3
     have c3b1:(a0.toList != ([103,97,117,103,101]:List UInt8)) = true:=bne_iff_ne.mpr c3
     by_cases c4:a0.toList = ([104,105,115,116,111,103,114,97,109]:List UInt8)
     · rw [if_pos c4] at H
       have c4b0:(a0.toList == ([104,105,115,116,111,103,114,97,109]:List UInt8)) = true:=beq_iff_eq.mpr c4
       have c4b1:(a0.toList != ([104,105,115,116,111,103,114,97,109]:List UInt8)) = false:=bne_eq_false_iff_eq.mpr c4
       clear c4
       obtain rfl:=Option.some.inj H
       go_enter Tryz.func30,Tryz.ntmps30
       go_wp2
       go_ret
       exact ⟨by first | rfl | (simp;done) | (simp [*];done),by repeat (first | exact u1b.refl _ | apply u1b.step)⟩
     · rw [if_neg c4] at H
       have c4b0:(a0.toList == ([104,105,115,116,111,103,114,97,109]:List UInt8)) = false:=beq_eq_false_iff_ne.mpr c4
       have c4b1:(a0.toList != ([104,105,115,116,111,103,114,97,109]:List UInt8)) = true:=bne_iff_ne.mpr c4
       by_cases c5:a0.toList = ([115,117,109,109,97,114,121]:List UInt8)
       · rw [if_pos c5] at H
         have c5b0:(a0.toList == ([115,117,109,109,97,114,121]:List UInt8)) = true:=beq_iff_eq.mpr c5
         have c5b1:(a0.toList != ([115,117,109,109,97,114,121]:List UInt8)) = false:=bne_eq_false_iff_eq.mpr c5
         clear c5
         obtain rfl:=Option.some.inj H
         go_enter Tryz.func30,Tryz.ntmps30
         go_wp2
         go_ret
         exact ⟨by first | rfl | (simp;done) | (simp [*];done),by repeat (first | exact u1b.refl _ | apply u1b.step)⟩
       · rw [if_neg c5] at H
         have c5b0:(a0.toList == ([115,117,109,109,97,114,121]:List UInt8)) = false:=beq_eq_false_iff_ne.mpr c5
         have c5b1:(a0.toList != ([115,117,109,109,97,114,121]:List UInt8)) = true:=bne_iff_ne.mpr c5
         by_cases c6:a0.toList = ([117,110,116,121,112,101,100]:List UInt8)
         · rw [if_pos c6] at H
           have c6b0:(a0.toList == ([117,110,116,121,112,101,100]:List UInt8)) = true:=beq_iff_eq.mpr c6
           have c6b1:(a0.toList != ([117,110,116,121,112,101,100]:List UInt8)) = false:=bne_eq_false_iff_eq.mpr c6
           clear c6
           obtain rfl:=Option.some.inj H
           go_enter Tryz.func30,Tryz.ntmps30
           go_wp2
           go_ret
           exact ⟨by first | rfl | (simp;done) | (simp [*];done),by repeat (first | exact u1b.refl _ | apply u1b.step)⟩
         · rw [if_neg c6] at H
           have c6b0:(a0.toList == ([117,110,116,121,112,101,100]:List UInt8)) = false:=beq_eq_false_iff_ne.mpr c6
           have c6b1:(a0.toList != ([117,110,116,121,112,101,100]:List UInt8)) = true:=bne_iff_ne.mpr c6
           obtain rfl:=Option.some.inj H
           go_enter Tryz.func30,Tryz.ntmps30
           go_wp2
           go_ret
           exact ⟨by first | rfl | (simp;done) | (simp [*];done),by repeat (first | exact u1b.refl _ | apply u1b.step)⟩
def u1k.Gd (w:World):Prop:=Lib.TabIs Tryz.prog w "internal/strconv.uint64pow10" .u64 Lib.pow10Tab
theorem u1k.Gd.below {w w':World} (h:u1k.Gd w) (hb:Below w.heap.size w w'):u1k.Gd w':=by
 unfold u1k.Gd Lib.TabIs World.var? at *
 cases hg:Tryz.prog.globalNamed "internal/strconv.uint64pow10" with
 | none => simp [hg] at h
 | some g =>
   simp only [hg,Option.bind_some] at h ⊢
   have hlt:g < w.heap.size:=by
    rcases Nat.lt_or_ge g w.heap.size with h' | h'
    · exact h'
    · rw [Array.getElem?_eq_none h'] at h;simp at h
   rw [hb.block g hlt]
   exact h
theorem u1k.below_grow (w:World) (k:Nat) (os:Array Obj):Below w.heap.size w (Sort.grow (w.drewN k) os):=by
 refine ⟨rfl,rfl,rfl,?_,fun j hj => ?_⟩
 · simp [Sort.grow,World.drewN]
 · simp only [Sort.grow,World.drewN]
   rw [Array.getElem?_append_left hj]
theorem u1k.itoa (n:Int) (h0 : -9223372036854775808 ≤ n) (h1:n ≤ 9223372036854775807) (w:World) (hG:u1k.Gd w) :
 Calls Tryz.prog 69 #[.int .i64 n] w fun e w' => e = .returned (.string ⟨(Lib.itoa n).toArray⟩) ∧ Below w.heap.size w w' :=
 (Tryz.strconv_Itoa n h0 h1 w hG).mono fun e w' ⟨he,k,os,hw⟩ => ⟨he,by rw [hw];exact u1k.below_grow w k os⟩
theorem u1k.holds_zero (w:World) (T:TypeId) (nd:Nat) (hs:nd ≤ 24):Sort.Holds (fun (b:UInt8) => Value.int .u8 (b.toNat:Int)) (w.alloc (.cells Lib.zeros24 T)) w.heap.size 0 (Array.replicate nd (0:UInt8)):=fun j hj => by
 have hj':j < nd:=by simpa using hj
 refine ⟨?_,World.frozen?_alloc_new _ _ _ _⟩
 rw [World.cell?_alloc_new,Lib.zeros24_at _ (by omega),getElem!_pos _ j hj]
 simp
open Go.Sort Go.Lib in
set_option maxHeartbeats 6400000 in
set_option maxRecDepth 100000 in
theorem u1k.inner (u:Nat) (hu64:u < 18446744073709551616) (w:World) (hG:u1k.Gd w) :
 Calls Tryz.prog 110 #[.int .u64 u,.int .i64 10] w fun e w' => e = .returned (.string ⟨(Lib.decDigits u).toArray⟩) ∧ Below w.heap.size w w':=by
 by_cases hs:u < 100
 · have hq:decide ((u:Int) < 100) = true:=decide_eq_true (by omega)
   have hw:wrap64 (u:Int) = (u:Int):=by unfold wrap64;omega
   go_enter Tryz.func110,Tryz.ntmps110
   go_wp2_with (go_at_call 135;(with_reducible refine (Tryz.strconv_small u hs _).mono ?_);rintro e w' ⟨rfl,rfl⟩)
   go_ret
   exact ⟨rfl,Below.refl _ _⟩
 · have hu1:1 ≤ u:=by omega
   have hq:decide ((u:Int) < 100) = false:=decide_eq_false (by omega)
   have hnd20:Lib.nDigits u ≤ 20:=by have:=Lib.numDigits_eq u hu1 hu64;split at this <;> omega
   have hal:Tryz.prog.arrayLen 175 = 24:=by kernel_rfl
   have hsl1:∀ W,(Instr.sliceAt 175 (.pointer (some ⟨w.heap.size,0,none⟩)) none (some (.int .i64 (Lib.nDigits u:Int))) none).run Tryz.prog W = .ok (.slice (some ⟨w.heap.size,0,none⟩) (Lib.nDigits u) 24) W:=fun W => by
    rw [run_sliceAt_array_h W 175 ⟨w.heap.size,0,none⟩ (by kernel_rfl) .i64 (Lib.nDigits u:Int) (by omega) (by rw [hal];omega)]
    rw [hal]
    go_simp
   have hH0:=u1k.holds_zero w 175 (Lib.nDigits u) (by omega)
   have hfmt:=Tryz.strconv_formatBase10 w.heap.size 0 24 u (Array.replicate (Lib.nDigits u) 0) (w.alloc (.cells Lib.zeros24 175)) hH0 (by rw [Array.size_replicate];exact Lib.lt_pow_nDigits u) hu64 (by rw [Array.size_replicate];omega)
   rw [Array.size_replicate] at hfmt
   have HH0:=Aside0.mk hH0
   have HFM:=Aside0.mk hfmt
   have HGG:=Aside0.mk hG
   clear hH0 hal hfmt hG
   go_enter Tryz.func110,Tryz.ntmps110
   go_wp2_with (first
    | (go_at_call 136;refine (Tryz.strconv_numDigits u hu1 hu64 _ (Lib.tabIs_alloc HGG.out _)).mono ?_;rintro e w' ⟨rfl,rfl⟩))
   go_at_call 137
   refine HFM.out.mono ?_
   rintro e w' ⟨rfl,k,v',dk,rfl,hF⟩
   have hcv:(convert 22 9 (.slice (some ⟨w.heap.size,0,none⟩) (Lib.nDigits u) 24)).run Tryz.prog ((putRow (fun (b:UInt8) => Value.int .u8 (b.toNat:Int)) (w.alloc (.cells Lib.zeros24 175)) w.heap.size 0 dk).drewN k) = .ok (.string ⟨(Lib.decDigits u).toArray⟩) ((putRow (fun (b:UInt8) => Value.int .u8 (b.toNat:Int)) (w.alloc (.cells Lib.zeros24 175)) w.heap.size 0 dk).drewN k):=by
    have h:=run_convert_bytes_back (P:=Tryz.prog) ((putRow (fun (b:UInt8) => Value.int .u8 (b.toNat:Int)) (w.alloc (.cells Lib.zeros24 175)) w.heap.size 0 dk).drewN k) 22 9 5 ⟨w.heap.size,0,none⟩ 24 (Lib.decDigits u) Tryz.underlying22 Tryz.underlying5 Tryz.underlying9 (fun j hj => by
     rw [Lib.row_is_numeral hF j hj,Lib.add_plain,World.cell?_drewN]
     exact cell?_putRow (fun (b:UInt8) => Value.int .u8 (b.toNat:Int)) _ w.heap.size 0 _ dk HH0.out (by rw [hF.size,Array.size_replicate]) j (by rw [hF.size];rw [Lib.decDigits_length] at hj;exact hj))
    rw [Lib.decDigits_length] at h
    exact h
   go_wp2
   go_ret
   refine ⟨rfl,?_⟩
   have hf:∃ os,(putRow (fun (b:UInt8) => Value.int .u8 (b.toNat:Int)) (w.alloc (.cells Lib.zeros24 175)) w.heap.size 0 dk).drewN k = grow (w.drewN k) os:=by
    rw [alloc_eq_grow]
    obtain ⟨os',_,e⟩:=putRow_grow_new (fun (b:UInt8) => Value.int .u8 (b.toNat:Int)) w #[.cells Lib.zeros24 175] w.heap.size 0 dk (Nat.le_refl _)
    exact ⟨os',by rw [e];rfl⟩
   obtain ⟨os,e⟩:=hf
   have h9:=u1k.below_grow w k os
   rw [← e] at h9
   exact h9
theorem u1k.calls (u:Nat) (hu64:u < 18446744073709551616) (w:World) (hG:u1k.Gd w) :
 Calls Tryz.prog 68 #[.int .u64 u,.int .i64 10] w fun e w' => e = .returned (.string ⟨(Lib.decDigits u).toArray⟩) ∧ Below w.heap.size w w':=by
 have HG:=Aside0.mk hG
 clear hG
 go_enter Tryz.func68,Tryz.ntmps68
 go_wp2_with (go_at_call 110;(with_reducible refine (u1k.inner u hu64 _ HG.out).mono ?_);rintro e w' ⟨rfl,hb⟩)
 go_ret
 exact ⟨rfl,hb⟩
def u2m.get (a1:ByteArray):List S66 → ByteArray
 | [] => ⟨#[]⟩
 | x :: r => if x.f0.toList = a1.toList then x.f1 else u2m.get a1 r
def u2m.f (l0:List S66) (a1:ByteArray):Option ByteArray:=some (u2m.get a1 l0)
theorem u2m.get_hit (a1:ByteArray) (l:List S66):∀ x:Nat,x < l.length → (∀ j:Nat,j < x → ¬ (uq l j).f0.toList = a1.toList) → (uq l x).f0.toList = a1.toList → u2m.get a1 l = (uq l x).f1:=by
 induction l with
 | nil => intro x hx;simp at hx
 | cons y r ih =>
   intro x hx hn he
   cases x with
   | zero =>
     have he':y.f0.toList = a1.toList:=he
     simp only [u2m.get]
     rw [if_pos he']
     rfl
   | succ x =>
     have h0:¬ y.f0.toList = a1.toList:=hn 0 (by omega)
     simp only [u2m.get]
     rw [if_neg h0]
     exact ih x (by simpa using hx) (fun j hj => hn (j + 1) (by omega)) he
theorem u2m.get_miss (a1:ByteArray) (l:List S66):(∀ j:Nat,j < l.length → ¬ (uq l j).f0.toList = a1.toList) → u2m.get a1 l = ⟨#[]⟩:=by
 induction l with
 | nil => intro _;rfl
 | cons y r ih =>
   intro hn
   have h0:¬ y.f0.toList = a1.toList:=hn 0 (by simp)
   simp only [u2m.get]
   rw [if_neg h0]
   exact ih (fun j hj => hn (j + 1) (by simpa using hj))
set_option maxHeartbeats 400000 in
theorem u2m.test (n v nm:ByteArray) (g:Nat) (w:World) (hg:w.cell? ⟨g,0,none⟩ = some (.string nm)) :
 Calls Tryz.prog 107 #[.agg #[.string n,.string v],.pointer (some ⟨g,0,none⟩)] w fun e w' => e = .returned (.bool (n.toList == nm.toList)) ∧ Below w.heap.size w w':=by
 have hlt:=World.block_lt_of_cell? w _ hg
 have hne:g ≠ w.heap.size:=by simp only at hlt;omega
 go_enter Tryz.func107,Tryz.ntmps107
 go_wp2
 go_ret
 exact ⟨rfl,(Below.refl _ w).alloc (Nat.le_refl _) _⟩
set_option maxHeartbeats 1000000 in
theorem u2m.index (A:Option Addr) (c:Nat) (l:List S66) (nm:ByteArray) (g:Nat) (w:World) (hr:Kd.C k66 w A l.length l) (hm:l.length ≤ 9223372036854775807) (hg:w.cell? ⟨g,0,none⟩ = some (.string nm)) :
 Calls Tryz.prog 106 #[.slice A l.length c,.func (.func 107) #[] #[.pointer (some ⟨g,0,none⟩)]] w fun e w' =>
  ((∃ x:Nat,x < l.length ∧ e = .returned (.int .i64 x) ∧ (∀ j:Nat,j < x → ¬ (uq l j).f0.toList = nm.toList) ∧ (uq l x).f0.toList = nm.toList) ∨
   (e = .returned (.int .i64 (-1)) ∧ ∀ j:Nat,j < l.length → ¬ (uq l j).f0.toList = nm.toList)) ∧ Below w.heap.size w w':=by
 have HR:=Aside0.mk hr
 have HG:=Aside0.mk hg
 have hgl:=World.block_lt_of_cell? w _ hg
 clear hr hg
 have hu41:=Tryz.underlying66
 go_enter Tryz.func106,Tryz.ntmps106
 go_wp2
 go_loopg [8] (l.length) (fun kq v8 wr => ∃ (x:Nat),x ≤ l.length ∧ v8 = .int .i64 x ∧ Aside0 (∀ j:Nat,j < x → ¬ (uq l j).f0.toList = nm.toList) ∧ l.length ≤ kq + x ∧ Below w.heap.size w wr)
 case atStart => exact ⟨0,by omega,rfl,⟨fun j hj => absurd hj (by omega)⟩,by omega,Below.refl _ _⟩
 case round =>
  obtain ⟨x,hx,rfl,HN,hk,hB⟩:=hrel
  have HB:=Aside0.mk hB
  clear hB
  by_cases hlt:x < l.length
  · obtain ⟨ad,e,hc0,hc1⟩:=at_T66 HR.out (x:Int) (by omega) (by omega)
    subst e
    have hd0:wr.cell? (ad.add (x * 2)) = some (.string (uq l x).f0):=(HB.out.cell (World.block_lt_of_cell? w _ (by simpa using hc0))).trans (by simpa using hc0)
    have hd1:wr.cell? ⟨(ad.add (x * 2)).block,(ad.add (x * 2)).off + 1,none⟩ = some (.string (uq l x).f1):=(HB.out.cell (World.block_lt_of_cell? w _ (by simpa using hc1))).trans (by simpa using hc1)
    clear hc0 hc1
    have hg1:wr.cell? ⟨g,0,none⟩ = some (.string nm):=(HB.out.cell (by simpa using hgl)).trans HG.out
    have HT:=Aside0.mk (u2m.test (uq l x).f0 (uq l x).f1 nm g wr hg1)
    clear hg1
    cases hb:((uq l x).f0.toList == nm.toList) with
    | true =>
      rw [hb] at HT
      go_wp2_with (go_at_call 107;refine HT.out.mono ?_;rintro e W1 ⟨rfl,hb1⟩)
      go_ret
      exact ⟨.inl ⟨x,hlt,rfl,HN.out,by simpa using hb⟩,HB.out.trans (hb1.mono HB.out.size)⟩
    | false =>
      rw [hb] at HT
      obtain ⟨g1,rfl⟩:∃ g1,gk = g1 + 1:=⟨gk - 1,by omega⟩
      go_wp2_with (go_at_call 107;refine HT.out.mono ?_;rintro e W1 ⟨rfl,hb1⟩)
      go_roundg g1
      case rel =>
       refine ⟨x + 1,by omega,by go_num,⟨fun j hj => ?_⟩,by omega,HB.out.trans (hb1.mono HB.out.size)⟩
       by_cases hjx:j = x
       · subst hjx
         simpa using hb
       · exact HN.out j (by omega)
      case measure => omega
  · go_wp2
    go_ret
    exact ⟨.inr ⟨rfl,fun j hj => HN.out j (by omega)⟩,HB.out⟩
set_option maxHeartbeats 1000000 in
theorem u2m.calls (A0:Option Addr) (c0:Nat) (l0:List (S66)) (a1:ByteArray) (r:ByteArray) (w:World) (hr0:Kd.C k66 w A0 l0.length l0) (hc0:l0.length ≤ c0) (h:u2m.f l0 a1 = some r) :
 Calls Tryz.prog 63 #[.slice A0 l0.length c0,.string a1] w fun e w' => e = .returned (.string r) ∧ Below w.heap.size w w':=by
 obtain rfl:u2m.get a1 l0 = r:=by simpa [u2m.f] using h
 clear h
 have HR:=Aside0.mk hr0
 clear hr0
 have hm:=HR.out.2.1
 have HI:=fun W (hB:Below w.heap.size w W) (hg:W.cell? ⟨w.heap.size,0,none⟩ = some (.string a1)) => u2m.index A0 c0 l0 a1 w.heap.size W (Kd.C_below HR.out hB) hm hg
 have HI':=Aside0.mk HI
 clear HI
 go_enter Tryz.func63,Tryz.ntmps63
 go_wp2_with fail
 refine (HI'.out _ ((Below.refl _ w).alloc (Nat.le_refl _) _) (by simp)).mono ?_
 rintro e W1 ⟨⟨x,hx,rfl,h1,h2⟩ | ⟨rfl,h1⟩,hb1⟩
 · have hB:Below w.heap.size w W1:=((Below.refl _ w).alloc (Nat.le_refl _) _).trans (hb1.mono (by simp))
   have HB:=Aside0.mk hB
   have H1:=Aside0.mk (u2m.get_hit a1 l0 x hx h1 h2)
   clear h1 h2 hb1 hB
   obtain ⟨ad,e,hc0,hc1⟩:=at_T66 HR.out (x:Int) (by omega) (by omega)
   subst e
   have hd1:W1.cell? ⟨(ad.add (x * 2)).block,(ad.add (x * 2)).off + 1,none⟩ = some (.string (uq l0 x).f1):=(HB.out.cell (World.block_lt_of_cell? w _ (by simpa using hc1))).trans (by simpa using hc1)
   clear hc0 hc1
   go_wp2
   go_ret
   exact ⟨by rw [H1.out];rfl,HB.out⟩
 · have hB:Below w.heap.size w W1:=((Below.refl _ w).alloc (Nat.le_refl _) _).trans (hb1.mono (by simp))
   have H1:=Aside0.mk (u2m.get_miss a1 l0 h1)
   clear h1
   go_wp2
   go_ret
   exact ⟨by rw [H1.out];rfl,hB⟩
def u1r.f (a0:ByteArray):Option Bool:=some (Base.nameB a0)
theorem u1r.letter_is (x:Int):labels_letter.f x = some (Base.letterB x):=by
 unfold labels_letter.f Base.letterB
 by_cases h1:x = 95
 · simp [h1]
 · rw [if_neg h1]
   by_cases h2:Go.bits .or .u8 x 32 ≥ 97
   · rw [if_pos h2]
     simp only [ge_iff_le] at h2
     simp [h1,h2]
   · rw [if_neg h2]
     simp only [ge_iff_le] at h2
     simp [h1,h2]
theorem u1r.digit_is (x:Int):labels_digit.f x = some (Base.digitB x):=by
 unfold labels_digit.f Base.digitB
 by_cases h1:x ≥ 48
 · rw [if_pos h1]
   simp only [ge_iff_le] at h1
   simp [h1]
 · rw [if_neg h1]
   simp only [ge_iff_le] at h1
   simp [h1]
def u1r.badB (c:Int):Bool:=!Base.letterB c && !Base.digitB c
set_option maxHeartbeats 400000 in
theorem u1r.test (c:Int) (w:World):Calls Tryz.prog 57 #[.int .u8 c] w fun e w' => e = .returned (.bool (u1r.badB c)) ∧ u1b w w':=by
 unfold u1r.badB
 cases hl:Base.letterB c with
 | true =>
   go_enter Tryz.func57,Tryz.ntmps57
   go_wp2_with (go_at_call 55;refine (labels_letter.calls _ _ _ (u1r.letter_is _)).mono ?_;rintro e W1 ⟨rfl,⟨nd,rfl⟩⟩)
   go_ret
   exact ⟨rfl,⟨nd,rfl⟩⟩
 | false =>
   go_enter Tryz.func57,Tryz.ntmps57
   go_wp2_with (first | (go_at_call 55;refine (labels_letter.calls _ _ _ (u1r.letter_is _)).mono ?_;rintro e W1 ⟨rfl,⟨nd,rfl⟩⟩) | (go_at_call 58;refine (labels_digit.calls _ _ _ (u1r.digit_is _)).mono ?_;rintro e W2 ⟨rfl,⟨md,rfl⟩⟩))
   go_ret
   exact ⟨rfl,⟨_,rfl⟩⟩
set_option maxHeartbeats 1000000 in
theorem u1r.index (A:Option Addr) (c:Nat) (l:List Int) (w:World) (hr:Kd.C (Kd.int .u8) w A l.length l) (hm:l.length ≤ 140737488355328) :
 Calls Tryz.prog 104 #[.slice A l.length c,.func (.func 57) #[] #[]] w fun e w' => (∃ i:Int,e = .returned (.int .i64 i) ∧ decide (0 ≤ i) = l.any u1r.badB) ∧ u1b w w':=by
 have HR:=Aside0.mk hr
 clear hr
 go_enter Tryz.func104,Tryz.ntmps104
 go_wp2
 go_loopg [8] (l.length) (fun kq v8 w' => ∃ (x:Nat),x ≤ l.length ∧ v8 = .int .i64 x ∧ Aside0 ((l.take x).any u1r.badB = false) ∧ l.length ≤ kq + x ∧ u1b w w')
 case atStart => exact ⟨0,by omega,rfl,⟨rfl⟩,by omega,u1b.refl _⟩
 case round =>
  obtain ⟨x,hx,rfl,HN,hk,⟨m1,rfl⟩⟩:=hrel
  by_cases hlt:x < l.length
  · obtain ⟨ad,e,hc⟩:=Kd.at_int HR.out (x:Int) (by omega) (by omega)
    subst e
    have hc2:w.cell? (ad.add x) = some (.int .u8 (rd l x)):=by simpa using hc
    clear hc
    have htk:l.take (x + 1) = l.take x ++ [rd l x]:=by
     rw [List.take_succ_eq_append_getElem hlt]
     simp [rd,List.getD_eq_getElem?_getD,hlt]
    have HT:=Aside0.mk htk
    clear htk
    cases hb:u1r.badB (rd l x) with
    | true =>
      go_wp2_with (go_at_call 57;refine (u1r.test _ _).mono ?_;rintro e W1 ⟨rfl,⟨nd,rfl⟩⟩)
      go_ret
      refine ⟨⟨_,rfl,?_⟩,⟨_,rfl⟩⟩
      have h1:l.any u1r.badB = true:=by
       rw [List.any_eq_true]
       refine ⟨rd l x,?_,hb⟩
       have h2:rd l x ∈ l.take (x + 1):=by rw [HT.out];simp
       exact List.mem_of_mem_take h2
      rw [h1]
      simp
    | false =>
      go_wp2_with (go_at_call 57;refine (u1r.test _ _).mono ?_;rintro e W1 ⟨rfl,⟨nd,rfl⟩⟩)
      obtain ⟨g1,rfl⟩:∃ g1,gk = g1 + 1:=⟨gk - 1,by omega⟩
      go_roundg g1
      case rel =>
       refine ⟨x + 1,by omega,by go_num,⟨?_⟩,by omega,⟨_,rfl⟩⟩
       rw [HT.out,List.any_append,HN.out]
       simp [hb]
      case measure => omega
  · go_wp2
    go_ret
    refine ⟨⟨_,rfl,?_⟩,⟨_,rfl⟩⟩
    have h1:=HN.out
    rw [List.take_of_length_le (by omega)] at h1
    rw [h1]
    simp
theorem u1r.contains (A:Option Addr) (c:Nat) (l:List Int) (w:World) (hr:Kd.C (Kd.int .u8) w A l.length l) (hm:l.length ≤ 140737488355328) :
 Calls Tryz.prog 56 #[.slice A l.length c,.func (.func 57) #[] #[]] w fun e w' => e = .returned (.bool (l.any u1r.badB)) ∧ u1b w w':=by
 go_enter Tryz.func56,Tryz.ntmps56
 go_wp2_with (go_at_call 104;refine (u1r.index _ _ _ _ hr hm).mono ?_;rintro e W1 ⟨⟨i,rfl,hi⟩,⟨nd,rfl⟩⟩)
 go_ret
 exact ⟨by simp,⟨_,rfl⟩⟩
theorem u1r.contains_n (A:Option Addr) (c n:Nat) (l:List Int) (w:World) (hn:l.length = n) (hr:Kd.C (Kd.int .u8) w A n l) (hm:n ≤ 140737488355328) :
 Calls Tryz.prog 56 #[.slice A n c,.func (.func 57) #[] #[]] w fun e w' => e = .returned (.bool (l.any u1r.badB)) ∧ u1b w w':=by
 subst hn
 exact u1r.contains A c l w hr hm
set_option maxHeartbeats 1000000 in
theorem u1r.calls (a0:ByteArray) (r:Bool) (w:World) (h:u1r.f a0 = some r) :
 Calls Tryz.prog 29 #[.string a0] w fun e w' => e = .returned (.bool r) ∧ Below w.heap.size w w':=by
 obtain rfl:Base.nameB a0 = r:=by simpa [u1r.f] using h
 clear h
 by_cases h0:a0.size = 0
 · have he:a0.toList = []:=(Base.toList_nil a0).2 h0
   have hv:Aside0 (Base.nameB a0 = false):=⟨by simp [Base.nameB,h0]⟩
   have hi:a0.toList.isEmpty = true:=by rw [he];rfl
   clear he h0
   go_enter Tryz.func29,Tryz.ntmps29
   go_wp2
   go_ret
   exact ⟨by rw [hv.out];rfl,Below.refl _ _⟩
 · have he:a0.toList.isEmpty = false:=by
    cases hl:a0.toList with
    | nil => exact absurd ((Base.toList_nil a0).1 hl) h0
    | cons _ _ => rfl
   have hen:¬ a0.toList = []:=by intro hl;rw [hl] at he;simp at he
   by_cases h24:a0.size ≤ 24
   · have hp:0 < a0.size:=by omega
     have hbt:((a0[0]'hp).toNat:Int) = bt a0 0:=by simpa using bt_at a0 0 (by simpa using hp)
     have hh:(bytesOf a0).headD 0 = bt a0 0:=by
      rw [← rd_bytesOf]
      cases bytesOf a0 <;> rfl
     have HH:=Aside0.mk hh
     clear hh
     cases hl:Base.letterB (bt a0 0) with
     | false =>
       have hv:Aside0 (Base.nameB a0 = false):=⟨by unfold Base.nameB;rw [HH.out,hl];simp⟩
       go_enter Tryz.func29,Tryz.ntmps29
       go_wp2_with (go_at_call 55;refine (labels_letter.calls _ _ _ (u1r.letter_is _)).mono ?_;rintro e W1 ⟨rfl,⟨nd,rfl⟩⟩)
       go_ret
       exact ⟨by rw [hv.out];rfl,ub (Below.refl _ _) nd⟩
     | true =>
       have kb:=fun W => print_bytes (P:=Tryz.prog) 9 22 5 Tryz.underlying9 Tryz.underlying22 Tryz.underlying5 a0 W
       have hv:Aside0 (Base.nameB a0 = !(bytesOf a0).any u1r.badB):=⟨by
        have h1:(bytesOf a0).all (fun c => Base.letterB c || Base.digitB c) = !(bytesOf a0).any u1r.badB:=by
         rw [List.all_eq_not_any_not]
         congr 2
         funext c
         simp [u1r.badB]
        unfold Base.nameB
        rw [HH.out,hl,h1]
        simp [hp,h24]⟩
       go_enter Tryz.func29,Tryz.ntmps29
       go_wp2_with (go_at_call 55;refine (labels_letter.calls _ _ _ (u1r.letter_is _)).mono ?_;rintro e W1 ⟨rfl,⟨nd,rfl⟩⟩)
       have hr:=bytes_reads (w.drewN nd) 5 a0 (by omega)
       have hc:Kd.C (Kd.int .u8) (Lib.bytesWorld (w.drewN nd) 5 a0) (some ⟨w.heap.size,0,none⟩) a0.size (bytesOf a0):=Kd.C_of_reads (d:=(0:Int)) (h1:=fun _ => rfl) hr
       refine (u1r.contains_n _ _ _ _ _ (bytesOf_length a0) hc (by omega)).mono ?_
       rintro e W2 ⟨rfl,⟨md,rfl⟩⟩
       clear hr hc
       go_wp2
       go_ret
       exact ⟨by rw [hv.out];rfl,ub (bytes_below (ub (Below.refl _ _) nd) (by simp) _ _) md⟩
   · have hv:Aside0 (Base.nameB a0 = false):=⟨by simp [Base.nameB,h24]⟩
     go_enter Tryz.func29,Tryz.ntmps29
     go_wp2
     go_ret
     exact ⟨by rw [hv.out];rfl,Below.refl _ _⟩
end Go.Proofs.YtmcpeifhapekoaaGreatDoor.PAll
namespace Go.Proofs.YtmcpeifhapekoaaGreatDoor.PAll
open Go.RowKit Go.Proofs.YtmcpeifhapekoaaGreatDoorW.PrintWords Go.Proofs.YtmcpeifhapekoaaGreatDoorW.PrintLast Go.Proofs.YtmcpeifhapekoaaGreatDoorW.PrintMore
attribute [local go_sem] max2_int min2_int max_two min_two max_three min_three max_four min_four
set_option linter.unusedVariables false
set_option linter.unusedSimpArgs false
attribute [local go_sem high] eqA66
def u2y.l0:Nat → List (S66) → List (S66) → Int → Int → Option (Bool)
 | 0,_,_,_,_ => none
 | k + 1,x0,x1,x12,x13 => if x13 < x12 then (if 0 ≤ x13 then (if x13 < (x0.length:Int) then (if x13 < (x1.length:Int) then (if (!((((uq x0 x13).f0).toList) == (((uq x1 x13).f0).toList)) || (!((((uq x0 x13).f1).toList) == (((uq x1 x13).f1).toList)))) = true then (some false) else (u2y.l0 k x0 x1 x12 (wrap64 (x13 + 1)))) else (none)) else (none)) else (none)) else (some true)
def u2y.f (k:Nat) (l0:List (S66)) (l1:List (S66)):Option (Bool):=if (l0.length:Int) = (l1.length:Int) then (u2y.l0 k l0 l1 (l0.length:Int) 0) else (some false)
set_option maxHeartbeats 8000000 in
set_option maxRecDepth 100000 in
theorem u2y.calls (k:Nat) (A0:Option Addr) (c0:Nat) (l0:List (S66)) (A1:Option Addr) (c1:Nat) (l1:List (S66)) (r:Bool) (w:World) (hr0:Kd.C k66 w A0 l0.length l0) (hc0:l0.length ≤ c0) (hr1:Kd.C k66 w A1 l1.length l1) (hc1:l1.length ≤ c1) (h:u2y.f k l0 l1 = some r) :
 Calls Tryz.prog 26 #[.slice A0 l0.length c0,.slice A1 l1.length c1] w fun e w' => e = .returned (.bool r) ∧ u1b w w':=by
 have hu66:=Tryz.underlying66
 have HR0:=Aside0.mk hr0
 have HC0:=Aside0.mk hc0
 clear hr0 hc0
 have HR1:=Aside0.mk hr1
 have HC1:=Aside0.mk hc1
 clear hr1 hc1
 have H:(if (l0.length:Int) = (l1.length:Int) then (u2y.l0 k l0 l1 (l0.length:Int) 0) else (some false)) = some r:=h
 clear h
 by_cases c3:(l0.length:Int) = (l1.length:Int)
 · rw [if_pos c3] at H
   have c3b0:((l0.length:Int) == (l1.length:Int)) = true:=beq_iff_eq.mpr c3
   have c3b1:((l0.length:Int) != (l1.length:Int)) = false:=bne_eq_false_iff_eq.mpr c3
   have c3b2:(l0.length == l1.length) = true:=by first | simpa using c3 | (simp at c3 ⊢;omega)
   clear c3
   have H':=Aside0.mk H
   clear H
   go_enter Tryz.func26,Tryz.ntmps26
   go_wp2
   repeat (go_quiet (fail);try go_wp2)
   go_loopg [13] k (fun kq v13 w' => ∃ (x13_1:Int),v13 = .int .i64 x13_1 ∧ Aside0 (u2y.l0 kq l0 l1 (l0.length:Int) x13_1 = some r) ∧ Aside0 (kq ≤ k) ∧ u1b w w')
   case atStart => exact ⟨(0),(by first | rfl | (simp;done) | (simp [*];done)),H',⟨Nat.le_refl _⟩,by repeat (first | exact u1b.refl _ | apply u1b.step)⟩
   case round =>
    clear H'
    try clear c1
    try clear c2
    try clear p2
    try clear c3
    try clear c3b0
    try clear c3b1
    try clear c3b2
    obtain ⟨x13_1,rfl,HA,HK1,⟨m1,rfl⟩⟩:=hrel
    cases gk with
    | zero => exact absurd HA.out (by simp [u2y.l0])
    | succ k1 =>
      have H:=HA.out
      clear HA
      simp only [u2y.l0] at H
      by_cases c4:x13_1 < (l0.length:Int)
      · rw [if_pos c4] at H
        have c4b0:decide (x13_1 < (l0.length:Int)) = true:=decide_eq_true c4
        clear c4
        by_cases c5:0 ≤ x13_1
        · rw [if_pos c5] at H
          have c5b0:decide (0 ≤ x13_1) = true:=decide_eq_true c5
          clear c5
          by_cases c6:x13_1 < (l0.length:Int)
          · rw [if_pos c6] at H
            have c6b0:decide (x13_1 < (l0.length:Int)) = true:=decide_eq_true c6
            clear c6
            by_cases c7:x13_1 < (l1.length:Int)
            · rw [if_pos c7] at H
              have c7b0:decide (x13_1 < (l1.length:Int)) = true:=decide_eq_true c7
              clear c7
              by_cases c8:(!((((uq l0 x13_1).f0).toList) == (((uq l1 x13_1).f0).toList)) || (!((((uq l0 x13_1).f1).toList) == (((uq l1 x13_1).f1).toList)))) = true
              · rw [if_pos c8] at H
                have c8b0:(!((((uq l0 x13_1).f0).toList) == (((uq l1 x13_1).f0).toList)) || (!((((uq l0 x13_1).f1).toList) == (((uq l1 x13_1).f1).toList)))) = true:=c8
                clear c8
                obtain rfl:=Option.some.inj H
                have p249:0 ≤ (x13_1:Int):=of_decide_eq_true (by first | (with_reducible assumption) | assumption)
                have q249:x13_1 < (l0.length:Int):=of_decide_eq_true (by first | (with_reducible assumption) | assumption)
                obtain ⟨ad249,e249,hx249_0,hx249_1⟩:=at_T66 HR0.out x13_1 p249 q249
                cases e249
                replace p249:=eq_true p249
                replace q249:=eq_true q249
                have p250:0 ≤ (x13_1:Int):=of_decide_eq_true (by first | (with_reducible assumption) | assumption)
                have q250:x13_1 < (l1.length:Int):=of_decide_eq_true (by first | (with_reducible assumption) | assumption)
                obtain ⟨ad250,e250,hx250_0,hx250_1⟩:=at_T66 HR1.out x13_1 p250 q250
                cases e250
                replace p250:=eq_true p250
                replace q250:=eq_true q250
                go_wp2
                repeat (go_quiet (fail);try go_wp2)
                go_ret
                exact ⟨by first | rfl | (simp;done) | (simp [*];done),by repeat (first | exact u1b.refl _ | apply u1b.step)⟩
              · rw [if_neg c8] at H
                have c8b0:(!((((uq l0 x13_1).f0).toList) == (((uq l1 x13_1).f0).toList)) || (!((((uq l0 x13_1).f1).toList) == (((uq l1 x13_1).f1).toList)))) = false:=by simpa using c8
                clear c8
                have H':=Aside0.mk H
                clear H
                have p249:0 ≤ (x13_1:Int):=of_decide_eq_true (by first | (with_reducible assumption) | assumption)
                have q249:x13_1 < (l0.length:Int):=of_decide_eq_true (by first | (with_reducible assumption) | assumption)
                obtain ⟨ad249,e249,hx249_0,hx249_1⟩:=at_T66 HR0.out x13_1 p249 q249
                cases e249
                replace p249:=eq_true p249
                replace q249:=eq_true q249
                have p250:0 ≤ (x13_1:Int):=of_decide_eq_true (by first | (with_reducible assumption) | assumption)
                have q250:x13_1 < (l1.length:Int):=of_decide_eq_true (by first | (with_reducible assumption) | assumption)
                obtain ⟨ad250,e250,hx250_0,hx250_1⟩:=at_T66 HR1.out x13_1 p250 q250
                cases e250
                replace p250:=eq_true p250
                replace q250:=eq_true q250
                go_wp2
                repeat (go_quiet (fail);try go_wp2)
                go_roundg k1
                case measure => have:=HK1.out;omega
                case rel => exact ⟨(wrap64 (x13_1 + 1)),(by first | rfl | (simp;done) | (simp [*];done)),H',⟨by have:=HK1.out;omega⟩,by repeat (first | exact u1b.refl _ | apply u1b.step)⟩
            · rw [if_neg c7] at H
              exact absurd H (by simp)
          · rw [if_neg c6] at H
            exact absurd H (by simp)
        · rw [if_neg c5] at H
          exact absurd H (by simp)
      · rw [if_neg c4] at H
        have c4b0:decide (x13_1 < (l0.length:Int)) = false:=decide_eq_false c4
        clear c4
        obtain rfl:=Option.some.inj H
        go_wp2
        repeat (go_quiet (fail);try go_wp2)
        go_ret
        exact ⟨by first | rfl | (simp;done) | (simp [*];done),by repeat (first | exact u1b.refl _ | apply u1b.step)⟩
 · rw [if_neg c3] at H
   have c3b0:((l0.length:Int) == (l1.length:Int)) = false:=beq_eq_false_iff_ne.mpr c3
   have c3b1:((l0.length:Int) != (l1.length:Int)) = true:=bne_iff_ne.mpr c3
   have c3b2:(l0.length == l1.length) = false:=by first | simpa using c3 | (simp at c3 ⊢;omega)
   obtain rfl:=Option.some.inj H
   go_enter Tryz.func26,Tryz.ntmps26
   go_wp2
   repeat (go_quiet (fail);try go_wp2)
   go_ret
   exact ⟨by first | rfl | (simp;done) | (simp [*];done),by repeat (first | exact u1b.refl _ | apply u1b.step)⟩
end Go.Proofs.YtmcpeifhapekoaaGreatDoor.PAll
namespace Go.Proofs.YtmcpeifhapekoaaGreatDoor.PAll
open Go.RowKit Go.Proofs.YtmcpeifhapekoaaGreatDoorW.PrintWords Go.Proofs.YtmcpeifhapekoaaGreatDoorW.PrintLast Go.Proofs.YtmcpeifhapekoaaGreatDoorW.PrintMore
attribute [local go_sem] max2_int min2_int max_two min_two max_three min_three max_four min_four
set_option linter.unusedVariables false
set_option linter.unusedSimpArgs false
def u1i.l0:Nat → Int → ByteArray → Option (ByteArray)
 | 0,_,_ => none
 | k + 1,x0,x3 => if x0 ≥ 10 then (if 0 ≤ (Int.tmod x0 10) then (if (Int.tmod x0 10) ≤ (IntKind.u64.wrap ((Int.tmod x0 10) + 1)) then (if (IntKind.u64.wrap ((Int.tmod x0 10) + 1)) ≤ 10 then (if ((⟨#[48,49,50,51,52,53,54,55,56,57]⟩:ByteArray).extract ((Int.tmod x0 10):Int).toNat ((IntKind.u64.wrap ((Int.tmod x0 10) + 1)):Int).toNat).size + x3.size ≤ 9223372036854775807 then (u1i.l0 k (IntKind.u64.wrap (Int.tdiv x0 10)) (((⟨#[48,49,50,51,52,53,54,55,56,57]⟩:ByteArray).extract ((Int.tmod x0 10):Int).toNat ((IntKind.u64.wrap ((Int.tmod x0 10) + 1)):Int).toNat) ++ x3)) else (none)) else (none)) else (none)) else (none)) else (if 0 ≤ x0 then (if x0 ≤ (IntKind.u64.wrap (x0 + 1)) then (if (IntKind.u64.wrap (x0 + 1)) ≤ 10 then (if ((⟨#[48,49,50,51,52,53,54,55,56,57]⟩:ByteArray).extract (x0:Int).toNat ((IntKind.u64.wrap (x0 + 1)):Int).toNat).size + x3.size ≤ 9223372036854775807 then (some (((⟨#[48,49,50,51,52,53,54,55,56,57]⟩:ByteArray).extract (x0:Int).toNat ((IntKind.u64.wrap (x0 + 1)):Int).toNat) ++ x3)) else (none)) else (none)) else (none)) else (none))
def u1i.f (k:Nat) (a0:Int):Option (ByteArray):=u1i.l0 k a0 (⟨#[]⟩:ByteArray)
set_option maxHeartbeats 8000000 in
set_option maxRecDepth 100000 in
theorem u1i.calls (k:Nat) (a0:Int) (r:ByteArray) (w:World) (h:u1i.f k a0 = some r) :
 Calls Tryz.prog 73 #[.int .u64 a0] w fun e w' => e = .returned (.string r) ∧ u1b w w':=by
 have H:(u1i.l0 k a0 (⟨#[]⟩:ByteArray)) = some r:=h
 clear h
 have H':=Aside0.mk H
 clear H
 go_enter Tryz.func73,Tryz.ntmps73
 go_wp2
 go_loopg [0,3] k (fun kq v0 v3 w' => ∃ (x0_1:Int) (x3_1:ByteArray),v0 = .int .u64 x0_1 ∧ v3 = .string x3_1 ∧ Aside0 (u1i.l0 kq x0_1 x3_1 = some r) ∧ Aside0 (kq ≤ k) ∧ u1b w w')
 case atStart => exact ⟨(a0),((⟨#[]⟩:ByteArray)),(by first | rfl | (simp;done) | (simp [*];done)),(by first | rfl | (simp;done) | (simp [*];done)),H',⟨Nat.le_refl _⟩,by repeat (first | exact u1b.refl _ | apply u1b.step)⟩
 case round =>
  clear H'
  obtain ⟨x0_1,x3_1,rfl,rfl,HA,HK1,⟨m1,rfl⟩⟩:=hrel
  cases gk with
  | zero => exact absurd HA.out (by simp [u1i.l0])
  | succ k1 =>
    have H:=HA.out
    clear HA
    simp only [u1i.l0] at H
    by_cases c2:x0_1 ≥ 10
    · rw [if_pos c2] at H
      have c2b0:decide (10 ≤ x0_1) = true:=decide_eq_true c2
      clear c2
      obtain ⟨ji3,hji3⟩:∃ j_:Int,(Int.tmod x0_1 10) = j_:=⟨_,rfl⟩
      replace H:(if 0 ≤ (ji3) then (if (ji3) ≤ (IntKind.u64.wrap ((ji3) + 1)) then (if (IntKind.u64.wrap ((ji3) + 1)) ≤ 10 then (if ((⟨#[48,49,50,51,52,53,54,55,56,57]⟩:ByteArray).extract ((ji3):Int).toNat ((IntKind.u64.wrap ((ji3) + 1)):Int).toNat).size + x3_1.size ≤ 9223372036854775807 then (u1i.l0 k1 (IntKind.u64.wrap (Int.tdiv x0_1 10)) (((⟨#[48,49,50,51,52,53,54,55,56,57]⟩:ByteArray).extract ((ji3):Int).toNat ((IntKind.u64.wrap ((ji3) + 1)):Int).toNat) ++ x3_1)) else (none)) else (none)) else (none)) else (none)) = some r:=by first | (rw [hji3] at H;exact H) | (simp only [hji3] at H ⊢;exact H)
      by_cases c4:0 ≤ (ji3)
      · rw [if_pos c4] at H
        have c4b0:=eq_true c4
        have c4b1:decide (0 ≤ (ji3)) = true:=decide_eq_true c4
        clear c4
        by_cases c5:(ji3) ≤ (IntKind.u64.wrap ((ji3) + 1))
        · rw [if_pos c5] at H
          have c5b0:=eq_true c5
          have c5b1:decide ((ji3) ≤ (IntKind.u64.wrap ((ji3) + 1))) = true:=decide_eq_true c5
          by_cases c6:(IntKind.u64.wrap ((ji3) + 1)) ≤ 10
          · rw [if_pos c6] at H
            have c6b0:=eq_true c6
            have c6b1:decide ((IntKind.u64.wrap ((ji3) + 1)) ≤ 10) = true:=decide_eq_true c6
            by_cases c7:((⟨#[48,49,50,51,52,53,54,55,56,57]⟩:ByteArray).extract ((ji3):Int).toNat ((IntKind.u64.wrap ((ji3) + 1)):Int).toNat).size + x3_1.size ≤ 9223372036854775807
            · rw [if_pos c7] at H
              have c7b0:=eq_true c7
              have c7b1:decide (((⟨#[48,49,50,51,52,53,54,55,56,57]⟩:ByteArray).extract ((ji3):Int).toNat ((IntKind.u64.wrap ((ji3) + 1)):Int).toNat).size + x3_1.size ≤ 9223372036854775807) = true:=decide_eq_true c7
              try have c7b2:(9223372036854775807 < ((⟨#[48,49,50,51,52,53,54,55,56,57]⟩:ByteArray).extract ((ji3):Int).toNat ((IntKind.u64.wrap ((ji3) + 1)):Int).toNat).size + x3_1.size) = False:=eq_false (Nat.not_lt.2 c7)
              try (have c7b3:=c7b2;simp only [ByteArray.size_append,Base.size1,(show ∀ a_ b_:UInt8,(⟨#[a_,b_]⟩:ByteArray).size = 2 from fun _ _ => rfl)] at c7b3)
              have H':=Aside0.mk H
              clear H
              go_wp2
              go_roundg k1
              case measure => have:=HK1.out;omega
              case rel => exact ⟨(IntKind.u64.wrap (Int.tdiv x0_1 10)),(((⟨#[48,49,50,51,52,53,54,55,56,57]⟩:ByteArray).extract ((ji3):Int).toNat ((IntKind.u64.wrap ((ji3) + 1)):Int).toNat) ++ x3_1),(by first | rfl | (simp;done) | (simp [*];done)),(by first | rfl | (simp;done) | (simp only [← hji3] <;> (first | rfl | simp)) | (simp [*];done)),H',⟨by have:=HK1.out;omega⟩,by repeat (first | exact u1b.refl _ | apply u1b.step)⟩
            · rw [if_neg c7] at H
              exact absurd H (by simp)
          · rw [if_neg c6] at H
            exact absurd H (by simp)
        · rw [if_neg c5] at H
          exact absurd H (by simp)
      · rw [if_neg c4] at H
        exact absurd H (by simp)
    · rw [if_neg c2] at H
      have c2b0:decide (10 ≤ x0_1) = false:=decide_eq_false c2
      clear c2
      by_cases c8:0 ≤ x0_1
      · rw [if_pos c8] at H
        have c8b0:=eq_true c8
        have c8b1:decide (0 ≤ x0_1) = true:=decide_eq_true c8
        clear c8
        by_cases c9:x0_1 ≤ (IntKind.u64.wrap (x0_1 + 1))
        · rw [if_pos c9] at H
          have c9b0:=eq_true c9
          have c9b1:decide (x0_1 ≤ (IntKind.u64.wrap (x0_1 + 1))) = true:=decide_eq_true c9
          by_cases c10:(IntKind.u64.wrap (x0_1 + 1)) ≤ 10
          · rw [if_pos c10] at H
            have c10b0:=eq_true c10
            have c10b1:decide ((IntKind.u64.wrap (x0_1 + 1)) ≤ 10) = true:=decide_eq_true c10
            by_cases c11:((⟨#[48,49,50,51,52,53,54,55,56,57]⟩:ByteArray).extract (x0_1:Int).toNat ((IntKind.u64.wrap (x0_1 + 1)):Int).toNat).size + x3_1.size ≤ 9223372036854775807
            · rw [if_pos c11] at H
              have c11b0:=eq_true c11
              have c11b1:decide (((⟨#[48,49,50,51,52,53,54,55,56,57]⟩:ByteArray).extract (x0_1:Int).toNat ((IntKind.u64.wrap (x0_1 + 1)):Int).toNat).size + x3_1.size ≤ 9223372036854775807) = true:=decide_eq_true c11
              try have c11b2:(9223372036854775807 < ((⟨#[48,49,50,51,52,53,54,55,56,57]⟩:ByteArray).extract (x0_1:Int).toNat ((IntKind.u64.wrap (x0_1 + 1)):Int).toNat).size + x3_1.size) = False:=eq_false (Nat.not_lt.2 c11)
              try (have c11b3:=c11b2;simp only [ByteArray.size_append,Base.size1,(show ∀ a_ b_:UInt8,(⟨#[a_,b_]⟩:ByteArray).size = 2 from fun _ _ => rfl)] at c11b3)
              obtain rfl:=Option.some.inj H
              go_wp2
              go_ret
              exact ⟨by first | rfl | (simp;done) | (simp [*];done),by repeat (first | exact u1b.refl _ | apply u1b.step)⟩
            · rw [if_neg c11] at H
              exact absurd H (by simp)
          · rw [if_neg c10] at H
            exact absurd H (by simp)
        · rw [if_neg c9] at H
          exact absurd H (by simp)
      · rw [if_neg c8] at H
        exact absurd H (by simp)
def u2g.f (k:Nat) (a0:Int):Option (ByteArray):=if a0 < 0 then ((u1i.f k (IntKind.u64.wrap (-(IntKind.u64.wrap (a0))))).bind fun t306 => (if 1 + t306.size ≤ 9223372036854775807 then (some ((⟨#[45]⟩:ByteArray) ++ t306)) else (none))) else ((u1i.f k (IntKind.u64.wrap (a0))).bind fun t307 => (some t307))
set_option maxHeartbeats 8000000 in
set_option maxRecDepth 100000 in
theorem u2g.calls (k:Nat) (a0:Int) (r:ByteArray) (w:World) (h:u2g.f k a0 = some r) :
 Calls Tryz.prog 74 #[.int .i64 a0] w fun e w' => e = .returned (.string r) ∧ u1b w w':=by
 have H:(if a0 < 0 then ((u1i.f k (IntKind.u64.wrap (-(IntKind.u64.wrap (a0))))).bind fun t306 => (if 1 + t306.size ≤ 9223372036854775807 then (some ((⟨#[45]⟩:ByteArray) ++ t306)) else (none))) else ((u1i.f k (IntKind.u64.wrap (a0))).bind fun t307 => (some t307))) = some r:=h
 clear h
 by_cases c2:a0 < 0
 · rw [if_pos c2] at H
   have c2b0:decide (a0 < 0) = true:=decide_eq_true c2
   clear c2
   replace H:=Option.bind_eq_some_iff.mp H
   obtain ⟨t306,A30,H⟩:=H
   replace H:(if 1 + t306.size ≤ 9223372036854775807 then (some ((⟨#[45]⟩:ByteArray) ++ t306)) else (none)) = some r:=H
   have A3:=Aside0.mk A30
   clear A30
   by_cases c4:1 + t306.size ≤ 9223372036854775807
   · rw [if_pos c4] at H
     have c4b0:=eq_true c4
     have c4b1:decide (1 + t306.size ≤ 9223372036854775807) = true:=decide_eq_true c4
     try have c4b2:(9223372036854775807 < 1 + t306.size) = False:=eq_false (Nat.not_lt.2 c4)
     try (have c4b3:=c4b2;simp only [ByteArray.size_append,Base.size1,(show ∀ a_ b_:UInt8,(⟨#[a_,b_]⟩:ByteArray).size = 2 from fun _ _ => rfl)] at c4b3)
     obtain rfl:=Option.some.inj H
     go_enter Tryz.func74,Tryz.ntmps74
     go_wp2_with (first | ((with_reducible refine u3d (f:=73) rfl ?_);refine goesL_ (some 8) rfl rfl Tryz.func73 (by kernel_rfl) rfl #[.int .u64 (IntKind.u64.wrap (-(IntKind.u64.wrap (a0))))] rfl (by (try simp only [List.map_toArray,List.map_cons,List.map_nil]);first | done | rfl | (simp only [List.length_drop,List.length_take];rfl)) ?_;(with_reducible refine (u1i.calls k (IntKind.u64.wrap (-(IntKind.u64.wrap (a0)))) t306 _ A3.out).mono ?_);rintro e w' ⟨rfl,⟨nd,rfl⟩⟩;refine ⟨_,rfl,?_⟩))
     go_ret
     exact ⟨by first | rfl | (simp;done) | (simp [*];done),by repeat (first | exact u1b.refl _ | apply u1b.step)⟩
   · rw [if_neg c4] at H
     exact absurd H (by simp)
 · rw [if_neg c2] at H
   have c2b0:decide (a0 < 0) = false:=decide_eq_false c2
   clear c2
   replace H:=Option.bind_eq_some_iff.mp H
   obtain ⟨t307,A50,H⟩:=H
   replace H:(some t307) = some r:=H
   have A5:=Aside0.mk A50
   clear A50
   obtain rfl:=Option.some.inj H
   go_enter Tryz.func74,Tryz.ntmps74
   go_wp2_with (first | ((with_reducible refine u3d (f:=73) rfl ?_);refine goesL_ (some 12) rfl rfl Tryz.func73 (by kernel_rfl) rfl #[.int .u64 (IntKind.u64.wrap (a0))] rfl (by (try simp only [List.map_toArray,List.map_cons,List.map_nil]);first | done | rfl | (simp only [List.length_drop,List.length_take];rfl)) ?_;(with_reducible refine (u1i.calls k (IntKind.u64.wrap (a0)) t307 _ A5.out).mono ?_);rintro e w' ⟨rfl,⟨nd,rfl⟩⟩;refine ⟨_,rfl,?_⟩))
   go_ret
   exact ⟨by first | rfl | (simp;done) | (simp [*];done),by repeat (first | exact u1b.refl _ | apply u1b.step)⟩
def u1p.same (k:Nat) (x y:S53):Option Bool:=(u2y.f k x.f0 y.f0).bind fun b => some (b && (x.f1 == y.f1) && (x.f2 == y.f2))
def u1p.all (k:Nat):List S53 → List S53 → Option Bool
 | [],_ => some true
 | _ :: _,[] => some true
 | x :: r,y :: q => (u1p.same k x y).bind fun b => if b = true then u1p.all k r q else some false
def u1p.f (k:Nat) (l0 l1:List S53):Option Bool:=if l0.length = l1.length then (if l0.length ≤ 4611686018427387904 then u1p.all k l0 l1 else none) else some false
set_option maxHeartbeats 4000000 in
set_option maxRecDepth 100000 in
theorem u1p.calls_one (k:Nat) (x y:S53) (A0 A1:Option Addr) (c0 c1:Nat) (b:Bool) (w:World) (hx:x.f0.length ≤ c0) (gx:Kd.C k66 w A0 x.f0.length x.f0) (hy:y.f0.length ≤ c1) (gy:Kd.C k66 w A1 y.f0.length y.f0) (h:u1p.same k x y = some b) :
 Calls Tryz.prog 25 #[.agg #[.slice A0 x.f0.length c0,.int .i64 x.f1,.int .u64 x.f2],.agg #[.slice A1 y.f0.length c1,.int .i64 y.f1,.int .u64 y.f2]] w fun e w' => e = .returned (.bool b) ∧ Below w.heap.size w w':=by
 obtain ⟨c,hc,h2⟩:=Option.bind_eq_some_iff.1 h
 have HCc:=Aside0.mk hc
 have H2:=Aside0.mk (Option.some.inj h2)
 have GX:=Aside0.mk gx
 have GY:=Aside0.mk gy
 have HX:=Aside0.mk hx
 have HY:=Aside0.mk hy
 clear hc h2 h gx gy hx hy
 cases c with
 | false =>
   have hb:false = b:=by simpa using H2.out
   subst hb
   go_enter Tryz.func25,Tryz.ntmps25
   go_wp2_with (go_at_call 26;(with_reducible refine (u2y.calls k _ _ x.f0 _ _ y.f0 false _ (Kd.C_alloc (Kd.C_alloc GX.out _) _) HX.out (Kd.C_alloc (Kd.C_alloc GY.out _) _) HY.out HCc.out).mono ?_);rintro e w3 ⟨rfl,⟨nd,rfl⟩⟩)
   all_goals
    go_ret
    refine ⟨?_,by repeat (first | exact Below.refl _ _ | apply ud | apply ub)⟩
    first | rfl | (rw [← H2.out];simp [*];done) | (rw [← H2.out];simp [*];rfl)
 | true =>
   go_enter Tryz.func25,Tryz.ntmps25
   go_wp2_with (go_at_call 26;(with_reducible refine (u2y.calls k _ _ x.f0 _ _ y.f0 true _ (Kd.C_alloc (Kd.C_alloc GX.out _) _) HX.out (Kd.C_alloc (Kd.C_alloc GY.out _) _) HY.out HCc.out).mono ?_);rintro e w3 ⟨rfl,⟨nd,rfl⟩⟩)
   all_goals
    go_ret
    refine ⟨?_,by repeat (first | exact Below.refl _ _ | apply ud | apply ub)⟩
    first | rfl | (rw [← H2.out];simp [*];done) | (rw [← H2.out];simp [*];rfl)
theorem u1p.calls (k:Nat) (A0:Option Addr) (c0:Nat) (l0:List S53) (A1:Option Addr) (c1:Nat) (l1:List S53) (r:Bool) (w:World) (hr0:Kd.C k53 w A0 l0.length l0) (hc0:l0.length ≤ c0) (hr1:Kd.C k53 w A1 l1.length l1) (hc1:l1.length ≤ c1) (h:u1p.f k l0 l1 = some r) :
 Calls Tryz.prog 9 #[.slice A0 l0.length c0,.slice A1 l1.length c1] w fun e w' => e = .returned (.bool r) ∧ Below w.heap.size w w':=by
 have HR0:=Aside0.mk hr0
 have HR1:=Aside0.mk hr1
 clear hr0 hr1
 unfold u1p.f at h
 by_cases hlen:l0.length = l1.length
 · rw [if_pos hlen] at h
   by_cases hmax:l0.length ≤ 4611686018427387904
   · rw [if_pos hmax] at h
     have H:=Aside0.mk h
     clear h
     go_enter Tryz.func9,Tryz.ntmps9
     go_wp2_with (go_in)
     go_loopg [17] (l0.length) (fun kq v17 wr => ∃ (i:Nat) (ra rb:List S53),i ≤ l0.length ∧ v17 = .int .i64 i ∧ Aside0 (l0.drop i = ra ∧ l1.drop i = rb ∧ u1p.all k ra rb = some r) ∧ l0.length ≤ kq + i ∧ Aside0 (Below w.heap.size w wr))
     case atStart => exact ⟨0,l0,l1,by omega,rfl,⟨rfl,rfl,H.out⟩,by omega,⟨Below.refl _ _⟩⟩
     case round =>
      clear H
      obtain ⟨i,ra,rb,hi,rfl,HA,hk,HB⟩:=hrel
      by_cases hlt:i < l0.length
      · obtain ⟨g1,rfl⟩:∃ g1,gk = g1 + 1:=⟨gk - 1,by omega⟩
        obtain ⟨x,ra2,hx⟩:∃ x ra2,Aside0 (ra = x :: ra2 ∧ rd_T53 l0 (i:Int) = x):=by
         have h1:=HA.out.1
         rw [List.drop_eq_getElem_cons hlt] at h1
         exact ⟨_,_,⟨h1.symm,by simp [rd_T53,List.getD_eq_getElem?_getD,hlt]⟩⟩
        obtain ⟨y,rb2,hy⟩:∃ y rb2,Aside0 (rb = y :: rb2 ∧ rd_T53 l1 (i:Int) = y):=by
         have h1:=HA.out.2.1
         have hlt2:i < l1.length:=by omega
         rw [List.drop_eq_getElem_cons hlt2] at h1
         exact ⟨_,_,⟨h1.symm,by simp [rd_T53,List.getD_eq_getElem?_getD,hlt2]⟩⟩
        obtain ⟨b,hb,HA2⟩:∃ b,Aside0 (u1p.same k x y = some b) ∧ Aside0 ((if b = true then u1p.all k ra2 rb2 else some false) = some r):=by
         have h1:=HA.out.2.2
         rw [hx.out.1,hy.out.1] at h1
         obtain ⟨b,h2,h3⟩:=Option.bind_eq_some_iff.1 h1
         exact ⟨b,⟨h2⟩,⟨h3⟩⟩
        have HD:Aside0 (l0.drop (i + 1) = ra2 ∧ l1.drop (i + 1) = rb2):=⟨by
         have h1:=HA.out
         rw [hx.out.1,hy.out.1] at h1
         rw [← List.drop_drop,← List.drop_drop,h1.1,h1.2.1]
         exact ⟨rfl,rfl⟩⟩
        obtain ⟨ad0,B0,d0,e0,f00,f01,f02,g00,g01⟩:=at_T53 (Kd.C_below HR0.out HB.out) (i:Int) (by omega) (by omega)
        subst e0
        obtain ⟨ad1,B1,d1,e1,f10,f11,f12,g10,g11⟩:=at_T53 (Kd.C_below HR1.out HB.out) (i:Int) (by omega) (by omega)
        subst e1
        rw [hx.out.2] at f00 f01 f02 g00 g01
        rw [hy.out.2] at f10 f11 f12 g10 g11
        simp only [Int.toNat_natCast] at f00 f01 f02 f10 f11 f12
        have hlt1:i < l1.length:=by omega
        have q0:∀ o:Obj,(wr.alloc o).cell? _ = some _:=fun o => ((ud (Below.refl wr.heap.size wr) o).cell (World.block_lt_of_cell? wr _ f10)).trans f10
        have q1:∀ o:Obj,(wr.alloc o).cell? _ = some _:=fun o => ((ud (Below.refl wr.heap.size wr) o).cell (World.block_lt_of_cell? wr _ f11)).trans f11
        have q2:∀ o:Obj,(wr.alloc o).cell? _ = some _:=fun o => ((ud (Below.refl wr.heap.size wr) o).cell (World.block_lt_of_cell? wr _ f12)).trans f12
        have GX:=Aside0.mk g01
        have GY:=Aside0.mk g11
        have HX:=Aside0.mk g00
        have HY:=Aside0.mk g10
        clear g00 g01 g10 g11 HA hx hy
        cases b with
        | false =>
          have hr:Aside0 (r = false):=⟨by simpa using HA2.out.symm⟩
          go_wp2_with (go_at_call 25;(with_reducible refine (u1p.calls_one k x y _ _ _ _ false _ HX.out (Kd.C_alloc (Kd.C_alloc GX.out _) _) HY.out (Kd.C_alloc (Kd.C_alloc GY.out _) _) hb.out).mono ?_);rintro e w3 ⟨rfl,hb3⟩;have HB3:=Aside0.mk (u1d (ud (ud HB.out _) _) hb3);clear hb3)
          go_ret
          exact ⟨by rw [hr.out];rfl,HB3.out⟩
        | true =>
          have HA3:Aside0 (u1p.all k ra2 rb2 = some r):=⟨by simpa using HA2.out⟩
          go_wp2_with (go_at_call 25;(with_reducible refine (u1p.calls_one k x y _ _ _ _ true _ HX.out (Kd.C_alloc (Kd.C_alloc GX.out _) _) HY.out (Kd.C_alloc (Kd.C_alloc GY.out _) _) hb.out).mono ?_);rintro e w3 ⟨rfl,hb3⟩;have HB3:=Aside0.mk (u1d (ud (ud HB.out _) _) hb3);clear hb3)
          go_roundg g1
          case rel => exact ⟨i + 1,ra2,rb2,by omega,by go_num,⟨HD.out.1,HD.out.2,HA3.out⟩,by omega,HB3⟩
          case measure => omega
      · have hr:Aside0 (r = true):=⟨by
         have h1:=HA.out
         rw [List.drop_eq_nil_of_le (by omega)] at h1
         rw [← h1.1] at h1
         simpa [u1p.all] using h1.2.2.symm⟩
        go_wp2
        go_ret
        exact ⟨by rw [hr.out];rfl,HB.out⟩
   · rw [if_neg hmax] at h
     cases h
 · rw [if_neg hlen] at h
   obtain rfl:=Option.some.inj h
   have hne:¬ (l0.length:Int) = (l1.length:Int):=by omega
   go_enter Tryz.func9,Tryz.ntmps9
   go_wp2_with (go_in)
   go_ret
   exact ⟨rfl,Below.refl _ _⟩
def u2o.l0:Nat → ByteArray → List (S66) → Int → Int → Option (ByteArray)
 | 0,_,_,_,_ => none
 | k + 1,x1,x7,x8,x9 => if x9 < x8 then (if 0 ≤ x9 then (if x9 < (x7.length:Int) then (if ((uq x7 x9).f0).toList = x1.toList then (some ((uq x7 x9).f1)) else (u2o.l0 k x1 x7 x8 (wrap64 (x9 + 1)))) else (none)) else (none)) else (some (⟨#[]⟩:ByteArray))
def u2o.f (k:Nat) (l0:List (S66)) (a1:ByteArray):Option (ByteArray):=u2o.l0 k a1 l0 (l0.length:Int) 0
set_option maxHeartbeats 8000000 in
set_option maxRecDepth 100000 in
theorem u2o.calls (k:Nat) (A0:Option Addr) (c0:Nat) (l0:List (S66)) (a1:ByteArray) (r:ByteArray) (w:World) (hr0:Kd.C k66 w A0 l0.length l0) (hc0:l0.length ≤ c0) (h:u2o.f k l0 a1 = some r) :
 Calls Tryz.prog 71 #[.slice A0 l0.length c0,.string a1] w fun e w' => e = .returned (.string r) ∧ Below w.heap.size w w':=by
 have hu66:=Tryz.underlying66
 have HR0:=Aside0.mk hr0
 have HC0:=Aside0.mk hc0
 clear hr0 hc0
 have HB:=Aside0.mk (Below.refl w.heap.size w)
 have H:(u2o.l0 k a1 l0 (l0.length:Int) 0) = some r:=h
 clear h
 have H':=Aside0.mk H
 clear H
 go_enter Tryz.func71,Tryz.ntmps71
 go_wp2
 go_loopg [9] k (fun kq v9 w' => ∃ (x9_1:Int),v9 = .int .i64 x9_1 ∧ Aside0 (u2o.l0 kq a1 l0 (l0.length:Int) x9_1 = some r) ∧ Aside0 (kq ≤ k) ∧ Aside0 (Below w.heap.size w w'))
 case atStart => exact ⟨(0),(by first | rfl | (simp;done) | (simp [*];done)),H',⟨Nat.le_refl _⟩,⟨by repeat (first | (with_reducible first | exact HB.out | apply ud | apply ub | apply uf) | exact HB.out)⟩⟩
 case round =>
  clear H'
  try clear p2
  obtain ⟨x9_1,rfl,HA,HK1,HB⟩:=hrel
  cases gk with
  | zero => exact absurd HA.out (by simp [u2o.l0])
  | succ k1 =>
    have H:=HA.out
    clear HA
    simp only [u2o.l0] at H
    by_cases c3:x9_1 < (l0.length:Int)
    · rw [if_pos c3] at H
      have c3b0:decide (x9_1 < (l0.length:Int)) = true:=decide_eq_true c3
      clear c3
      by_cases c4:0 ≤ x9_1
      · rw [if_pos c4] at H
        have c4b0:decide (0 ≤ x9_1) = true:=decide_eq_true c4
        clear c4
        by_cases c5:x9_1 < (l0.length:Int)
        · rw [if_pos c5] at H
          have c5b0:decide (x9_1 < (l0.length:Int)) = true:=decide_eq_true c5
          clear c5
          by_cases c6:((uq l0 x9_1).f0).toList = a1.toList
          · rw [if_pos c6] at H
            have c6b0:(((uq l0 x9_1).f0).toList == a1.toList) = true:=beq_iff_eq.mpr c6
            have c6b1:(((uq l0 x9_1).f0).toList != a1.toList) = false:=bne_eq_false_iff_eq.mpr c6
            clear c6
            obtain rfl:=Option.some.inj H
            have p299:0 ≤ (x9_1:Int):=of_decide_eq_true (by first | (with_reducible assumption) | assumption)
            have q299:x9_1 < (l0.length:Int):=of_decide_eq_true (by first | (with_reducible assumption) | assumption)
            obtain ⟨ad299,e299,hx299_0,hx299_1⟩:=at_T66 HR0.out x9_1 p299 q299
            cases e299
            replace hx299_0:=(HB.out.cell (World.block_lt_of_cell? w _ hx299_0)).trans hx299_0
            replace hx299_1:=(HB.out.cell (World.block_lt_of_cell? w _ hx299_1)).trans hx299_1
            replace p299:=eq_true p299
            replace q299:=eq_true q299
            go_wp2_with (first | ((with_reducible refine u2u (N:=6) rfl ?_);refine u2r ?hg (N:=6) ?hd (cs:=#[.string (⟨#[]⟩:ByteArray),.string (⟨#[]⟩:ByteArray)]) (t:=66) ?hr ?_;(case hd => rfl);(case hg => rfl);(case hr => first | (go_simp;done) | (go_simp;rfl));intro gb300 hg w7 hbox hb;have n0_:=Aside0.mk (u1d (by repeat (first | (with_reducible first | exact HB.out | apply ud | apply ub | apply uf) | exact HB.out)) hb);have n1_:=Aside0.mk (hbox);have n2_:=Aside0.mk ((by rw [hg];exact (u1c (by repeat (first | (with_reducible first | exact HB.out | apply ud | apply ub | apply uf) | exact HB.out))):w.heap.size ≤ gb300));have n3_:=Aside0.mk ((by rw [hg];exact (u1c (by repeat (first | (with_reducible first | exact HB.out | apply ud | apply ub | apply uf) | exact HB.out))):w.heap.size ≤ gb300));clear HB;have HB:=n0_;have BK300:=n1_;have GW300:=n2_;have GE300:=n3_;clear n0_ n1_ n2_ n3_;clear hb hbox hg;have hcz8_0:w7.cell? ⟨gb300,0,none⟩ = some (.string (⟨#[]⟩:ByteArray)):=(uj BK300.out 0).trans rfl;have hcz8_1:w7.cell? ⟨gb300,1,none⟩ = some (.string (⟨#[]⟩:ByteArray)):=(uj BK300.out 1).trans rfl;have hfz8_0:=uo BK300.out 0;have hfz8_1:=uo BK300.out 1))
            go_ret
            exact ⟨by first | rfl | (simp [u2c,u2b] <;> rfl) | (simp [*,u2c,u2b] <;> rfl),by repeat (first | (with_reducible first | exact HB.out | apply ud | apply ub | apply uf | refine uz ?_ GE300.out) | exact HB.out)⟩
          · rw [if_neg c6] at H
            have c6b0:(((uq l0 x9_1).f0).toList == a1.toList) = false:=beq_eq_false_iff_ne.mpr c6
            have c6b1:(((uq l0 x9_1).f0).toList != a1.toList) = true:=bne_iff_ne.mpr c6
            have H':=Aside0.mk H
            clear H
            have p299:0 ≤ (x9_1:Int):=of_decide_eq_true (by first | (with_reducible assumption) | assumption)
            have q299:x9_1 < (l0.length:Int):=of_decide_eq_true (by first | (with_reducible assumption) | assumption)
            obtain ⟨ad299,e299,hx299_0,hx299_1⟩:=at_T66 HR0.out x9_1 p299 q299
            cases e299
            replace hx299_0:=(HB.out.cell (World.block_lt_of_cell? w _ hx299_0)).trans hx299_0
            replace hx299_1:=(HB.out.cell (World.block_lt_of_cell? w _ hx299_1)).trans hx299_1
            replace p299:=eq_true p299
            replace q299:=eq_true q299
            go_wp2_with (first | ((with_reducible refine u2u (N:=6) rfl ?_);refine u2r ?hg (N:=6) ?hd (cs:=#[.string (⟨#[]⟩:ByteArray),.string (⟨#[]⟩:ByteArray)]) (t:=66) ?hr ?_;(case hd => rfl);(case hg => rfl);(case hr => first | (go_simp;done) | (go_simp;rfl));intro gb300 hg w9 hbox hb;have n0_:=Aside0.mk (u1d (by repeat (first | (with_reducible first | exact HB.out | apply ud | apply ub | apply uf) | exact HB.out)) hb);have n1_:=Aside0.mk (hbox);have n2_:=Aside0.mk ((by rw [hg];exact (u1c (by repeat (first | (with_reducible first | exact HB.out | apply ud | apply ub | apply uf) | exact HB.out))):w.heap.size ≤ gb300));have n3_:=Aside0.mk ((by rw [hg];exact (u1c (by repeat (first | (with_reducible first | exact HB.out | apply ud | apply ub | apply uf) | exact HB.out))):w.heap.size ≤ gb300));clear HB;have HB:=n0_;have BK300:=n1_;have GW300:=n2_;have GE300:=n3_;clear n0_ n1_ n2_ n3_;clear hb hbox hg;have hcz10_0:w9.cell? ⟨gb300,0,none⟩ = some (.string (⟨#[]⟩:ByteArray)):=(uj BK300.out 0).trans rfl;have hcz10_1:w9.cell? ⟨gb300,1,none⟩ = some (.string (⟨#[]⟩:ByteArray)):=(uj BK300.out 1).trans rfl;have hfz10_0:=uo BK300.out 0;have hfz10_1:=uo BK300.out 1))
            go_roundg k1
            case measure => have:=HK1.out;omega
            case rel => exact ⟨(wrap64 (x9_1 + 1)),(by first | rfl | (simp;done) | (simp [*];done)),H',⟨by have:=HK1.out;omega⟩,⟨by repeat (first | (with_reducible first | exact HB.out | apply ud | apply ub | apply uf | refine uz ?_ GE300.out) | exact HB.out)⟩⟩
        · rw [if_neg c5] at H
          exact absurd H (by simp)
      · rw [if_neg c4] at H
        exact absurd H (by simp)
    · rw [if_neg c3] at H
      have c3b0:decide (x9_1 < (l0.length:Int)) = false:=decide_eq_false c3
      clear c3
      obtain rfl:=Option.some.inj H
      go_wp2
      go_ret
      exact ⟨by first | rfl | (simp [u2c,u2b] <;> rfl) | (simp [*,u2c,u2b] <;> rfl),by repeat (first | (with_reducible first | exact HB.out | apply ud | apply ub | apply uf) | exact HB.out)⟩
end Go.Proofs.YtmcpeifhapekoaaGreatDoor.PAll
namespace Go.Proofs.YtmcpeifhapekoaaGreatDoor.Opens
open Go.Deep Go.Proofs.YtmcpeifhapekoaaGreatDoor.PAll Go.Proofs.YtmcpeifhapekoaaGreatDoorW.PrintWords Go.Proofs.YtmcpeifhapekoaaGreatDoorW.PrintLast Go.ChangeShapes
set_option linter.unusedVariables false
def Opens {α:Type} (P:Program) (t:TypeId) (d:Kd α) (Q:α → Prop):Prop :=
 ∀ (H:Type) (enc:TypeId × Value → H) (w:World) (fuel:Nat) (cs:List Value) (x:DataW H × List MemPlace),
   DataW.trod enc P w 0 (fun _ => true) true fuel t cs = some x → (∀ n ∈ x.1.weights P t,n ≤ reachBytes) → ∃ v,d.K w v cs ∧ Q v
theorem opens_string {P:Program} {t:TypeId} (ht:P.underlying t = some .string):Opens P t Kd.string (fun s => s.size ≤ 140737488351232):=by
 intro H enc w fuel cs x h hz
 obtain ⟨s,rfl,rfl,hs⟩:=DataW.trod_string ht h
 refine ⟨s,rfl,?_⟩
 have:=hz s.data.toList.length (by simp [DataW.weights])
 rwa [u2k] at this
theorem opens_int {P:Program} {t:TypeId} {k:IntKind} (ht:P.underlying t = some (.int k)):Opens P t (Kd.int k) (fun n => (Lit.int k n).wf = true):=by
 intro H enc w fuel cs x h _
 obtain ⟨n,rfl,_,hn⟩:=DataW.trod_int ht h
 exact ⟨n,rfl,hn⟩
theorem opens_iso {α β:Type} {P:Program} {t:TypeId} {d:Kd α} {Q:α → Prop} (f:β → α) (g:α → β) (hg:∀ a,f (g a) = a) (hd:Opens P t d Q):Opens P t (Kd.iso d f) (fun x => Q (f x)):=by
 intro H enc w fuel cs x h hz
 obtain ⟨v,h1,h2⟩:=hd H enc w fuel cs x h hz
 exact ⟨g v,by show d.K w (f (g v)) cs;rw [hg];exact h1,by show Q (f (g v));rw [hg];exact h2⟩
def OpensF {α:Type} (P:Program) (fs:List Field) (o:Nat) (d:Kd α) (Q:α → Prop):Prop :=
 ∀ (H:Type) (enc:TypeId × Value → H) (w:World) (fuel:Nat) (cs:List Value) (ys:List (DataW H × List MemPlace)),
   cs.length = o + d.sz → ys.length = fs.length → (∀ (i:Nat) (f:Field),fs[i]? = some f → DataW.trod enc P w 0 (fun _ => true) true fuel f.type ((cs.drop f.offset).take (P.cellsOf f.type)) = ys[i]?) →
   (∀ n ∈ DataW.weightsEach P (fs.map (·.type)) (ys.map (·.1)),n ≤ reachBytes) → ∃ v,d.K w v (cs.drop o) ∧ Q v
theorem opensF_one {α:Type} {P:Program} {f:Field} {o:Nat} {d:Kd α} {Q:α → Prop} (hd:Opens P f.type d Q) (ho:f.offset = o) (hc:P.cellsOf f.type = d.sz):OpensF P [f] o d Q:=by
 intro H enc w fuel cs ys hl hy h hz
 match ys,hy with
 | [y],_ =>
   have h0:=h 0 f rfl
   simp only [List.getElem?_cons_zero] at h0
   rw [ho,hc,List.take_of_length_le (by rw [List.length_drop];omega)] at h0
   exact hd H enc w fuel _ y h0 (fun n hn => hz n (by simp [DataW.weightsEach,hn]))
theorem opensF_cons {α β:Type} {P:Program} {f:Field} {fs:List Field} {o:Nat} {d0:Kd α} {d1:Kd β} {Q0:α → Prop} {Q1:β → Prop} (h0:Opens P f.type d0 Q0) (h1:OpensF P fs (o + d0.sz) d1 Q1) (ho:f.offset = o) (hc:P.cellsOf f.type = d0.sz) :
 OpensF P (f :: fs) o (Kd.pair d0 d1) (fun p => Q0 p.1 ∧ Q1 p.2):=by
 intro H enc w fuel cs ys hl hy h hz
 have hsz:(Kd.pair d0 d1).sz = d0.sz + d1.sz:=rfl
 rw [hsz] at hl
 match ys,hy with
 | y :: ys,hy =>
   have g0:=h 0 f rfl
   simp only [List.getElem?_cons_zero] at g0
   rw [ho,hc] at g0
   obtain ⟨v0,k0,q0⟩:=h0 H enc w fuel _ y g0 (fun n hn => hz n (by simp [DataW.weightsEach,hn]))
   obtain ⟨v1,k1,q1⟩:=h1 H enc w fuel cs ys (by omega) (by simpa using hy) (fun i g hg => by
    have:=h (i + 1) g (by simpa using hg)
    simpa using this) (fun n hn => hz n (by simp only [List.map_cons,DataW.weightsEach,List.mem_append];exact Or.inr hn))
   refine ⟨(v0,v1),⟨_,_,?_,k0,k1⟩,q0,q1⟩
   rw [← List.drop_drop,List.take_append_drop]
theorem opens_struct {α:Type} {P:Program} {t:TypeId} {fs:List Field} {d:Kd α} {Q:α → Prop} (ht:P.underlying t = some (.struct fs.toArray)) (h:OpensF P fs 0 d Q) (hc:P.cellsOf t = d.sz):Opens P t d Q:=by
 intro H enc w fuel cs x hx hz
 obtain ⟨xs,n,_,rfl,hl,hlen,hf⟩:=DataW.trod_struct ht hx
 have h2:=h H enc w n cs xs (by omega) (by simpa using hlen) (fun i f hi => hf i f (by simpa using hi)) (fun m hm => hz m (by simp only [DataW.weights,ht];simpa using hm))
 simpa using h2
theorem weightsAll_mem {H:Type} {P:Program} {e:TypeId}:∀ {l:List (DataW H)} {d:DataW H},d ∈ l → ∀ n ∈ d.weights P e,n ∈ DataW.weightsAll P e l
 | a :: l,d,hd,n,hn => by
   simp only [DataW.weightsAll,List.mem_append]
   rcases List.mem_cons.1 hd with rfl | hd
   · exact Or.inl hn
   · exact Or.inr (weightsAll_mem hd n hn)
theorem opens_slice_at {α:Type} [Inhabited α] {P:Program} {t e:TypeId} {d:Kd α} {Q:α → Prop} {B:Nat} (hd:Opens P e d Q) (ht:P.underlying t = some (.slice e)) (hsz:P.cellsOf e = d.sz) (hB:P.bytesOf e = B)
 {H:Type} {enc:TypeId × Value → H} {w:World} {fuel:Nat} {cs:List Value} {x:DataW H × List MemPlace} (h:DataW.trod enc P w 0 (fun _ => true) true fuel t cs = some x) (hz:∀ n ∈ x.1.weights P t,n ≤ reachBytes) :
 ∃ (A:Option Addr) (c:Nat) (xs:List α),cs = [.slice A xs.length c] ∧ xs.length ≤ c ∧ c ≤ maxLen ∧ d.C w A xs.length xs ∧ xs.length * B ≤ 140737488351232 ∧ ∀ y ∈ xs,Q y:=by
 rcases open_slice ht h with ⟨rfl,_⟩ | ⟨a,len,cap,m,n,D,Pl,rfl,hb,hl,hm,hme,hx,hel⟩
 · exact ⟨none,0,[],rfl,Nat.le_refl _,Nat.zero_le _,⟨rfl,Nat.zero_le _,fun h => absurd h (by simp)⟩,by simp,fun y hy => by cases hy⟩
 · have hlm:len ≤ m:=by
    rw [hme]
    simp
    exact hl
   subst hx
   simp only [DataW.weights,ht] at hz
   obtain ⟨V,hV⟩:=choose_lt (α:=α) (n:=len) (p:=fun i v => Q v ∧ ∃ cs',w.cells? 0 (a.add (i * P.cellsOf e)) (P.cellsOf e) = some cs' ∧ d.K w v cs') (fun i hi => by
    obtain ⟨cs',h1,h2⟩:=hel i (by omega)
    obtain ⟨v,hv,hq⟩:=hd _ _ _ _ _ _ h2 (fun k hk => hz k (List.mem_cons_of_mem _ (List.mem_append_left _ (weightsAll_mem (List.mem_map.2 ⟨i,List.mem_range.2 hi,rfl⟩) k hk))))
    exact ⟨v,hq,cs',h1,hv⟩)
   have hlen:((List.range len).map V).length = len:=by simp
   have hbulk:len * B ≤ 140737488351232:=by
    have h9:=hz _ (List.mem_cons_self ..)
    rw [hB] at h9
    have h8:len ≤ ((List.range len).map D).length + ((List.range (m - len)).map fun j => D (len + j)).length:=by simp
    exact Nat.le_trans (Nat.mul_le_mul_right _ h8) h9
   refine ⟨some a,cap,(List.range len).map V,by rw [hlen],by rw [hlen];exact hl,hm,?_,by rw [hlen];exact hbulk,?_⟩
   · refine ⟨rfl,by rw [hlen];have:maxLen ≤ 9223372036854775807:=by decide
                    omega,fun _ => ⟨a,rfl,fun j p hp => ?_⟩⟩
     have hj:j < len:=by
      have:=(List.getElem?_eq_some_iff.1 hp).1
      omega
     simp [hj] at hp
     subst hp
     obtain ⟨_,cs',h1,h2⟩:=hV j hj
     obtain ⟨_,hl',hc⟩:=World.cells?_some h1
     refine ⟨cs',by rw [hl',hsz],h2,fun i u hu => ?_⟩
     have hi:i < P.cellsOf e:=by
      have:=(List.getElem?_eq_some_iff.1 hu).1
      omega
     have e2:=hc i hi
     rw [hu] at e2
     rw [← e2,← hsz,Go.Deep.add_add]
   · intro y hy
     simp only [List.mem_map,List.mem_range] at hy
     obtain ⟨i,hi,rfl⟩:=hy
     exact (hV i hi).1
theorem opens_slice {α:Type} [Inhabited α] {P:Program} {t e:TypeId} {d:Kd α} {Q:α → Prop} {B:Nat} (n:Nat) (hd:Opens P e d Q) (ht:P.underlying t = some (.slice e)) (hsz:P.cellsOf e = d.sz) (hB:P.bytesOf e = B) :
 Opens P t (Kd.slice n d) (fun xs => xs.length * B ≤ 140737488351232 ∧ ∀ y ∈ xs,Q y):=by
 intro H enc w fuel cs x h hz
 obtain ⟨A,c,xs,rfl,h1,h2,h3,h4,h5⟩:=opens_slice_at hd ht hsz hB h hz
 exact ⟨xs,⟨A,c,rfl,h1,h3⟩,h4,h5⟩
theorem open_slice_arg {α:Type} [Inhabited α] {P:Program} {t e:TypeId} {d:Kd α} {Q:α → Prop} {B:Nat} (hd:Opens P e d Q) (ht:P.underlying t = some (.slice e)) (hsz:P.cellsOf e = d.sz) (hB:P.bytesOf e = B)
 {H:Type} {enc:TypeId × Value → H} {W w:World} {r:Reach} {b0:Nat} {v:Value} {x:DataW H} {p:List MemPlace} {ts:List TypeId} {ds:List (DataW H)} {j:Nat}
 (hsized:(DataW.weightsEach P ts ds).all (· ≤ reachBytes) = true) (hj:ts[j]? = some t) (hx:ds[j]? = some x) (hval:Value.okWide P W r b0 t v) (h:DataW.Trod enc P w 0 (fun _ => true) true t v x p) :
 ∃ (A:Option Addr) (c:Nat) (xs:List α),v = .slice A xs.length c ∧ xs.length ≤ c ∧ c ≤ maxLen ∧ d.C w A xs.length xs ∧ xs.length * B ≤ 140737488351232 ∧ ∀ y ∈ xs,Q y:=by
 obtain ⟨a,len,cap,rfl⟩:=Go.WideShapes.okWide_slice ht hval
 obtain ⟨fuel,h⟩:=h
 obtain ⟨A,c,xs,e,h1,h2,h3,h4,h5⟩:=opens_slice_at hd ht hsz hB h (fun n hn => by
  have h9:=List.all_eq_true.1 hsized n (DataW.weights_mem_each hj hx n hn)
  simpa using h9)
 injection e with e
 exact ⟨A,c,xs,e,h1,h2,h3,h4,h5⟩
instance:Inhabited S66:=⟨z66⟩
theorem opens_label:Opens Tryz.prog 66 k66 (fun x => x.f0.size ≤ 140737488351232 ∧ x.f1.size ≤ 140737488351232) :=
 opens_iso (d:=Kd.pair Kd.string Kd.string) (fun x:S66 => (x.f0,x.f1)) (fun p => ⟨p.1,p.2⟩) (fun _ => rfl)
  (opens_struct Tryz.underlying66 (opensF_cons (opens_string Tryz.underlying9) (opensF_one (opens_string Tryz.underlying9) rfl (by kernel_rfl)) rfl (by kernel_rfl)) (by kernel_rfl))
end Go.Proofs.YtmcpeifhapekoaaGreatDoor.Opens
namespace Go.Proofs.YtmcpeifhapekoaaGreatDoor.Opens
open Go.Deep Go.Lib Go.Proofs.YtmcpeifhapekoaaGreatDoor.PAll Go.Proofs.YtmcpeifhapekoaaGreatDoorW.PrintWords Go.Proofs.YtmcpeifhapekoaaGreatDoorW.PrintLast Go.ChangeShapes
set_option linter.unusedVariables false
instance:Inhabited S34:=⟨z34⟩
instance:Inhabited S53:=⟨z53⟩
theorem opens_meta:Opens Tryz.prog 34 k34 (fun x => x.f0.size ≤ 140737488351232 ∧ x.f1.size ≤ 140737488351232 ∧ x.f2.size ≤ 140737488351232) :=
 opens_iso (d:=Kd.pair Kd.string (Kd.pair Kd.string Kd.string)) (fun x:S34 => (x.f0,x.f1,x.f2)) (fun p => ⟨p.1,p.2.1,p.2.2⟩) (fun _ => rfl)
  (opens_struct Tryz.underlying34 (opensF_cons (opens_string Tryz.underlying9) (opensF_cons (opens_string Tryz.underlying9) (opensF_one (opens_string Tryz.underlying9) rfl (by kernel_rfl)) rfl (by kernel_rfl)) rfl (by kernel_rfl)) (by kernel_rfl))
theorem opens_row:Opens Tryz.prog 53 k53 (fun x => (x.f0.length * 32 ≤ 140737488351232 ∧ ∀ y ∈ x.f0,y.f0.size ≤ 140737488351232 ∧ y.f1.size ≤ 140737488351232) ∧ (Lit.int .i64 x.f1).wf = true ∧ (Lit.int .u64 x.f2).wf = true) :=
 opens_iso (d:=Kd.pair (Kd.slice 66 k66) (Kd.pair (Kd.int .i64) (Kd.int .u64))) (fun x:S53 => (x.f0,x.f1,x.f2)) (fun p => ⟨p.1,p.2.1,p.2.2⟩) (fun _ => rfl)
  (opens_struct Tryz.underlying53 (opensF_cons (opens_slice _ opens_label Tryz.underlying50 (by kernel_rfl) (by kernel_rfl)) (opensF_cons (opens_int Tryz.underlying3) (opensF_one (opens_int Tryz.underlying51) rfl (by kernel_rfl)) rfl (by kernel_rfl)) rfl (by kernel_rfl)) (by kernel_rfl))
theorem pow10_data:(Rows.laid_internal_strconv_uint64pow10:DataW Unit) = tabData .u64 pow10Tab:=by kernel_rfl
theorem pow_of_row {W:World} {l:List (String × DataW Unit)} (hL:laidMetH Tryz.prog l W) (hp:(l.all fun x => x.2.handleName?.isNone) = true) (h1:("internal/strconv.uint64pow10",Rows.laid_internal_strconv_uint64pow10) ∈ l):u1k.Gd W:=by
 have hL2:laidMet Tryz.prog l W:=by rw [← MakeChecks.laidMetH_plain _ _ _ hp];exact hL
 have h:=laidMet.reads hL2 h1
 rw [pow10_data] at h
 obtain ⟨g,t,cs,fuel,p,hg,hty,hvar,hd⟩:=h
 have hg2:Tryz.prog.globalNamed "internal/strconv.uint64pow10" = some 1:=by kernel_rfl
 obtain rfl:=Option.some.inj (hg2.symm.trans hg)
 have ht2:(Tryz.prog.globals[1]?).map (·.type) = some 187:=by kernel_rfl
 obtain rfl:=Option.some.inj (ht2.symm.trans hty)
 unfold u1k.Gd TabIs
 rw [hvar,← cells_of_tab (n:=20) (by kernel_rfl) Tryz.underlying51 (by kernel_rfl) (by kernel_rfl) hd]
end Go.Proofs.YtmcpeifhapekoaaGreatDoor.Opens
namespace Go.Proofs.YtmcpeifhapekoaaGreatDoor.PAll
open Go.RowKit Go.Proofs.YtmcpeifhapekoaaGreatDoorW.PrintWords Go.Proofs.YtmcpeifhapekoaaGreatDoorW.PrintLast Go.Proofs.YtmcpeifhapekoaaGreatDoorW.PrintMore
attribute [local go_sem] max2_int min2_int max_two min_two max_three min_three max_four min_four
set_option linter.unusedVariables false
set_option linter.unusedSimpArgs false
def u2l.l0:Nat → ByteArray → List ByteArray → Int → Int → Option (Bool)
 | 0,_,_,_,_ => none
 | k + 1,x0,x5,x6,x7 => if x7 < x6 then (if 0 ≤ x7 then (if x7 < (x5.length:Int) then (if x0.toList = (rdOf ByteArray.empty x5 x7).toList then (some true) else (u2l.l0 k x0 x5 x6 (wrap64 (x7 + 1)))) else (none)) else (none)) else (some false)
def u2l.f (k:Nat) (a0:ByteArray):Option (Bool):=(some (([(⟨#[99,111,117,110,116,101,114]⟩:ByteArray),(⟨#[103,97,117,103,101]⟩:ByteArray),(⟨#[104,105,115,116,111,103,114,97,109]⟩:ByteArray),(⟨#[115,117,109,109,97,114,121]⟩:ByteArray),(⟨#[117,110,116,121,112,101,100]⟩:ByteArray)]:List ByteArray):List ByteArray)).bind fun y109 => (u2l.l0 k a0 y109 (y109.length:Int) 0)
set_option maxHeartbeats 8000000 in
set_option maxRecDepth 100000 in
theorem u2l.calls (k:Nat) (a0:ByteArray) (r:Bool) (w:World) (h:u2l.f k a0 = some r) :
 Calls Tryz.prog 38 #[.string a0] w fun e w' => e = .returned (.bool r) ∧ Below w.heap.size w w':=by
 have HB:=Aside0.mk (Below.refl w.heap.size w)
 have H:((some (([(⟨#[99,111,117,110,116,101,114]⟩:ByteArray),(⟨#[103,97,117,103,101]⟩:ByteArray),(⟨#[104,105,115,116,111,103,114,97,109]⟩:ByteArray),(⟨#[115,117,109,109,97,114,121]⟩:ByteArray),(⟨#[117,110,116,121,112,101,100]⟩:ByteArray)]:List ByteArray):List ByteArray)).bind fun y109 => (u2l.l0 k a0 y109 (y109.length:Int) 0)) = some r:=h
 clear h
 obtain ⟨y109,hy109⟩:∃ y_:List ByteArray,y_ = (([(⟨#[99,111,117,110,116,101,114]⟩:ByteArray),(⟨#[103,97,117,103,101]⟩:ByteArray),(⟨#[104,105,115,116,111,103,114,97,109]⟩:ByteArray),(⟨#[115,117,109,109,97,114,121]⟩:ByteArray),(⟨#[117,110,116,121,112,101,100]⟩:ByteArray)]:List ByteArray)):=⟨_,rfl⟩
 replace H:(u2l.l0 k a0 y109 (y109.length:Int) 0) = some r:=by first | (rw [hy109];with_reducible exact H) | (have H2_:=(Option.bind_some _ _).symm.trans H;rw [hy109];with_reducible exact H2_) | (have H2_:=(Option.bind_some _ _).symm.trans H;with_reducible exact H2_) | with_reducible exact H | (rw [hy109];exact H) | exact H
 have Ny109:=Aside0.mk hy109
 clear hy109
 have H':=Aside0.mk H
 clear H
 go_enter Tryz.func38,Tryz.ntmps38
 go_wp2_with (first | ((with_reducible refine u2u (N:=5) rfl ?_);refine Kd.R_lit Kd.string _ 9 ?hg (N:=5) ?hd (xs:=([(⟨#[99,111,117,110,116,101,114]⟩:ByteArray),(⟨#[103,97,117,103,101]⟩:ByteArray),(⟨#[104,105,115,116,111,103,114,97,109]⟩:ByteArray),(⟨#[115,117,109,109,97,114,121]⟩:ByteArray),(⟨#[117,110,116,121,112,101,100]⟩:ByteArray)]:List ByteArray)) (inner:=[.string (⟨#[99,111,117,110,116,101,114]⟩:ByteArray),.string (⟨#[103,97,117,103,101]⟩:ByteArray),.string (⟨#[104,105,115,116,111,103,114,97,109]⟩:ByteArray),.string (⟨#[115,117,109,109,97,114,121]⟩:ByteArray),.string (⟨#[117,110,116,121,112,101,100]⟩:ByteArray)]) (ok:=fun _ => True) (okp:=fun _ => True) ?hr ?hp (fun _ hk => hk) trivial (Below.refl _ _) (Nat.le_refl _) (by simp) ?_;(case hd => rfl);(case hg => rfl);(case hr => first | (go_simp;done) | (go_simp;rfl));(case hp => exact (Reps.one (show Kd.M Kd.string _ _ _ (⟨#[99,111,117,110,116,101,114]⟩:ByteArray) [.string (⟨#[99,111,117,110,116,101,114]⟩:ByteArray)] from rfl) (Reps.one (show Kd.M Kd.string _ _ _ (⟨#[103,97,117,103,101]⟩:ByteArray) [.string (⟨#[103,97,117,103,101]⟩:ByteArray)] from rfl) (Reps.one (show Kd.M Kd.string _ _ _ (⟨#[104,105,115,116,111,103,114,97,109]⟩:ByteArray) [.string (⟨#[104,105,115,116,111,103,114,97,109]⟩:ByteArray)] from rfl) (Reps.one (show Kd.M Kd.string _ _ _ (⟨#[115,117,109,109,97,114,121]⟩:ByteArray) [.string (⟨#[115,117,109,109,97,114,121]⟩:ByteArray)] from rfl) (Reps.one (show Kd.M Kd.string _ _ _ (⟨#[117,110,116,121,112,101,100]⟩:ByteArray) [.string (⟨#[117,110,116,121,112,101,100]⟩:ByteArray)] from rfl) (Reps.none _ _)))))));intro v110 w2 ho3 hb hg_ hnew_;clear hg_ hnew_;(first | rw [← Ny109.out] at ho3 | (simp only [Int.reduceToNat] at ho3;rw [← Ny109.out] at ho3));have n0_:=Aside0.mk (Kd.R_lower ho3 (u1c (by repeat (first | (with_reducible first | exact HB.out | apply ud | apply ub | apply uf) | exact HB.out))));have n1_:=Aside0.mk (u1d (by repeat (first | (with_reducible first | exact HB.out | apply ud | apply ub | apply uf) | exact HB.out)) hb);clear HB;have HO111:=n0_;have HB:=n1_;clear n0_ n1_;clear hb ho3;obtain ⟨Ao4,co4,eo4⟩:=Kd.R_slice HO111.out;subst eo4))
 go_loopg [7] k (fun kq v7 w' => ∃ (x7_1:Int),v7 = .int .i64 x7_1 ∧ Aside0 (u2l.l0 kq a0 y109 (y109.length:Int) x7_1 = some r) ∧ Aside0 (kq ≤ k) ∧ Aside0 (Kd.R Kd.string 9 w' w.heap.size (fun _ => True) (.slice Ao4 y109.length co4) y109) ∧ Aside0 (Below w.heap.size w w'))
 case atStart => exact ⟨(0),(by first | rfl | (simp;done) | (simp [*];done)),H',⟨Nat.le_refl _⟩,⟨by (with_reducible repeat (first | apply Kd.R_alloc | apply Kd.R_drewN | apply Kd.R_drew));exact HO111.out⟩,⟨by repeat (first | (with_reducible first | exact HB.out | apply ud | apply ub | apply uf) | exact HB.out)⟩⟩
 case round =>
  clear H'
  try clear p2
  try clear c3
  obtain ⟨x7_1,rfl,HA,HK1,HO_5,HB⟩:=hrel
  cases gk with
  | zero => exact absurd HA.out (by simp [u2l.l0])
  | succ k1 =>
    have H:=HA.out
    clear HA
    simp only [u2l.l0] at H
    by_cases c5:x7_1 < (y109.length:Int)
    · rw [if_pos c5] at H
      have c5b0:decide (x7_1 < (y109.length:Int)) = true:=decide_eq_true c5
      clear c5
      by_cases c6:0 ≤ x7_1
      · rw [if_pos c6] at H
        have c6b0:decide (0 ≤ x7_1) = true:=decide_eq_true c6
        clear c6
        by_cases c7:x7_1 < (y109.length:Int)
        · rw [if_pos c7] at H
          have c7b0:decide (x7_1 < (y109.length:Int)) = true:=decide_eq_true c7
          clear c7
          by_cases c8:a0.toList = (rdOf ByteArray.empty y109 x7_1).toList
          · rw [if_pos c8] at H
            have c8b0:(a0.toList == (rdOf ByteArray.empty y109 x7_1).toList) = true:=beq_iff_eq.mpr c8
            have c8b1:(a0.toList != (rdOf ByteArray.empty y109 x7_1).toList) = false:=bne_eq_false_iff_eq.mpr c8
            clear c8
            obtain rfl:=Option.some.inj H
            have p112:0 ≤ (x7_1:Int):=of_decide_eq_true (by first | (with_reducible assumption) | assumption)
            have q112:x7_1 < (y109.length:Int):=of_decide_eq_true (by first | (with_reducible assumption) | assumption)
            obtain ⟨ad112,e112,hx112_0⟩:=Kd.at_string (Kd.R_reads' HO_5.out).2.2 x7_1 p112 q112
            cases e112
            replace p112:=eq_true p112
            replace q112:=eq_true q112
            go_wp2
            go_ret
            exact ⟨by first | rfl | (simp [u2c,u2b] <;> rfl) | (simp [*,u2c,u2b] <;> rfl),by repeat (first | (with_reducible first | exact HB.out | apply ud | apply ub | apply uf) | exact HB.out)⟩
          · rw [if_neg c8] at H
            have c8b0:(a0.toList == (rdOf ByteArray.empty y109 x7_1).toList) = false:=beq_eq_false_iff_ne.mpr c8
            have c8b1:(a0.toList != (rdOf ByteArray.empty y109 x7_1).toList) = true:=bne_iff_ne.mpr c8
            have H':=Aside0.mk H
            clear H
            have p112:0 ≤ (x7_1:Int):=of_decide_eq_true (by first | (with_reducible assumption) | assumption)
            have q112:x7_1 < (y109.length:Int):=of_decide_eq_true (by first | (with_reducible assumption) | assumption)
            obtain ⟨ad112,e112,hx112_0⟩:=Kd.at_string (Kd.R_reads' HO_5.out).2.2 x7_1 p112 q112
            cases e112
            replace p112:=eq_true p112
            replace q112:=eq_true q112
            go_wp2
            go_roundg k1
            case measure => have:=HK1.out;omega
            case rel => exact ⟨(wrap64 (x7_1 + 1)),(by first | rfl | (simp;done) | (simp [*];done)),H',⟨by have:=HK1.out;omega⟩,⟨by (with_reducible repeat (first | apply Kd.R_alloc | apply Kd.R_drewN | apply Kd.R_drew));exact HO_5.out⟩,⟨by repeat (first | (with_reducible first | exact HB.out | apply ud | apply ub | apply uf) | exact HB.out)⟩⟩
        · rw [if_neg c7] at H
          exact absurd H (by simp)
      · rw [if_neg c6] at H
        exact absurd H (by simp)
    · rw [if_neg c5] at H
      have c5b0:decide (x7_1 < (y109.length:Int)) = false:=decide_eq_false c5
      clear c5
      obtain rfl:=Option.some.inj H
      go_wp2
      go_ret
      exact ⟨by first | rfl | (simp [u2c,u2b] <;> rfl) | (simp [*,u2c,u2b] <;> rfl),by repeat (first | (with_reducible first | exact HB.out | apply ud | apply ub | apply uf) | exact HB.out)⟩
end Go.Proofs.YtmcpeifhapekoaaGreatDoor.PAll
namespace Go.Proofs.YtmcpeifhapekoaaGreatDoor.Tx
open Go.RowKit Go.Proofs.YtmcpeifhapekoaaGreatDoor.PAll Go.Proofs.YtmcpeifhapekoaaGreatDoorW.PrintWords Go.Proofs.YtmcpeifhapekoaaGreatDoorW.PrintLast
set_option linter.unusedVariables false
set_option linter.unusedSimpArgs false
abbrev Lb:=S66
abbrev B8:=List UInt8
def wordC (c:UInt8):Bool:=Base.letterB (c.toNat:Int) || Base.digitB (c.toNat:Int)
def blankC (c:UInt8):Bool:=decide (c = 32) || decide (c = 9)
def decC (c:UInt8):Bool:=decide (48 ≤ c.toNat) && decide (c.toNat ≤ 57)
def hexC (c:UInt8):Bool:=decC c || (decide (97 ≤ c.toNat) && decide (c.toNat ≤ 102))
def digC (h:Bool) (c:UInt8):Bool:=if h then hexC c else decC c
def digV (c:UInt8):Int:=if 97 ≤ c.toNat then (c.toNat:Int) - 87 else (c.toNat:Int) - 48
def numL (base:Int):B8 → Int → Option Int
 | [],n => some n
 | c :: r,n => if n ≤ (18446744073709551615 - digV c) / base then numL base r (n * base + digV c) else none
def digitsP (h:Bool) (most:Nat) (s:B8):Option (B8 × B8) :=
 if (s.takeWhile (digC h)) ≠ [] ∧ (s.takeWhile (digC h)).length ≤ most then some (s.takeWhile (digC h),s.dropWhile (digC h)) else none
def valueD (h:Bool) (most:Nat) (base:Int) (s:B8):Option (Int × B8):=(digitsP h most s).bind fun p => (numL base p.1 0).map fun n => (n,p.2)
def valueP (s:B8):Option (Int × B8):=match s with
 | 48 :: 120 :: r => valueD true 16 16 r
 | _ => valueD false 20 10 s
def timeP (s:B8):Option (Int × B8):=match s with
 | 45 :: r => (valueD false 19 10 r).bind fun p => if p.1 ≤ 9223372036854775808 then some (-p.1,p.2) else none
 | _ => (valueD false 19 10 s).bind fun p => if p.1 < 9223372036854775808 then some p else none
def nameP (s:B8):Option (ByteArray × B8):=if Base.nameB (Base.ofL (s.takeWhile wordC)) = true then some (Base.ofL (s.takeWhile wordC),s.dropWhile wordC) else none
def expectP (p:B8) (s:B8):Option B8:=if p.isPrefixOf s = true then some (s.drop p.length) else none
def quotedP (s:B8):Option (ByteArray × B8):=match s with
 | [] => none
 | c :: r => if c = 34 then (Base.unqL r []).map fun p => (Base.ofL p.1,p.2) else none
def valP (s:B8):Option (ByteArray × B8):=(expectP [61] s).bind quotedP
def labelP (s:B8):Option (Lb × B8):=(nameP s).bind fun p => (valP p.2).map fun q => (⟨p.1,q.1⟩,q.2)
def labelsP:Nat → List Lb → B8 → Option (List Lb × B8)
 | 0,_,_ => none
 | n + 1,acc,s => match s with
   | 44 :: r => if acc.length ≤ 8 then (labelP r).bind fun p => labelsP n (acc ++ [p.1]) p.2 else none
   | _ => some (acc,s)
def bracesP (s:B8):Option (List Lb × B8):=(expectP [123] s).bind fun r => (labelP r).bind fun p => (labelsP s.length [p.1] p.2).bind fun q => (expectP [125] q.2).map fun t => (q.1,t)
def less (a b:ByteArray):Bool:=Op.bytesLess a.data.toList b.data.toList
def insR (x:Lb):List Lb → List Lb
 | [] => [x]
 | y :: r => if less x.f0 y.f0 = true then y :: insR x r else x :: y :: r
def sortP (l:List Lb):List Lb:=(l.foldl (fun r x => insR x r) []).reverse
def metric:ByteArray:=Base.ofL [95,95,110,97,109,101,95,95]
def headP (s:B8):Option (List Lb × B8):=match s with
 | [] => some ([],[])
 | c :: r => if wordC c = true then (nameP s).map fun p => ([⟨metric,p.1⟩],p.2) else some ([],s)
def restP (l:List Lb) (s:B8):Option (List Lb × B8):=match s with
 | 123 :: _ => (bracesP s).map fun q => (l ++ q.1,q.2)
 | _ => some (l,s)
def labsP (s:B8):Option (List Lb × B8):=(headP s).bind fun p => restP p.1 p.2
def endP (s:B8) (now:Int):Option (Int × Int) :=
 if s.takeWhile blankC = [] then none else (valueP (s.dropWhile blankC)).bind fun p =>
  if p.2.dropWhile blankC = [] then some (now,p.1) else if p.2.takeWhile blankC = [] then none else
   (timeP (p.2.dropWhile blankC)).bind fun q => if q.2.dropWhile blankC = [] then some (q.1,p.1) else none
abbrev Rw:=S53
abbrev Me:=ByteArray × ByteArray × ByteArray
def helpW:B8:=[35,32,72,69,76,80,32]
def typeW:B8:=[35,32,84,89,80,69,32]
def kinds:List B8:=[[99,111,117,110,116,101,114],[103,97,117,103,101],[104,105,115,116,111,103,114,97,109],[115,117,109,109,97,114,121],[117,110,116,121,112,101,100]]
def knownL (s:B8):Bool:=kinds.contains s
def plainL (s:B8):Bool:=s.all fun c => decide (32 ≤ c.toNat)
def me0:Me:=(Base.ofL [],Base.ofL [],Base.ofL [])
def remarkP (s:B8):Option Me:=if (helpW.isPrefixOf s || typeW.isPrefixOf s) = true then
    (nameP (s.drop 7)).bind fun p => (expectP [32] p.2).bind fun r => if typeW.isPrefixOf s = true then (if knownL r = true then some (p.1,Base.ofL r,Base.ofL []) else none) else if plainL r = true then some (p.1,Base.ofL [],Base.ofL r) else none
 else some me0
def sampleP (can:List Lb → Bool) (s:B8) (now:Int):Option Rw:=(labsP s).bind fun p => if can (sortP p.1) = true then (endP p.2 now).map fun q => ⟨sortP p.1,q.1,q.2⟩ else none
def readP (can:List Lb → Bool) (s:B8) (now:Int):Option Rw × Me × Int :=
 if s.length > 1000 then (none,me0,4) else if s.contains 10 = true then (none,me0,280) else match s with
  | 35 :: _ => (match remarkP s with | none => (none,me0,280) | some m => (none,m,0))
  | _ => if s.all blankC = true then (none,me0,0) else match sampleP can s now with | none => (none,me0,280) | some r => (some r,me0,0)
def noteP (m:Me) (help:Bool):List Me → List Me
 | [] => [m]
 | x :: l => if x.1 = m.1 then (if help = true then (x.1,x.2.1,m.2.2) else (x.1,m.2.1,x.2.2)) :: l else x :: noteP m help l
def partL (b:B8):B8:=b.takeWhile (· != 10)
def restL (b:B8):B8:=(b.dropWhile (· != 10)).drop 1
def parseP (can:List Lb → Bool) (now:Int):Nat → Int → List Rw → List Me → B8 → List Rw × List Me × Int × Int
 | 0,_,rows,book,_ => (rows,book,0,0)
 | n + 1,line,rows,book,b => if b = [] then (rows,book,0,0) else
   let x:=readP can (partL b) now
   let e:=if x.1.isSome = true ∧ rows.length = 10000 then 4 else x.2.2
   if e ≠ 0 then ([],[],e,line) else parseP can now n (line + 1) (rows ++ x.1.toList) (if x.2.1.1 = Base.ofL [] then book else noteP x.2.1 (helpW.isPrefixOf (partL b)) book) (restL b)
theorem tw_step {α:Type} (p:α → Bool):∀ (s:List α) (i:Nat) (h:i ≤ (s.takeWhile p).length) (hi:i < s.length),(p s[i] = true → i + 1 ≤ (s.takeWhile p).length) ∧ (p s[i] = false → i = (s.takeWhile p).length)
 | c :: s,i,h,hi => by
   by_cases hc:p c = true
   · rw [List.takeWhile_cons,if_pos hc,List.length_cons] at h ⊢
     cases i with
     | zero => exact ⟨fun _ => by omega,fun h9 => by rw [List.getElem_cons_zero,hc] at h9;cases h9⟩
     | succ i =>
       obtain ⟨g1,g2⟩:=tw_step p s i (by omega) (by rw [List.length_cons] at hi;omega)
       rw [List.getElem_cons_succ]
       exact ⟨fun h9 => by have:=g1 h9;omega,fun h9 => by have:=g2 h9;omega⟩
   · rw [List.takeWhile_cons,if_neg hc,List.length_nil] at h ⊢
     obtain rfl:i = 0:=by omega
     rw [List.getElem_cons_zero]
     exact ⟨fun h9 => absurd h9 hc,fun _ => rfl⟩
theorem tw_le {α:Type} (p:α → Bool):∀ s:List α,(s.takeWhile p).length ≤ s.length
 | [] => Nat.le_refl _
 | c :: s => by
   have:=tw_le p s
   rw [List.takeWhile_cons]
   split
   · rw [List.length_cons,List.length_cons]
     omega
   · exact Nat.zero_le _
theorem tw_take {α:Type} (p:α → Bool):∀ s:List α,s.take (s.takeWhile p).length = s.takeWhile p ∧ s.drop (s.takeWhile p).length = s.dropWhile p
 | [] => ⟨rfl,rfl⟩
 | c :: s => by
   obtain ⟨h1,h2⟩:=tw_take p s
   rw [List.takeWhile_cons,List.dropWhile_cons]
   by_cases hc:p c = true
   · rw [if_pos hc,if_pos hc,List.length_cons,List.take_succ_cons,List.drop_succ_cons,h1,h2]
     exact ⟨rfl,rfl⟩
   · rw [if_neg hc,if_neg hc]
     exact ⟨rfl,rfl⟩
theorem cut_ofL (s:B8) (n:Nat) (h:n ≤ s.length):(Base.ofL s).extract 0 n = Base.ofL (s.take n) ∧ (Base.ofL s).extract n (Base.ofL s).size = Base.ofL (s.drop n) ∧ (Base.ofL s).size = s.length:=by
 refine ⟨Base.ext_data ?_,Base.ext_data ?_,?_⟩
 · rw [Base.extract_list,Base.ofL_data,Base.ofL_data,List.drop_zero,Nat.sub_zero]
 · rw [Base.extract_rest,Base.ofL_data,Base.ofL_data]
 · rw [← u2k,Base.ofL_data]
theorem insR_pass (x:Lb):∀ (A R:List Lb),(∀ y ∈ A,less x.f0 y.f0 = true) → insR x (A ++ R) = A ++ insR x R
 | [],R,_ => rfl
 | y :: A,R,h => by
   rw [List.cons_append,List.cons_append]
   conv => lhs;unfold insR
   rw [if_pos (h y (List.mem_cons_self ..)),insR_pass x A R (fun z hz => h z (List.mem_cons_of_mem _ hz))]
theorem insR_stop (x:Lb) (R:List Lb) (h:∀ y,R.head? = some y → ¬ less x.f0 y.f0 = true):insR x R = x :: R:=by
 cases R with
 | nil => rfl
 | cons y R =>
   unfold insR
   rw [if_neg (h y rfl)]
def sortedTo (l:List Lb) (i:Nat):List Lb:=((l.take i).foldl (fun r x => insR x r) []).reverse
theorem sortedTo_all (l:List Lb):sortedTo l l.length = sortP l:=by
 unfold sortedTo sortP
 rw [List.take_length]
theorem sortedTo_next (l:List Lb) (i:Nat) (hi:i < l.length) (a b:List Lb) (hab:sortedTo l i = a ++ b) (hb:∀ y ∈ b,less l[i].f0 y.f0 = true) (ha:∀ y,a.getLast? = some y → ¬ less l[i].f0 y.f0 = true):sortedTo l (i + 1) = a ++ l[i] :: b:=by
 unfold sortedTo at hab ⊢
 rw [List.take_succ_eq_append_getElem hi,List.foldl_append]
 have e:(l.take i).foldl (fun r x => insR x r) [] = b.reverse ++ a.reverse:=by
  rw [← List.reverse_append,← hab,List.reverse_reverse]
 rw [e]
 show (insR l[i] (b.reverse ++ a.reverse)).reverse = _
 rw [insR_pass _ _ _ (fun y hy => hb y (List.mem_reverse.1 hy)),insR_stop _ _ (fun y hy => ha y (by rw [List.head?_reverse] at hy;exact hy))]
 simp
theorem sortedTo_len (l:List Lb) (i:Nat) (hi:i ≤ l.length):(sortedTo l i).length = i:=by
 have ins_len:∀ (x:Lb) (r:List Lb),(insR x r).length = r.length + 1:=fun x r => by
  induction r with
  | nil => rfl
  | cons y r ih =>
    unfold insR
    split
    · rw [List.length_cons,ih,List.length_cons]
    · rfl
 have:∀ (m r:List Lb),(m.foldl (fun r x => insR x r) r).length = r.length + m.length:=fun m => by
  induction m with
  | nil => exact fun r => rfl
  | cons x m ih =>
    intro r
    rw [List.foldl_cons,ih,ins_len,List.length_cons]
    omega
 unfold sortedTo
 rw [List.length_reverse,this,List.length_take,List.length_nil]
 omega
theorem vr_nat (s:ByteArray) (pos:Nat):∃ c:Nat,((Utf8.decode s pos).1:Int) = (c:Int) ∧ c ≤ 1114111 ∧ (c < 55296 ∨ 57344 ≤ c):=by
 refine ⟨_,rfl,?_⟩
 rw [Lib.decode_N]
 rcases Lib.decodeN_shape (s.data.toList.length - pos) (s.data.toList.getD pos 0).toNat (s.data.toList.getD (pos + 1) 0).toNat (s.data.toList.getD (pos + 2) 0).toNat (s.data.toList.getD (pos + 3) 0).toNat with ⟨c,e⟩ | ⟨c1,c2,c3,cv,e⟩ | ⟨c1,c2,c3,c4,cv,cs,e⟩ | ⟨c1,c2,c3,c4,c5,cv,cw,e⟩ | e
 all_goals (rw [e];dsimp only;omega)
theorem of_nat (n:Nat) (h:n < 256):(UInt8.ofNat n).toNat = n:=by
 rw [UInt8.toNat_ofNat']
 omega
theorem rune_bytes {c:Nat} (h1:c ≤ 1114111) (h2:c < 55296 ∨ 57344 ≤ c) (h0:32 ≤ c):∀ b ∈ Lib.encodeRune (c:Int),32 ≤ b.toNat:=by
 intro b hb
 unfold Lib.encodeRune at hb
 have hl:∀ (l:List Int),b ∈ l.map (fun n => UInt8.ofNat n.toNat) → (∀ n ∈ l,32 ≤ n ∧ n < 256) → 32 ≤ b.toNat:=by
  intro l h g
  obtain ⟨n,hn,rfl⟩:=List.mem_map.1 h
  have:=g n hn
  rw [of_nat _ (by omega)]
  omega
 by_cases c1:c < 128
 · rw [Lib.encodeRuneZ_one (by omega) (by omega)] at hb
   exact hl _ hb (fun n hn => by simp at hn;omega)
 · by_cases c2:c < 2048
   · rw [Lib.encodeRuneZ_two (by omega) (by omega)] at hb
     exact hl _ hb (fun n hn => by simp at hn;omega)
   · by_cases c3:c < 65536
     · rw [Lib.encodeRuneZ_three (by omega)] at hb
       exact hl _ hb (fun n hn => by simp at hn;omega)
     · rw [Lib.encodeRuneZ_four (by omega) (by omega)] at hb
       exact hl _ hb (fun n hn => by simp at hn;omega)
theorem plain_from (s:ByteArray):∀ (f pos:Nat),s.size - pos ≤ f → (∀ r ∈ Base.runesFrom s f pos,32 ≤ r ∧ r ≠ 65533) → ∀ b ∈ s.data.toList.drop pos,32 ≤ b.toNat:=by
 intro f
 induction f with
 | zero =>
   intro pos h hn b hb
   rw [List.drop_eq_nil_of_le (by rw [u2k];omega)] at hb
   cases hb
 | succ f ih =>
   intro pos h hn b hb
   by_cases hlt:pos < s.size
   · have hw:=Base.width_pos s pos hlt
     rw [Base.runesFrom_step s f pos hlt] at hn
     have hr:=hn _ (List.mem_cons_self ..)
     have hne:s.data.toList.drop pos ≠ []:=fun h9 => by
      have:=List.drop_eq_nil_iff.1 h9
      rw [u2k] at this
      omega
     have h1:=Lib.encode_decode (s.data.toList.drop pos) hne (fun h9 => hr.2 (by rw [Lib.decodeL_drop] at h9;rw [h9.1];rfl))
     rw [Lib.decodeL_drop] at h1
     obtain ⟨c,hc,hc1,hc2⟩:=vr_nat s pos
     rw [← List.take_append_drop (Utf8.decode s pos).2 (s.data.toList.drop pos),← h1] at hb
     rcases List.mem_append.1 hb with hb | hb
     · rw [hc] at hb hr
       exact rune_bytes hc1 hc2 (by omega) b hb
     · rw [List.drop_drop] at hb
       exact ih _ (by omega) (fun r hr => hn r (List.mem_cons_of_mem _ hr)) b hb
   · rw [List.drop_eq_nil_of_le (by rw [u2k];omega)] at hb
     cases hb
theorem value_bytes {s:ByteArray} (h:Base.valueB s = true):∀ b ∈ s.data.toList,32 ≤ b.toNat:=by
 unfold Base.valueB at h
 rw [Bool.and_eq_true,Bool.and_eq_true,List.all_eq_true] at h
 have:=plain_from s s.size 0 (by omega) (fun r hr => by
  have h9:=h.1.1 r hr
  unfold Base.plainB at h9
  simp only [Bool.and_eq_true,decide_eq_true_eq,Bool.not_eq_true',decide_eq_false_iff_not] at h9
  exact ⟨h9.1.1,h9.2⟩)
 simpa using this
end Go.Proofs.YtmcpeifhapekoaaGreatDoor.Tx
namespace Go.Proofs.YtmcpeifhapekoaaGreatDoor.PAll
open Go.RowKit Go.Proofs.YtmcpeifhapekoaaGreatDoorW.PrintWords Go.Proofs.YtmcpeifhapekoaaGreatDoorW.PrintLast Go.Proofs.YtmcpeifhapekoaaGreatDoorW.PrintMore
attribute [local go_sem] max2_int min2_int max_two min_two max_three min_three max_four min_four
set_option linter.unusedVariables false
set_option linter.unusedSimpArgs false
def u2z.badB (c:Int):Bool:=decide (c < 32)
theorem u2z.test (c:Int) (w:World):Calls Tryz.prog 59 #[.int .u8 c] w fun e w' => e = .returned (.bool (u2z.badB c)) ∧ u1b w w':=by
 unfold u2z.badB
 go_enter Tryz.func59,Tryz.ntmps59
 go_wp2
 go_ret
 exact ⟨rfl,⟨0,rfl⟩⟩
set_option maxHeartbeats 1000000 in
theorem u2z.index (A:Option Addr) (c:Nat) (l:List Int) (w:World) (hr:Kd.C (Kd.int .u8) w A l.length l) (hm:l.length ≤ 140737488355328) :
 Calls Tryz.prog 104 #[.slice A l.length c,.func (.func 59) #[] #[]] w fun e w' => (∃ i:Int,e = .returned (.int .i64 i) ∧ decide (0 ≤ i) = l.any u2z.badB) ∧ u1b w w':=by
 have HR:=Aside0.mk hr
 clear hr
 go_enter Tryz.func104,Tryz.ntmps104
 go_wp2
 go_loopg [8] (l.length) (fun kq v8 w' => ∃ (x:Nat),x ≤ l.length ∧ v8 = .int .i64 x ∧ Aside0 ((l.take x).any u2z.badB = false) ∧ l.length ≤ kq + x ∧ u1b w w')
 case atStart => exact ⟨0,by omega,rfl,⟨rfl⟩,by omega,u1b.refl _⟩
 case round =>
  obtain ⟨x,hx,rfl,HN,hk,⟨m1,rfl⟩⟩:=hrel
  by_cases hlt:x < l.length
  · obtain ⟨ad,e,hc⟩:=Kd.at_int HR.out (x:Int) (by omega) (by omega)
    subst e
    have hc2:w.cell? (ad.add x) = some (.int .u8 (rd l x)):=by simpa using hc
    clear hc
    have htk:l.take (x + 1) = l.take x ++ [rd l x]:=by
     rw [List.take_succ_eq_append_getElem hlt]
     simp [rd,List.getD_eq_getElem?_getD,hlt]
    have HT:=Aside0.mk htk
    clear htk
    cases hb:u2z.badB (rd l x) with
    | true =>
      go_wp2_with (go_at_call 59;refine (u2z.test _ _).mono ?_;rintro e W1 ⟨rfl,⟨nd,rfl⟩⟩)
      go_ret
      refine ⟨⟨_,rfl,?_⟩,⟨_,rfl⟩⟩
      have h1:l.any u2z.badB = true:=by
       rw [List.any_eq_true]
       refine ⟨rd l x,?_,hb⟩
       have h2:rd l x ∈ l.take (x + 1):=by rw [HT.out];simp
       exact List.mem_of_mem_take h2
      rw [h1]
      simp
    | false =>
      go_wp2_with (go_at_call 59;refine (u2z.test _ _).mono ?_;rintro e W1 ⟨rfl,⟨nd,rfl⟩⟩)
      obtain ⟨g1,rfl⟩:∃ g1,gk = g1 + 1:=⟨gk - 1,by omega⟩
      go_roundg g1
      case rel =>
       refine ⟨x + 1,by omega,by go_num,⟨?_⟩,by omega,⟨_,rfl⟩⟩
       rw [HT.out,List.any_append,HN.out]
       simp [hb]
      case measure => omega
  · go_wp2
    go_ret
    refine ⟨⟨_,rfl,?_⟩,⟨_,rfl⟩⟩
    have h1:=HN.out
    rw [List.take_of_length_le (by omega)] at h1
    rw [h1]
    simp
theorem u2z.contains (A:Option Addr) (c:Nat) (l:List Int) (w:World) (hr:Kd.C (Kd.int .u8) w A l.length l) (hm:l.length ≤ 140737488355328) :
 Calls Tryz.prog 56 #[.slice A l.length c,.func (.func 59) #[] #[]] w fun e w' => e = .returned (.bool (l.any u2z.badB)) ∧ u1b w w':=by
 go_enter Tryz.func56,Tryz.ntmps56
 go_wp2_with (go_at_call 104;refine (u2z.index _ _ _ _ hr hm).mono ?_;rintro e W1 ⟨⟨i,rfl,hi⟩,⟨nd,rfl⟩⟩)
 go_ret
 exact ⟨by simp,⟨_,rfl⟩⟩
theorem u2z.contains_n (A:Option Addr) (c n:Nat) (l:List Int) (w:World) (hn:l.length = n) (hr:Kd.C (Kd.int .u8) w A n l) (hm:n ≤ 140737488355328) :
 Calls Tryz.prog 56 #[.slice A n c,.func (.func 59) #[] #[]] w fun e w' => e = .returned (.bool (l.any u2z.badB)) ∧ u1b w w':=by
 subst hn
 exact u2z.contains A c l w hr hm
set_option maxHeartbeats 1000000 in
theorem u2z.calls (s:List UInt8) (hl:s.length ≤ 140737488351232) (w:World) :
 Calls Tryz.prog 31 #[.string (Base.ofL s)] w fun e w' => e = .returned (.bool (Tx.plainL s)) ∧ Below w.heap.size w w':=by
 obtain ⟨a0,ha⟩:∃ a0,a0 = Base.ofL s:=⟨_,rfl⟩
 have hsz:a0.size = s.length:=by rw [ha];exact (Tx.cut_ofL s 0 (by omega)).2.2
 have HV:Aside0 (Tx.plainL s = !(bytesOf a0).any u2z.badB):=⟨by
  unfold Tx.plainL bytesOf
  rw [ha,Base.ofL_data,List.all_eq_not_any_not,List.any_map]
  congr 2
  funext c
  unfold u2z.badB
  simp only [Function.comp]
  rw [Bool.eq_iff_iff]
  simp
  omega⟩
 rw [← ha,HV.out]
 clear HV ha
 have hsz2:a0.size ≤ 140737488351232:=by omega
 clear hsz hl
 have kb:=fun W => print_bytes (P:=Tryz.prog) 9 22 5 Tryz.underlying9 Tryz.underlying22 Tryz.underlying5 a0 W
 have hr:=Aside0.mk (bytes_reads w 5 a0 (by omega))
 have hc:Aside0 (Kd.C (Kd.int .u8) (Lib.bytesWorld w 5 a0) (some ⟨w.heap.size,0,none⟩) a0.size (bytesOf a0)):=⟨Kd.C_of_reads (d:=(0:Int)) (h1:=fun _ => rfl) hr.out⟩
 go_enter Tryz.func31,Tryz.ntmps31
 go_wp2_with (go_at_call 56;refine (u2z.contains_n _ _ _ _ _ (bytesOf_length a0) hc.out (by omega)).mono ?_;rintro e W2 ⟨rfl,⟨md,rfl⟩⟩)
 go_ret
 exact ⟨rfl,ub (bytes_below (Below.refl _ _) (Nat.le_refl _) _ _) md⟩
theorem u1g.fin_named:∀ n:Fin 256,text_named.f (n.val:Int) = some (Tx.wordC (UInt8.ofNat n.val)):=by decide +kernel
theorem u1g.fin_blank:∀ n:Fin 256,text_blank.f (n.val:Int) = some (Tx.blankC (UInt8.ofNat n.val)):=by decide +kernel
theorem u1g.is_named (c:UInt8):text_named.f (c.toNat:Int) = some (Tx.wordC c):=by
 have:=u1g.fin_named ⟨c.toNat,c.toNat_lt⟩
 rwa [UInt8.ofNat_toNat] at this
theorem u1g.is_blank (c:UInt8):text_blank.f (c.toNat:Int) = some (Tx.blankC c):=by
 have:=u1g.fin_blank ⟨c.toNat,c.toNat_lt⟩
 rwa [UInt8.ofNat_toNat] at this
theorem u1g.test_named (c:UInt8) (z:Int) (hz:(c.toNat:Int) = z) (W:World):Calls Tryz.prog 91 #[.int .u8 z] W fun e W' => e = .returned (.bool (Tx.wordC c)) ∧ u1b W W':=by
 subst hz
 exact text_named.calls _ _ _ (u1g.is_named c)
theorem u1g.test_blank (c:UInt8) (z:Int) (hz:(c.toNat:Int) = z) (W:World):Calls Tryz.prog 97 #[.int .u8 z] W fun e W' => e = .returned (.bool (Tx.blankC c)) ∧ u1b W W':=by
 subst hz
 exact text_blank.calls _ _ _ (u1g.is_blank c)
set_option maxRecDepth 100000 in
theorem u1g.test_dig (hxb:Bool) (hb:Nat) (c:UInt8) (z:Int) (hz:(c.toNat:Int) = z) (W:World) (hcb:W.heap[hb]? = some (.cells #[.bool hxb] 4 (0,0))):Calls Tryz.prog 147 #[.int .u8 z,.pointer (some ⟨hb,0,none⟩)] W fun e W' => e = .returned (.bool (Tx.digC hxb c)) ∧ u1b W W':=by
 subst hz
 have h0:=uj hcb 0
 simp only [List.size_toArray,List.length_cons,List.length_nil,List.getElem?_toArray,List.getElem?_cons_zero] at h0
 clear hcb
 obtain ⟨n,hn⟩:∃ n:Nat,n = c.toNat:=⟨_,rfl⟩
 have HB:Aside0 (Tx.digC hxb c = if hxb = true then ((decide (48 ≤ n) && decide (n ≤ 57)) || (decide (97 ≤ n) && decide (n ≤ 102))) else (decide (48 ≤ n) && decide (n ≤ 57))):=⟨by rw [hn];rfl⟩
 rw [HB.out,← hn]
 clear hn HB
 by_cases h1:48 ≤ n
 · by_cases h2:n ≤ 57
   · have h3:¬ 97 ≤ n:=by omega
     cases hxb <;> (go_enter Tryz.func147,Tryz.ntmps147;go_wp2;go_ret;exact ⟨by first | (simp [h1,h2];done) | (simp [h1,h2];omega),0,rfl⟩)
   · by_cases h3:97 ≤ n
     · by_cases h4:n ≤ 102
       · cases hxb <;> (go_enter Tryz.func147,Tryz.ntmps147;go_wp2;go_ret;exact ⟨by first | (simp [h1,h2,h3,h4];done) | (simp [h1,h2,h3,h4];omega),0,rfl⟩)
       · cases hxb <;> (go_enter Tryz.func147,Tryz.ntmps147;go_wp2;go_ret;exact ⟨by first | (simp [h1,h2,h3,h4];done) | (simp [h1,h2,h3,h4];omega),0,rfl⟩)
     · cases hxb <;> (go_enter Tryz.func147,Tryz.ntmps147;go_wp2;go_ret;exact ⟨by first | (simp [h1,h2,h3];done) | (simp [h1,h2,h3];omega),0,rfl⟩)
 · have h3:¬ 97 ≤ n:=by omega
   cases hxb <;> (go_enter Tryz.func147,Tryz.ntmps147;go_wp2;go_ret;exact ⟨by first | (simp [h1,h3];done) | (simp [h1,h3];omega),0,rfl⟩)
theorem u1g.fin (p:UInt8 → Bool) {w0 W:World} {g:Nat} {s:List UInt8} (h:ua.St w0 W g s) (x n:Nat) (hx:x = (s.takeWhile p).length):Ending.returned (.string ((Base.ofL s).extract 0 x)) = .returned (.string (Base.ofL (s.takeWhile p))) ∧
 ua.St w0 ((W.drewN n).setCell ⟨g,0,none⟩ (.string ((Base.ofL s).extract x s.length))) g (s.dropWhile p) ∧ u1v W ((W.drewN n).setCell ⟨g,0,none⟩ (.string ((Base.ofL s).extract x s.length))) g none:=by
 have hle:=Tx.tw_le p s
 obtain ⟨c1,c2,c3⟩:=Tx.cut_ofL s x (by omega)
 obtain ⟨t1,t2⟩:=Tx.tw_take p s
 rw [← hx] at t1 t2
 rw [c3] at c2
 rw [c1,c2,t1,t2]
 exact ⟨rfl,(h.drew n).set _,(u1v.of_below (ub (Below.refl _ _) n) g none).set_ 0 _⟩
set_option maxHeartbeats 1000000 in
set_option maxRecDepth 100000 in
theorem u1g.calls_named (w0 W:World) (g:Nat) (s:List UInt8) (hl:s.length ≤ 4611686018427387904) (h:ua.St w0 W g s) :
 Calls Tryz.prog 96 #[.pointer (some ⟨g,0,none⟩),.func (.func 91) #[] #[]] W fun e W' => e = .returned (.string (Base.ofL (s.takeWhile Tx.wordC))) ∧ ua.St w0 W' g (s.dropWhile Tx.wordC) ∧ u1v W W' g none:=by
 have HS:=Aside0.mk h
 obtain ⟨h0,f0⟩:=h.look
 clear h
 have hsz:(Base.ofL s).size = s.length:=(Tx.cut_ofL s 0 (by omega)).2.2
 go_enter Tryz.func96,Tryz.ntmps96
 go_wp2
 go_loopg [5] (s.length) (fun kq vn wr => ∃ (x:Nat),x ≤ (s.takeWhile Tx.wordC).length ∧ vn = .int .i64 x ∧ s.length ≤ kq + x ∧ u1b W wr)
 case atStart => exact ⟨0,by omega,rfl,by omega,u1b.refl _⟩
 case round =>
  obtain ⟨x,hx,rfl,hk,⟨m1,rfl⟩⟩:=hrel
  have hle:=Tx.tw_le Tx.wordC s
  by_cases hlt:x < s.length
  · have hst:=Tx.tw_step Tx.wordC s x hx hlt
    obtain ⟨z,HZ⟩:∃ z:Int,Aside0 ((s[x].toNat:Int) = z):=⟨_,⟨rfl⟩⟩
    have hbt:(((Base.ofL s)[x]'(by rw [hsz];exact hlt)).toNat:Int) = z:=HZ.out
    cases hp:Tx.wordC s[x] with
    | true =>
      have hx1:=hst.1 hp
      clear hst
      go_wp2_with (go_at_call 91;refine (u1g.test_named _ _ HZ.out _).mono ?_;rintro e W1 ⟨rfl,⟨nd,rfl⟩⟩)
      obtain ⟨g1,rfl⟩:∃ g1,gk = g1 + 1:=⟨gk - 1,by omega⟩
      go_roundg g1
      case rel => exact ⟨x + 1,hx1,by go_num,by omega,⟨_,rfl⟩⟩
      case measure => omega
    | false =>
      have HX:=Aside0.mk (hst.2 hp)
      clear hst
      go_wp2_with (go_at_call 91;refine (u1g.test_named _ _ HZ.out _).mono ?_;rintro e W1 ⟨rfl,⟨nd,rfl⟩⟩)
      go_ret
      exact u1g.fin Tx.wordC HS.out x _ HX.out
  · have HX:Aside0 (x = (s.takeWhile Tx.wordC).length):=⟨by omega⟩
    go_wp2
    go_ret
    exact u1g.fin Tx.wordC HS.out x _ HX.out
set_option maxHeartbeats 1000000 in
set_option maxRecDepth 100000 in
theorem u1g.calls_blank (w0 W:World) (g:Nat) (s:List UInt8) (hl:s.length ≤ 4611686018427387904) (h:ua.St w0 W g s) :
 Calls Tryz.prog 96 #[.pointer (some ⟨g,0,none⟩),.func (.func 97) #[] #[]] W fun e W' => e = .returned (.string (Base.ofL (s.takeWhile Tx.blankC))) ∧ ua.St w0 W' g (s.dropWhile Tx.blankC) ∧ u1v W W' g none:=by
 have HS:=Aside0.mk h
 obtain ⟨h0,f0⟩:=h.look
 clear h
 have hsz:(Base.ofL s).size = s.length:=(Tx.cut_ofL s 0 (by omega)).2.2
 go_enter Tryz.func96,Tryz.ntmps96
 go_wp2
 go_loopg [5] (s.length) (fun kq vn wr => ∃ (x:Nat),x ≤ (s.takeWhile Tx.blankC).length ∧ vn = .int .i64 x ∧ s.length ≤ kq + x ∧ u1b W wr)
 case atStart => exact ⟨0,by omega,rfl,by omega,u1b.refl _⟩
 case round =>
  obtain ⟨x,hx,rfl,hk,⟨m1,rfl⟩⟩:=hrel
  have hle:=Tx.tw_le Tx.blankC s
  by_cases hlt:x < s.length
  · have hst:=Tx.tw_step Tx.blankC s x hx hlt
    obtain ⟨z,HZ⟩:∃ z:Int,Aside0 ((s[x].toNat:Int) = z):=⟨_,⟨rfl⟩⟩
    have hbt:(((Base.ofL s)[x]'(by rw [hsz];exact hlt)).toNat:Int) = z:=HZ.out
    cases hp:Tx.blankC s[x] with
    | true =>
      have hx1:=hst.1 hp
      clear hst
      go_wp2_with (go_at_call 97;refine (u1g.test_blank _ _ HZ.out _).mono ?_;rintro e W1 ⟨rfl,⟨nd,rfl⟩⟩)
      obtain ⟨g1,rfl⟩:∃ g1,gk = g1 + 1:=⟨gk - 1,by omega⟩
      go_roundg g1
      case rel => exact ⟨x + 1,hx1,by go_num,by omega,⟨_,rfl⟩⟩
      case measure => omega
    | false =>
      have HX:=Aside0.mk (hst.2 hp)
      clear hst
      go_wp2_with (go_at_call 97;refine (u1g.test_blank _ _ HZ.out _).mono ?_;rintro e W1 ⟨rfl,⟨nd,rfl⟩⟩)
      go_ret
      exact u1g.fin Tx.blankC HS.out x _ HX.out
  · have HX:Aside0 (x = (s.takeWhile Tx.blankC).length):=⟨by omega⟩
    go_wp2
    go_ret
    exact u1g.fin Tx.blankC HS.out x _ HX.out
set_option maxHeartbeats 1000000 in
set_option maxRecDepth 100000 in
theorem u1g.calls_dig (hxb:Bool) (hb:Nat) (w0 W:World) (g:Nat) (s:List UInt8) (hl:s.length ≤ 4611686018427387904) (hcb:W.heap[hb]? = some (.cells #[.bool hxb] 4 (0,0))) (hbg:hb ≠ g) (h:ua.St w0 W g s) :
 Calls Tryz.prog 96 #[.pointer (some ⟨g,0,none⟩),.func (.func 147) #[] #[.pointer (some ⟨hb,0,none⟩)]] W fun e W' => e = .returned (.string (Base.ofL (s.takeWhile (Tx.digC hxb)))) ∧ ua.St w0 W' g (s.dropWhile (Tx.digC hxb)) ∧ u1v W W' g none:=by
 have HS:=Aside0.mk h
 have HB:=Aside0.mk hcb
 clear hcb
 obtain ⟨h0,f0⟩:=h.look
 clear h
 have hsz:(Base.ofL s).size = s.length:=(Tx.cut_ofL s 0 (by omega)).2.2
 go_enter Tryz.func96,Tryz.ntmps96
 go_wp2
 go_loopg [5] (s.length) (fun kq vn wr => ∃ (x:Nat),x ≤ (s.takeWhile (Tx.digC hxb)).length ∧ vn = .int .i64 x ∧ s.length ≤ kq + x ∧ u1b W wr)
 case atStart => exact ⟨0,by omega,rfl,by omega,u1b.refl _⟩
 case round =>
  obtain ⟨x,hx,rfl,hk,⟨m1,rfl⟩⟩:=hrel
  have hle:=Tx.tw_le (Tx.digC hxb) s
  by_cases hlt:x < s.length
  · have hst:=Tx.tw_step (Tx.digC hxb) s x hx hlt
    obtain ⟨z,HZ⟩:∃ z:Int,Aside0 ((s[x].toNat:Int) = z):=⟨_,⟨rfl⟩⟩
    have hbt:(((Base.ofL s)[x]'(by rw [hsz];exact hlt)).toNat:Int) = z:=HZ.out
    cases hp:(Tx.digC hxb) s[x] with
    | true =>
      have hx1:=hst.1 hp
      clear hst
      go_wp2_with (go_at_call 147;refine (u1g.test_dig hxb hb _ _ HZ.out _ (by exact HB.out)).mono ?_;rintro e W1 ⟨rfl,⟨nd,rfl⟩⟩)
      obtain ⟨g1,rfl⟩:∃ g1,gk = g1 + 1:=⟨gk - 1,by omega⟩
      go_roundg g1
      case rel => exact ⟨x + 1,hx1,by go_num,by omega,⟨_,rfl⟩⟩
      case measure => omega
    | false =>
      have HX:=Aside0.mk (hst.2 hp)
      clear hst
      go_wp2_with (go_at_call 147;refine (u1g.test_dig hxb hb _ _ HZ.out _ (by exact HB.out)).mono ?_;rintro e W1 ⟨rfl,⟨nd,rfl⟩⟩)
      go_ret
      exact u1g.fin (Tx.digC hxb) HS.out x _ HX.out
  · have HX:Aside0 (x = (s.takeWhile (Tx.digC hxb)).length):=⟨by omega⟩
    go_wp2
    go_ret
    exact u1g.fin (Tx.digC hxb) HS.out x _ HX.out
end Go.Proofs.YtmcpeifhapekoaaGreatDoor.PAll
