/- Texts of this seat, joined in the order in which they build. -/
import Derived.Test.YtmcpeifhapekoaaDoorBl1
namespace Go.Proofs.YtmcpeifhapekoaaDoor.PAll
open Go.RowKit Go.Proofs.YtmcpeifhapekoaaDoorW.PrintWords Go.Proofs.YtmcpeifhapekoaaDoorW.PrintLast Go.Proofs.YtmcpeifhapekoaaDoorW.PrintMore
attribute [local go_sem] max2_int min2_int max_two min_two max_three min_three max_four min_four
set_option linter.unusedVariables false
set_option linter.unusedSimpArgs false
structure ud.St (w0 W:World) (g:Nat) (s:List UInt8):Prop where
 below:Below w0.heap.size w0 W
 base:w0.heap.size ≤ g
 cells:W.heap[g]? = some (.cells #[.string (Base.ofL s)] 75 (0,0))
theorem ud.St.lt {w0 W:World} {g:Nat} {s:List UInt8} (h:ud.St w0 W g s):g < W.heap.size:=u2d h.cells
theorem ud.St.keep {w0 W W':World} {g:Nat} {s:List UInt8} (h:ud.St w0 W g s) (hb:Below w0.heap.size w0 W') (hk:W'.heap[g]? = W.heap[g]?):ud.St w0 W' g s:=⟨hb,h.base,hk.trans h.cells⟩
theorem ud.St.more {w0 W W':World} {g:Nat} {s:List UInt8} (h:ud.St w0 W g s) (hb:Below W.heap.size W W'):ud.St w0 W' g s:=h.keep (below_then h.below h.below.size hb) (hb.block g h.lt)
theorem ud.St.drew {w0 W:World} {g:Nat} {s:List UInt8} (h:ud.St w0 W g s) (n:Nat):ud.St w0 (W.drewN n) g s:=h.more (ua (Below.refl _ _) n)
theorem ud.St.look {w0 W:World} {g:Nat} {s:List UInt8} (h:ud.St w0 W g s):W.cell? ⟨g,0,none⟩ = some (.string (Base.ofL s)) ∧ W.frozen? ⟨g,0,none⟩ = false:=by
 have h0:=uj h.cells 0
 simp only [List.size_toArray,List.length_cons,List.length_nil,List.getElem?_toArray,List.getElem?_cons_zero,List.getElem?_cons_succ] at h0
 exact ⟨h0,ui h.cells 0⟩
theorem ud.St.set {w0 W:World} {g:Nat} {s:List UInt8} (h:ud.St w0 W g s) (t:List UInt8):ud.St w0 (W.setCell ⟨g,0,none⟩ (.string (Base.ofL t))) g t :=
 ⟨h.below.setCell h.base _,h.base,by rw [blk_set h.cells];rfl⟩
def ud.pk (s:List UInt8):Int:=match s with
 | [] => 0
 | c :: _ => (c.toNat:Int)
theorem ud.head (c:UInt8) (r:List UInt8):∃ hp:0 < (Base.ofL (c :: r)).size,(((Base.ofL (c :: r))[0]'hp).toNat:Int) = c.toNat ∧ (Base.ofL (c :: r)).toList.isEmpty = false:=by
 have hs:(Base.ofL (c :: r)).size = r.length + 1:=by rw [← u3c,Base.ofL_data];rfl
 refine ⟨by omega,rfl,?_⟩
 rw [ByteArray.toList_eq,Base.ofL_data]
 rfl
theorem ud.calls (w0 W:World) (g:Nat) (s:List UInt8) (h:ud.St w0 W g s):Calls Tryd.prog 31 #[.pointer (some ⟨g,0,none⟩)] W fun e W' => e = .returned (.int .u8 (ud.pk s)) ∧ us W W':=by
 obtain ⟨h0,f0⟩:=h.look
 clear h
 cases s with
 | nil =>
   have he:(Base.ofL []).toList.isEmpty = true:=by rw [ByteArray.toList_eq,Base.ofL_data];rfl
   go_enter Tryd.func31,Tryd.ntmps31
   go_wp2
   go_ret
   exact ⟨rfl,0,rfl⟩
 | cons c r =>
   obtain ⟨hp,hc,he⟩:=ud.head c r
   obtain ⟨x,hx⟩:∃ x:ByteArray,x = Base.ofL (c :: r):=⟨_,rfl⟩
   have hp1:1 ≤ (Base.ofL (c :: r)).size:=hp
   go_enter Tryd.func31,Tryd.ntmps31
   go_wp2
   go_ret
   exact ⟨rfl,0,rfl⟩
theorem ud.look2 {W:World} {b t:Nat} {u v:Value} (h:W.heap[b]? = some (.cells #[u,v] t (0,0))):W.cell? ⟨b,0,none⟩ = some u ∧ W.cell? ⟨b,1,none⟩ = some v ∧ W.frozen? ⟨b,0,none⟩ = false ∧ W.frozen? ⟨b,1,none⟩ = false:=by
 have h0:=uj h 0
 have h1:=uj h 1
 simp only [List.size_toArray,List.length_cons,List.length_nil,List.getElem?_toArray,List.getElem?_cons_zero,List.getElem?_cons_succ] at h0 h1
 exact ⟨h0,h1,ui h 0,ui h 1⟩
theorem ud.new_at (W:World) (o:Obj):(W.alloc o).heap[W.heap.size]? = some o:=by
 show (W.heap.push o)[W.heap.size]? = some o
 simp
theorem ud.new_old {W:World} {b:Nat} {o:Obj} (h:W.heap[b]? = some o) (o2:Obj):(W.alloc o2).heap[b]? = some o:=(Below.heap_alloc W o2 b (u2d h)).trans h
theorem ud.below_at {W W':World} {b:Nat} {o:Obj} (hb:Below W.heap.size W W') (h:W.heap[b]? = some o):W'.heap[b]? = some o:=(hb.block b (u2d h)).trans h
theorem ud.kept_at {W W':World} {g b:Nat} {o:Obj} (hk:u1y W W' g none) (hne:b ≠ g) (h:W.heap[b]? = some o):W'.heap[b]? = some o:=hk.blk h hne (by simp)
theorem ud.St.one_more {w0 W:World} {g:Nat} {s:List UInt8} (h:ud.St w0 W g s) (o:Obj):ud.St w0 (W.alloc o) g s:=h.more (Below.alloc (Below.refl _ _) (Nat.le_refl _) o)
theorem ud.St.far {w0 W:World} {g:Nat} {s:List UInt8} (h:ud.St w0 W g s) {p:Addr} (hb:w0.heap.size ≤ p.block) (hp:¬ g = p.block) (u:Value):ud.St w0 (W.setCell p u) g s :=
 h.keep (h.below.setCell hb u) (Below.heap_setCell W p u g hp)
theorem ud.keep_new {w W:World} {g:Nat} (h:u1y w W g none) {p:Addr} (hp:w.heap.size ≤ p.block) (u:Value):u1y w (W.setCell p u) g none :=
 ⟨by have:=h.1;simpa using this,fun i hi hg hr => (Below.heap_setCell W p u i (by omega)).trans (h.2 i hi hg hr)⟩
theorem ud.keep_from {w W1:World} {g:Nat} {o:Obj} (h:u1y (w.alloc o) W1 g none):u1y w W1 g none:=(keep_alloc (u1y.refl w g none) o).trans h (Or.inl rfl)
theorem ud.keep_then {w W1 W2:World} {g:Nat} (h:u1y w W1 g none) (k:u1y W1 W2 g none):u1y w W2 g none:=h.trans k (Or.inl rfl)
theorem u1v.cut_yes (c:UInt8) (r:List UInt8):u1w.f (Base.ofL (c :: r)) (⟨#[c]⟩:ByteArray) = some (Base.ofL r,true):=by
 have hs:(Base.ofL (c :: r)).size = r.length + 1:=by rw [← u3c,Base.ofL_data];rfl
 have h1:((Base.ofL (c :: r)).extract 0 1).toList = [c]:=by
  rw [ByteArray.toList_eq,Base.extract_list,Base.ofL_data]
  rfl
 have h2:(((Base.ofL (c :: r)).size:Int) ≥ 1):=by omega
 have h3:((1:Int) ≤ ((Base.ofL (c :: r)).size:Int)):=by omega
 have h4:(Base.ofL (c :: r)).extract 1 (Base.ofL (c :: r)).size = Base.ofL r:=Base.ext_data (by rw [Base.extract_rest,Base.ofL_data,Base.ofL_data];rfl)
 simp [u1w.f,u2o.f,u2f.f,Base.size1,h1,h2,h3,h4,ByteArray.toList_eq]
theorem u1v.cut_no (c:UInt8) (s:List UInt8) (h:∀ r,s ≠ c :: r):u1w.f (Base.ofL s) (⟨#[c]⟩:ByteArray) = some (Base.ofL s,false):=by
 by_cases h2:(((Base.ofL s).size:Int) ≥ 1)
 · have h3:((1:Int) ≤ ((Base.ofL s).size:Int)):=by omega
   have h1:¬ List.take 1 (Base.ofL s).data.toList = [c]:=by
    rw [Base.ofL_data]
    cases s with
    | nil => simp
    | cons x q =>
      intro e
      have:x = c:=by simpa using e
      subst this
      exact h q rfl
   simp [u1w.f,u2o.f,u2f.f,Base.size1,h1,h2,h3,ByteArray.toList_eq]
 · have h3:¬ ((1:Int) ≤ ((Base.ofL s).size:Int)):=by omega
   simp [u1w.f,u2o.f,u2f.f,Base.size1,h3]
theorem u1v.calls_ok (w0 W:World) (g:Nat) (c:UInt8) (r:List UInt8) (h:ud.St w0 W g (c :: r)):Calls Tryd.prog 44 #[.pointer (some ⟨g,0,none⟩),.string (⟨#[c]⟩:ByteArray)] W fun e W' => e = .returned (.tuple #[]) ∧ ud.St w0 W' g r ∧ u1y W W' g none:=by
 have HS:=Aside0.mk h
 obtain ⟨h0,f0⟩:=h.look
 clear h
 have HC:=Aside0.mk (u1v.cut_yes c r)
 go_enter Tryd.func44,Tryd.ntmps44
 go_wp2_with (first | (go_at_call 78;refine (u1w.calls _ _ _ _ _ HC.out).mono ?_;rintro e W1 ⟨rfl,⟨nd,rfl⟩⟩) | (go_at_call 45;refine (u2l.calls_ok _).mono ?_;rintro e W1 ⟨rfl,rfl⟩))
 go_end0
 exact ⟨rfl,(HS.out.drew nd).set r,(u1y.of_below (ua (Below.refl _ _) nd) g none).set_ 0 _⟩
theorem u1v.calls_no (w0 W:World) (g:Nat) (c:UInt8) (s:List UInt8) (hs:∀ r,s ≠ c :: r) (h:ud.St w0 W g s):Calls Tryd.prog 44 #[.pointer (some ⟨g,0,none⟩),.string (⟨#[c]⟩:ByteArray)] W fun e W' => e = .panicked (u2p.chain 280) ∧ Below w0.heap.size w0 W':=by
 have HS:=Aside0.mk h
 obtain ⟨h0,f0⟩:=h.look
 clear h
 have HC:=Aside0.mk (u1v.cut_no c s hs)
 go_enter Tryd.func44,Tryd.ntmps44
 go_wp2_with (first | (go_at_call 78;refine (u1w.calls _ _ _ _ _ HC.out).mono ?_;rintro e W1 ⟨rfl,⟨nd,rfl⟩⟩) | (go_at_call 45;refine (u2l.calls_no _).mono ?_;rintro e W1 ⟨rfl,rfl⟩))
 exact ⟨rfl,rfl,(HS.out.drew nd).below⟩
def u1u.l0:Nat → Int → Int → Option (Int)
 | 0,_,_ => none
 | k + 1,x0,x4 => if x4 < 16 then (if 0 ≤ x4 then (if (bt (⟨#[48,49,50,51,52,53,54,55,56,57,97,98,99,100,101,102]⟩:ByteArray) x4) = x0 then (some x4) else (u1u.l0 k x0 (wrap64 (x4 + 1)))) else (none)) else (some 16)
def u1u.f (k:Nat) (a0:Int):Option (Int):=u1u.l0 k a0 0
theorem u1u.mono_l:∀ k,(∀ y0 y1,LeO (u1u.l0 k y0 y1) (u1u.l0 (k + 1) y0 y1))
 | 0 => fun _ _ r h => by simp [u1u.l0] at h
 | k + 1 => by
   have ih0:=u1u.mono_l k
   · intro y0 y1
     unfold u1u.l0
     repeat' first
     | (with_reducible exact ih0 _ _)
     | (with_reducible exact LeO.refl _)
     | (with_reducible exact LeO.none _)
     | (with_reducible refine LeO.ite ?_ ?_)
     | (with_reducible refine LeO.bind ?_ (fun _ => ?_))
     | exact ih0 _ _
     | exact LeO.none _
     | refine LeO.ite ?_ ?_
     | refine LeO.bind ?_ (fun _ => ?_)
theorem u1u.mono:∀ a0 k,LeO (u1u.f k a0) (u1u.f (k + 1) a0):=by
 intro a0 k
 have ih0:=u1u.mono_l k
 unfold u1u.f
 repeat' first
  | (with_reducible exact ih0 _ _)
  | (with_reducible exact LeO.refl _)
  | (with_reducible exact LeO.none _)
  | (with_reducible refine LeO.ite ?_ ?_)
  | (with_reducible refine LeO.bind ?_ (fun _ => ?_))
  | exact ih0 _ _
  | exact LeO.none _
  | refine LeO.ite ?_ ?_
  | refine LeO.bind ?_ (fun _ => ?_)
set_option maxHeartbeats 8000000 in
set_option maxRecDepth 100000 in
theorem u1u.calls (k:Nat) (a0:Int) (r:Int) (w:World) (h:u1u.f k a0 = some r) :
 Calls Tryd.prog 110 #[.int .u8 a0] w fun e w' => e = .returned (.int .i64 r) ∧ us w w':=by
 have H:(u1u.l0 k a0 0) = some r:=h
 clear h
 have H':=Aside0.mk H
 clear H
 go_enter Tryd.func110,Tryd.ntmps110
 go_wp2
 go_loopg [4] k (fun kq v4 w' => ∃ (x4_1:Int),v4 = .int .i64 x4_1 ∧ Aside0 (u1u.l0 kq a0 x4_1 = some r) ∧ Aside0 (kq ≤ k) ∧ us w w')
 case atStart => exact ⟨(0),(by first | rfl | (simp;done) | (simp [*];done)),H',⟨Nat.le_refl _⟩,by repeat (first | exact us.refl _ | apply us.step)⟩
 case round =>
  clear H'
  try clear c1
  obtain ⟨x4_1,rfl,HA,HK1,⟨m1,rfl⟩⟩:=hrel
  cases gk with
  | zero => exact absurd HA.out (by simp [u1u.l0])
  | succ k1 =>
    have H:=HA.out
    clear HA
    simp only [u1u.l0] at H
    by_cases c2:x4_1 < 16
    · rw [if_pos c2] at H
      have c2b0:decide (x4_1 < 16) = true:=decide_eq_true c2
      clear c2
      by_cases c3:0 ≤ x4_1
      · rw [if_pos c3] at H
        have c3b0:decide (0 ≤ x4_1) = true:=decide_eq_true c3
        clear c3
        by_cases c5:(bt (⟨#[48,49,50,51,52,53,54,55,56,57,97,98,99,100,101,102]⟩:ByteArray) x4_1) = a0
        · rw [if_pos c5] at H
          have c5b0:((bt (⟨#[48,49,50,51,52,53,54,55,56,57,97,98,99,100,101,102]⟩:ByteArray) x4_1) == a0) = true:=beq_iff_eq.mpr c5
          have c5b1:((bt (⟨#[48,49,50,51,52,53,54,55,56,57,97,98,99,100,101,102]⟩:ByteArray) x4_1) != a0) = false:=bne_eq_false_iff_eq.mpr c5
          clear c5
          obtain rfl:=Option.some.inj H
          have p4:0 ≤ (x4_1:Int):=of_decide_eq_true (by first | (with_reducible assumption) | assumption)
          have q4:x4_1 < (16:Int):=of_decide_eq_true (by first | (with_reducible assumption) | assumption)
          have hx4:=bt_at (⟨#[48,49,50,51,52,53,54,55,56,57,97,98,99,100,101,102]⟩:ByteArray) x4_1
          replace p4:=eq_true p4
          replace q4:=eq_true q4
          go_wp2
          go_ret
          exact ⟨by first | rfl | (simp;done) | (simp [*];done),by repeat (first | exact us.refl _ | apply us.step)⟩
        · rw [if_neg c5] at H
          have c5b0:((bt (⟨#[48,49,50,51,52,53,54,55,56,57,97,98,99,100,101,102]⟩:ByteArray) x4_1) == a0) = false:=beq_eq_false_iff_ne.mpr c5
          have c5b1:((bt (⟨#[48,49,50,51,52,53,54,55,56,57,97,98,99,100,101,102]⟩:ByteArray) x4_1) != a0) = true:=bne_iff_ne.mpr c5
          have H':=Aside0.mk H
          clear H
          have p4:0 ≤ (x4_1:Int):=of_decide_eq_true (by first | (with_reducible assumption) | assumption)
          have q4:x4_1 < (16:Int):=of_decide_eq_true (by first | (with_reducible assumption) | assumption)
          have hx4:=bt_at (⟨#[48,49,50,51,52,53,54,55,56,57,97,98,99,100,101,102]⟩:ByteArray) x4_1
          replace p4:=eq_true p4
          replace q4:=eq_true q4
          go_wp2
          go_roundg k1
          case measure => have:=HK1.out;omega
          case rel => exact ⟨(wrap64 (x4_1 + 1)),(by first | rfl | (simp;done) | (simp [*];done)),H',⟨by have:=HK1.out;omega⟩,by repeat (first | exact us.refl _ | apply us.step)⟩
      · rw [if_neg c3] at H
        exact absurd H (by simp)
    · rw [if_neg c2] at H
      have c2b0:decide (x4_1 < 16) = false:=decide_eq_false c2
      clear c2
      obtain rfl:=Option.some.inj H
      go_wp2
      go_ret
      exact ⟨by first | rfl | (simp;done) | (simp [*];done),by repeat (first | exact us.refl _ | apply us.step)⟩
def u1n.l0:Nat → ByteArray → Int → Int → Option (Int)
 | 0,_,_,_ => none
 | k + 1,x0,x1,x5 => if x5 < (x0.size:Int) then (if 0 ≤ x5 then ((u1u.f k (bt x0 x5)).bind fun t183 => (if t183 < x1 then (u1n.l0 k x0 x1 (wrap64 (x5 + 1))) else (some x5))) else (none)) else (some x5)
def u1n.f (k:Nat) (a0:ByteArray) (a1:Int):Option (Int):=u1n.l0 k a0 a1 0
set_option maxHeartbeats 8000000 in
set_option maxRecDepth 100000 in
theorem u1n.calls (k:Nat) (a0:ByteArray) (a1:Int) (r:Int) (w:World) (h:u1n.f k a0 a1 = some r) :
 Calls Tryd.prog 93 #[.string a0,.int .i64 a1] w fun e w' => e = .returned (.int .i64 r) ∧ us w w':=by
 have H:(u1n.l0 k a0 a1 0) = some r:=h
 clear h
 have H':=Aside0.mk H
 clear H
 go_enter Tryd.func93,Tryd.ntmps93
 go_wp2
 go_loopg [5] k (fun kq v5 w' => ∃ (x5_1:Int),v5 = .int .i64 x5_1 ∧ Aside0 (u1n.l0 kq a0 a1 x5_1 = some r) ∧ Aside0 (kq ≤ k) ∧ us w w')
 case atStart => exact ⟨(0),(by first | rfl | (simp;done) | (simp [*];done)),H',⟨Nat.le_refl _⟩,by repeat (first | exact us.refl _ | apply us.step)⟩
 case round =>
  clear H'
  try clear p2
  obtain ⟨x5_1,rfl,HA,HK1,⟨m1,rfl⟩⟩:=hrel
  cases gk with
  | zero => exact absurd HA.out (by simp [u1n.l0])
  | succ k1 =>
    have H:=HA.out
    clear HA
    simp only [u1n.l0] at H
    by_cases c3:x5_1 < (a0.size:Int)
    · rw [if_pos c3] at H
      have c3b0:decide (x5_1 < (a0.size:Int)) = true:=decide_eq_true c3
      clear c3
      by_cases c4:0 ≤ x5_1
      · rw [if_pos c4] at H
        have c4b0:decide (0 ≤ x5_1) = true:=decide_eq_true c4
        clear c4
        replace H:=Option.bind_eq_some_iff.mp H
        obtain ⟨t183,A60,H⟩:=H
        replace H:(if t183 < a1 then (u1n.l0 k1 a0 a1 (wrap64 (x5_1 + 1))) else (some x5_1)) = some r:=H
        have A6:=Aside0.mk A60
        clear A60
        by_cases c7:t183 < a1
        · rw [if_pos c7] at H
          have c7b0:decide (t183 < a1) = true:=decide_eq_true c7
          clear c7
          have H':=Aside0.mk H
          clear H
          have p5:0 ≤ (x5_1:Int):=of_decide_eq_true (by first | (with_reducible assumption) | assumption)
          have q5:x5_1 < (a0.size:Int):=of_decide_eq_true (by first | (with_reducible assumption) | assumption)
          have hx5:=bt_at a0 x5_1
          replace p5:=eq_true p5
          replace q5:=eq_true q5
          go_wp2_with (first | (go_at_call 110;(with_reducible refine (u1u.calls k1 (bt a0 x5_1) t183 _ A6.out).mono ?_);rintro e w' ⟨rfl,⟨nd,rfl⟩⟩))
          go_roundg k1
          case measure => have:=HK1.out;omega
          case rel => exact ⟨(wrap64 (x5_1 + 1)),(by first | rfl | (simp;done) | (simp [*];done)),H',⟨by have:=HK1.out;omega⟩,by repeat (first | exact us.refl _ | apply us.step)⟩
        · rw [if_neg c7] at H
          have c7b0:decide (t183 < a1) = false:=decide_eq_false c7
          clear c7
          obtain rfl:=Option.some.inj H
          have p5:0 ≤ (x5_1:Int):=of_decide_eq_true (by first | (with_reducible assumption) | assumption)
          have q5:x5_1 < (a0.size:Int):=of_decide_eq_true (by first | (with_reducible assumption) | assumption)
          have hx5:=bt_at a0 x5_1
          replace p5:=eq_true p5
          replace q5:=eq_true q5
          go_wp2_with (first | (go_at_call 110;(with_reducible refine (u1u.calls k1 (bt a0 x5_1) t183 _ A6.out).mono ?_);rintro e w' ⟨rfl,⟨nd,rfl⟩⟩))
          go_ret
          exact ⟨by first | rfl | (simp;done) | (simp [*];done),by repeat (first | exact us.refl _ | apply us.step)⟩
      · rw [if_neg c4] at H
        exact absurd H (by simp)
    · rw [if_neg c3] at H
      have c3b0:decide (x5_1 < (a0.size:Int)) = false:=decide_eq_false c3
      clear c3
      obtain rfl:=Option.some.inj H
      go_wp2
      go_ret
      exact ⟨by first | rfl | (simp;done) | (simp [*];done),by repeat (first | exact us.refl _ | apply us.step)⟩
def text_known.f (a0:ByteArray):Option (Bool):=if a0.toList = ([99,111,117,110,116,101,114]:List UInt8) then (some true) else (if a0.toList = ([103,97,117,103,101]:List UInt8) then (some true) else (if a0.toList = ([104,105,115,116,111,103,114,97,109]:List UInt8) then (some true) else (if a0.toList = ([115,117,109,109,97,114,121]:List UInt8) then (some true) else (if a0.toList = ([117,110,116,121,112,101,100]:List UInt8) then (some true) else (some false)))))
set_option maxHeartbeats 8000000 in
set_option maxRecDepth 100000 in
theorem text_known.calls (a0:ByteArray) (r:Bool) (w:World) (h:text_known.f a0 = some r) :
 Calls Tryd.prog 46 #[.string a0] w fun e w' => e = .returned (.bool r) ∧ us w w':=by
 have H:(if a0.toList = ([99,111,117,110,116,101,114]:List UInt8) then (some true) else (if a0.toList = ([103,97,117,103,101]:List UInt8) then (some true) else (if a0.toList = ([104,105,115,116,111,103,114,97,109]:List UInt8) then (some true) else (if a0.toList = ([115,117,109,109,97,114,121]:List UInt8) then (some true) else (if a0.toList = ([117,110,116,121,112,101,100]:List UInt8) then (some true) else (some false)))))) = some r:=h
 clear h
 by_cases c2:a0.toList = ([99,111,117,110,116,101,114]:List UInt8)
 · rw [if_pos c2] at H
   have c2b0:(a0.toList == ([99,111,117,110,116,101,114]:List UInt8)) = true:=beq_iff_eq.mpr c2
   have c2b1:(a0.toList != ([99,111,117,110,116,101,114]:List UInt8)) = false:=bne_eq_false_iff_eq.mpr c2
   clear c2
   obtain rfl:=Option.some.inj H
   go_enter Tryd.func46,Tryd.ntmps46
   go_wp2
   go_ret
   exact ⟨by first | rfl | (simp;done) | (simp [*];done),by repeat (first | exact us.refl _ | apply us.step)⟩
 · rw [if_neg c2] at H
   have c2b0:(a0.toList == ([99,111,117,110,116,101,114]:List UInt8)) = false:=beq_eq_false_iff_ne.mpr c2
   have c2b1:(a0.toList != ([99,111,117,110,116,101,114]:List UInt8)) = true:=bne_iff_ne.mpr c2
   by_cases c3:a0.toList = ([103,97,117,103,101]:List UInt8)
   · rw [if_pos c3] at H
     have c3b0:(a0.toList == ([103,97,117,103,101]:List UInt8)) = true:=beq_iff_eq.mpr c3
     have c3b1:(a0.toList != ([103,97,117,103,101]:List UInt8)) = false:=bne_eq_false_iff_eq.mpr c3
     clear c3
     obtain rfl:=Option.some.inj H
     go_enter Tryd.func46,Tryd.ntmps46
     go_wp2
     go_ret
     exact ⟨by first | rfl | (simp;done) | (simp [*];done),by repeat (first | exact us.refl _ | apply us.step)⟩
   · rw [if_neg c3] at H
     have c3b0:(a0.toList == ([103,97,117,103,101]:List UInt8)) = false:=beq_eq_false_iff_ne.mpr c3
     have c3b1:(a0.toList != ([103,97,117,103,101]:List UInt8)) = true:=bne_iff_ne.mpr c3
     by_cases c4:a0.toList = ([104,105,115,116,111,103,114,97,109]:List UInt8)
     · rw [if_pos c4] at H
       have c4b0:(a0.toList == ([104,105,115,116,111,103,114,97,109]:List UInt8)) = true:=beq_iff_eq.mpr c4
       have c4b1:(a0.toList != ([104,105,115,116,111,103,114,97,109]:List UInt8)) = false:=bne_eq_false_iff_eq.mpr c4
       clear c4
       obtain rfl:=Option.some.inj H
       go_enter Tryd.func46,Tryd.ntmps46
       go_wp2
       go_ret
       exact ⟨by first | rfl | (simp;done) | (simp [*];done),by repeat (first | exact us.refl _ | apply us.step)⟩
     · rw [if_neg c4] at H
       have c4b0:(a0.toList == ([104,105,115,116,111,103,114,97,109]:List UInt8)) = false:=beq_eq_false_iff_ne.mpr c4
       have c4b1:(a0.toList != ([104,105,115,116,111,103,114,97,109]:List UInt8)) = true:=bne_iff_ne.mpr c4
       by_cases c5:a0.toList = ([115,117,109,109,97,114,121]:List UInt8)
       · rw [if_pos c5] at H
         have c5b0:(a0.toList == ([115,117,109,109,97,114,121]:List UInt8)) = true:=beq_iff_eq.mpr c5
         have c5b1:(a0.toList != ([115,117,109,109,97,114,121]:List UInt8)) = false:=bne_eq_false_iff_eq.mpr c5
         clear c5
         obtain rfl:=Option.some.inj H
         go_enter Tryd.func46,Tryd.ntmps46
         go_wp2
         go_ret
         exact ⟨by first | rfl | (simp;done) | (simp [*];done),by repeat (first | exact us.refl _ | apply us.step)⟩
       · rw [if_neg c5] at H
         have c5b0:(a0.toList == ([115,117,109,109,97,114,121]:List UInt8)) = false:=beq_eq_false_iff_ne.mpr c5
         have c5b1:(a0.toList != ([115,117,109,109,97,114,121]:List UInt8)) = true:=bne_iff_ne.mpr c5
         by_cases c6:a0.toList = ([117,110,116,121,112,101,100]:List UInt8)
         · rw [if_pos c6] at H
           have c6b0:(a0.toList == ([117,110,116,121,112,101,100]:List UInt8)) = true:=beq_iff_eq.mpr c6
           have c6b1:(a0.toList != ([117,110,116,121,112,101,100]:List UInt8)) = false:=bne_eq_false_iff_eq.mpr c6
           clear c6
           obtain rfl:=Option.some.inj H
           go_enter Tryd.func46,Tryd.ntmps46
           go_wp2
           go_ret
           exact ⟨by first | rfl | (simp;done) | (simp [*];done),by repeat (first | exact us.refl _ | apply us.step)⟩
         · rw [if_neg c6] at H
           have c6b0:(a0.toList == ([117,110,116,121,112,101,100]:List UInt8)) = false:=beq_eq_false_iff_ne.mpr c6
           have c6b1:(a0.toList != ([117,110,116,121,112,101,100]:List UInt8)) = true:=bne_iff_ne.mpr c6
           obtain rfl:=Option.some.inj H
           go_enter Tryd.func46,Tryd.ntmps46
           go_wp2
           go_ret
           exact ⟨by first | rfl | (simp;done) | (simp [*];done),by repeat (first | exact us.refl _ | apply us.step)⟩
def u1f.l0:Nat → ByteArray → Int → Int → Int → Option (Int × Bool)
 | 0,_,_,_,_ => none
 | k + 1,x0,x1,x6,x7 => if x7 < (x0.size:Int) then (if 0 ≤ x7 then ((u1u.f k (bt x0 x7)).bind fun t184 => (if x1 = 0 then (none) else (if x6 > (IntKind.u64.wrap (Int.tdiv (IntKind.u64.wrap (18446744073709551615 - (IntKind.u64.wrap (t184)))) x1)) then (some (0,false)) else (u1f.l0 k x0 x1 (IntKind.u64.wrap ((IntKind.u64.wrap (x6 * x1)) + (IntKind.u64.wrap (t184)))) (wrap64 (x7 + 1)))))) else (none)) else (some (x6,true))
def u1f.f (k:Nat) (a0:ByteArray) (a1:Int):Option (Int × Bool):=u1f.l0 k a0 a1 0 0
set_option maxHeartbeats 8000000 in
set_option maxRecDepth 100000 in
theorem u1f.calls (k:Nat) (a0:ByteArray) (a1:Int) (r1:Int) (r2:Bool) (w:World) (h:u1f.f k a0 a1 = some (r1,r2)) :
 Calls Tryd.prog 94 #[.string a0,.int .u64 a1] w fun e w' => e = .returned (.tuple #[.int .u64 r1,.bool r2]) ∧ us w w':=by
 have H:(u1f.l0 k a0 a1 0 0) = some (r1,r2):=h
 clear h
 have H':=Aside0.mk H
 clear H
 go_enter Tryd.func94,Tryd.ntmps94
 go_wp2
 go_loopg [6,7] k (fun kq v6 v7 w' => ∃ (x6_1:Int) (x7_1:Int),v6 = .int .u64 x6_1 ∧ v7 = .int .i64 x7_1 ∧ Aside0 (u1f.l0 kq a0 a1 x6_1 x7_1 = some (r1,r2)) ∧ Aside0 (kq ≤ k) ∧ us w w')
 case atStart => exact ⟨(0),(0),(by first | rfl | (simp;done) | (simp [*];done)),(by first | rfl | (simp;done) | (simp [*];done)),H',⟨Nat.le_refl _⟩,by repeat (first | exact us.refl _ | apply us.step)⟩
 case round =>
  clear H'
  try clear p2
  obtain ⟨x6_1,x7_1,rfl,rfl,HA,HK1,⟨m1,rfl⟩⟩:=hrel
  cases gk with
  | zero => exact absurd HA.out (by simp [u1f.l0])
  | succ k1 =>
    have H:=HA.out
    clear HA
    simp only [u1f.l0] at H
    by_cases c3:x7_1 < (a0.size:Int)
    · rw [if_pos c3] at H
      have c3b0:decide (x7_1 < (a0.size:Int)) = true:=decide_eq_true c3
      clear c3
      by_cases c4:0 ≤ x7_1
      · rw [if_pos c4] at H
        have c4b0:decide (0 ≤ x7_1) = true:=decide_eq_true c4
        clear c4
        replace H:=Option.bind_eq_some_iff.mp H
        obtain ⟨t184,A60,H⟩:=H
        replace H:(if a1 = 0 then (none) else (if x6_1 > (IntKind.u64.wrap (Int.tdiv (IntKind.u64.wrap (18446744073709551615 - (IntKind.u64.wrap (t184)))) a1)) then (some (0,false)) else (u1f.l0 k1 a0 a1 (IntKind.u64.wrap ((IntKind.u64.wrap (x6_1 * a1)) + (IntKind.u64.wrap (t184)))) (wrap64 (x7_1 + 1))))) = some (r1,r2):=H
        have A6:=Aside0.mk A60
        clear A60
        by_cases c7:a1 = 0
        · rw [if_pos c7] at H
          exact absurd H (by simp)
        · rw [if_neg c7] at H
          have c7b0:(a1 == 0) = false:=beq_eq_false_iff_ne.mpr c7
          have c7b1:(a1 != 0) = true:=bne_iff_ne.mpr c7
          by_cases c8:x6_1 > (IntKind.u64.wrap (Int.tdiv (IntKind.u64.wrap (18446744073709551615 - (IntKind.u64.wrap (t184)))) a1))
          · rw [if_pos c8] at H
            have c8b0:decide ((IntKind.u64.wrap (Int.tdiv (IntKind.u64.wrap (18446744073709551615 - (IntKind.u64.wrap (t184)))) a1)) < x6_1) = true:=decide_eq_true c8
            clear c8
            simp only [Option.some.injEq,Prod.mk.injEq] at H
            obtain ⟨rfl,rfl⟩:=H
            have p5:0 ≤ (x7_1:Int):=of_decide_eq_true (by first | (with_reducible assumption) | assumption)
            have q5:x7_1 < (a0.size:Int):=of_decide_eq_true (by first | (with_reducible assumption) | assumption)
            have hx5:=bt_at a0 x7_1
            replace p5:=eq_true p5
            replace q5:=eq_true q5
            go_wp2_with (first | ((with_reducible refine u1k (f:=110) rfl ?_);refine u2r (some 18) rfl rfl Tryd.func110 (by kernel_rfl) rfl #[.int .u8 (bt a0 x7_1)] rfl (by (try simp only [List.map_toArray,List.map_cons,List.map_nil]);first | done | rfl | (simp only [List.length_drop,List.length_take];rfl)) ?_;(with_reducible refine (u1u.calls k1 (bt a0 x7_1) t184 _ A6.out).mono ?_);rintro e w' ⟨rfl,⟨nd,rfl⟩⟩;refine ⟨_,rfl,?_⟩))
            go_ret2
            exact ⟨by first | rfl | (simp;done) | (simp [*];done),by repeat (first | exact us.refl _ | apply us.step)⟩
          · rw [if_neg c8] at H
            have c8b0:decide ((IntKind.u64.wrap (Int.tdiv (IntKind.u64.wrap (18446744073709551615 - (IntKind.u64.wrap (t184)))) a1)) < x6_1) = false:=decide_eq_false c8
            clear c8
            have H':=Aside0.mk H
            clear H
            have p5:0 ≤ (x7_1:Int):=of_decide_eq_true (by first | (with_reducible assumption) | assumption)
            have q5:x7_1 < (a0.size:Int):=of_decide_eq_true (by first | (with_reducible assumption) | assumption)
            have hx5:=bt_at a0 x7_1
            replace p5:=eq_true p5
            replace q5:=eq_true q5
            go_wp2_with (first | ((with_reducible refine u1k (f:=110) rfl ?_);refine u2r (some 18) rfl rfl Tryd.func110 (by kernel_rfl) rfl #[.int .u8 (bt a0 x7_1)] rfl (by (try simp only [List.map_toArray,List.map_cons,List.map_nil]);first | done | rfl | (simp only [List.length_drop,List.length_take];rfl)) ?_;(with_reducible refine (u1u.calls k1 (bt a0 x7_1) t184 _ A6.out).mono ?_);rintro e w' ⟨rfl,⟨nd,rfl⟩⟩;refine ⟨_,rfl,?_⟩))
            go_roundg k1
            case measure => have:=HK1.out;omega
            case rel => exact ⟨(IntKind.u64.wrap ((IntKind.u64.wrap (x6_1 * a1)) + (IntKind.u64.wrap (t184)))),(wrap64 (x7_1 + 1)),(by first | rfl | (simp;done) | (simp [*];done)),(by first | rfl | (simp;done) | (simp [*];done)),H',⟨by have:=HK1.out;omega⟩,by repeat (first | exact us.refl _ | apply us.step)⟩
      · rw [if_neg c4] at H
        exact absurd H (by simp)
    · rw [if_neg c3] at H
      have c3b0:decide (x7_1 < (a0.size:Int)) = false:=decide_eq_false c3
      clear c3
      simp only [Option.some.injEq,Prod.mk.injEq] at H
      obtain ⟨rfl,rfl⟩:=H
      go_wp2
      go_ret2
      exact ⟨by first | rfl | (simp;done) | (simp [*];done),by repeat (first | exact us.refl _ | apply us.step)⟩
def u1e.l0:Nat → ByteArray → Int → Option (ByteArray × Bool)
 | 0,_,_ => none
 | k + 1,x0,x4 => if x4 < (x0.size:Int) then (if 0 ≤ x4 then (if (bt x0 x4) = 32 then (u1e.l0 k x0 (wrap64 (x4 + 1))) else (if (bt x0 x4) = 9 then (u1e.l0 k x0 (wrap64 (x4 + 1))) else (if x4 ≤ (x0.size:Int) then (some (x0.extract (x4:Int).toNat x0.size,decide (x4 > 0))) else (none)))) else (none)) else (if 0 ≤ x4 then (if x4 ≤ (x0.size:Int) then (some (x0.extract (x4:Int).toNat x0.size,decide (x4 > 0))) else (none)) else (none))
def u1e.f (k:Nat) (a0:ByteArray):Option (ByteArray × Bool):=u1e.l0 k a0 0
set_option maxHeartbeats 8000000 in
set_option maxRecDepth 100000 in
theorem u1e.calls (k:Nat) (a0:ByteArray) (r1:ByteArray) (r2:Bool) (w:World) (h:u1e.f k a0 = some (r1,r2)) :
 Calls Tryd.prog 37 #[.string a0] w fun e w' => e = .returned (.tuple #[.string r1,.bool r2]) ∧ us w w':=by
 have H:(u1e.l0 k a0 0) = some (r1,r2):=h
 clear h
 have H':=Aside0.mk H
 clear H
 go_enter Tryd.func37,Tryd.ntmps37
 go_wp2
 go_loopg [4] k (fun kq v4 w' => ∃ (x4_1:Int),v4 = .int .i64 x4_1 ∧ Aside0 (u1e.l0 kq a0 x4_1 = some (r1,r2)) ∧ Aside0 (kq ≤ k) ∧ us w w')
 case atStart => exact ⟨(0),(by first | rfl | (simp;done) | (simp [*];done)),H',⟨Nat.le_refl _⟩,by repeat (first | exact us.refl _ | apply us.step)⟩
 case round =>
  clear H'
  obtain ⟨x4_1,rfl,HA,HK1,⟨m1,rfl⟩⟩:=hrel
  cases gk with
  | zero => exact absurd HA.out (by simp [u1e.l0])
  | succ k1 =>
    have H:=HA.out
    clear HA
    simp only [u1e.l0] at H
    by_cases c2:x4_1 < (a0.size:Int)
    · rw [if_pos c2] at H
      have c2b0:decide (x4_1 < (a0.size:Int)) = true:=decide_eq_true c2
      clear c2
      by_cases c3:0 ≤ x4_1
      · rw [if_pos c3] at H
        have c3b0:decide (0 ≤ x4_1) = true:=decide_eq_true c3
        clear c3
        by_cases c5:(bt a0 x4_1) = 32
        · rw [if_pos c5] at H
          have c5b0:((bt a0 x4_1) == 32) = true:=beq_iff_eq.mpr c5
          have c5b1:((bt a0 x4_1) != 32) = false:=bne_eq_false_iff_eq.mpr c5
          clear c5
          have H':=Aside0.mk H
          clear H
          have p4:0 ≤ (x4_1:Int):=of_decide_eq_true (by first | (with_reducible assumption) | assumption)
          have q4:x4_1 < (a0.size:Int):=of_decide_eq_true (by first | (with_reducible assumption) | assumption)
          have hx4:=bt_at a0 x4_1
          replace p4:=eq_true p4
          replace q4:=eq_true q4
          go_wp2
          go_roundg k1
          case measure => have:=HK1.out;omega
          case rel => exact ⟨(wrap64 (x4_1 + 1)),(by first | rfl | (simp;done) | (simp [*];done)),H',⟨by have:=HK1.out;omega⟩,by repeat (first | exact us.refl _ | apply us.step)⟩
        · rw [if_neg c5] at H
          have c5b0:((bt a0 x4_1) == 32) = false:=beq_eq_false_iff_ne.mpr c5
          have c5b1:((bt a0 x4_1) != 32) = true:=bne_iff_ne.mpr c5
          by_cases c7:(bt a0 x4_1) = 9
          · rw [if_pos c7] at H
            have c7b0:((bt a0 x4_1) == 9) = true:=beq_iff_eq.mpr c7
            have c7b1:((bt a0 x4_1) != 9) = false:=bne_eq_false_iff_eq.mpr c7
            clear c7
            have H':=Aside0.mk H
            clear H
            have p4:0 ≤ (x4_1:Int):=of_decide_eq_true (by first | (with_reducible assumption) | assumption)
            have q4:x4_1 < (a0.size:Int):=of_decide_eq_true (by first | (with_reducible assumption) | assumption)
            have hx4:=bt_at a0 x4_1
            replace p4:=eq_true p4
            replace q4:=eq_true q4
            have p6:0 ≤ (x4_1:Int):=of_decide_eq_true (by first | (with_reducible assumption) | assumption)
            have q6:x4_1 < (a0.size:Int):=of_decide_eq_true (by first | (with_reducible assumption) | assumption)
            have hx6:=bt_at a0 x4_1
            replace p6:=eq_true p6
            replace q6:=eq_true q6
            go_wp2
            go_roundg k1
            case measure => have:=HK1.out;omega
            case rel => exact ⟨(wrap64 (x4_1 + 1)),(by first | rfl | (simp;done) | (simp [*];done)),H',⟨by have:=HK1.out;omega⟩,by repeat (first | exact us.refl _ | apply us.step)⟩
          · rw [if_neg c7] at H
            have c7b0:((bt a0 x4_1) == 9) = false:=beq_eq_false_iff_ne.mpr c7
            have c7b1:((bt a0 x4_1) != 9) = true:=bne_iff_ne.mpr c7
            have c8b0:=eq_true (of_decide_eq_true (by first | (with_reducible assumption) | assumption):0 ≤ x4_1)
            by_cases c9:x4_1 ≤ (a0.size:Int)
            · rw [if_pos c9] at H
              have c9b0:=eq_true c9
              have c9b1:decide (x4_1 ≤ (a0.size:Int)) = true:=decide_eq_true c9
              clear c9
              simp only [Option.some.injEq,Prod.mk.injEq] at H
              obtain ⟨rfl,rfl⟩:=H
              have p4:0 ≤ (x4_1:Int):=of_decide_eq_true (by first | (with_reducible assumption) | assumption)
              have q4:x4_1 < (a0.size:Int):=of_decide_eq_true (by first | (with_reducible assumption) | assumption)
              have hx4:=bt_at a0 x4_1
              replace p4:=eq_true p4
              replace q4:=eq_true q4
              have p6:0 ≤ (x4_1:Int):=of_decide_eq_true (by first | (with_reducible assumption) | assumption)
              have q6:x4_1 < (a0.size:Int):=of_decide_eq_true (by first | (with_reducible assumption) | assumption)
              have hx6:=bt_at a0 x4_1
              replace p6:=eq_true p6
              replace q6:=eq_true q6
              go_wp2
              go_ret2
              exact ⟨by first | rfl | (simp;done) | (simp [*];done),by repeat (first | exact us.refl _ | apply us.step)⟩
            · rw [if_neg c9] at H
              exact absurd H (by simp)
      · rw [if_neg c3] at H
        exact absurd H (by simp)
    · rw [if_neg c2] at H
      have c2b0:decide (x4_1 < (a0.size:Int)) = false:=decide_eq_false c2
      clear c2
      by_cases c10:0 ≤ x4_1
      · rw [if_pos c10] at H
        have c10b0:=eq_true c10
        have c10b1:decide (0 ≤ x4_1) = true:=decide_eq_true c10
        clear c10
        by_cases c11:x4_1 ≤ (a0.size:Int)
        · rw [if_pos c11] at H
          have c11b0:=eq_true c11
          have c11b1:decide (x4_1 ≤ (a0.size:Int)) = true:=decide_eq_true c11
          clear c11
          simp only [Option.some.injEq,Prod.mk.injEq] at H
          obtain ⟨rfl,rfl⟩:=H
          go_wp2
          go_ret2
          exact ⟨by first | rfl | (simp;done) | (simp [*];done),by repeat (first | exact us.refl _ | apply us.step)⟩
        · rw [if_neg c11] at H
          exact absurd H (by simp)
      · rw [if_neg c10] at H
        exact absurd H (by simp)
def u1z.f (a0:ByteArray):Option Bool:=some (Base.nameB a0)
theorem u1z.letter_is (x:Int):labels_letter.f x = some (Base.letterB x):=by
 unfold labels_letter.f Base.letterB
 by_cases h1:x = 95
 · simp [h1]
 · rw [if_neg h1]
   by_cases h2:Go.bits .or .u8 x 32 ≥ 97
   · rw [if_pos h2]
     simp only [ge_iff_le] at h2
     simp [h1,h2]
   · rw [if_neg h2]
     simp only [ge_iff_le] at h2
     simp [h1,h2]
theorem u1z.digit_is (x:Int):labels_digit.f x = some (Base.digitB x):=by
 unfold labels_digit.f Base.digitB
 by_cases h1:x ≥ 48
 · rw [if_pos h1]
   simp only [ge_iff_le] at h1
   simp [h1]
 · rw [if_neg h1]
   simp only [ge_iff_le] at h1
   simp [h1]
def u1z.badB (c:Int):Bool:=!Base.letterB c && !Base.digitB c
set_option maxHeartbeats 400000 in
theorem u1z.test (c:Int) (w:World):Calls Tryd.prog 98 #[.int .u8 c] w fun e w' => e = .returned (.bool (u1z.badB c)) ∧ us w w':=by
 unfold u1z.badB
 cases hl:Base.letterB c with
 | true =>
   go_enter Tryd.func98,Tryd.ntmps98
   go_wp2_with (go_at_call 97;refine (labels_letter.calls _ _ _ (u1z.letter_is _)).mono ?_;rintro e W1 ⟨rfl,⟨nd,rfl⟩⟩)
   go_ret
   exact ⟨rfl,⟨nd,rfl⟩⟩
 | false =>
   go_enter Tryd.func98,Tryd.ntmps98
   go_wp2_with (first | (go_at_call 97;refine (labels_letter.calls _ _ _ (u1z.letter_is _)).mono ?_;rintro e W1 ⟨rfl,⟨nd,rfl⟩⟩) | (go_at_call 99;refine (labels_digit.calls _ _ _ (u1z.digit_is _)).mono ?_;rintro e W2 ⟨rfl,⟨md,rfl⟩⟩))
   go_ret
   exact ⟨rfl,⟨_,rfl⟩⟩
set_option maxHeartbeats 1000000 in
theorem u1z.index (A:Option Addr) (c:Nat) (l:List Int) (w:World) (hr:Kd.C (Kd.int .u8) w A l.length l) (hm:l.length ≤ 140737488355328) :
 Calls Tryd.prog 101 #[.slice A l.length c,.func (.func 98) #[] #[]] w fun e w' => (∃ i:Int,e = .returned (.int .i64 i) ∧ decide (0 ≤ i) = l.any u1z.badB) ∧ us w w':=by
 have HR:=Aside0.mk hr
 clear hr
 go_enter Tryd.func101,Tryd.ntmps101
 go_wp2
 go_loopg [8] (l.length) (fun kq v8 w' => ∃ (x:Nat),x ≤ l.length ∧ v8 = .int .i64 x ∧ Aside0 ((l.take x).any u1z.badB = false) ∧ l.length ≤ kq + x ∧ us w w')
 case atStart => exact ⟨0,by omega,rfl,⟨rfl⟩,by omega,us.refl _⟩
 case round =>
  obtain ⟨x,hx,rfl,HN,hk,⟨m1,rfl⟩⟩:=hrel
  by_cases hlt:x < l.length
  · obtain ⟨ad,e,hc⟩:=Kd.at_int HR.out (x:Int) (by omega) (by omega)
    subst e
    have hc2:w.cell? (ad.add x) = some (.int .u8 (rd l x)):=by simpa using hc
    clear hc
    have htk:l.take (x + 1) = l.take x ++ [rd l x]:=by
     rw [List.take_succ_eq_append_getElem hlt]
     simp [rd,List.getD_eq_getElem?_getD,hlt]
    have HT:=Aside0.mk htk
    clear htk
    cases hb:u1z.badB (rd l x) with
    | true =>
      go_wp2_with (go_at_call 98;refine (u1z.test _ _).mono ?_;rintro e W1 ⟨rfl,⟨nd,rfl⟩⟩)
      go_ret
      refine ⟨⟨_,rfl,?_⟩,⟨_,rfl⟩⟩
      have h1:l.any u1z.badB = true:=by
       rw [List.any_eq_true]
       refine ⟨rd l x,?_,hb⟩
       have h2:rd l x ∈ l.take (x + 1):=by rw [HT.out];simp
       exact List.mem_of_mem_take h2
      rw [h1]
      simp
    | false =>
      go_wp2_with (go_at_call 98;refine (u1z.test _ _).mono ?_;rintro e W1 ⟨rfl,⟨nd,rfl⟩⟩)
      obtain ⟨g1,rfl⟩:∃ g1,gk = g1 + 1:=⟨gk - 1,by omega⟩
      go_roundg g1
      case rel =>
       refine ⟨x + 1,by omega,by go_num,⟨?_⟩,by omega,⟨_,rfl⟩⟩
       rw [HT.out,List.any_append,HN.out]
       simp [hb]
      case measure => omega
  · go_wp2
    go_ret
    refine ⟨⟨_,rfl,?_⟩,⟨_,rfl⟩⟩
    have h1:=HN.out
    rw [List.take_of_length_le (by omega)] at h1
    rw [h1]
    simp
theorem u1z.contains (A:Option Addr) (c:Nat) (l:List Int) (w:World) (hr:Kd.C (Kd.int .u8) w A l.length l) (hm:l.length ≤ 140737488355328) :
 Calls Tryd.prog 79 #[.slice A l.length c,.func (.func 98) #[] #[]] w fun e w' => e = .returned (.bool (l.any u1z.badB)) ∧ us w w':=by
 go_enter Tryd.func79,Tryd.ntmps79
 go_wp2_with (go_at_call 101;refine (u1z.index _ _ _ _ hr hm).mono ?_;rintro e W1 ⟨⟨i,rfl,hi⟩,⟨nd,rfl⟩⟩)
 go_ret
 exact ⟨by simp,⟨_,rfl⟩⟩
theorem u1z.contains_n (A:Option Addr) (c n:Nat) (l:List Int) (w:World) (hn:l.length = n) (hr:Kd.C (Kd.int .u8) w A n l) (hm:n ≤ 140737488355328) :
 Calls Tryd.prog 79 #[.slice A n c,.func (.func 98) #[] #[]] w fun e w' => e = .returned (.bool (l.any u1z.badB)) ∧ us w w':=by
 subst hn
 exact u1z.contains A c l w hr hm
set_option maxHeartbeats 1000000 in
theorem u1z.calls (a0:ByteArray) (r:Bool) (w:World) (h:u1z.f a0 = some r) :
 Calls Tryd.prog 77 #[.string a0] w fun e w' => e = .returned (.bool r) ∧ Below w.heap.size w w':=by
 obtain rfl:Base.nameB a0 = r:=by simpa [u1z.f] using h
 clear h
 by_cases h0:a0.size = 0
 · have he:a0.toList = []:=(Base.toList_nil a0).2 h0
   have hv:Aside0 (Base.nameB a0 = false):=⟨by simp [Base.nameB,h0]⟩
   have hi:a0.toList.isEmpty = true:=by rw [he];rfl
   clear he h0
   go_enter Tryd.func77,Tryd.ntmps77
   go_wp2
   go_ret
   exact ⟨by rw [hv.out];rfl,Below.refl _ _⟩
 · have he:a0.toList.isEmpty = false:=by
    cases hl:a0.toList with
    | nil => exact absurd ((Base.toList_nil a0).1 hl) h0
    | cons _ _ => rfl
   have hen:¬ a0.toList = []:=by intro hl;rw [hl] at he;simp at he
   by_cases h24:a0.size ≤ 24
   · have hp:0 < a0.size:=by omega
     have hbt:((a0[0]'hp).toNat:Int) = bt a0 0:=by simpa using bt_at a0 0 (by simpa using hp)
     have hh:(u2y a0).headD 0 = bt a0 0:=by
      rw [← rd_bytesOf]
      cases u2y a0 <;> rfl
     have HH:=Aside0.mk hh
     clear hh
     cases hl:Base.letterB (bt a0 0) with
     | false =>
       have hv:Aside0 (Base.nameB a0 = false):=⟨by unfold Base.nameB;rw [HH.out,hl];simp⟩
       go_enter Tryd.func77,Tryd.ntmps77
       go_wp2_with (go_at_call 97;refine (labels_letter.calls _ _ _ (u1z.letter_is _)).mono ?_;rintro e W1 ⟨rfl,⟨nd,rfl⟩⟩)
       go_ret
       exact ⟨by rw [hv.out];rfl,ua (Below.refl _ _) nd⟩
     | true =>
       have kb:=fun W => print_bytes (P:=Tryd.prog) 9 42 5 Tryd.underlying9 Tryd.underlying42 Tryd.underlying5 a0 W
       have hv:Aside0 (Base.nameB a0 = !(u2y a0).any u1z.badB):=⟨by
        have h1:(u2y a0).all (fun c => Base.letterB c || Base.digitB c) = !(u2y a0).any u1z.badB:=by
         rw [List.all_eq_not_any_not]
         congr 2
         funext c
         simp [u1z.badB]
        unfold Base.nameB
        rw [HH.out,hl,h1]
        simp [hp,h24]⟩
       go_enter Tryd.func77,Tryd.ntmps77
       go_wp2_with (go_at_call 97;refine (labels_letter.calls _ _ _ (u1z.letter_is _)).mono ?_;rintro e W1 ⟨rfl,⟨nd,rfl⟩⟩)
       have hr:=bytes_reads (w.drewN nd) 5 a0 (by omega)
       have hc:Kd.C (Kd.int .u8) (Lib.bytesWorld (w.drewN nd) 5 a0) (some ⟨w.heap.size,0,none⟩) a0.size (u2y a0):=Kd.C_of_reads (d:=(0:Int)) (h1:=fun _ => rfl) hr
       refine (u1z.contains_n _ _ _ _ _ (bytesOf_length a0) hc (by omega)).mono ?_
       rintro e W2 ⟨rfl,⟨md,rfl⟩⟩
       clear hr hc
       go_wp2
       go_ret
       exact ⟨by rw [hv.out];rfl,ua (bytes_below (ua (Below.refl _ _) nd) (by simp) _ _) md⟩
   · have hv:Aside0 (Base.nameB a0 = false):=⟨by simp [Base.nameB,h24]⟩
     go_enter Tryd.func77,Tryd.ntmps77
     go_wp2
     go_ret
     exact ⟨by rw [hv.out];rfl,Below.refl _ _⟩
end Go.Proofs.YtmcpeifhapekoaaDoor.PAll
namespace Go.Proofs.YtmcpeifhapekoaaDoor.PAll
open Go.RowKit Go.Proofs.YtmcpeifhapekoaaDoorW.PrintWords Go.Proofs.YtmcpeifhapekoaaDoorW.PrintLast Go.Proofs.YtmcpeifhapekoaaDoorW.PrintMore
attribute [local go_sem] max2_int min2_int max_two min_two max_three min_three max_four min_four
set_option linter.unusedVariables false
set_option linter.unusedSimpArgs false
attribute [local go_sem high] eqA37
def u2u.l0:Nat → List (S37) → List (S37) → Int → Int → Option (Bool)
 | 0,_,_,_,_ => none
 | k + 1,x0,x1,x12,x13 => if x13 < x12 then (if 0 ≤ x13 then (if x13 < (x0.length:Int) then (if x13 < (x1.length:Int) then (if (!((((u2b x0 x13).f0).toList) == (((u2b x1 x13).f0).toList)) || (!((((u2b x0 x13).f1).toList) == (((u2b x1 x13).f1).toList)))) = true then (some false) else (u2u.l0 k x0 x1 x12 (wrap64 (x13 + 1)))) else (none)) else (none)) else (none)) else (some true)
def u2u.f (k:Nat) (l0:List (S37)) (l1:List (S37)):Option (Bool):=if (l0.length:Int) = (l1.length:Int) then (u2u.l0 k l0 l1 (l0.length:Int) 0) else (some false)
set_option maxHeartbeats 8000000 in
set_option maxRecDepth 100000 in
theorem u2u.calls (k:Nat) (A0:Option Addr) (c0:Nat) (l0:List (S37)) (A1:Option Addr) (c1:Nat) (l1:List (S37)) (r:Bool) (w:World) (hr0:Kd.C k37 w A0 l0.length l0) (hc0:l0.length ≤ c0) (hr1:Kd.C k37 w A1 l1.length l1) (hc1:l1.length ≤ c1) (h:u2u.f k l0 l1 = some r) :
 Calls Tryd.prog 27 #[.slice A0 l0.length c0,.slice A1 l1.length c1] w fun e w' => e = .returned (.bool r) ∧ us w w':=by
 have hu37:=Tryd.underlying37
 have HR0:=Aside0.mk hr0
 have HC0:=Aside0.mk hc0
 clear hr0 hc0
 have HR1:=Aside0.mk hr1
 have HC1:=Aside0.mk hc1
 clear hr1 hc1
 have H:(if (l0.length:Int) = (l1.length:Int) then (u2u.l0 k l0 l1 (l0.length:Int) 0) else (some false)) = some r:=h
 clear h
 by_cases c3:(l0.length:Int) = (l1.length:Int)
 · rw [if_pos c3] at H
   have c3b0:((l0.length:Int) == (l1.length:Int)) = true:=beq_iff_eq.mpr c3
   have c3b1:((l0.length:Int) != (l1.length:Int)) = false:=bne_eq_false_iff_eq.mpr c3
   have c3b2:(l0.length == l1.length) = true:=by first | simpa using c3 | (simp at c3 ⊢;omega)
   clear c3
   have H':=Aside0.mk H
   clear H
   go_enter Tryd.func27,Tryd.ntmps27
   go_wp2
   repeat (go_quiet (fail);try go_wp2)
   go_loopg [13] k (fun kq v13 w' => ∃ (x13_1:Int),v13 = .int .i64 x13_1 ∧ Aside0 (u2u.l0 kq l0 l1 (l0.length:Int) x13_1 = some r) ∧ Aside0 (kq ≤ k) ∧ us w w')
   case atStart => exact ⟨(0),(by first | rfl | (simp;done) | (simp [*];done)),H',⟨Nat.le_refl _⟩,by repeat (first | exact us.refl _ | apply us.step)⟩
   case round =>
    clear H'
    try clear c1
    try clear c2
    try clear p2
    try clear c3
    try clear c3b0
    try clear c3b1
    try clear c3b2
    obtain ⟨x13_1,rfl,HA,HK1,⟨m1,rfl⟩⟩:=hrel
    cases gk with
    | zero => exact absurd HA.out (by simp [u2u.l0])
    | succ k1 =>
      have H:=HA.out
      clear HA
      simp only [u2u.l0] at H
      by_cases c4:x13_1 < (l0.length:Int)
      · rw [if_pos c4] at H
        have c4b0:decide (x13_1 < (l0.length:Int)) = true:=decide_eq_true c4
        clear c4
        by_cases c5:0 ≤ x13_1
        · rw [if_pos c5] at H
          have c5b0:decide (0 ≤ x13_1) = true:=decide_eq_true c5
          clear c5
          by_cases c6:x13_1 < (l0.length:Int)
          · rw [if_pos c6] at H
            have c6b0:decide (x13_1 < (l0.length:Int)) = true:=decide_eq_true c6
            clear c6
            by_cases c7:x13_1 < (l1.length:Int)
            · rw [if_pos c7] at H
              have c7b0:decide (x13_1 < (l1.length:Int)) = true:=decide_eq_true c7
              clear c7
              by_cases c8:(!((((u2b l0 x13_1).f0).toList) == (((u2b l1 x13_1).f0).toList)) || (!((((u2b l0 x13_1).f1).toList) == (((u2b l1 x13_1).f1).toList)))) = true
              · rw [if_pos c8] at H
                have c8b0:(!((((u2b l0 x13_1).f0).toList) == (((u2b l1 x13_1).f0).toList)) || (!((((u2b l0 x13_1).f1).toList) == (((u2b l1 x13_1).f1).toList)))) = true:=c8
                clear c8
                obtain rfl:=Option.some.inj H
                have p250:0 ≤ (x13_1:Int):=of_decide_eq_true (by first | (with_reducible assumption) | assumption)
                have q250:x13_1 < (l0.length:Int):=of_decide_eq_true (by first | (with_reducible assumption) | assumption)
                obtain ⟨ad250,e250,hx250_0,hx250_1⟩:=at_T37 HR0.out x13_1 p250 q250
                cases e250
                replace p250:=eq_true p250
                replace q250:=eq_true q250
                have p251:0 ≤ (x13_1:Int):=of_decide_eq_true (by first | (with_reducible assumption) | assumption)
                have q251:x13_1 < (l1.length:Int):=of_decide_eq_true (by first | (with_reducible assumption) | assumption)
                obtain ⟨ad251,e251,hx251_0,hx251_1⟩:=at_T37 HR1.out x13_1 p251 q251
                cases e251
                replace p251:=eq_true p251
                replace q251:=eq_true q251
                go_wp2
                repeat (go_quiet (fail);try go_wp2)
                go_ret
                exact ⟨by first | rfl | (simp;done) | (simp [*];done),by repeat (first | exact us.refl _ | apply us.step)⟩
              · rw [if_neg c8] at H
                have c8b0:(!((((u2b l0 x13_1).f0).toList) == (((u2b l1 x13_1).f0).toList)) || (!((((u2b l0 x13_1).f1).toList) == (((u2b l1 x13_1).f1).toList)))) = false:=by simpa using c8
                clear c8
                have H':=Aside0.mk H
                clear H
                have p250:0 ≤ (x13_1:Int):=of_decide_eq_true (by first | (with_reducible assumption) | assumption)
                have q250:x13_1 < (l0.length:Int):=of_decide_eq_true (by first | (with_reducible assumption) | assumption)
                obtain ⟨ad250,e250,hx250_0,hx250_1⟩:=at_T37 HR0.out x13_1 p250 q250
                cases e250
                replace p250:=eq_true p250
                replace q250:=eq_true q250
                have p251:0 ≤ (x13_1:Int):=of_decide_eq_true (by first | (with_reducible assumption) | assumption)
                have q251:x13_1 < (l1.length:Int):=of_decide_eq_true (by first | (with_reducible assumption) | assumption)
                obtain ⟨ad251,e251,hx251_0,hx251_1⟩:=at_T37 HR1.out x13_1 p251 q251
                cases e251
                replace p251:=eq_true p251
                replace q251:=eq_true q251
                go_wp2
                repeat (go_quiet (fail);try go_wp2)
                go_roundg k1
                case measure => have:=HK1.out;omega
                case rel => exact ⟨(wrap64 (x13_1 + 1)),(by first | rfl | (simp;done) | (simp [*];done)),H',⟨by have:=HK1.out;omega⟩,by repeat (first | exact us.refl _ | apply us.step)⟩
            · rw [if_neg c7] at H
              exact absurd H (by simp)
          · rw [if_neg c6] at H
            exact absurd H (by simp)
        · rw [if_neg c5] at H
          exact absurd H (by simp)
      · rw [if_neg c4] at H
        have c4b0:decide (x13_1 < (l0.length:Int)) = false:=decide_eq_false c4
        clear c4
        obtain rfl:=Option.some.inj H
        go_wp2
        repeat (go_quiet (fail);try go_wp2)
        go_ret
        exact ⟨by first | rfl | (simp;done) | (simp [*];done),by repeat (first | exact us.refl _ | apply us.step)⟩
 · rw [if_neg c3] at H
   have c3b0:((l0.length:Int) == (l1.length:Int)) = false:=beq_eq_false_iff_ne.mpr c3
   have c3b1:((l0.length:Int) != (l1.length:Int)) = true:=bne_iff_ne.mpr c3
   have c3b2:(l0.length == l1.length) = false:=by first | simpa using c3 | (simp at c3 ⊢;omega)
   obtain rfl:=Option.some.inj H
   go_enter Tryd.func27,Tryd.ntmps27
   go_wp2
   repeat (go_quiet (fail);try go_wp2)
   go_ret
   exact ⟨by first | rfl | (simp;done) | (simp [*];done),by repeat (first | exact us.refl _ | apply us.step)⟩
end Go.Proofs.YtmcpeifhapekoaaDoor.PAll
namespace Go.Proofs.YtmcpeifhapekoaaDoor.PAll
open Go.RowKit Go.Proofs.YtmcpeifhapekoaaDoorW.PrintWords Go.Proofs.YtmcpeifhapekoaaDoorW.PrintLast Go.Proofs.YtmcpeifhapekoaaDoorW.PrintMore
attribute [local go_sem] max2_int min2_int max_two min_two max_three min_three max_four min_four
set_option linter.unusedVariables false
set_option linter.unusedSimpArgs false
def u1q.same (k:Nat) (x y:S25):Option Bool:=(u2u.f k x.f0 y.f0).bind fun b => some (b && (x.f1 == y.f1) && (x.f2 == y.f2))
def u1q.all (k:Nat):List S25 → List S25 → Option Bool
 | [],_ => some true
 | _ :: _,[] => some true
 | x :: r,y :: q => (u1q.same k x y).bind fun b => if b = true then u1q.all k r q else some false
def u1q.f (k:Nat) (l0 l1:List S25):Option Bool:=if l0.length = l1.length then (if l0.length ≤ 4611686018427387904 then u1q.all k l0 l1 else none) else some false
set_option maxHeartbeats 4000000 in
set_option maxRecDepth 100000 in
theorem u1q.calls_one (k:Nat) (x y:S25) (A0 A1:Option Addr) (c0 c1:Nat) (b:Bool) (w:World) (hx:x.f0.length ≤ c0) (gx:Kd.C k37 w A0 x.f0.length x.f0) (hy:y.f0.length ≤ c1) (gy:Kd.C k37 w A1 y.f0.length y.f0) (h:u1q.same k x y = some b) :
 Calls Tryd.prog 26 #[.agg #[.slice A0 x.f0.length c0,.int .i64 x.f1,.int .u64 x.f2],.agg #[.slice A1 y.f0.length c1,.int .i64 y.f1,.int .u64 y.f2]] w fun e w' => e = .returned (.bool b) ∧ Below w.heap.size w w':=by
 obtain ⟨c,hc,h2⟩:=Option.bind_eq_some_iff.1 h
 have HCc:=Aside0.mk hc
 have H2:=Aside0.mk (Option.some.inj h2)
 have GX:=Aside0.mk gx
 have GY:=Aside0.mk gy
 have HX:=Aside0.mk hx
 have HY:=Aside0.mk hy
 clear hc h2 h gx gy hx hy
 cases c with
 | false =>
   have hb:false = b:=by simpa using H2.out
   subst hb
   go_enter Tryd.func26,Tryd.ntmps26
   go_wp2_with (go_at_call 27;(with_reducible refine (u2u.calls k _ _ x.f0 _ _ y.f0 false _ (Kd.C_alloc (Kd.C_alloc GX.out _) _) HX.out (Kd.C_alloc (Kd.C_alloc GY.out _) _) HY.out HCc.out).mono ?_);rintro e w3 ⟨rfl,⟨nd,rfl⟩⟩)
   all_goals
    go_ret
    refine ⟨?_,by repeat (first | exact Below.refl _ _ | apply uf | apply ua)⟩
    first | rfl | (rw [← H2.out];simp [*];done) | (rw [← H2.out];simp [*];rfl)
 | true =>
   go_enter Tryd.func26,Tryd.ntmps26
   go_wp2_with (go_at_call 27;(with_reducible refine (u2u.calls k _ _ x.f0 _ _ y.f0 true _ (Kd.C_alloc (Kd.C_alloc GX.out _) _) HX.out (Kd.C_alloc (Kd.C_alloc GY.out _) _) HY.out HCc.out).mono ?_);rintro e w3 ⟨rfl,⟨nd,rfl⟩⟩)
   all_goals
    go_ret
    refine ⟨?_,by repeat (first | exact Below.refl _ _ | apply uf | apply ua)⟩
    first | rfl | (rw [← H2.out];simp [*];done) | (rw [← H2.out];simp [*];rfl)
theorem u1q.calls (k:Nat) (A0:Option Addr) (c0:Nat) (l0:List S25) (A1:Option Addr) (c1:Nat) (l1:List S25) (r:Bool) (w:World) (hr0:Kd.C k25 w A0 l0.length l0) (hc0:l0.length ≤ c0) (hr1:Kd.C k25 w A1 l1.length l1) (hc1:l1.length ≤ c1) (h:u1q.f k l0 l1 = some r) :
 Calls Tryd.prog 15 #[.slice A0 l0.length c0,.slice A1 l1.length c1] w fun e w' => e = .returned (.bool r) ∧ Below w.heap.size w w':=by
 have HR0:=Aside0.mk hr0
 have HR1:=Aside0.mk hr1
 clear hr0 hr1
 unfold u1q.f at h
 by_cases hlen:l0.length = l1.length
 · rw [if_pos hlen] at h
   by_cases hmax:l0.length ≤ 4611686018427387904
   · rw [if_pos hmax] at h
     have H:=Aside0.mk h
     clear h
     go_enter Tryd.func15,Tryd.ntmps15
     go_wp2_with (go_in)
     go_loopg [17] (l0.length) (fun kq v17 wr => ∃ (i:Nat) (ra rb:List S25),i ≤ l0.length ∧ v17 = .int .i64 i ∧ Aside0 (l0.drop i = ra ∧ l1.drop i = rb ∧ u1q.all k ra rb = some r) ∧ l0.length ≤ kq + i ∧ Aside0 (Below w.heap.size w wr))
     case atStart => exact ⟨0,l0,l1,by omega,rfl,⟨rfl,rfl,H.out⟩,by omega,⟨Below.refl _ _⟩⟩
     case round =>
      clear H
      obtain ⟨i,ra,rb,hi,rfl,HA,hk,HB⟩:=hrel
      by_cases hlt:i < l0.length
      · obtain ⟨g1,rfl⟩:∃ g1,gk = g1 + 1:=⟨gk - 1,by omega⟩
        obtain ⟨x,ra2,hx⟩:∃ x ra2,Aside0 (ra = x :: ra2 ∧ rd_T25 l0 (i:Int) = x):=by
         have h1:=HA.out.1
         rw [List.drop_eq_getElem_cons hlt] at h1
         exact ⟨_,_,⟨h1.symm,by simp [rd_T25,List.getD_eq_getElem?_getD,hlt]⟩⟩
        obtain ⟨y,rb2,hy⟩:∃ y rb2,Aside0 (rb = y :: rb2 ∧ rd_T25 l1 (i:Int) = y):=by
         have h1:=HA.out.2.1
         have hlt2:i < l1.length:=by omega
         rw [List.drop_eq_getElem_cons hlt2] at h1
         exact ⟨_,_,⟨h1.symm,by simp [rd_T25,List.getD_eq_getElem?_getD,hlt2]⟩⟩
        obtain ⟨b,hb,HA2⟩:∃ b,Aside0 (u1q.same k x y = some b) ∧ Aside0 ((if b = true then u1q.all k ra2 rb2 else some false) = some r):=by
         have h1:=HA.out.2.2
         rw [hx.out.1,hy.out.1] at h1
         obtain ⟨b,h2,h3⟩:=Option.bind_eq_some_iff.1 h1
         exact ⟨b,⟨h2⟩,⟨h3⟩⟩
        have HD:Aside0 (l0.drop (i + 1) = ra2 ∧ l1.drop (i + 1) = rb2):=⟨by
         have h1:=HA.out
         rw [hx.out.1,hy.out.1] at h1
         rw [← List.drop_drop,← List.drop_drop,h1.1,h1.2.1]
         exact ⟨rfl,rfl⟩⟩
        obtain ⟨ad0,B0,d0,e0,f00,f01,f02,g00,g01⟩:=at_T25 (Kd.C_below HR0.out HB.out) (i:Int) (by omega) (by omega)
        subst e0
        obtain ⟨ad1,B1,d1,e1,f10,f11,f12,g10,g11⟩:=at_T25 (Kd.C_below HR1.out HB.out) (i:Int) (by omega) (by omega)
        subst e1
        rw [hx.out.2] at f00 f01 f02 g00 g01
        rw [hy.out.2] at f10 f11 f12 g10 g11
        simp only [Int.toNat_natCast] at f00 f01 f02 f10 f11 f12
        have hlt1:i < l1.length:=by omega
        have q0:∀ o:Obj,(wr.alloc o).cell? _ = some _:=fun o => ((uf (Below.refl wr.heap.size wr) o).cell (World.block_lt_of_cell? wr _ f10)).trans f10
        have q1:∀ o:Obj,(wr.alloc o).cell? _ = some _:=fun o => ((uf (Below.refl wr.heap.size wr) o).cell (World.block_lt_of_cell? wr _ f11)).trans f11
        have q2:∀ o:Obj,(wr.alloc o).cell? _ = some _:=fun o => ((uf (Below.refl wr.heap.size wr) o).cell (World.block_lt_of_cell? wr _ f12)).trans f12
        have GX:=Aside0.mk g01
        have GY:=Aside0.mk g11
        have HX:=Aside0.mk g00
        have HY:=Aside0.mk g10
        clear g00 g01 g10 g11 HA hx hy
        cases b with
        | false =>
          have hr:Aside0 (r = false):=⟨by simpa using HA2.out.symm⟩
          go_wp2_with (go_at_call 26;(with_reducible refine (u1q.calls_one k x y _ _ _ _ false _ HX.out (Kd.C_alloc (Kd.C_alloc GX.out _) _) HY.out (Kd.C_alloc (Kd.C_alloc GY.out _) _) hb.out).mono ?_);rintro e w3 ⟨rfl,hb3⟩;have HB3:=Aside0.mk (ux (uf (uf HB.out _) _) hb3);clear hb3)
          go_ret
          exact ⟨by rw [hr.out];rfl,HB3.out⟩
        | true =>
          have HA3:Aside0 (u1q.all k ra2 rb2 = some r):=⟨by simpa using HA2.out⟩
          go_wp2_with (go_at_call 26;(with_reducible refine (u1q.calls_one k x y _ _ _ _ true _ HX.out (Kd.C_alloc (Kd.C_alloc GX.out _) _) HY.out (Kd.C_alloc (Kd.C_alloc GY.out _) _) hb.out).mono ?_);rintro e w3 ⟨rfl,hb3⟩;have HB3:=Aside0.mk (ux (uf (uf HB.out _) _) hb3);clear hb3)
          go_roundg g1
          case rel => exact ⟨i + 1,ra2,rb2,by omega,by go_num,⟨HD.out.1,HD.out.2,HA3.out⟩,by omega,HB3⟩
          case measure => omega
      · have hr:Aside0 (r = true):=⟨by
         have h1:=HA.out
         rw [List.drop_eq_nil_of_le (by omega)] at h1
         rw [← h1.1] at h1
         simpa [u1q.all] using h1.2.2.symm⟩
        go_wp2
        go_ret
        exact ⟨by rw [hr.out];rfl,HB.out⟩
   · rw [if_neg hmax] at h
     cases h
 · rw [if_neg hlen] at h
   obtain rfl:=Option.some.inj h
   have hne:¬ (l0.length:Int) = (l1.length:Int):=by omega
   go_enter Tryd.func15,Tryd.ntmps15
   go_wp2_with (go_in)
   go_ret
   exact ⟨rfl,Below.refl _ _⟩
def u2i.l0:Nat → ByteArray → List ByteArray → Int → Int → Option (Bool)
 | 0,_,_,_,_ => none
 | k + 1,x0,x5,x6,x7 => if x7 < x6 then (if 0 ≤ x7 then (if x7 < (x5.length:Int) then (if x0.toList = (rdOf ByteArray.empty x5 x7).toList then (some true) else (u2i.l0 k x0 x5 x6 (wrap64 (x7 + 1)))) else (none)) else (none)) else (some false)
def u2i.f (k:Nat) (a0:ByteArray):Option (Bool):=(some (([(⟨#[99,111,117,110,116,101,114]⟩:ByteArray),(⟨#[103,97,117,103,101]⟩:ByteArray),(⟨#[104,105,115,116,111,103,114,97,109]⟩:ByteArray),(⟨#[115,117,109,109,97,114,121]⟩:ByteArray),(⟨#[117,110,116,121,112,101,100]⟩:ByteArray)]:List ByteArray):List ByteArray)).bind fun y110 => (u2i.l0 k a0 y110 (y110.length:Int) 0)
set_option maxHeartbeats 8000000 in
set_option maxRecDepth 100000 in
theorem u2i.calls (k:Nat) (a0:ByteArray) (r:Bool) (w:World) (h:u2i.f k a0 = some r) :
 Calls Tryd.prog 67 #[.string a0] w fun e w' => e = .returned (.bool r) ∧ Below w.heap.size w w':=by
 have HB:=Aside0.mk (Below.refl w.heap.size w)
 have H:((some (([(⟨#[99,111,117,110,116,101,114]⟩:ByteArray),(⟨#[103,97,117,103,101]⟩:ByteArray),(⟨#[104,105,115,116,111,103,114,97,109]⟩:ByteArray),(⟨#[115,117,109,109,97,114,121]⟩:ByteArray),(⟨#[117,110,116,121,112,101,100]⟩:ByteArray)]:List ByteArray):List ByteArray)).bind fun y110 => (u2i.l0 k a0 y110 (y110.length:Int) 0)) = some r:=h
 clear h
 obtain ⟨y110,hy110⟩:∃ y_:List ByteArray,y_ = (([(⟨#[99,111,117,110,116,101,114]⟩:ByteArray),(⟨#[103,97,117,103,101]⟩:ByteArray),(⟨#[104,105,115,116,111,103,114,97,109]⟩:ByteArray),(⟨#[115,117,109,109,97,114,121]⟩:ByteArray),(⟨#[117,110,116,121,112,101,100]⟩:ByteArray)]:List ByteArray)):=⟨_,rfl⟩
 replace H:(u2i.l0 k a0 y110 (y110.length:Int) 0) = some r:=by first | (rw [hy110];with_reducible exact H) | (have H2_:=(Option.bind_some _ _).symm.trans H;rw [hy110];with_reducible exact H2_) | (have H2_:=(Option.bind_some _ _).symm.trans H;with_reducible exact H2_) | with_reducible exact H | (rw [hy110];exact H) | exact H
 have Ny110:=Aside0.mk hy110
 clear hy110
 have H':=Aside0.mk H
 clear H
 go_enter Tryd.func67,Tryd.ntmps67
 go_wp2_with (first | ((with_reducible refine u2k (N:=5) rfl ?_);refine Kd.R_lit Kd.string _ 9 ?hg (N:=5) ?hd (xs:=([(⟨#[99,111,117,110,116,101,114]⟩:ByteArray),(⟨#[103,97,117,103,101]⟩:ByteArray),(⟨#[104,105,115,116,111,103,114,97,109]⟩:ByteArray),(⟨#[115,117,109,109,97,114,121]⟩:ByteArray),(⟨#[117,110,116,121,112,101,100]⟩:ByteArray)]:List ByteArray)) (inner:=[.string (⟨#[99,111,117,110,116,101,114]⟩:ByteArray),.string (⟨#[103,97,117,103,101]⟩:ByteArray),.string (⟨#[104,105,115,116,111,103,114,97,109]⟩:ByteArray),.string (⟨#[115,117,109,109,97,114,121]⟩:ByteArray),.string (⟨#[117,110,116,121,112,101,100]⟩:ByteArray)]) (ok:=fun _ => True) (okp:=fun _ => True) ?hr ?hp (fun _ hk => hk) trivial (Below.refl _ _) (Nat.le_refl _) (by simp) ?_;(case hd => rfl);(case hg => rfl);(case hr => first | (go_simp;done) | (go_simp;rfl));(case hp => exact (Reps.one (show Kd.M Kd.string _ _ _ (⟨#[99,111,117,110,116,101,114]⟩:ByteArray) [.string (⟨#[99,111,117,110,116,101,114]⟩:ByteArray)] from rfl) (Reps.one (show Kd.M Kd.string _ _ _ (⟨#[103,97,117,103,101]⟩:ByteArray) [.string (⟨#[103,97,117,103,101]⟩:ByteArray)] from rfl) (Reps.one (show Kd.M Kd.string _ _ _ (⟨#[104,105,115,116,111,103,114,97,109]⟩:ByteArray) [.string (⟨#[104,105,115,116,111,103,114,97,109]⟩:ByteArray)] from rfl) (Reps.one (show Kd.M Kd.string _ _ _ (⟨#[115,117,109,109,97,114,121]⟩:ByteArray) [.string (⟨#[115,117,109,109,97,114,121]⟩:ByteArray)] from rfl) (Reps.one (show Kd.M Kd.string _ _ _ (⟨#[117,110,116,121,112,101,100]⟩:ByteArray) [.string (⟨#[117,110,116,121,112,101,100]⟩:ByteArray)] from rfl) (Reps.none _ _)))))));intro v111 w2 ho3 hb hg_ hnew_;clear hg_ hnew_;(first | rw [← Ny110.out] at ho3 | (simp only [Int.reduceToNat] at ho3;rw [← Ny110.out] at ho3));have n0_:=Aside0.mk (Kd.R_lower ho3 (uq (by repeat (first | (with_reducible first | exact HB.out | apply uf | apply ua | apply ug) | exact HB.out))));have n1_:=Aside0.mk (ux (by repeat (first | (with_reducible first | exact HB.out | apply uf | apply ua | apply ug) | exact HB.out)) hb);clear HB;have HO112:=n0_;have HB:=n1_;clear n0_ n1_;clear hb ho3;obtain ⟨Ao4,co4,eo4⟩:=Kd.R_slice HO112.out;subst eo4))
 go_loopg [7] k (fun kq v7 w' => ∃ (x7_1:Int),v7 = .int .i64 x7_1 ∧ Aside0 (u2i.l0 kq a0 y110 (y110.length:Int) x7_1 = some r) ∧ Aside0 (kq ≤ k) ∧ Aside0 (Kd.R Kd.string 9 w' w.heap.size (fun _ => True) (.slice Ao4 y110.length co4) y110) ∧ Aside0 (Below w.heap.size w w'))
 case atStart => exact ⟨(0),(by first | rfl | (simp;done) | (simp [*];done)),H',⟨Nat.le_refl _⟩,⟨by (with_reducible repeat (first | apply Kd.R_alloc | apply Kd.R_drewN | apply Kd.R_drew));exact HO112.out⟩,⟨by repeat (first | (with_reducible first | exact HB.out | apply uf | apply ua | apply ug) | exact HB.out)⟩⟩
 case round =>
  clear H'
  try clear p2
  obtain ⟨x7_1,rfl,HA,HK1,HO_5,HB⟩:=hrel
  cases gk with
  | zero => exact absurd HA.out (by simp [u2i.l0])
  | succ k1 =>
    have H:=HA.out
    clear HA
    simp only [u2i.l0] at H
    by_cases c5:x7_1 < (y110.length:Int)
    · rw [if_pos c5] at H
      have c5b0:decide (x7_1 < (y110.length:Int)) = true:=decide_eq_true c5
      clear c5
      by_cases c6:0 ≤ x7_1
      · rw [if_pos c6] at H
        have c6b0:decide (0 ≤ x7_1) = true:=decide_eq_true c6
        clear c6
        by_cases c7:x7_1 < (y110.length:Int)
        · rw [if_pos c7] at H
          have c7b0:decide (x7_1 < (y110.length:Int)) = true:=decide_eq_true c7
          clear c7
          by_cases c8:a0.toList = (rdOf ByteArray.empty y110 x7_1).toList
          · rw [if_pos c8] at H
            have c8b0:(a0.toList == (rdOf ByteArray.empty y110 x7_1).toList) = true:=beq_iff_eq.mpr c8
            have c8b1:(a0.toList != (rdOf ByteArray.empty y110 x7_1).toList) = false:=bne_eq_false_iff_eq.mpr c8
            clear c8
            obtain rfl:=Option.some.inj H
            have p113:0 ≤ (x7_1:Int):=of_decide_eq_true (by first | (with_reducible assumption) | assumption)
            have q113:x7_1 < (y110.length:Int):=of_decide_eq_true (by first | (with_reducible assumption) | assumption)
            obtain ⟨ad113,e113,hx113_0⟩:=Kd.at_string (Kd.R_reads' HO_5.out).2.2 x7_1 p113 q113
            cases e113
            replace p113:=eq_true p113
            replace q113:=eq_true q113
            go_wp2
            go_ret
            exact ⟨by first | rfl | (simp [u1j,u1i] <;> rfl) | (simp [*,u1j,u1i] <;> rfl),by repeat (first | (with_reducible first | exact HB.out | apply uf | apply ua | apply ug) | exact HB.out)⟩
          · rw [if_neg c8] at H
            have c8b0:(a0.toList == (rdOf ByteArray.empty y110 x7_1).toList) = false:=beq_eq_false_iff_ne.mpr c8
            have c8b1:(a0.toList != (rdOf ByteArray.empty y110 x7_1).toList) = true:=bne_iff_ne.mpr c8
            have H':=Aside0.mk H
            clear H
            have p113:0 ≤ (x7_1:Int):=of_decide_eq_true (by first | (with_reducible assumption) | assumption)
            have q113:x7_1 < (y110.length:Int):=of_decide_eq_true (by first | (with_reducible assumption) | assumption)
            obtain ⟨ad113,e113,hx113_0⟩:=Kd.at_string (Kd.R_reads' HO_5.out).2.2 x7_1 p113 q113
            cases e113
            replace p113:=eq_true p113
            replace q113:=eq_true q113
            go_wp2
            go_roundg k1
            case measure => have:=HK1.out;omega
            case rel => exact ⟨(wrap64 (x7_1 + 1)),(by first | rfl | (simp;done) | (simp [*];done)),H',⟨by have:=HK1.out;omega⟩,⟨by (with_reducible repeat (first | apply Kd.R_alloc | apply Kd.R_drewN | apply Kd.R_drew));exact HO_5.out⟩,⟨by repeat (first | (with_reducible first | exact HB.out | apply uf | apply ua | apply ug) | exact HB.out)⟩⟩
        · rw [if_neg c7] at H
          exact absurd H (by simp)
      · rw [if_neg c6] at H
        exact absurd H (by simp)
    · rw [if_neg c5] at H
      have c5b0:decide (x7_1 < (y110.length:Int)) = false:=decide_eq_false c5
      clear c5
      obtain rfl:=Option.some.inj H
      go_wp2
      go_ret
      exact ⟨by first | rfl | (simp [u1j,u1i] <;> rfl) | (simp [*,u1j,u1i] <;> rfl),by repeat (first | (with_reducible first | exact HB.out | apply uf | apply ua | apply ug) | exact HB.out)⟩
def u2a.j0:Nat → ByteArray → Int → Int → Option (Int × ByteArray × Bool)
 | 0,_,_,_ => none
 | k + 1,x0,x5,x6 => (u1n.f k x0 x5).bind fun t186 => (if t186 < 1 then (some (0,(⟨#[]⟩:ByteArray),false)) else (if t186 > x6 then (some (0,(⟨#[]⟩:ByteArray),false)) else (if 0 ≤ t186 then (if t186 ≤ (x0.size:Int) then ((u1f.f k (x0.extract 0 (t186:Int).toNat) (IntKind.u64.wrap (x5))).bind fun bt187 => (some (bt187.1,x0.extract (t186:Int).toNat x0.size,bt187.2))) else (none)) else (none))))
def u2a.f (k:Nat) (a0:ByteArray):Option (Int × ByteArray × Bool):=(ut.f a0 (⟨#[48,120]⟩:ByteArray)).bind fun t185 => (if t185 = true then (if 2 ≤ (a0.size:Int) then (u2a.j0 k (a0.extract 2 a0.size) 16 16) else (none)) else (u2a.j0 k a0 10 20))
set_option maxHeartbeats 8000000 in
set_option maxRecDepth 100000 in
theorem u2a.calls (k:Nat) (a0:ByteArray) (r1:Int) (r2:ByteArray) (r3:Bool) (w:World) (h:u2a.f k a0 = some (r1,r2,r3)) :
 Calls Tryd.prog 69 #[.string a0] w fun e w' => e = .returned (.tuple #[.int .u64 r1,.string r2,.bool r3]) ∧ us w w':=by
 have H:((ut.f a0 (⟨#[48,120]⟩:ByteArray)).bind fun t185 => (if t185 = true then (if 2 ≤ (a0.size:Int) then (u2a.j0 k (a0.extract 2 a0.size) 16 16) else (none)) else (u2a.j0 k a0 10 20))) = some (r1,r2,r3):=h
 clear h
 replace H:=Option.bind_eq_some_iff.mp H
 obtain ⟨t185,A20,H⟩:=H
 replace H:(if t185 = true then (if 2 ≤ (a0.size:Int) then (u2a.j0 k (a0.extract 2 a0.size) 16 16) else (none)) else (u2a.j0 k a0 10 20)) = some (r1,r2,r3):=H
 have A2:=Aside0.mk A20
 clear A20
 have HC3:=Aside0.mk H
 clear H
 go_enter Tryd.func69,Tryd.ntmps69
 go_upto_if 11 with (first | (go_at_call 35;(with_reducible refine (ut.calls a0 (⟨#[48,120]⟩:ByteArray) t185 _ A2.out).mono ?_);rintro e w' ⟨rfl,⟨nd,rfl⟩⟩;(try first | exact ⟨rfl,_,World.drewN_drewN _ _ _⟩ | exact ⟨rfl,_,Eq.trans (World.drewN_drewN _ _ _) (congrArg (World.drewN _) (Nat.add_assoc _ _ _))⟩)))
 repeat (go_quiet (first | (go_at_call 35;(with_reducible refine (ut.calls a0 (⟨#[48,120]⟩:ByteArray) t185 _ A2.out).mono ?_);rintro e w' ⟨rfl,⟨nd,rfl⟩⟩;(try first | exact ⟨rfl,_,World.drewN_drewN _ _ _⟩ | exact ⟨rfl,_,Eq.trans (World.drewN_drewN _ _ _) (congrArg (World.drewN _) (Nat.add_assoc _ _ _))⟩)));go_upto_if 11 with (first | (go_at_call 35;(with_reducible refine (ut.calls a0 (⟨#[48,120]⟩:ByteArray) t185 _ A2.out).mono ?_);rintro e w' ⟨rfl,⟨nd,rfl⟩⟩;(try first | exact ⟨rfl,_,World.drewN_drewN _ _ _⟩ | exact ⟨rfl,_,Eq.trans (World.drewN_drewN _ _ _) (congrArg (World.drewN _) (Nat.add_assoc _ _ _))⟩))))
 (try simp only [Act.put,List.setIfInBounds_toArray,List.set_cons_zero,List.set_cons_succ])
 go_cut [0,5,6] (fun v0 v5 v6 wc => ∃ (kq:Nat) (x0_2:ByteArray) (x5_2:Int) (x6_2:Int),v0 = .string x0_2 ∧ v5 = .int .i64 x5_2 ∧ v6 = .int .i64 x6_2 ∧ Aside0 (u2a.j0 kq x0_2 x5_2 x6_2 = some (r1,r2,r3)) ∧ Aside0 (kq ≤ k) ∧ us w wc)
 case first =>
  have H:=HC3.out
  clear HC3
  by_cases c4:t185 = true
  · subst c4
    have H1:(if 2 ≤ (a0.size:Int) then (u2a.j0 k (a0.extract 2 a0.size) 16 16) else (none)) = some (r1,r2,r3):=by rw [if_pos rfl] at H;exact H
    clear H
    have H:=H1
    clear H1
    by_cases c5:2 ≤ (a0.size:Int)
    · rw [if_pos c5] at H
      have c5b0:=eq_true c5
      have c5b1:decide (2 ≤ (a0.size:Int)) = true:=decide_eq_true c5
      clear c5
      have H':=Aside0.mk H
      clear H
      go_wp2
      repeat (go_quiet (fail);try go_wp2)
      go_meet
      case rel => exact ⟨_,(a0.extract 2 a0.size),(16),(16),(by first | rfl | (simp;done) | (simp [*];done)),(by first | rfl | (simp;done) | (simp [*];done)),(by first | rfl | (simp;done) | (simp [*];done)),H',⟨by first | omega | exact Nat.le_refl _⟩,by repeat (first | exact us.refl _ | apply us.step)⟩
    · rw [if_neg c5] at H
      exact absurd H (by simp)
  · replace c4:=Bool.eq_false_iff.mpr c4
    subst c4
    have H1:(u2a.j0 k a0 10 20) = some (r1,r2,r3):=by rw [if_neg (show ¬ (false = true) by decide)] at H;exact H
    clear H
    have H:=H1
    clear H1
    have H':=Aside0.mk H
    clear H
    go_wp2
    repeat (go_quiet (fail);try go_wp2)
    go_meet
    case rel => exact ⟨_,(a0),(10),(20),(by first | rfl | (simp;done) | (simp [*];done)),(by first | rfl | (simp;done) | (simp [*];done)),(by first | rfl | (simp;done) | (simp [*];done)),H',⟨by first | omega | exact Nat.le_refl _⟩,by repeat (first | exact us.refl _ | apply us.step)⟩
 case rest =>
  clear HC3
  try clear p2
  try clear c4
  try clear c5
  try clear c5b0
  try clear c5b1
  obtain ⟨kq,x0_2,x5_2,x6_2,rfl,rfl,rfl,HA,HJ2,⟨mc2,rfl⟩⟩:=hcut
  cases kq with
  | zero => exact absurd HA.out (by simp [u2a.j0])
  | succ kj2 =>
    have H:=HA.out
    clear HA
    simp only [u2a.j0] at H
    replace H:=Option.bind_eq_some_iff.mp H
    obtain ⟨t186,A60,H⟩:=H
    replace H:(if t186 < 1 then (some (0,(⟨#[]⟩:ByteArray),false)) else (if t186 > x6_2 then (some (0,(⟨#[]⟩:ByteArray),false)) else (if 0 ≤ t186 then (if t186 ≤ (x0_2.size:Int) then ((u1f.f kj2 (x0_2.extract 0 (t186:Int).toNat) (IntKind.u64.wrap (x5_2))).bind fun bt187 => (some (bt187.1,x0_2.extract (t186:Int).toNat x0_2.size,bt187.2))) else (none)) else (none)))) = some (r1,r2,r3):=H
    have A6:=Aside0.mk A60
    clear A60
    by_cases c7:t186 < 1
    · rw [if_pos c7] at H
      have c7b0:decide (t186 < 1) = true:=decide_eq_true c7
      clear c7
      simp only [Option.some.injEq,Prod.mk.injEq] at H
      obtain ⟨rfl,rfl,rfl⟩:=H
      go_wp2_with (first | (go_at_call 93;(with_reducible refine (u1n.calls kj2 x0_2 x5_2 t186 _ A6.out).mono ?_);rintro e w' ⟨rfl,⟨nd,rfl⟩⟩;(try first | exact ⟨rfl,_,World.drewN_drewN _ _ _⟩ | exact ⟨rfl,_,Eq.trans (World.drewN_drewN _ _ _) (congrArg (World.drewN _) (Nat.add_assoc _ _ _))⟩)))
      repeat (go_quiet (first | (go_at_call 93;(with_reducible refine (u1n.calls kj2 x0_2 x5_2 t186 _ A6.out).mono ?_);rintro e w' ⟨rfl,⟨nd,rfl⟩⟩;(try first | exact ⟨rfl,_,World.drewN_drewN _ _ _⟩ | exact ⟨rfl,_,Eq.trans (World.drewN_drewN _ _ _) (congrArg (World.drewN _) (Nat.add_assoc _ _ _))⟩)));try go_wp2_with (first | (go_at_call 93;(with_reducible refine (u1n.calls kj2 x0_2 x5_2 t186 _ A6.out).mono ?_);rintro e w' ⟨rfl,⟨nd,rfl⟩⟩;(try first | exact ⟨rfl,_,World.drewN_drewN _ _ _⟩ | exact ⟨rfl,_,Eq.trans (World.drewN_drewN _ _ _) (congrArg (World.drewN _) (Nat.add_assoc _ _ _))⟩))))
      go_ret3
      exact ⟨by first | rfl | (simp;done) | (simp [*];done),by repeat (first | exact us.refl _ | apply us.step)⟩
    · rw [if_neg c7] at H
      have c7b0:decide (t186 < 1) = false:=decide_eq_false c7
      clear c7
      by_cases c8:t186 > x6_2
      · rw [if_pos c8] at H
        have c8b0:decide (x6_2 < t186) = true:=decide_eq_true c8
        clear c8
        simp only [Option.some.injEq,Prod.mk.injEq] at H
        obtain ⟨rfl,rfl,rfl⟩:=H
        go_wp2_with (first | (go_at_call 93;(with_reducible refine (u1n.calls kj2 x0_2 x5_2 t186 _ A6.out).mono ?_);rintro e w' ⟨rfl,⟨nd,rfl⟩⟩;(try first | exact ⟨rfl,_,World.drewN_drewN _ _ _⟩ | exact ⟨rfl,_,Eq.trans (World.drewN_drewN _ _ _) (congrArg (World.drewN _) (Nat.add_assoc _ _ _))⟩)))
        repeat (go_quiet (first | (go_at_call 93;(with_reducible refine (u1n.calls kj2 x0_2 x5_2 t186 _ A6.out).mono ?_);rintro e w' ⟨rfl,⟨nd,rfl⟩⟩;(try first | exact ⟨rfl,_,World.drewN_drewN _ _ _⟩ | exact ⟨rfl,_,Eq.trans (World.drewN_drewN _ _ _) (congrArg (World.drewN _) (Nat.add_assoc _ _ _))⟩)));try go_wp2_with (first | (go_at_call 93;(with_reducible refine (u1n.calls kj2 x0_2 x5_2 t186 _ A6.out).mono ?_);rintro e w' ⟨rfl,⟨nd,rfl⟩⟩;(try first | exact ⟨rfl,_,World.drewN_drewN _ _ _⟩ | exact ⟨rfl,_,Eq.trans (World.drewN_drewN _ _ _) (congrArg (World.drewN _) (Nat.add_assoc _ _ _))⟩))))
        go_ret3
        exact ⟨by first | rfl | (simp;done) | (simp [*];done),by repeat (first | exact us.refl _ | apply us.step)⟩
      · rw [if_neg c8] at H
        have c8b0:decide (x6_2 < t186) = false:=decide_eq_false c8
        clear c8
        by_cases c9:0 ≤ t186
        · rw [if_pos c9] at H
          have c9b0:=eq_true c9
          have c9b1:decide (0 ≤ t186) = true:=decide_eq_true c9
          clear c9
          by_cases c10:t186 ≤ (x0_2.size:Int)
          · rw [if_pos c10] at H
            have c10b0:=eq_true c10
            have c10b1:decide (t186 ≤ (x0_2.size:Int)) = true:=decide_eq_true c10
            clear c10
            replace H:=Option.bind_eq_some_iff.mp H
            obtain ⟨⟨t187,t188⟩,A110,H⟩:=H
            replace H:(some (t187,x0_2.extract (t186:Int).toNat x0_2.size,t188)) = some (r1,r2,r3):=H
            have A11:=Aside0.mk A110
            clear A110
            have c12b0:=eq_true (of_decide_eq_true (by first | (with_reducible assumption) | assumption):0 ≤ t186)
            have c13b0:=eq_true (of_decide_eq_true (by first | (with_reducible assumption) | assumption):t186 ≤ (x0_2.size:Int))
            simp only [Option.some.injEq,Prod.mk.injEq] at H
            obtain ⟨rfl,rfl,rfl⟩:=H
            go_wp2_with (first | (go_at_call 93;(with_reducible refine (u1n.calls kj2 x0_2 x5_2 t186 _ A6.out).mono ?_);rintro e w' ⟨rfl,⟨nd,rfl⟩⟩;(try first | exact ⟨rfl,_,World.drewN_drewN _ _ _⟩ | exact ⟨rfl,_,Eq.trans (World.drewN_drewN _ _ _) (congrArg (World.drewN _) (Nat.add_assoc _ _ _))⟩)) | (go_at_call 94;(with_reducible refine (u1f.calls kj2 (x0_2.extract 0 (t186:Int).toNat) (IntKind.u64.wrap (x5_2)) t187 t188 _ A11.out).mono ?_);rintro e w' ⟨rfl,⟨nd,rfl⟩⟩;(try first | exact ⟨rfl,_,World.drewN_drewN _ _ _⟩ | exact ⟨rfl,_,Eq.trans (World.drewN_drewN _ _ _) (congrArg (World.drewN _) (Nat.add_assoc _ _ _))⟩)))
            repeat (go_quiet (first | (go_at_call 93;(with_reducible refine (u1n.calls kj2 x0_2 x5_2 t186 _ A6.out).mono ?_);rintro e w' ⟨rfl,⟨nd,rfl⟩⟩;(try first | exact ⟨rfl,_,World.drewN_drewN _ _ _⟩ | exact ⟨rfl,_,Eq.trans (World.drewN_drewN _ _ _) (congrArg (World.drewN _) (Nat.add_assoc _ _ _))⟩)) | (go_at_call 94;(with_reducible refine (u1f.calls kj2 (x0_2.extract 0 (t186:Int).toNat) (IntKind.u64.wrap (x5_2)) t187 t188 _ A11.out).mono ?_);rintro e w' ⟨rfl,⟨nd,rfl⟩⟩;(try first | exact ⟨rfl,_,World.drewN_drewN _ _ _⟩ | exact ⟨rfl,_,Eq.trans (World.drewN_drewN _ _ _) (congrArg (World.drewN _) (Nat.add_assoc _ _ _))⟩)));try go_wp2_with (first | (go_at_call 93;(with_reducible refine (u1n.calls kj2 x0_2 x5_2 t186 _ A6.out).mono ?_);rintro e w' ⟨rfl,⟨nd,rfl⟩⟩;(try first | exact ⟨rfl,_,World.drewN_drewN _ _ _⟩ | exact ⟨rfl,_,Eq.trans (World.drewN_drewN _ _ _) (congrArg (World.drewN _) (Nat.add_assoc _ _ _))⟩)) | (go_at_call 94;(with_reducible refine (u1f.calls kj2 (x0_2.extract 0 (t186:Int).toNat) (IntKind.u64.wrap (x5_2)) t187 t188 _ A11.out).mono ?_);rintro e w' ⟨rfl,⟨nd,rfl⟩⟩;(try first | exact ⟨rfl,_,World.drewN_drewN _ _ _⟩ | exact ⟨rfl,_,Eq.trans (World.drewN_drewN _ _ _) (congrArg (World.drewN _) (Nat.add_assoc _ _ _))⟩))))
            go_ret3
            exact ⟨by first | rfl | (simp;done) | (simp [*];done),by repeat (first | exact us.refl _ | apply us.step)⟩
          · rw [if_neg c10] at H
            exact absurd H (by simp)
        · rw [if_neg c9] at H
          exact absurd H (by simp)
end Go.Proofs.YtmcpeifhapekoaaDoor.PAll
namespace Go.Proofs.YtmcpeifhapekoaaDoor.Tx
open Go.RowKit Go.Proofs.YtmcpeifhapekoaaDoor.PAll Go.Proofs.YtmcpeifhapekoaaDoorW.PrintWords Go.Proofs.YtmcpeifhapekoaaDoorW.PrintLast
set_option linter.unusedVariables false
set_option linter.unusedSimpArgs false
abbrev Lb:=S37
abbrev B8:=List UInt8
def wordC (c:UInt8):Bool:=Base.letterB (c.toNat:Int) || Base.digitB (c.toNat:Int)
def blankC (c:UInt8):Bool:=decide (c = 32) || decide (c = 9)
def decC (c:UInt8):Bool:=decide (48 ≤ c.toNat) && decide (c.toNat ≤ 57)
def hexC (c:UInt8):Bool:=decC c || (decide (97 ≤ c.toNat) && decide (c.toNat ≤ 102))
def digC (h:Bool) (c:UInt8):Bool:=if h then hexC c else decC c
def digV (c:UInt8):Int:=if 97 ≤ c.toNat then (c.toNat:Int) - 87 else (c.toNat:Int) - 48
def numL (base:Int):B8 → Int → Option Int
 | [],n => some n
 | c :: r,n => if n ≤ (18446744073709551615 - digV c) / base then numL base r (n * base + digV c) else none
def digitsP (h:Bool) (most:Nat) (s:B8):Option (B8 × B8) :=
 if (s.takeWhile (digC h)) ≠ [] ∧ (s.takeWhile (digC h)).length ≤ most then some (s.takeWhile (digC h),s.dropWhile (digC h)) else none
def valueD (h:Bool) (most:Nat) (base:Int) (s:B8):Option (Int × B8):=(digitsP h most s).bind fun p => (numL base p.1 0).map fun n => (n,p.2)
def valueP (s:B8):Option (Int × B8):=match s with
 | 48 :: 120 :: r => valueD true 16 16 r
 | _ => valueD false 20 10 s
def timeP (s:B8):Option (Int × B8):=match s with
 | 45 :: r => (valueD false 19 10 r).bind fun p => if p.1 ≤ 9223372036854775808 then some (-p.1,p.2) else none
 | _ => (valueD false 19 10 s).bind fun p => if p.1 < 9223372036854775808 then some p else none
def nameP (s:B8):Option (ByteArray × B8):=if Base.nameB (Base.ofL (s.takeWhile wordC)) = true then some (Base.ofL (s.takeWhile wordC),s.dropWhile wordC) else none
def expectP (p:B8) (s:B8):Option B8:=if p.isPrefixOf s = true then some (s.drop p.length) else none
def quotedP (s:B8):Option (ByteArray × B8):=match s with
 | [] => none
 | c :: r => if c = 34 then (Base.unqL r []).map fun p => (Base.ofL p.1,p.2) else none
def valP (s:B8):Option (ByteArray × B8):=(expectP [61] s).bind quotedP
def labelP (s:B8):Option (Lb × B8):=(nameP s).bind fun p => (valP p.2).map fun q => (⟨p.1,q.1⟩,q.2)
def labelsP:Nat → List Lb → B8 → Option (List Lb × B8)
 | 0,_,_ => none
 | n + 1,acc,s => match s with
   | 44 :: r => if acc.length ≤ 8 then (labelP r).bind fun p => labelsP n (acc ++ [p.1]) p.2 else none
   | _ => some (acc,s)
def bracesP (s:B8):Option (List Lb × B8):=(expectP [123] s).bind fun r => (labelP r).bind fun p => (labelsP s.length [p.1] p.2).bind fun q => (expectP [125] q.2).map fun t => (q.1,t)
def less (a b:ByteArray):Bool:=Op.bytesLess a.data.toList b.data.toList
def insR (x:Lb):List Lb → List Lb
 | [] => [x]
 | y :: r => if less x.f0 y.f0 = true then y :: insR x r else x :: y :: r
def sortP (l:List Lb):List Lb:=(l.foldl (fun r x => insR x r) []).reverse
def metric:ByteArray:=Base.ofL [95,95,110,97,109,101,95,95]
def headP (s:B8):Option (List Lb × B8):=match s with
 | [] => some ([],[])
 | c :: r => if wordC c = true then (nameP s).map fun p => ([⟨metric,p.1⟩],p.2) else some ([],s)
def restP (l:List Lb) (s:B8):Option (List Lb × B8):=match s with
 | 123 :: _ => (bracesP s).map fun q => (l ++ q.1,q.2)
 | _ => some (l,s)
def labsP (s:B8):Option (List Lb × B8):=(headP s).bind fun p => restP p.1 p.2
def endP (s:B8) (now:Int):Option (Int × Int) :=
 if s.takeWhile blankC = [] then none else (valueP (s.dropWhile blankC)).bind fun p =>
  if p.2.dropWhile blankC = [] then some (now,p.1) else if p.2.takeWhile blankC = [] then none else
   (timeP (p.2.dropWhile blankC)).bind fun q => if q.2.dropWhile blankC = [] then some (q.1,p.1) else none
def addR (x:Lb):List Lb → Option (List Lb)
 | [] => some [x]
 | y :: r => if less x.f0 y.f0 = true then (addR x r).map (y :: ·) else if y.f0 = x.f0 then none else some (x :: y :: r)
def bracesR:Nat → List Lb → B8 → Option (List Lb × B8)
 | 0,_,_ => none
 | n + 1,acc,s => (valP (s.dropWhile wordC)).bind fun q => match q.2 with
   | [] => none
   | c :: t => if acc.length > 8 then none else (addR ⟨Base.ofL (s.takeWhile wordC),q.1⟩ acc).bind fun l => if c = 44 then bracesR n l t else if c = 125 then some (l,t) else none
def rawP:Nat → B8 → Option (List Lb × B8)
 | 0,_ => none
 | n + 1,s => (valP (s.dropWhile wordC)).bind fun q => match q.2 with
   | [] => none
   | c :: t => if c = 44 then (rawP n t).map fun p => (⟨Base.ofL (s.takeWhile wordC),q.1⟩ :: p.1,p.2) else if c = 125 then some ([⟨Base.ofL (s.takeWhile wordC),q.1⟩],t) else none
def addsR:List Lb → List Lb → Option (List Lb)
 | acc,[] => some acc
 | acc,x :: l => (addR x acc).bind fun a => addsR a l
theorem addR_len (x:Lb):∀ (r o:List Lb),addR x r = some o → o.length = r.length + 1
 | [],o,h => by
   cases Option.some.inj h
   rfl
 | y :: r,o,h => by
   unfold addR at h
   split at h
   · cases h1:addR x r with
     | none => rw [h1] at h;cases h
     | some q =>
       rw [h1] at h
       cases Option.some.inj h
       simp [addR_len x r q h1]
   · split at h
     · cases h
     · cases Option.some.inj h
       rfl
theorem bracesR_raw:∀ (n:Nat) (acc:List Lb) (s:B8),bracesR n acc s = (rawP n s).bind fun p => if acc.length + p.1.length ≤ 9 then (addsR acc p.1).map fun l => (l,p.2) else none
 | 0,acc,s => rfl
 | n + 1,acc,s => by
   unfold bracesR rawP
   cases valP (s.dropWhile wordC) with
   | none => rfl
   | some q =>
     obtain ⟨v,t0⟩:=q
     cases t0 with
     | nil => rfl
     | cons c t =>
       simp only [Option.bind_some]
       by_cases h8:acc.length > 8
       · rw [if_pos h8]
         by_cases hc:c = 44
         · rw [if_pos hc]
           cases rawP n t with
           | none => rfl
           | some p =>
             simp only [Option.map_some,Option.bind_some,List.length_cons]
             rw [if_neg (by omega)]
         · rw [if_neg hc]
           by_cases hd:c = 125
           · rw [if_pos hd]
             simp only [Option.bind_some,List.length_singleton]
             rw [if_neg (by omega)]
           · rw [if_neg hd]
             rfl
       · rw [if_neg h8]
         by_cases hc:c = 44
         · simp only [if_pos hc]
           cases ha:addR ⟨Base.ofL (s.takeWhile wordC),v⟩ acc with
           | none =>
             cases rawP n t with
             | none => rfl
             | some p =>
               simp only [Option.map_some,Option.bind_some,Option.bind_none,addsR,ha,Option.map_none]
               split <;> rfl
           | some a =>
             have hl:=addR_len _ _ _ ha
             simp only [Option.bind_some]
             rw [bracesR_raw n a t]
             cases rawP n t with
             | none => rfl
             | some p =>
               simp only [Option.map_some,Option.bind_some,addsR,ha,List.length_cons,hl]
               rw [show acc.length + 1 + p.1.length = acc.length + (p.1.length + 1) by omega]
         · simp only [if_neg hc]
           by_cases hd:c = 125
           · simp only [if_pos hd]
             simp only [Option.bind_some,List.length_singleton]
             rw [if_pos (by omega)]
             cases ha:addR ⟨Base.ofL (s.takeWhile wordC),v⟩ acc with
             | none => simp only [addsR,ha];rfl
             | some a => simp only [addsR,ha];rfl
           · simp only [if_neg hd]
             cases addR ⟨Base.ofL (s.takeWhile wordC),v⟩ acc <;> rfl
abbrev Rw:=S25
abbrev Me:=ByteArray × ByteArray × ByteArray
def helpW:B8:=[35,32,72,69,76,80,32]
def typeW:B8:=[35,32,84,89,80,69,32]
def kinds:List B8:=[[99,111,117,110,116,101,114],[103,97,117,103,101],[104,105,115,116,111,103,114,97,109],[115,117,109,109,97,114,121],[117,110,116,121,112,101,100]]
def knownL (s:B8):Bool:=kinds.contains s
def plainL (s:B8):Bool:=s.all fun c => decide (32 ≤ c.toNat)
def me0:Me:=(Base.ofL [],Base.ofL [],Base.ofL [])
def remarkP (s:B8):Option Me:=if (helpW.isPrefixOf s || typeW.isPrefixOf s) = true then
    (nameP (s.drop 7)).bind fun p => (expectP [32] p.2).bind fun r => if typeW.isPrefixOf s = true then (if knownL r = true then some (p.1,Base.ofL r,Base.ofL []) else none) else if plainL r = true then some (p.1,Base.ofL [],Base.ofL r) else none
 else some me0
def sampleP (can:List Lb → Bool) (s:B8) (now:Int):Option Rw:=(labsP s).bind fun p => if can (sortP p.1) = true then (endP p.2 now).map fun q => ⟨sortP p.1,q.1,q.2⟩ else none
def readP (can:List Lb → Bool) (s:B8) (now:Int):Option Rw × Me × Int :=
 if s.length > 1000 then (none,me0,4) else if s.contains 10 = true then (none,me0,280) else match s with
  | 35 :: _ => (match remarkP s with | none => (none,me0,280) | some m => (none,m,0))
  | _ => if s.all blankC = true then (none,me0,0) else match sampleP can s now with | none => (none,me0,280) | some r => (some r,me0,0)
theorem tw_step {α:Type} (p:α → Bool):∀ (s:List α) (i:Nat) (h:i ≤ (s.takeWhile p).length) (hi:i < s.length),(p s[i] = true → i + 1 ≤ (s.takeWhile p).length) ∧ (p s[i] = false → i = (s.takeWhile p).length)
 | c :: s,i,h,hi => by
   by_cases hc:p c = true
   · rw [List.takeWhile_cons,if_pos hc,List.length_cons] at h ⊢
     cases i with
     | zero => exact ⟨fun _ => by omega,fun h9 => by rw [List.getElem_cons_zero,hc] at h9;cases h9⟩
     | succ i =>
       obtain ⟨g1,g2⟩:=tw_step p s i (by omega) (by rw [List.length_cons] at hi;omega)
       rw [List.getElem_cons_succ]
       exact ⟨fun h9 => by have:=g1 h9;omega,fun h9 => by have:=g2 h9;omega⟩
   · rw [List.takeWhile_cons,if_neg hc,List.length_nil] at h ⊢
     obtain rfl:i = 0:=by omega
     rw [List.getElem_cons_zero]
     exact ⟨fun h9 => absurd h9 hc,fun _ => rfl⟩
theorem tw_le {α:Type} (p:α → Bool):∀ s:List α,(s.takeWhile p).length ≤ s.length
 | [] => Nat.le_refl _
 | c :: s => by
   have:=tw_le p s
   rw [List.takeWhile_cons]
   split
   · rw [List.length_cons,List.length_cons]
     omega
   · exact Nat.zero_le _
theorem tw_take {α:Type} (p:α → Bool):∀ s:List α,s.take (s.takeWhile p).length = s.takeWhile p ∧ s.drop (s.takeWhile p).length = s.dropWhile p
 | [] => ⟨rfl,rfl⟩
 | c :: s => by
   obtain ⟨h1,h2⟩:=tw_take p s
   rw [List.takeWhile_cons,List.dropWhile_cons]
   by_cases hc:p c = true
   · rw [if_pos hc,if_pos hc,List.length_cons,List.take_succ_cons,List.drop_succ_cons,h1,h2]
     exact ⟨rfl,rfl⟩
   · rw [if_neg hc,if_neg hc]
     exact ⟨rfl,rfl⟩
theorem cut_ofL (s:B8) (n:Nat) (h:n ≤ s.length):(Base.ofL s).extract 0 n = Base.ofL (s.take n) ∧ (Base.ofL s).extract n (Base.ofL s).size = Base.ofL (s.drop n) ∧ (Base.ofL s).size = s.length:=by
 refine ⟨Base.ext_data ?_,Base.ext_data ?_,?_⟩
 · rw [Base.extract_list,Base.ofL_data,Base.ofL_data,List.drop_zero,Nat.sub_zero]
 · rw [Base.extract_rest,Base.ofL_data,Base.ofL_data]
 · rw [← u3c,Base.ofL_data]
theorem insR_pass (x:Lb):∀ (A R:List Lb),(∀ y ∈ A,less x.f0 y.f0 = true) → insR x (A ++ R) = A ++ insR x R
 | [],R,_ => rfl
 | y :: A,R,h => by
   rw [List.cons_append,List.cons_append]
   conv => lhs;unfold insR
   rw [if_pos (h y (List.mem_cons_self ..)),insR_pass x A R (fun z hz => h z (List.mem_cons_of_mem _ hz))]
theorem insR_stop (x:Lb) (R:List Lb) (h:∀ y,R.head? = some y → ¬ less x.f0 y.f0 = true):insR x R = x :: R:=by
 cases R with
 | nil => rfl
 | cons y R =>
   unfold insR
   rw [if_neg (h y rfl)]
def sortedTo (l:List Lb) (i:Nat):List Lb:=((l.take i).foldl (fun r x => insR x r) []).reverse
theorem sortedTo_all (l:List Lb):sortedTo l l.length = sortP l:=by
 unfold sortedTo sortP
 rw [List.take_length]
theorem sortedTo_next (l:List Lb) (i:Nat) (hi:i < l.length) (a b:List Lb) (hab:sortedTo l i = a ++ b) (hb:∀ y ∈ b,less l[i].f0 y.f0 = true) (ha:∀ y,a.getLast? = some y → ¬ less l[i].f0 y.f0 = true):sortedTo l (i + 1) = a ++ l[i] :: b:=by
 unfold sortedTo at hab ⊢
 rw [List.take_succ_eq_append_getElem hi,List.foldl_append]
 have e:(l.take i).foldl (fun r x => insR x r) [] = b.reverse ++ a.reverse:=by
  rw [← List.reverse_append,← hab,List.reverse_reverse]
 rw [e]
 show (insR l[i] (b.reverse ++ a.reverse)).reverse = _
 rw [insR_pass _ _ _ (fun y hy => hb y (List.mem_reverse.1 hy)),insR_stop _ _ (fun y hy => ha y (by rw [List.head?_reverse] at hy;exact hy))]
 simp
theorem sortedTo_len (l:List Lb) (i:Nat) (hi:i ≤ l.length):(sortedTo l i).length = i:=by
 have ins_len:∀ (x:Lb) (r:List Lb),(insR x r).length = r.length + 1:=fun x r => by
  induction r with
  | nil => rfl
  | cons y r ih =>
    unfold insR
    split
    · rw [List.length_cons,ih,List.length_cons]
    · rfl
 have:∀ (m r:List Lb),(m.foldl (fun r x => insR x r) r).length = r.length + m.length:=fun m => by
  induction m with
  | nil => exact fun r => rfl
  | cons x m ih =>
    intro r
    rw [List.foldl_cons,ih,ins_len,List.length_cons]
    omega
 unfold sortedTo
 rw [List.length_reverse,this,List.length_take,List.length_nil]
 omega
end Go.Proofs.YtmcpeifhapekoaaDoor.Tx
namespace Go.Proofs.YtmcpeifhapekoaaDoor.PAll
open Go.RowKit Go.Proofs.YtmcpeifhapekoaaDoorW.PrintWords Go.Proofs.YtmcpeifhapekoaaDoorW.PrintLast Go.Proofs.YtmcpeifhapekoaaDoorW.PrintMore
attribute [local go_sem] max2_int min2_int max_two min_two max_three min_three max_four min_four
set_option linter.unusedVariables false
set_option linter.unusedSimpArgs false
def u2w.badB (c:Int):Bool:=decide (c < 32)
theorem u2w.test (c:Int) (w:World):Calls Tryd.prog 80 #[.int .u8 c] w fun e w' => e = .returned (.bool (u2w.badB c)) ∧ us w w':=by
 unfold u2w.badB
 go_enter Tryd.func80,Tryd.ntmps80
 go_wp2
 go_ret
 exact ⟨rfl,⟨0,rfl⟩⟩
set_option maxHeartbeats 1000000 in
theorem u2w.index (A:Option Addr) (c:Nat) (l:List Int) (w:World) (hr:Kd.C (Kd.int .u8) w A l.length l) (hm:l.length ≤ 140737488355328) :
 Calls Tryd.prog 101 #[.slice A l.length c,.func (.func 80) #[] #[]] w fun e w' => (∃ i:Int,e = .returned (.int .i64 i) ∧ decide (0 ≤ i) = l.any u2w.badB) ∧ us w w':=by
 have HR:=Aside0.mk hr
 clear hr
 go_enter Tryd.func101,Tryd.ntmps101
 go_wp2
 go_loopg [8] (l.length) (fun kq v8 w' => ∃ (x:Nat),x ≤ l.length ∧ v8 = .int .i64 x ∧ Aside0 ((l.take x).any u2w.badB = false) ∧ l.length ≤ kq + x ∧ us w w')
 case atStart => exact ⟨0,by omega,rfl,⟨rfl⟩,by omega,us.refl _⟩
 case round =>
  obtain ⟨x,hx,rfl,HN,hk,⟨m1,rfl⟩⟩:=hrel
  by_cases hlt:x < l.length
  · obtain ⟨ad,e,hc⟩:=Kd.at_int HR.out (x:Int) (by omega) (by omega)
    subst e
    have hc2:w.cell? (ad.add x) = some (.int .u8 (rd l x)):=by simpa using hc
    clear hc
    have htk:l.take (x + 1) = l.take x ++ [rd l x]:=by
     rw [List.take_succ_eq_append_getElem hlt]
     simp [rd,List.getD_eq_getElem?_getD,hlt]
    have HT:=Aside0.mk htk
    clear htk
    cases hb:u2w.badB (rd l x) with
    | true =>
      go_wp2_with (go_at_call 80;refine (u2w.test _ _).mono ?_;rintro e W1 ⟨rfl,⟨nd,rfl⟩⟩)
      go_ret
      refine ⟨⟨_,rfl,?_⟩,⟨_,rfl⟩⟩
      have h1:l.any u2w.badB = true:=by
       rw [List.any_eq_true]
       refine ⟨rd l x,?_,hb⟩
       have h2:rd l x ∈ l.take (x + 1):=by rw [HT.out];simp
       exact List.mem_of_mem_take h2
      rw [h1]
      simp
    | false =>
      go_wp2_with (go_at_call 80;refine (u2w.test _ _).mono ?_;rintro e W1 ⟨rfl,⟨nd,rfl⟩⟩)
      obtain ⟨g1,rfl⟩:∃ g1,gk = g1 + 1:=⟨gk - 1,by omega⟩
      go_roundg g1
      case rel =>
       refine ⟨x + 1,by omega,by go_num,⟨?_⟩,by omega,⟨_,rfl⟩⟩
       rw [HT.out,List.any_append,HN.out]
       simp [hb]
      case measure => omega
  · go_wp2
    go_ret
    refine ⟨⟨_,rfl,?_⟩,⟨_,rfl⟩⟩
    have h1:=HN.out
    rw [List.take_of_length_le (by omega)] at h1
    rw [h1]
    simp
theorem u2w.contains (A:Option Addr) (c:Nat) (l:List Int) (w:World) (hr:Kd.C (Kd.int .u8) w A l.length l) (hm:l.length ≤ 140737488355328) :
 Calls Tryd.prog 79 #[.slice A l.length c,.func (.func 80) #[] #[]] w fun e w' => e = .returned (.bool (l.any u2w.badB)) ∧ us w w':=by
 go_enter Tryd.func79,Tryd.ntmps79
 go_wp2_with (go_at_call 101;refine (u2w.index _ _ _ _ hr hm).mono ?_;rintro e W1 ⟨⟨i,rfl,hi⟩,⟨nd,rfl⟩⟩)
 go_ret
 exact ⟨by simp,⟨_,rfl⟩⟩
theorem u2w.contains_n (A:Option Addr) (c n:Nat) (l:List Int) (w:World) (hn:l.length = n) (hr:Kd.C (Kd.int .u8) w A n l) (hm:n ≤ 140737488355328) :
 Calls Tryd.prog 79 #[.slice A n c,.func (.func 80) #[] #[]] w fun e w' => e = .returned (.bool (l.any u2w.badB)) ∧ us w w':=by
 subst hn
 exact u2w.contains A c l w hr hm
set_option maxHeartbeats 1000000 in
theorem u2w.calls (s:List UInt8) (hl:s.length ≤ 1000) (w:World) :
 Calls Tryd.prog 47 #[.string (Base.ofL s)] w fun e w' => e = .returned (.bool (Tx.plainL s)) ∧ Below w.heap.size w w':=by
 obtain ⟨a0,ha⟩:∃ a0,a0 = Base.ofL s:=⟨_,rfl⟩
 have hsz:a0.size = s.length:=by rw [ha];exact (Tx.cut_ofL s 0 (by omega)).2.2
 have HV:Aside0 (Tx.plainL s = !(u2y a0).any u2w.badB):=⟨by
  unfold Tx.plainL u2y
  rw [ha,Base.ofL_data,List.all_eq_not_any_not,List.any_map]
  congr 2
  funext c
  unfold u2w.badB
  simp only [Function.comp]
  rw [Bool.eq_iff_iff]
  simp
  omega⟩
 rw [← ha,HV.out]
 clear HV ha
 have hsz2:a0.size ≤ 1000:=by omega
 clear hsz hl
 have kb:=fun W => print_bytes (P:=Tryd.prog) 9 42 5 Tryd.underlying9 Tryd.underlying42 Tryd.underlying5 a0 W
 have hr:=Aside0.mk (bytes_reads w 5 a0 (by omega))
 have hc:Aside0 (Kd.C (Kd.int .u8) (Lib.bytesWorld w 5 a0) (some ⟨w.heap.size,0,none⟩) a0.size (u2y a0)):=⟨Kd.C_of_reads (d:=(0:Int)) (h1:=fun _ => rfl) hr.out⟩
 go_enter Tryd.func47,Tryd.ntmps47
 go_wp2_with (go_at_call 79;refine (u2w.contains_n _ _ _ _ _ (bytesOf_length a0) hc.out (by omega)).mono ?_;rintro e W2 ⟨rfl,⟨md,rfl⟩⟩)
 go_ret
 exact ⟨rfl,ua (bytes_below (Below.refl _ _) (Nat.le_refl _) _ _) md⟩
theorem u1l.fin_named:∀ n:Fin 256,text_named.f (n.val:Int) = some (Tx.wordC (UInt8.ofNat n.val)):=by decide +kernel
theorem u1l.fin_blank:∀ n:Fin 256,text_blank.f (n.val:Int) = some (Tx.blankC (UInt8.ofNat n.val)):=by decide +kernel
theorem u1l.is_named (c:UInt8):text_named.f (c.toNat:Int) = some (Tx.wordC c):=by
 have:=u1l.fin_named ⟨c.toNat,c.toNat_lt⟩
 rwa [UInt8.ofNat_toNat] at this
theorem u1l.is_blank (c:UInt8):text_blank.f (c.toNat:Int) = some (Tx.blankC c):=by
 have:=u1l.fin_blank ⟨c.toNat,c.toNat_lt⟩
 rwa [UInt8.ofNat_toNat] at this
theorem u1l.test_named (c:UInt8) (z:Int) (hz:(c.toNat:Int) = z) (W:World):Calls Tryd.prog 55 #[.int .u8 z] W fun e W' => e = .returned (.bool (Tx.wordC c)) ∧ us W W':=by
 subst hz
 exact text_named.calls _ _ _ (u1l.is_named c)
theorem u1l.test_blank (c:UInt8) (z:Int) (hz:(c.toNat:Int) = z) (W:World):Calls Tryd.prog 62 #[.int .u8 z] W fun e W' => e = .returned (.bool (Tx.blankC c)) ∧ us W W':=by
 subst hz
 exact text_blank.calls _ _ _ (u1l.is_blank c)
set_option maxRecDepth 100000 in
theorem u1l.test_dig (hxb:Bool) (hb:Nat) (c:UInt8) (z:Int) (hz:(c.toNat:Int) = z) (W:World) (hcb:W.heap[hb]? = some (.cells #[.bool hxb] 4 (0,0))):Calls Tryd.prog 109 #[.int .u8 z,.pointer (some ⟨hb,0,none⟩)] W fun e W' => e = .returned (.bool (Tx.digC hxb c)) ∧ us W W':=by
 subst hz
 have h0:=uj hcb 0
 simp only [List.size_toArray,List.length_cons,List.length_nil,List.getElem?_toArray,List.getElem?_cons_zero] at h0
 clear hcb
 obtain ⟨n,hn⟩:∃ n:Nat,n = c.toNat:=⟨_,rfl⟩
 have HB:Aside0 (Tx.digC hxb c = if hxb = true then ((decide (48 ≤ n) && decide (n ≤ 57)) || (decide (97 ≤ n) && decide (n ≤ 102))) else (decide (48 ≤ n) && decide (n ≤ 57))):=⟨by rw [hn];rfl⟩
 rw [HB.out,← hn]
 clear hn HB
 by_cases h1:48 ≤ n
 · by_cases h2:n ≤ 57
   · have h3:¬ 97 ≤ n:=by omega
     cases hxb <;> (go_enter Tryd.func109,Tryd.ntmps109;go_wp2;go_ret;exact ⟨by first | (simp [h1,h2];done) | (simp [h1,h2];omega),0,rfl⟩)
   · by_cases h3:97 ≤ n
     · by_cases h4:n ≤ 102
       · cases hxb <;> (go_enter Tryd.func109,Tryd.ntmps109;go_wp2;go_ret;exact ⟨by first | (simp [h1,h2,h3,h4];done) | (simp [h1,h2,h3,h4];omega),0,rfl⟩)
       · cases hxb <;> (go_enter Tryd.func109,Tryd.ntmps109;go_wp2;go_ret;exact ⟨by first | (simp [h1,h2,h3,h4];done) | (simp [h1,h2,h3,h4];omega),0,rfl⟩)
     · cases hxb <;> (go_enter Tryd.func109,Tryd.ntmps109;go_wp2;go_ret;exact ⟨by first | (simp [h1,h2,h3];done) | (simp [h1,h2,h3];omega),0,rfl⟩)
 · have h3:¬ 97 ≤ n:=by omega
   cases hxb <;> (go_enter Tryd.func109,Tryd.ntmps109;go_wp2;go_ret;exact ⟨by first | (simp [h1,h3];done) | (simp [h1,h3];omega),0,rfl⟩)
theorem u1l.fin (p:UInt8 → Bool) {w0 W:World} {g:Nat} {s:List UInt8} (h:ud.St w0 W g s) (x n:Nat) (hx:x = (s.takeWhile p).length):Ending.returned (.string ((Base.ofL s).extract 0 x)) = .returned (.string (Base.ofL (s.takeWhile p))) ∧
 ud.St w0 ((W.drewN n).setCell ⟨g,0,none⟩ (.string ((Base.ofL s).extract x s.length))) g (s.dropWhile p) ∧ u1y W ((W.drewN n).setCell ⟨g,0,none⟩ (.string ((Base.ofL s).extract x s.length))) g none:=by
 have hle:=Tx.tw_le p s
 obtain ⟨c1,c2,c3⟩:=Tx.cut_ofL s x (by omega)
 obtain ⟨t1,t2⟩:=Tx.tw_take p s
 rw [← hx] at t1 t2
 rw [c3] at c2
 rw [c1,c2,t1,t2]
 exact ⟨rfl,(h.drew n).set _,(u1y.of_below (ua (Below.refl _ _) n) g none).set_ 0 _⟩
set_option maxHeartbeats 1000000 in
set_option maxRecDepth 100000 in
theorem u1l.calls_named (w0 W:World) (g:Nat) (s:List UInt8) (hl:s.length ≤ 4611686018427387904) (h:ud.St w0 W g s) :
 Calls Tryd.prog 61 #[.pointer (some ⟨g,0,none⟩),.func (.func 55) #[] #[]] W fun e W' => e = .returned (.string (Base.ofL (s.takeWhile Tx.wordC))) ∧ ud.St w0 W' g (s.dropWhile Tx.wordC) ∧ u1y W W' g none:=by
 have HS:=Aside0.mk h
 obtain ⟨h0,f0⟩:=h.look
 clear h
 have hsz:(Base.ofL s).size = s.length:=(Tx.cut_ofL s 0 (by omega)).2.2
 go_enter Tryd.func61,Tryd.ntmps61
 go_wp2
 go_loopg [5] (s.length) (fun kq vn wr => ∃ (x:Nat),x ≤ (s.takeWhile Tx.wordC).length ∧ vn = .int .i64 x ∧ s.length ≤ kq + x ∧ us W wr)
 case atStart => exact ⟨0,by omega,rfl,by omega,us.refl _⟩
 case round =>
  obtain ⟨x,hx,rfl,hk,⟨m1,rfl⟩⟩:=hrel
  have hle:=Tx.tw_le Tx.wordC s
  by_cases hlt:x < s.length
  · have hst:=Tx.tw_step Tx.wordC s x hx hlt
    obtain ⟨z,HZ⟩:∃ z:Int,Aside0 ((s[x].toNat:Int) = z):=⟨_,⟨rfl⟩⟩
    have hbt:(((Base.ofL s)[x]'(by rw [hsz];exact hlt)).toNat:Int) = z:=HZ.out
    cases hp:Tx.wordC s[x] with
    | true =>
      have hx1:=hst.1 hp
      clear hst
      go_wp2_with (go_at_call 55;refine (u1l.test_named _ _ HZ.out _).mono ?_;rintro e W1 ⟨rfl,⟨nd,rfl⟩⟩)
      obtain ⟨g1,rfl⟩:∃ g1,gk = g1 + 1:=⟨gk - 1,by omega⟩
      go_roundg g1
      case rel => exact ⟨x + 1,hx1,by go_num,by omega,⟨_,rfl⟩⟩
      case measure => omega
    | false =>
      have HX:=Aside0.mk (hst.2 hp)
      clear hst
      go_wp2_with (go_at_call 55;refine (u1l.test_named _ _ HZ.out _).mono ?_;rintro e W1 ⟨rfl,⟨nd,rfl⟩⟩)
      go_ret
      exact u1l.fin Tx.wordC HS.out x _ HX.out
  · have HX:Aside0 (x = (s.takeWhile Tx.wordC).length):=⟨by omega⟩
    go_wp2
    go_ret
    exact u1l.fin Tx.wordC HS.out x _ HX.out
set_option maxHeartbeats 1000000 in
set_option maxRecDepth 100000 in
theorem u1l.calls_blank (w0 W:World) (g:Nat) (s:List UInt8) (hl:s.length ≤ 4611686018427387904) (h:ud.St w0 W g s) :
 Calls Tryd.prog 61 #[.pointer (some ⟨g,0,none⟩),.func (.func 62) #[] #[]] W fun e W' => e = .returned (.string (Base.ofL (s.takeWhile Tx.blankC))) ∧ ud.St w0 W' g (s.dropWhile Tx.blankC) ∧ u1y W W' g none:=by
 have HS:=Aside0.mk h
 obtain ⟨h0,f0⟩:=h.look
 clear h
 have hsz:(Base.ofL s).size = s.length:=(Tx.cut_ofL s 0 (by omega)).2.2
 go_enter Tryd.func61,Tryd.ntmps61
 go_wp2
 go_loopg [5] (s.length) (fun kq vn wr => ∃ (x:Nat),x ≤ (s.takeWhile Tx.blankC).length ∧ vn = .int .i64 x ∧ s.length ≤ kq + x ∧ us W wr)
 case atStart => exact ⟨0,by omega,rfl,by omega,us.refl _⟩
 case round =>
  obtain ⟨x,hx,rfl,hk,⟨m1,rfl⟩⟩:=hrel
  have hle:=Tx.tw_le Tx.blankC s
  by_cases hlt:x < s.length
  · have hst:=Tx.tw_step Tx.blankC s x hx hlt
    obtain ⟨z,HZ⟩:∃ z:Int,Aside0 ((s[x].toNat:Int) = z):=⟨_,⟨rfl⟩⟩
    have hbt:(((Base.ofL s)[x]'(by rw [hsz];exact hlt)).toNat:Int) = z:=HZ.out
    cases hp:Tx.blankC s[x] with
    | true =>
      have hx1:=hst.1 hp
      clear hst
      go_wp2_with (go_at_call 62;refine (u1l.test_blank _ _ HZ.out _).mono ?_;rintro e W1 ⟨rfl,⟨nd,rfl⟩⟩)
      obtain ⟨g1,rfl⟩:∃ g1,gk = g1 + 1:=⟨gk - 1,by omega⟩
      go_roundg g1
      case rel => exact ⟨x + 1,hx1,by go_num,by omega,⟨_,rfl⟩⟩
      case measure => omega
    | false =>
      have HX:=Aside0.mk (hst.2 hp)
      clear hst
      go_wp2_with (go_at_call 62;refine (u1l.test_blank _ _ HZ.out _).mono ?_;rintro e W1 ⟨rfl,⟨nd,rfl⟩⟩)
      go_ret
      exact u1l.fin Tx.blankC HS.out x _ HX.out
  · have HX:Aside0 (x = (s.takeWhile Tx.blankC).length):=⟨by omega⟩
    go_wp2
    go_ret
    exact u1l.fin Tx.blankC HS.out x _ HX.out
set_option maxHeartbeats 1000000 in
set_option maxRecDepth 100000 in
theorem u1l.calls_dig (hxb:Bool) (hb:Nat) (w0 W:World) (g:Nat) (s:List UInt8) (hl:s.length ≤ 4611686018427387904) (hcb:W.heap[hb]? = some (.cells #[.bool hxb] 4 (0,0))) (hbg:hb ≠ g) (h:ud.St w0 W g s) :
 Calls Tryd.prog 61 #[.pointer (some ⟨g,0,none⟩),.func (.func 109) #[] #[.pointer (some ⟨hb,0,none⟩)]] W fun e W' => e = .returned (.string (Base.ofL (s.takeWhile (Tx.digC hxb)))) ∧ ud.St w0 W' g (s.dropWhile (Tx.digC hxb)) ∧ u1y W W' g none:=by
 have HS:=Aside0.mk h
 have HB:=Aside0.mk hcb
 clear hcb
 obtain ⟨h0,f0⟩:=h.look
 clear h
 have hsz:(Base.ofL s).size = s.length:=(Tx.cut_ofL s 0 (by omega)).2.2
 go_enter Tryd.func61,Tryd.ntmps61
 go_wp2
 go_loopg [5] (s.length) (fun kq vn wr => ∃ (x:Nat),x ≤ (s.takeWhile (Tx.digC hxb)).length ∧ vn = .int .i64 x ∧ s.length ≤ kq + x ∧ us W wr)
 case atStart => exact ⟨0,by omega,rfl,by omega,us.refl _⟩
 case round =>
  obtain ⟨x,hx,rfl,hk,⟨m1,rfl⟩⟩:=hrel
  have hle:=Tx.tw_le (Tx.digC hxb) s
  by_cases hlt:x < s.length
  · have hst:=Tx.tw_step (Tx.digC hxb) s x hx hlt
    obtain ⟨z,HZ⟩:∃ z:Int,Aside0 ((s[x].toNat:Int) = z):=⟨_,⟨rfl⟩⟩
    have hbt:(((Base.ofL s)[x]'(by rw [hsz];exact hlt)).toNat:Int) = z:=HZ.out
    cases hp:(Tx.digC hxb) s[x] with
    | true =>
      have hx1:=hst.1 hp
      clear hst
      go_wp2_with (go_at_call 109;refine (u1l.test_dig hxb hb _ _ HZ.out _ (by exact HB.out)).mono ?_;rintro e W1 ⟨rfl,⟨nd,rfl⟩⟩)
      obtain ⟨g1,rfl⟩:∃ g1,gk = g1 + 1:=⟨gk - 1,by omega⟩
      go_roundg g1
      case rel => exact ⟨x + 1,hx1,by go_num,by omega,⟨_,rfl⟩⟩
      case measure => omega
    | false =>
      have HX:=Aside0.mk (hst.2 hp)
      clear hst
      go_wp2_with (go_at_call 109;refine (u1l.test_dig hxb hb _ _ HZ.out _ (by exact HB.out)).mono ?_;rintro e W1 ⟨rfl,⟨nd,rfl⟩⟩)
      go_ret
      exact u1l.fin (Tx.digC hxb) HS.out x _ HX.out
  · have HX:Aside0 (x = (s.takeWhile (Tx.digC hxb)).length):=⟨by omega⟩
    go_wp2
    go_ret
    exact u1l.fin (Tx.digC hxb) HS.out x _ HX.out
theorem u2q.calls_ok (w0 W:World) (g:Nat) (s:List UInt8) (hl:s.length ≤ 4611686018427387904) (n:ByteArray) (r:List UInt8) (hn:Tx.nameP s = some (n,r)) (h:ud.St w0 W g s) :
 Calls Tryd.prog 43 #[.pointer (some ⟨g,0,none⟩)] W fun e W' => e = .returned (.string n) ∧ ud.St w0 W' g r ∧ u1y W W' g none:=by
 unfold Tx.nameP at hn
 split at hn
 · rename_i hN
   obtain ⟨rfl,rfl⟩:=Prod.mk.inj (Option.some.inj hn)
   have HS:=Aside0.mk h
   have HN:Aside0 (u1z.f (Base.ofL (s.takeWhile Tx.wordC)) = some true):=⟨congrArg some hN⟩
   clear h hN hn
   go_enter Tryd.func43,Tryd.ntmps43
   go_wp2_with (first
    | (go_at_call 61;(with_reducible refine (u1l.calls_named w0 _ g s hl HS.out).mono ?_);rintro e W1 ⟨rfl,hs1,hk1⟩;have HS1:=Aside0.mk hs1;have HK1:=Aside0.mk hk1;clear hs1 hk1)
    | (go_at_call 77;(with_reducible refine (u1z.calls _ true _ HN.out).mono ?_);rintro e W2 ⟨rfl,hb⟩;have HB:=Aside0.mk hb;clear hb)
    | (go_at_call 45;(with_reducible refine (u2l.calls_ok _).mono ?_);rintro e W3 ⟨rfl,rfl⟩))
   go_ret
   exact ⟨rfl,HS1.out.more HB.out,HK1.out.trans (u1y.of_below HB.out g none) (Or.inl rfl)⟩
 · cases hn
theorem u2q.calls_no (w0 W:World) (g:Nat) (s:List UInt8) (hl:s.length ≤ 4611686018427387904) (hn:Tx.nameP s = none) (h:ud.St w0 W g s) :
 Calls Tryd.prog 43 #[.pointer (some ⟨g,0,none⟩)] W fun e W' => e = .panicked (u2p.chain 280) ∧ Below w0.heap.size w0 W':=by
 unfold Tx.nameP at hn
 split at hn
 · cases hn
 · rename_i hN
   have HS:=Aside0.mk h
   have HN:Aside0 (u1z.f (Base.ofL (s.takeWhile Tx.wordC)) = some false):=⟨congrArg some (show Base.nameB (Base.ofL (s.takeWhile Tx.wordC)) = false by simpa using hN)⟩
   clear h hN hn
   go_enter Tryd.func43,Tryd.ntmps43
   go_wp2_with (first
    | (go_at_call 61;(with_reducible refine (u1l.calls_named w0 _ g s hl HS.out).mono ?_);rintro e W1 ⟨rfl,hs1,hk1⟩;have HS1:=Aside0.mk hs1;clear hs1 hk1)
    | (go_at_call 77;(with_reducible refine (u1z.calls _ false _ HN.out).mono ?_);rintro e W2 ⟨rfl,hb⟩;have HB:=Aside0.mk hb;clear hb)
    | (go_at_call 45;(with_reducible refine (u2l.calls_no _).mono ?_);rintro e W3 ⟨rfl,rfl⟩))
   exact ⟨rfl,rfl,(HS1.out.more HB.out).below⟩
theorem u1r.txt (d:List UInt8):(Base.ofL d).size = d.length ∧ (d ≠ [] → (Base.ofL d).toList.isEmpty = false ∧ ¬ (Base.ofL d).toList = []) ∧ (d = [] → (Base.ofL d).toList.isEmpty = true ∧ (Base.ofL d).toList = []):=by
 refine ⟨(Tx.cut_ofL d 0 (by omega)).2.2,fun h => ?_,fun h => ?_⟩
 · rw [ByteArray.toList_eq,Base.ofL_data]
   cases d with
   | nil => exact absurd rfl h
   | cons c r => exact ⟨rfl,fun e => by cases e⟩
 · rw [ByteArray.toList_eq,Base.ofL_data,h]
   exact ⟨rfl,rfl⟩
set_option maxRecDepth 100000 in
set_option maxHeartbeats 1000000 in
theorem u1r.calls_ok (w0 W:World) (g:Nat) (hxb:Bool) (most:Nat) (s:List UInt8) (hl:s.length ≤ 1000) (hm:most ≤ 1000) (d r:List UInt8) (hd:Tx.digitsP hxb most s = some (d,r)) (h:ud.St w0 W g s) :
 Calls Tryd.prog 90 #[.pointer (some ⟨g,0,none⟩),.int .i64 (most:Int),.bool hxb] W fun e W' => e = .returned (.string (Base.ofL d)) ∧ ud.St w0 W' g r ∧ u1y W W' g none:=by
 have hmf:∀ (fn:Fn) (first cap:Array Value) (w:World),(Instr.makeFunc fn first cap).run Tryd.prog w = .ok (.func fn first cap) w:=fun _ _ _ _ => rfl
 unfold Tx.digitsP at hd
 split at hd
 · rename_i hc
   obtain ⟨rfl,rfl⟩:=Prod.mk.inj (Option.some.inj hd)
   have HS:=Aside0.mk h
   have HG:=Aside0.mk h.lt
   obtain ⟨t1,t2,_⟩:=u1r.txt (s.takeWhile (Tx.digC hxb))
   obtain ⟨t3,t4⟩:=t2 hc.1
   have t5:decide (((s.takeWhile (Tx.digC hxb)).length:Int) ≤ (most:Int)) = true:=decide_eq_true (by have:=hc.2;omega)
   have t6:decide ((s.takeWhile (Tx.digC hxb)).length ≤ most) = true:=decide_eq_true hc.2
   clear h hd t2 hc
   go_enter Tryd.func90,Tryd.ntmps90
   go_wp2_with (first
    | (go_at_call 61;(with_reducible refine (u1l.calls_dig hxb W.heap.size w0 _ g s (by omega) (by exact ud.new_at W _) (by have:=HG.out;omega) (by exact HS.out.one_more _)).mono ?_);rintro e W1 ⟨rfl,hs1,hk1⟩;have HS1:=Aside0.mk hs1;have HK1:=Aside0.mk hk1;clear hs1 hk1)
    | (go_at_call 45;(with_reducible refine (u2l.calls_ok _).mono ?_);rintro e W3 ⟨rfl,rfl⟩))
   go_ret
   exact ⟨rfl,HS1.out,ud.keep_from HK1.out⟩
 · cases hd
set_option maxRecDepth 100000 in
set_option maxHeartbeats 1000000 in
theorem u1r.calls_no (w0 W:World) (g:Nat) (hxb:Bool) (most:Nat) (s:List UInt8) (hl:s.length ≤ 1000) (hm:most ≤ 1000) (hd:Tx.digitsP hxb most s = none) (h:ud.St w0 W g s) :
 Calls Tryd.prog 90 #[.pointer (some ⟨g,0,none⟩),.int .i64 (most:Int),.bool hxb] W fun e W' => e = .panicked (u2p.chain 280) ∧ Below w0.heap.size w0 W':=by
 have hmf:∀ (fn:Fn) (first cap:Array Value) (w:World),(Instr.makeFunc fn first cap).run Tryd.prog w = .ok (.func fn first cap) w:=fun _ _ _ _ => rfl
 unfold Tx.digitsP at hd
 split at hd
 · cases hd
 · rename_i hc
   have HS:=Aside0.mk h
   have HG:=Aside0.mk h.lt
   clear h hd
   by_cases he:s.takeWhile (Tx.digC hxb) = []
   · obtain ⟨t1,_,t2⟩:=u1r.txt (s.takeWhile (Tx.digC hxb))
     obtain ⟨t3,t4⟩:=t2 he
     clear t2 t1 hc he
     go_enter Tryd.func90,Tryd.ntmps90
     go_wp2_with (first
      | (go_at_call 61;(with_reducible refine (u1l.calls_dig hxb W.heap.size w0 _ g s (by omega) (by exact ud.new_at W _) (by have:=HG.out;omega) (by exact HS.out.one_more _)).mono ?_);rintro e W1 ⟨rfl,hs1,hk1⟩;have HS1:=Aside0.mk hs1;clear hs1 hk1)
      | (go_at_call 45;(with_reducible refine (u2l.calls_no _).mono ?_);rintro e W3 ⟨rfl,rfl⟩))
     exact ⟨rfl,rfl,HS1.out.below⟩
   · obtain ⟨t1,t2,_⟩:=u1r.txt (s.takeWhile (Tx.digC hxb))
     obtain ⟨t3,t4⟩:=t2 he
     have hgt:¬ (s.takeWhile (Tx.digC hxb)).length ≤ most:=fun h9 => hc ⟨he,h9⟩
     have t5:decide (((s.takeWhile (Tx.digC hxb)).length:Int) ≤ (most:Int)) = false:=decide_eq_false (by omega)
     have t6:decide ((s.takeWhile (Tx.digC hxb)).length ≤ most) = false:=decide_eq_false hgt
     clear t2 hc he
     go_enter Tryd.func90,Tryd.ntmps90
     go_wp2_with (first
      | (go_at_call 61;(with_reducible refine (u1l.calls_dig hxb W.heap.size w0 _ g s (by omega) (by exact ud.new_at W _) (by have:=HG.out;omega) (by exact HS.out.one_more _)).mono ?_);rintro e W1 ⟨rfl,hs1,hk1⟩;have HS1:=Aside0.mk hs1;clear hs1 hk1)
      | (go_at_call 45;(with_reducible refine (u2l.calls_no _).mono ?_);rintro e W3 ⟨rfl,rfl⟩))
     exact ⟨rfl,rfl,HS1.out.below⟩
theorem u1r.ok_at (most:Nat) (mi:Int) (hmi:(most:Int) = mi) (w0 W:World) (g:Nat) (hxb:Bool) (s:List UInt8) (hl:s.length ≤ 1000) (hm:most ≤ 1000) (d r:List UInt8) (hd:Tx.digitsP hxb most s = some (d,r)) (h:ud.St w0 W g s) :
 Calls Tryd.prog 90 #[.pointer (some ⟨g,0,none⟩),.int .i64 mi,.bool hxb] W fun e W' => e = .returned (.string (Base.ofL d)) ∧ ud.St w0 W' g r ∧ u1y W W' g none:=by
 subst hmi
 exact u1r.calls_ok w0 W g hxb most s hl hm d r hd h
theorem u1r.no_at (most:Nat) (mi:Int) (hmi:(most:Int) = mi) (w0 W:World) (g:Nat) (hxb:Bool) (s:List UInt8) (hl:s.length ≤ 1000) (hm:most ≤ 1000) (hd:Tx.digitsP hxb most s = none) (h:ud.St w0 W g s) :
 Calls Tryd.prog 90 #[.pointer (some ⟨g,0,none⟩),.int .i64 mi,.bool hxb] W fun e W' => e = .panicked (u2p.chain 280) ∧ Below w0.heap.size w0 W':=by
 subst hmi
 exact u1r.calls_no w0 W g hxb most s hl hm hd h
def u1h.dig (z:Int):Int:=if 97 ≤ z then z - 87 else z - 48
def u1h.num (base:Int):List Int → Int → Option Int
 | [],n => some n
 | c :: r,n => if n ≤ (18446744073709551615 - u1h.dig c) / base then u1h.num base r (n * base + u1h.dig c) else none
theorem u1h.u64_id (x:Int) (h0:0 ≤ x) (h1:x ≤ 18446744073709551615):IntKind.u64.wrap x = x:=by
 unfold IntKind.wrap
 simp only [IntKind.signed,IntKind.bits,Bool.false_and,Bool.false_eq_true,if_false]
 omega
theorem u1h.quo {base d:Int} (hb:base = 10 ∨ base = 16) (h0:0 ≤ d) (h1:d ≤ 15):IntKind.u64.wrap ((18446744073709551615 - d).tdiv base) = (18446744073709551615 - d) / base:=by
 rw [Int.tdiv_eq_ediv_of_nonneg (by omega)]
 rcases hb with rfl | rfl <;> exact u1h.u64_id _ (by omega) (by omega)
theorem u1h.fits {base d m:Int} (hb:base = 10 ∨ base = 16) (h0:0 ≤ d) (h1:d ≤ 15) (hm:0 ≤ m) (h:m ≤ (18446744073709551615 - d) / base):0 ≤ m * base + d ∧ m * base + d ≤ 18446744073709551615 ∧ IntKind.u64.wrap (m * base) = m * base ∧ IntKind.u64.wrap (m * base + d) = m * base + d:=by
 rcases hb with rfl | rfl <;> exact ⟨by omega,by omega,u1h.u64_id _ (by omega) (by omega),u1h.u64_id _ (by omega) (by omega)⟩
theorem u1h.rd_at (l:List Int) (x:Nat) (h:x < l.length):rd l (x:Int) ∈ l ∧ l.drop x = rd l (x:Int) :: l.drop (x + 1):=by
 have e:rd l (x:Int) = l[x]:=by simp [rd,List.getD_eq_getElem?_getD,h]
 rw [e]
 exact ⟨List.getElem_mem h,List.drop_eq_getElem_cons h⟩
theorem u1h.add_at (b x:Nat):(⟨b,0,none⟩:Addr).add ((x:Int).toNat) = ⟨b,x,none⟩:=by
 rw [show (x:Int).toNat = x from rfl]
 unfold Addr.add
 split
 · rename_i h
   rw [h]
 · simp
set_option maxRecDepth 100000 in
set_option maxHeartbeats 1000000 in
theorem u1h.calls_ok (s:ByteArray) (base:Int) (hb:base = 10 ∨ base = 16) (hs:s.size ≤ 1000) (hd:∀ c ∈ u2y s,(48 ≤ c ∧ c ≤ 57) ∨ (97 ≤ c ∧ c ≤ 102)) (n:Int) (hn:u1h.num base (u2y s) 0 = some n) (w:World) :
 Calls Tryd.prog 89 #[.string s,.int .u64 base] w fun e w' => e = .returned (.int .u64 n) ∧ Below w.heap.size w w':=by
 have kb:=fun W => print_bytes (P:=Tryd.prog) 9 42 5 Tryd.underlying9 Tryd.underlying42 Tryd.underlying5 s W
 have HD:=Aside0.mk hd
 have HN:=Aside0.mk hn
 have HBs:=Aside0.mk hb
 have hlen:=bytesOf_length s
 have HR:=Aside0.mk (bytes_reads w 5 s (by omega))
 have h0b:(base == 0) = false:=beq_eq_false_iff_ne.2 (by omega)
 have h0c:¬ base = 0:=by omega
 clear hd hn hb
 go_enter Tryd.func89,Tryd.ntmps89
 go_wp2
 go_loopg [5,12] (s.size) (fun kq v5 v12 wr => ∃ (x:Nat) (m:Int),x ≤ s.size ∧ v12 = .int .i64 x ∧ v5 = .int .u64 m ∧ Aside0 (u1h.num base ((u2y s).drop x) m = some n) ∧ Aside0 (0 ≤ m ∧ m ≤ 18446744073709551615) ∧ s.size ≤ kq + x ∧ us (Lib.bytesWorld w 5 s) wr)
 case atStart => exact ⟨0,0,by omega,rfl,rfl,⟨by simpa using HN.out⟩,⟨by omega⟩,by omega,us.refl _⟩
 case round =>
  clear HN
  obtain ⟨x,m,hx,rfl,rfl,HN,HM,hk,⟨m1,rfl⟩⟩:=hrel
  by_cases hlt:x < s.size
  · obtain ⟨ad,e,hc⟩:=Kd.at_int (Kd.C_of_reads (d:=(0:Int)) (h1:=fun _ => rfl) HR.out) (x:Int) (by omega) (by omega)
    obtain rfl:ad = ⟨w.heap.size,0,none⟩:=by injection e with e;exact e.symm
    clear e
    obtain ⟨hmem,hdrop⟩:=u1h.rd_at (u2y s) x (by omega)
    obtain ⟨z,HZ⟩:∃ z:Int,Aside0 (rd (u2y s) (x:Int) = z):=⟨_,⟨rfl⟩⟩
    rw [HZ.out] at hc hdrop hmem
    rw [u1h.add_at] at hc
    have hz:=HD.out z hmem
    rw [hdrop] at HN
    clear hdrop hmem
    by_cases h97:97 ≤ z
    · have h102:z ≤ 102:=by omega
      have h48:48 ≤ z:=by omega
      have hdz:u1h.dig z = (z - 97 + 10):=by unfold u1h.dig;rw [if_pos h97];omega
      have hq:=u1h.quo (d:=(z - 97 + 10)) HBs.out (by omega) (by omega)
      unfold u1h.num at HN
      rw [hdz] at HN
      have HQ:=Aside0.mk hq
      clear hz hdz hq
      by_cases hle:m ≤ (18446744073709551615 - (z - 97 + 10)) / base
      · have HF:=Aside0.mk (u1h.fits (d:=(z - 97 + 10)) HBs.out (by omega) (by omega) HM.out.1 hle)
        have HT:Aside0 (decide (m ≤ IntKind.u64.wrap ((18446744073709551615 - (z - 97 + 10)).tdiv base)) = true):=⟨by rw [HQ.out];exact decide_eq_true hle⟩
        rw [if_pos hle] at HN
        clear hle
        go_wp2_with (go_at_call 45;(with_reducible refine (u2l.calls_yes _ HT.out _).mono ?_);rintro e W3 ⟨rfl,rfl⟩)
        obtain ⟨g1,rfl⟩:∃ g1,gk = g1 + 1:=⟨gk - 1,by omega⟩
        go_roundg g1
        case rel =>
         obtain ⟨f1,f2,f3,f4⟩:=HF.out
         exact ⟨x + 1,m * base + (z - 97 + 10),by omega,by go_num,by first | (rw [f3,f4];done) | (rw [f4];done) | (simp only [f3,f4];done),HN,⟨⟨f1,f2⟩⟩,by omega,⟨_,rfl⟩⟩
        case measure => omega
      · have HT:Aside0 (decide (m ≤ IntKind.u64.wrap ((18446744073709551615 - (z - 97 + 10)).tdiv base)) = false):=⟨by rw [HQ.out];exact decide_eq_false hle⟩
        rw [if_neg hle] at HN
        clear hle
        cases HN.out
    · have h102:z ≤ 57:=by omega
      have h48:48 ≤ z:=by omega
      have hdz:u1h.dig z = (z - 48):=by unfold u1h.dig;rw [if_neg h97]
      have hq:=u1h.quo (d:=(z - 48)) HBs.out (by omega) (by omega)
      unfold u1h.num at HN
      rw [hdz] at HN
      have HQ:=Aside0.mk hq
      clear hz hdz hq
      by_cases hle:m ≤ (18446744073709551615 - (z - 48)) / base
      · have HF:=Aside0.mk (u1h.fits (d:=(z - 48)) HBs.out (by omega) (by omega) HM.out.1 hle)
        have HT:Aside0 (decide (m ≤ IntKind.u64.wrap ((18446744073709551615 - (z - 48)).tdiv base)) = true):=⟨by rw [HQ.out];exact decide_eq_true hle⟩
        rw [if_pos hle] at HN
        clear hle
        go_wp2_with (go_at_call 45;(with_reducible refine (u2l.calls_yes _ HT.out _).mono ?_);rintro e W3 ⟨rfl,rfl⟩)
        obtain ⟨g1,rfl⟩:∃ g1,gk = g1 + 1:=⟨gk - 1,by omega⟩
        go_roundg g1
        case rel =>
         obtain ⟨f1,f2,f3,f4⟩:=HF.out
         exact ⟨x + 1,m * base + (z - 48),by omega,by go_num,by first | (rw [f3,f4];done) | (rw [f4];done) | (simp only [f3,f4];done),HN,⟨⟨f1,f2⟩⟩,by omega,⟨_,rfl⟩⟩
        case measure => omega
      · have HT:Aside0 (decide (m ≤ IntKind.u64.wrap ((18446744073709551615 - (z - 48)).tdiv base)) = false):=⟨by rw [HQ.out];exact decide_eq_false hle⟩
        rw [if_neg hle] at HN
        clear hle
        cases HN.out
  · have HE:Aside0 (m = n):=⟨by
     have h1:=HN.out
     rw [List.drop_eq_nil_of_le (by omega)] at h1
     exact Option.some.inj h1⟩
    go_wp2
    go_ret
    exact ⟨by rw [HE.out];rfl,ua (bytes_below (Below.refl _ _) (Nat.le_refl _) _ _) m1⟩
set_option maxRecDepth 100000 in
set_option maxHeartbeats 1000000 in
theorem u1h.calls_no (s:ByteArray) (base:Int) (hb:base = 10 ∨ base = 16) (hs:s.size ≤ 1000) (hd:∀ c ∈ u2y s,(48 ≤ c ∧ c ≤ 57) ∨ (97 ≤ c ∧ c ≤ 102)) (hn:u1h.num base (u2y s) 0 = none) (w:World) :
 Calls Tryd.prog 89 #[.string s,.int .u64 base] w fun e w' => e = .panicked (u2p.chain 280) ∧ Below w.heap.size w w':=by
 have kb:=fun W => print_bytes (P:=Tryd.prog) 9 42 5 Tryd.underlying9 Tryd.underlying42 Tryd.underlying5 s W
 have HD:=Aside0.mk hd
 have HN:=Aside0.mk hn
 have HBs:=Aside0.mk hb
 have hlen:=bytesOf_length s
 have HR:=Aside0.mk (bytes_reads w 5 s (by omega))
 have h0b:(base == 0) = false:=beq_eq_false_iff_ne.2 (by omega)
 have h0c:¬ base = 0:=by omega
 clear hd hn hb
 go_enter Tryd.func89,Tryd.ntmps89
 go_wp2
 go_loopg [5,12] (s.size) (fun kq v5 v12 wr => ∃ (x:Nat) (m:Int),x ≤ s.size ∧ v12 = .int .i64 x ∧ v5 = .int .u64 m ∧ Aside0 (u1h.num base ((u2y s).drop x) m = none) ∧ Aside0 (0 ≤ m ∧ m ≤ 18446744073709551615) ∧ s.size ≤ kq + x ∧ us (Lib.bytesWorld w 5 s) wr)
 case atStart => exact ⟨0,0,by omega,rfl,rfl,⟨by simpa using HN.out⟩,⟨by omega⟩,by omega,us.refl _⟩
 case round =>
  clear HN
  obtain ⟨x,m,hx,rfl,rfl,HN,HM,hk,⟨m1,rfl⟩⟩:=hrel
  by_cases hlt:x < s.size
  · obtain ⟨ad,e,hc⟩:=Kd.at_int (Kd.C_of_reads (d:=(0:Int)) (h1:=fun _ => rfl) HR.out) (x:Int) (by omega) (by omega)
    obtain rfl:ad = ⟨w.heap.size,0,none⟩:=by injection e with e;exact e.symm
    clear e
    obtain ⟨hmem,hdrop⟩:=u1h.rd_at (u2y s) x (by omega)
    obtain ⟨z,HZ⟩:∃ z:Int,Aside0 (rd (u2y s) (x:Int) = z):=⟨_,⟨rfl⟩⟩
    rw [HZ.out] at hc hdrop hmem
    rw [u1h.add_at] at hc
    have hz:=HD.out z hmem
    rw [hdrop] at HN
    clear hdrop hmem
    by_cases h97:97 ≤ z
    · have h102:z ≤ 102:=by omega
      have h48:48 ≤ z:=by omega
      have hdz:u1h.dig z = (z - 97 + 10):=by unfold u1h.dig;rw [if_pos h97];omega
      have hq:=u1h.quo (d:=(z - 97 + 10)) HBs.out (by omega) (by omega)
      unfold u1h.num at HN
      rw [hdz] at HN
      have HQ:=Aside0.mk hq
      clear hz hdz hq
      by_cases hle:m ≤ (18446744073709551615 - (z - 97 + 10)) / base
      · have HF:=Aside0.mk (u1h.fits (d:=(z - 97 + 10)) HBs.out (by omega) (by omega) HM.out.1 hle)
        have HT:Aside0 (decide (m ≤ IntKind.u64.wrap ((18446744073709551615 - (z - 97 + 10)).tdiv base)) = true):=⟨by rw [HQ.out];exact decide_eq_true hle⟩
        rw [if_pos hle] at HN
        clear hle
        go_wp2_with (go_at_call 45;(with_reducible refine (u2l.calls_yes _ HT.out _).mono ?_);rintro e W3 ⟨rfl,rfl⟩)
        obtain ⟨g1,rfl⟩:∃ g1,gk = g1 + 1:=⟨gk - 1,by omega⟩
        go_roundg g1
        case rel =>
         obtain ⟨f1,f2,f3,f4⟩:=HF.out
         exact ⟨x + 1,m * base + (z - 97 + 10),by omega,by go_num,by first | (rw [f3,f4];done) | (rw [f4];done) | (simp only [f3,f4];done),HN,⟨⟨f1,f2⟩⟩,by omega,⟨_,rfl⟩⟩
        case measure => omega
      · have HT:Aside0 (decide (m ≤ IntKind.u64.wrap ((18446744073709551615 - (z - 97 + 10)).tdiv base)) = false):=⟨by rw [HQ.out];exact decide_eq_false hle⟩
        rw [if_neg hle] at HN
        clear hle
        go_wp2_with (go_at_call 45;(with_reducible refine (u2l.calls_not _ HT.out _).mono ?_);rintro e W3 ⟨rfl,rfl⟩)
        exact ⟨rfl,rfl,ua (bytes_below (Below.refl _ _) (Nat.le_refl _) _ _) m1⟩
    · have h102:z ≤ 57:=by omega
      have h48:48 ≤ z:=by omega
      have hdz:u1h.dig z = (z - 48):=by unfold u1h.dig;rw [if_neg h97]
      have hq:=u1h.quo (d:=(z - 48)) HBs.out (by omega) (by omega)
      unfold u1h.num at HN
      rw [hdz] at HN
      have HQ:=Aside0.mk hq
      clear hz hdz hq
      by_cases hle:m ≤ (18446744073709551615 - (z - 48)) / base
      · have HF:=Aside0.mk (u1h.fits (d:=(z - 48)) HBs.out (by omega) (by omega) HM.out.1 hle)
        have HT:Aside0 (decide (m ≤ IntKind.u64.wrap ((18446744073709551615 - (z - 48)).tdiv base)) = true):=⟨by rw [HQ.out];exact decide_eq_true hle⟩
        rw [if_pos hle] at HN
        clear hle
        go_wp2_with (go_at_call 45;(with_reducible refine (u2l.calls_yes _ HT.out _).mono ?_);rintro e W3 ⟨rfl,rfl⟩)
        obtain ⟨g1,rfl⟩:∃ g1,gk = g1 + 1:=⟨gk - 1,by omega⟩
        go_roundg g1
        case rel =>
         obtain ⟨f1,f2,f3,f4⟩:=HF.out
         exact ⟨x + 1,m * base + (z - 48),by omega,by go_num,by first | (rw [f3,f4];done) | (rw [f4];done) | (simp only [f3,f4];done),HN,⟨⟨f1,f2⟩⟩,by omega,⟨_,rfl⟩⟩
        case measure => omega
      · have HT:Aside0 (decide (m ≤ IntKind.u64.wrap ((18446744073709551615 - (z - 48)).tdiv base)) = false):=⟨by rw [HQ.out];exact decide_eq_false hle⟩
        rw [if_neg hle] at HN
        clear hle
        go_wp2_with (go_at_call 45;(with_reducible refine (u2l.calls_not _ HT.out _).mono ?_);rintro e W3 ⟨rfl,rfl⟩)
        exact ⟨rfl,rfl,ua (bytes_below (Below.refl _ _) (Nat.le_refl _) _ _) m1⟩
  · have h1:=HN.out
    rw [List.drop_eq_nil_of_le (by omega)] at h1
    cases h1
theorem u1h.num_is (base:Int):∀ (d:List UInt8) (n:Int),u1h.num base (d.map fun c => (c.toNat:Int)) n = Tx.numL base d n
 | [],n => rfl
 | c :: d,n => by
   have e:u1h.dig (c.toNat:Int) = Tx.digV c:=by
    unfold u1h.dig Tx.digV
    by_cases h:97 ≤ c.toNat
    · rw [if_pos h,if_pos (by omega)]
    · rw [if_neg h,if_neg (by omega)]
   rw [List.map_cons]
   unfold u1h.num Tx.numL
   rw [e,u1h.num_is base d]
theorem u1h.bytes_ofL (d:List UInt8):u2y (Base.ofL d) = d.map fun c => (c.toNat:Int):=by
 unfold u2y
 rw [Base.ofL_data]
theorem u1h.bytes_hex {d:List UInt8} (hd:∀ c ∈ d,Tx.hexC c = true):∀ c ∈ u2y (Base.ofL d),(48 ≤ c ∧ c ≤ 57) ∨ (97 ≤ c ∧ c ≤ 102):=by
 rw [u1h.bytes_ofL]
 intro z hz
 obtain ⟨c,hc,rfl⟩:=List.mem_map.1 hz
 have h:=hd c hc
 unfold Tx.hexC Tx.decC at h
 simp only [Bool.or_eq_true,Bool.and_eq_true,decide_eq_true_eq] at h
 omega
theorem u1h.says (d:List UInt8) (base:Int) (hb:base = 10 ∨ base = 16) (hs:d.length ≤ 1000) (hd:∀ c ∈ d,Tx.hexC c = true) (n:Int) (hn:Tx.numL base d 0 = some n) (w:World) :
 Calls Tryd.prog 89 #[.string (Base.ofL d),.int .u64 base] w fun e w' => e = .returned (.int .u64 n) ∧ Below w.heap.size w w' :=
 u1h.calls_ok (Base.ofL d) base hb (by rw [(Tx.cut_ofL d 0 (by omega)).2.2];exact hs) (u1h.bytes_hex hd) n (by rw [u1h.bytes_ofL,u1h.num_is];exact hn) w
theorem u1h.says_no (d:List UInt8) (base:Int) (hb:base = 10 ∨ base = 16) (hs:d.length ≤ 1000) (hd:∀ c ∈ d,Tx.hexC c = true) (hn:Tx.numL base d 0 = none) (w:World) :
 Calls Tryd.prog 89 #[.string (Base.ofL d),.int .u64 base] w fun e w' => e = .panicked (u2p.chain 280) ∧ Below w.heap.size w w' :=
 u1h.calls_no (Base.ofL d) base hb (by rw [(Tx.cut_ofL d 0 (by omega)).2.2];exact hs) (u1h.bytes_hex hd) (by rw [u1h.bytes_ofL,u1h.num_is];exact hn) w
theorem u1o.cut_pre (p s:List UInt8):u1w.f (Base.ofL s) (Base.ofL p) = if p.isPrefixOf s = true then some (Base.ofL (s.drop p.length),true) else some (Base.ofL s,false):=by
 have hs:(Base.ofL s).size = s.length:=(Tx.cut_ofL s 0 (by omega)).2.2
 have hp:(Base.ofL p).size = p.length:=(Tx.cut_ofL p 0 (by omega)).2.2
 unfold u1w.f u2o.f u2f.f
 rw [hs,hp]
 by_cases h:p.length ≤ s.length
 · have e1:((Base.ofL s).extract 0 ((p.length:Int)).toNat).toList = s.take p.length:=by
    rw [ByteArray.toList_eq,Base.extract_list,Base.ofL_data]
    simp
   have e2:(Base.ofL p).toList = p:=by rw [ByteArray.toList_eq,Base.ofL_data]
   have e3:(Base.ofL s).extract ((p.length:Int)).toNat s.length = Base.ofL (s.drop p.length):=by
    have:=(Tx.cut_ofL s p.length h).2.1
    rw [hs] at this
    simpa using this
   have e4:(s.take p.length == p) = p.isPrefixOf s:=by
    rw [Bool.eq_iff_iff,beq_iff_eq,List.isPrefixOf_iff_prefix]
    constructor
    · intro e
      rw [← e]
      exact List.take_prefix _ _
    · intro e
      exact (List.prefix_iff_eq_take.1 e).symm
   rw [if_pos (by omega),if_pos (by omega),if_pos (by omega),e1,e2,e4,e3]
   cases p.isPrefixOf s <;> simp [h]
 · have e5:p.isPrefixOf s = false:=by
    cases e:p.isPrefixOf s with
    | false => rfl
    | true => exact absurd (List.IsPrefix.length_le (List.isPrefixOf_iff_prefix.1 e)) h
   rw [if_neg (by omega),e5]
   rfl
theorem u1o.dig_all {h:Bool} {s:List UInt8}:∀ c ∈ s.takeWhile (Tx.digC h),Tx.hexC c = true:=by
 intro c hc
 have h1:Tx.digC h c = true:=by
  have:=List.all_takeWhile (p:=Tx.digC h) (l:=s)
  exact List.all_eq_true.1 this c hc
 unfold Tx.digC at h1
 cases h with
 | true => simpa using h1
 | false =>
   have h2:Tx.decC c = true:=by simpa using h1
   unfold Tx.hexC
   rw [h2]
   rfl
theorem u1o.dig_is {h:Bool} {most:Nat} {s d r:List UInt8} (hd:Tx.digitsP h most s = some (d,r)):(∀ c ∈ d,Tx.hexC c = true) ∧ d.length ≤ most ∧ r.length ≤ s.length:=by
 unfold Tx.digitsP at hd
 split at hd
 · rename_i hc
   obtain ⟨rfl,rfl⟩:=Prod.mk.inj (Option.some.inj hd)
   refine ⟨u1o.dig_all,hc.2,?_⟩
   have h1:=congrArg List.length (List.takeWhile_append_dropWhile (p:=Tx.digC h) (l:=s))
   rw [List.length_append] at h1
   omega
 · cases hd
set_option maxRecDepth 100000 in
set_option maxHeartbeats 1000000 in
theorem u1o.hex_ok (w0 W:World) (g:Nat) (s:List UInt8) (hl:s.length ≤ 1000) (q:List UInt8) (hs:s = 48 :: 120 :: q) (n:Int) (r:List UInt8) (hv:Tx.valueD true 16 16 q = some (n,r)) (h:ud.St w0 W g s) :
 Calls Tryd.prog 63 #[.pointer (some ⟨g,0,none⟩)] W fun e W' => e = .returned (.int .u64 n) ∧ ud.St w0 W' g r ∧ u1y W W' g none:=by
 unfold Tx.valueD at hv
 obtain ⟨⟨d,r'⟩,hd,hv⟩:=Option.bind_eq_some_iff.1 hv
 obtain ⟨n',hn,hv⟩:=Option.map_eq_some_iff.1 hv
 obtain ⟨rfl,rfl⟩:=Prod.mk.inj hv
 simp only at hn
 obtain ⟨ha,hdl,hrl⟩:=u1o.dig_is hd
 have HA:=Aside0.mk ha
 have HD:=Aside0.mk hd
 have HN:=Aside0.mk hn
 have hq:q.length ≤ 1000:=by rw [hs,List.length_cons,List.length_cons] at hl;omega
 have HC:Aside0 (u1w.f (Base.ofL (48 :: 120 :: q)) (⟨#[48,120]⟩:ByteArray) = some (Base.ofL q,true)):=⟨by
  have e:=u1o.cut_pre [48,120] s
  rw [hs,if_pos (by simp [List.isPrefixOf])] at e
  exact e⟩
 subst hs
 have HS:=Aside0.mk h
 obtain ⟨h0,f0⟩:=h.look
 clear h
 clear ha hd hn hv
 go_enter Tryd.func63,Tryd.ntmps63
 go_wp2_with (first
  | (go_at_call 78;(with_reducible refine (u1w.calls _ _ _ _ _ HC.out).mono ?_);rintro e W1 ⟨rfl,⟨nd,rfl⟩⟩)
  | (go_at_call 90;(with_reducible refine (u1r.ok_at 16 16 rfl w0 _ g true q (by omega) (by omega) d r' HD.out (by exact (HS.out.drew nd).set q)).mono ?_);rintro e W2 ⟨rfl,hs2,hk2⟩;have HS2:=Aside0.mk hs2;have HK2:=Aside0.mk hk2;clear hs2 hk2)
  | (go_at_call 89;(with_reducible refine (u1h.says d 16 (by omega) (by omega) HA.out n' HN.out _).mono ?_);rintro e W3 ⟨rfl,hb3⟩;have HB3:=Aside0.mk hb3;clear hb3))
 go_ret
 exact ⟨rfl,HS2.out.more HB3.out,ud.keep_then ((u1y.of_below (ua (Below.refl _ _) nd) g none).set_ 0 _) (ud.keep_then HK2.out (u1y.of_below HB3.out g none))⟩
set_option maxRecDepth 100000 in
set_option maxHeartbeats 1000000 in
theorem u1o.hex_no (w0 W:World) (g:Nat) (s:List UInt8) (hl:s.length ≤ 1000) (q:List UInt8) (hs:s = 48 :: 120 :: q) (hv:Tx.valueD true 16 16 q = none) (h:ud.St w0 W g s) :
 Calls Tryd.prog 63 #[.pointer (some ⟨g,0,none⟩)] W fun e W' => e = .panicked (u2p.chain 280) ∧ Below w0.heap.size w0 W':=by
 unfold Tx.valueD at hv
 have hq:q.length ≤ 1000:=by rw [hs,List.length_cons,List.length_cons] at hl;omega
 have HC:Aside0 (u1w.f (Base.ofL (48 :: 120 :: q)) (⟨#[48,120]⟩:ByteArray) = some (Base.ofL q,true)):=⟨by
  have e:=u1o.cut_pre [48,120] s
  rw [hs,if_pos (by simp [List.isPrefixOf])] at e
  exact e⟩
 subst hs
 have HS:=Aside0.mk h
 obtain ⟨h0,f0⟩:=h.look
 clear h
 cases hd:Tx.digitsP true 16 q with
 | none =>
   have HD:=Aside0.mk hd
   clear hd hv
   go_enter Tryd.func63,Tryd.ntmps63
   go_wp2_with (first
    | (go_at_call 78;(with_reducible refine (u1w.calls _ _ _ _ _ HC.out).mono ?_);rintro e W1 ⟨rfl,⟨nd,rfl⟩⟩)
    | (go_at_call 90;(with_reducible refine (u1r.no_at 16 16 rfl w0 _ g true q (by omega) (by omega) HD.out (by exact (HS.out.drew nd).set q)).mono ?_);rintro e W2 ⟨rfl,hb2⟩))
   exact ⟨rfl,rfl,hb2⟩
 | some p =>
   obtain ⟨d,r⟩:=p
   rw [hd] at hv
   have hn:Tx.numL 16 d 0 = none:=by simpa using hv
   obtain ⟨ha,hdl,hrl⟩:=u1o.dig_is hd
   have HA:=Aside0.mk ha
   have HD:=Aside0.mk hd
   have HN:=Aside0.mk hn
   clear ha hd hn hv
   go_enter Tryd.func63,Tryd.ntmps63
   go_wp2_with (first
    | (go_at_call 78;(with_reducible refine (u1w.calls _ _ _ _ _ HC.out).mono ?_);rintro e W1 ⟨rfl,⟨nd,rfl⟩⟩)
    | (go_at_call 90;(with_reducible refine (u1r.ok_at 16 16 rfl w0 _ g true q (by omega) (by omega) d r HD.out (by exact (HS.out.drew nd).set q)).mono ?_);rintro e W2 ⟨rfl,hs2,hk2⟩;have HS2:=Aside0.mk hs2;have HK2:=Aside0.mk hk2;clear hs2 hk2)
    | (go_at_call 89;(with_reducible refine (u1h.says_no d 16 (by omega) (by omega) HA.out HN.out _).mono ?_);rintro e W3 ⟨rfl,hb3⟩))
   exact ⟨rfl,rfl,(HS2.out.more hb3).below⟩
set_option maxRecDepth 100000 in
set_option maxHeartbeats 1000000 in
theorem u1o.dec_ok (w0 W:World) (g:Nat) (s:List UInt8) (hl:s.length ≤ 1000) (hs:([48,120]:List UInt8).isPrefixOf s = false) (n:Int) (r:List UInt8) (hv:Tx.valueD false 20 10 s = some (n,r)) (h:ud.St w0 W g s) :
 Calls Tryd.prog 63 #[.pointer (some ⟨g,0,none⟩)] W fun e W' => e = .returned (.int .u64 n) ∧ ud.St w0 W' g r ∧ u1y W W' g none:=by
 unfold Tx.valueD at hv
 obtain ⟨⟨d,r'⟩,hd,hv⟩:=Option.bind_eq_some_iff.1 hv
 obtain ⟨n',hn,hv⟩:=Option.map_eq_some_iff.1 hv
 obtain ⟨rfl,rfl⟩:=Prod.mk.inj hv
 simp only at hn
 obtain ⟨ha,hdl,hrl⟩:=u1o.dig_is hd
 have HA:=Aside0.mk ha
 have HD:=Aside0.mk hd
 have HN:=Aside0.mk hn
 have HC:Aside0 (u1w.f (Base.ofL s) (⟨#[48,120]⟩:ByteArray) = some (Base.ofL s,false)):=⟨by
  have e:=u1o.cut_pre [48,120] s
  rw [if_neg (by rw [hs];decide)] at e
  exact e⟩
 clear hs
 have HS:=Aside0.mk h
 obtain ⟨h0,f0⟩:=h.look
 clear h
 clear ha hd hn hv
 go_enter Tryd.func63,Tryd.ntmps63
 go_wp2_with (first
  | (go_at_call 78;(with_reducible refine (u1w.calls _ _ _ _ _ HC.out).mono ?_);rintro e W1 ⟨rfl,⟨nd,rfl⟩⟩)
  | (go_at_call 90;(with_reducible refine (u1r.ok_at 20 20 rfl w0 _ g false s (by omega) (by omega) d r' HD.out (by exact HS.out.drew nd)).mono ?_);rintro e W2 ⟨rfl,hs2,hk2⟩;have HS2:=Aside0.mk hs2;have HK2:=Aside0.mk hk2;clear hs2 hk2)
  | (go_at_call 89;(with_reducible refine (u1h.says d 10 (by omega) (by omega) HA.out n' HN.out _).mono ?_);rintro e W3 ⟨rfl,hb3⟩;have HB3:=Aside0.mk hb3;clear hb3))
 go_ret
 exact ⟨rfl,HS2.out.more HB3.out,ud.keep_then (u1y.of_below (ua (Below.refl _ _) nd) g none) (ud.keep_then HK2.out (u1y.of_below HB3.out g none))⟩
set_option maxRecDepth 100000 in
set_option maxHeartbeats 1000000 in
theorem u1o.dec_no (w0 W:World) (g:Nat) (s:List UInt8) (hl:s.length ≤ 1000) (hs:([48,120]:List UInt8).isPrefixOf s = false) (hv:Tx.valueD false 20 10 s = none) (h:ud.St w0 W g s) :
 Calls Tryd.prog 63 #[.pointer (some ⟨g,0,none⟩)] W fun e W' => e = .panicked (u2p.chain 280) ∧ Below w0.heap.size w0 W':=by
 unfold Tx.valueD at hv
 have HC:Aside0 (u1w.f (Base.ofL s) (⟨#[48,120]⟩:ByteArray) = some (Base.ofL s,false)):=⟨by
  have e:=u1o.cut_pre [48,120] s
  rw [if_neg (by rw [hs];decide)] at e
  exact e⟩
 clear hs
 have HS:=Aside0.mk h
 obtain ⟨h0,f0⟩:=h.look
 clear h
 cases hd:Tx.digitsP false 20 s with
 | none =>
   have HD:=Aside0.mk hd
   clear hd hv
   go_enter Tryd.func63,Tryd.ntmps63
   go_wp2_with (first
    | (go_at_call 78;(with_reducible refine (u1w.calls _ _ _ _ _ HC.out).mono ?_);rintro e W1 ⟨rfl,⟨nd,rfl⟩⟩)
    | (go_at_call 90;(with_reducible refine (u1r.no_at 20 20 rfl w0 _ g false s (by omega) (by omega) HD.out (by exact HS.out.drew nd)).mono ?_);rintro e W2 ⟨rfl,hb2⟩))
   exact ⟨rfl,rfl,hb2⟩
 | some p =>
   obtain ⟨d,r⟩:=p
   rw [hd] at hv
   have hn:Tx.numL 10 d 0 = none:=by simpa using hv
   obtain ⟨ha,hdl,hrl⟩:=u1o.dig_is hd
   have HA:=Aside0.mk ha
   have HD:=Aside0.mk hd
   have HN:=Aside0.mk hn
   clear ha hd hn hv
   go_enter Tryd.func63,Tryd.ntmps63
   go_wp2_with (first
    | (go_at_call 78;(with_reducible refine (u1w.calls _ _ _ _ _ HC.out).mono ?_);rintro e W1 ⟨rfl,⟨nd,rfl⟩⟩)
    | (go_at_call 90;(with_reducible refine (u1r.ok_at 20 20 rfl w0 _ g false s (by omega) (by omega) d r HD.out (by exact HS.out.drew nd)).mono ?_);rintro e W2 ⟨rfl,hs2,hk2⟩;have HS2:=Aside0.mk hs2;have HK2:=Aside0.mk hk2;clear hs2 hk2)
    | (go_at_call 89;(with_reducible refine (u1h.says_no d 10 (by omega) (by omega) HA.out HN.out _).mono ?_);rintro e W3 ⟨rfl,hb3⟩))
   exact ⟨rfl,rfl,(HS2.out.more hb3).below⟩
theorem u1o.value_is (s:List UInt8):(∃ q,s = 48 :: 120 :: q ∧ Tx.valueP s = Tx.valueD true 16 16 q) ∨ (([48,120]:List UInt8).isPrefixOf s = false ∧ Tx.valueP s = Tx.valueD false 20 10 s):=by
 by_cases h:∃ q,s = 48 :: 120 :: q
 · obtain ⟨q,rfl⟩:=h
   exact Or.inl ⟨q,rfl,rfl⟩
 · refine Or.inr ⟨?_,?_⟩
   · cases e:([48,120]:List UInt8).isPrefixOf s with
     | false => rfl
     | true =>
       obtain ⟨t,ht⟩:=List.isPrefixOf_iff_prefix.1 e
       exact absurd ⟨t,ht.symm⟩ h
   · unfold Tx.valueP
     split
     · exact absurd ⟨_,rfl⟩ h
     · rfl
theorem u1o.calls_ok (w0 W:World) (g:Nat) (s:List UInt8) (hl:s.length ≤ 1000) (n:Int) (r:List UInt8) (hv:Tx.valueP s = some (n,r)) (h:ud.St w0 W g s) :
 Calls Tryd.prog 63 #[.pointer (some ⟨g,0,none⟩)] W fun e W' => e = .returned (.int .u64 n) ∧ ud.St w0 W' g r ∧ u1y W W' g none:=by
 rcases u1o.value_is s with ⟨q,hq,e⟩ | ⟨hq,e⟩
 · exact u1o.hex_ok w0 W g s hl q hq n r (e ▸ hv) h
 · exact u1o.dec_ok w0 W g s hl hq n r (e ▸ hv) h
theorem u1o.calls_no (w0 W:World) (g:Nat) (s:List UInt8) (hl:s.length ≤ 1000) (hv:Tx.valueP s = none) (h:ud.St w0 W g s) :
 Calls Tryd.prog 63 #[.pointer (some ⟨g,0,none⟩)] W fun e W' => e = .panicked (u2p.chain 280) ∧ Below w0.heap.size w0 W':=by
 rcases u1o.value_is s with ⟨q,hq,e⟩ | ⟨hq,e⟩
 · exact u1o.hex_no w0 W g s hl q hq (e ▸ hv) h
 · exact u1o.dec_no w0 W g s hl hq (e ▸ hv) h
def u1b.f (a0:ByteArray):Option (ByteArray × ByteArray × Int):=if a0.size ≤ 140737488355328 then some (Base.unq a0) else none
theorem u1b.cut_yes (c:UInt8) (s:ByteArray) (r:List UInt8) (h:s.data.toList = c :: r):u1w.f s (⟨#[c]⟩:ByteArray) = some (s.extract 1 s.size,true):=by
 have hs:s.size = r.length + 1:=by rw [← u3c,h];rfl
 have h1:(s.extract 0 1).toList = [c]:=by
  rw [ByteArray.toList_eq,Base.extract_list,h]
  rfl
 have h2:((s.size:Int) ≥ 1):=by omega
 have h3:((1:Int) ≤ (s.size:Int)):=by omega
 simp [u1w.f,u2o.f,u2f.f,Base.size1,h1,h2,h3,ByteArray.toList_eq]
theorem u1b.cut_no (c:UInt8) (s:ByteArray) (h:∀ r,s.data.toList ≠ c :: r):u1w.f s (⟨#[c]⟩:ByteArray) = some (s,false):=by
 by_cases h2:((s.size:Int) ≥ 1)
 · have h3:((1:Int) ≤ (s.size:Int)):=by omega
   have h1:¬ List.take 1 s.data.toList = [c]:=by
    cases hl:s.data.toList with
    | nil => simp
    | cons x q =>
      intro e
      have:x = c:=by simpa using e
      subst this
      exact h q hl
   simp [u1w.f,u2o.f,u2f.f,Base.size1,h1,h2,h3,ByteArray.toList_eq]
 · have h3:¬ ((1:Int) ≤ (s.size:Int)):=by omega
   simp [u1w.f,u2o.f,u2f.f,Base.size1,h3]
theorem u1b.head (x:ByteArray) (c:UInt8) (r:List UInt8) (h:x.data.toList = c :: r):∃ hp:0 < x.size,((x[0]'hp).toNat:Int) = c.toNat ∧ (x.extract 1 x.size).data.toList = r ∧ x.size = r.length + 1 ∧ x.toList.isEmpty = false:=by
 have hs:x.size = r.length + 1:=by rw [← u3c,h];rfl
 have hp:0 < x.size:=by omega
 refine ⟨hp,?_,?_,hs,?_⟩
 · have h1:x.data.toList[0]? = some c:=by rw [h];rfl
   have h2:x.data.toList[0]'(by rw [u3c];exact hp) = c:=by
    rw [List.getElem?_eq_getElem (by rw [u3c];exact hp)] at h1
    exact Option.some.inj h1
   have h3:x[0]'hp = x.data.toList[0]'(by rw [u3c];exact hp):=rfl
   rw [h3,h2]
 · rw [Base.extract_rest,h]
   rfl
 · rw [ByteArray.toList_eq,h]
   rfl
theorem u1b.byte_is (c:UInt8):((c.toNat:Int) = 34 ↔ c = 34) ∧ ((c.toNat:Int) = 92 ↔ c = 92):=by
 refine ⟨⟨fun e => UInt8.toNat_inj.1 (by simpa using (by omega:c.toNat = 34)),fun e => by rw [e];rfl⟩,⟨fun e => UInt8.toNat_inj.1 (by simpa using (by omega:c.toNat = 92)),fun e => by rw [e];rfl⟩⟩
theorem u1b.info:(Tryd.prog.info? 5).map (fun i => (i.zero,i.size,i.bytes)) = some (some (.int .u8 0),1,1):=by kernel_rfl
def u1b.nats (l:List UInt8):List Int:=l.map fun c => (c.toNat:Int)
theorem u1b.str_of (l:List UInt8):strOfNums (u1b.nats l) = Base.ofL l:=by
 refine Base.ext_data ?_
 rw [strOfNums_data,Base.ofL_data,u1b.nats,List.map_map]
 conv => rhs;rw [← List.map_id l]
 refine List.map_congr_left (fun c _ => ?_)
 simp
def u1b.out (o:Option (List UInt8 × List UInt8)):ByteArray × ByteArray × Int:=match o with
 | some (a,q) => (Base.ofL a,Base.ofL q,0)
 | none => (⟨#[]⟩,⟨#[]⟩,5)
set_option maxHeartbeats 4000000 in
set_option maxRecDepth 100000 in
theorem u1b.calls (a0:ByteArray) (r1:ByteArray) (r2:ByteArray) (r3:Int) (w:World) (h:u1b.f a0 = some (r1,r2,r3)) :
 Calls Tryd.prog 105 #[.string a0] w fun e w' => e = .returned (.tuple #[.string r1,.string r2,.int .i64 r3]) ∧ Below w.heap.size w w':=by
 unfold u1b.f at h
 by_cases hlim:a0.size ≤ 140737488355328
 · rw [if_pos hlim] at h
   have hu:=Option.some.inj h
   clear h
   by_cases hq:∃ r,a0.data.toList = 34 :: r
   · obtain ⟨r,hr⟩:=hq
     have hu2:u1b.out (Base.unqL r []) = (r1,r2,r3):=by
      rw [← hu]
      unfold Base.unq
      rw [hr]
      simp only [u1b.out,if_true]
      cases Base.unqL r [] with
      | none => rfl
      | some y => rfl
     have HU:=Aside0.mk hu2
     have HC:=Aside0.mk (u1b.cut_yes 34 a0 r hr)
     have hrl:Aside0 ((a0.extract 1 a0.size).data.toList = r):=⟨by rw [Base.extract_rest,hr];rfl⟩
     have hrn:r.length ≤ a0.size:=by rw [← u3c,hr];simp
     clear hu hu2 hr
     go_enter Tryd.func105,Tryd.ntmps105
     go_wp2_with (go_at_call 78;refine (u1w.calls _ _ _ _ _ HC.out).mono ?_;rintro e W1 ⟨rfl,⟨nd,rfl⟩⟩)
     go_loopg [5,7] (r.length) (fun kq v5 v7 wr => ∃ (x:ByteArray) (l acc:List UInt8),v5 = .string x ∧ Aside0 (x.data.toList = l ∧ u1b.out (Base.unqL l acc) = (r1,r2,r3) ∧ Kd.R (Kd.int .u8) 5 wr w.heap.size (fun _ => True) v7 (u1b.nats acc)) ∧ l.length ≤ kq ∧ acc.length + l.length ≤ r.length ∧ Aside0 (Below w.heap.size w wr))
     case atStart => exact ⟨_,r,[],rfl,⟨hrl.out,HU.out,Kd.R_nil _ _ _ _ _⟩,Nat.le_refl _,by simp,⟨ua (Below.refl _ _) nd⟩⟩
     case round =>
      obtain ⟨x,l,acc,rfl,HR,hk,hal,HB⟩:=hrel
      cases l with
      | nil =>
        have he:x.toList.isEmpty = true:=by rw [ByteArray.toList_eq,HR.out.1];rfl
        have hfin:Aside0 (r1 = ⟨#[]⟩ ∧ r2 = ⟨#[]⟩ ∧ r3 = 5):=⟨by
         have h5:=HR.out.2.1
         rw [Base.unqL_nil] at h5
         obtain ⟨h6,h7⟩:=Prod.mk.inj h5
         obtain ⟨h8,h9⟩:=Prod.mk.inj h7
         exact ⟨h6.symm,h8.symm,h9.symm⟩⟩
        go_wp2
        go_ret3
        exact ⟨by rw [hfin.out.1,hfin.out.2.1,hfin.out.2.2];rfl,HB.out⟩
      | cons c q =>
        obtain ⟨hp,hc,hx2,hxs,he⟩:=u1b.head x c q HR.out.1
        have HX2:=Aside0.mk hx2
        have HXS:=Aside0.mk hxs
        have hx1:1 ≤ x.size:=by omega
        clear hx2 hxs
        have hcz:=u1b.byte_is c
        obtain ⟨z,hzc⟩:∃ z:Int,Aside0 ((c.toNat:Int) = z):=⟨_,⟨rfl⟩⟩
        rw [hzc.out] at hc hcz
        by_cases h34:c = 34
        · have hz:(z == 34) = true:=by simpa using hcz.1.2 h34
          have hcv:=own_string (P:=Tryd.prog) (src:=42) (dst:=9) (e:=5) (xs:=u1b.nats acc) Tryd.underlying42 Tryd.underlying5 Tryd.underlying9 (Kd.own_of_R HR.out.2.2)
          rw [u1b.str_of] at hcv
          have hfin:Aside0 (r1 = Base.ofL acc ∧ r2 = Base.ofL q ∧ r3 = 0):=⟨by
           have h5:=HR.out.2.1
           rw [h34,Base.unqL_end] at h5
           obtain ⟨h6,h7⟩:=Prod.mk.inj h5
           obtain ⟨h8,h9⟩:=Prod.mk.inj h7
           exact ⟨h6.symm,h8.symm,h9.symm⟩⟩
          have hrest:Aside0 (x.extract 1 x.size = Base.ofL q):=⟨Base.ext_data (by rw [HX2.out,Base.ofL_data])⟩
          go_wp2
          go_ret3
          exact ⟨by rw [hfin.out.1,hfin.out.2.1,hfin.out.2.2,← hrest.out];rfl,HB.out⟩
        · have hb34:(z == 34) = false:=by
           have:¬ z = 34:=fun e => h34 (hcz.1.1 e)
           simpa using this
          obtain ⟨g1,rfl⟩:∃ g1,gk = g1 + 1:=⟨gk - 1,by simp at hk;omega⟩
          by_cases h92:c = 92
          · have hz:(z == 92) = true:=by simpa using hcz.2.2 h92
            cases q with
            | nil =>
              have he2:(x.extract 1 x.size).toList.isEmpty = true:=by rw [ByteArray.toList_eq,HX2.out];rfl
              have hfin:Aside0 (r1 = ⟨#[]⟩ ∧ r2 = ⟨#[]⟩ ∧ r3 = 5):=⟨by
               have h5:=HR.out.2.1
               rw [h92,Base.unqL_open] at h5
               obtain ⟨h6,h7⟩:=Prod.mk.inj h5
               obtain ⟨h8,h9⟩:=Prod.mk.inj h7
               exact ⟨h6.symm,h8.symm,h9.symm⟩⟩
              go_wp2
              go_ret3
              exact ⟨by rw [hfin.out.1,hfin.out.2.1,hfin.out.2.2];rfl,HB.out⟩
            | cons d q2 =>
              obtain ⟨hp2,hc2,hx22,hxs2,he2⟩:=u1b.head (x.extract 1 x.size) d q2 HX2.out
              have HX22:=Aside0.mk hx22
              have HXS2:=Aside0.mk hxs2
              have hx12:1 ≤ (x.extract 1 x.size).size:=by omega
              have hx2s:2 ≤ x.size:=by
               have:=HXS.out
               simp at this
               omega
              have HX23:Aside0 (((x.extract 1 x.size).extract 1 (x.size - 1)).data.toList = q2):=⟨by
               have e1:(x.extract 1 x.size).size = x.size - 1:=by
                have h1:=HXS.out
                have h2:=HXS2.out
                simp at h1
                omega
               have h3:=HX22.out
               rw [e1] at h3
               exact h3⟩
              clear hx22 hxs2
              have hcz2:=u1b.byte_is d
              obtain ⟨z2,hzd⟩:∃ z2:Int,Aside0 ((d.toNat:Int) = z2):=⟨_,⟨rfl⟩⟩
              rw [hzd.out] at hc2 hcz2
              by_cases hd:d = 34 ∨ d = 92
              · have hfin:Aside0 (u1b.out (Base.unqL q2 (acc ++ [d])) = (r1,r2,r3)):=⟨by
                 have h5:=HR.out.2.1
                 rw [h92,Base.unqL_esc d q2 acc hd] at h5
                 exact h5⟩
                by_cases hd34:d = 34
                · have hz2:(z2 == 34) = true:=by simpa using hcz2.1.2 hd34
                  have hz2b:(z2 != 34) = false:=by simpa using hcz2.1.2 hd34
                  go_wp2_with fail
                  go_quiet (fail)
                  go_wp2_with (at_builtin;refine print_append_num (w0:=w) w.heap.size rfl (.tmp 47) (.tmp 49) 42 5 .u8 1 rfl Tryd.underlying42 u1b.info (by decide) _ (u1b.nats acc) z2 rfl rfl (by exact pw_own_below (Kd.own_of_R HR.out.2.2) (ua (Below.refl _ _) _)) (by exact ua HB.out _) ?_ ?_ ?_)
                  · have:=HB.out.size;simpa using this
                  · have h8:(u1b.nats acc).length = acc.length:=by simp [u1b.nats]
                    rw [h8];simp at hal;omega
                  · intro v1 w1 hown hB hg hat
                    have hR1:Kd.R (Kd.int .u8) 5 w1 w.heap.size (fun _ => True) v1 (u1b.nats (acc ++ [d])):=by
                     have h9:u1b.nats (acc ++ [d]) = u1b.nats acc ++ [z2]:=by simp [u1b.nats,hzd.out]
                     rw [h9]
                     have e9:∀ y:Int,(u1b.nats acc ++ [y]).length = (u1b.nats acc).length + 1:=fun y => by simp
                     refine Kd.R_of_own ?_ (fun _ _ => trivial)
                     rw [e9]
                     exact hown
                    have HR1:=Aside0.mk hR1
                    have HB1:=Aside0.mk hB
                    clear hown hg hat hB hR1
                    go_wp2
                    go_roundg g1
                    case rel => exact ⟨_,q2,acc ++ [d],rfl,⟨HX23.out,hfin.out,HR1.out⟩,by simp at hk;omega,by simp at hal ⊢;omega,HB1⟩
                    case measure => omega
                · have hz2:(z2 == 34) = false:=by
                   have:¬ z2 = 34:=fun e => hd34 (hcz2.1.1 e)
                   simpa using this
                  have hz3:(z2 == 92) = true:=by
                   have:d = 92:=by rcases hd with h | h;exact absurd h hd34;exact h
                   simpa using hcz2.2.2 this
                  have hz2b:(z2 != 34) = true:=by
                   have:¬ z2 = 34:=fun e => hd34 (hcz2.1.1 e)
                   simpa using this
                  have hz3b:(z2 != 92) = false:=by
                   have:d = 92:=by rcases hd with h | h;exact absurd h hd34;exact h
                   simpa using hcz2.2.2 this
                  go_wp2_with fail
                  go_quiet (fail)
                  go_wp2_with (at_builtin;refine print_append_num (w0:=w) w.heap.size rfl (.tmp 47) (.tmp 49) 42 5 .u8 1 rfl Tryd.underlying42 u1b.info (by decide) _ (u1b.nats acc) z2 rfl rfl (by exact pw_own_below (Kd.own_of_R HR.out.2.2) (ua (Below.refl _ _) _)) (by exact ua HB.out _) ?_ ?_ ?_)
                  · have:=HB.out.size;simpa using this
                  · have h8:(u1b.nats acc).length = acc.length:=by simp [u1b.nats]
                    rw [h8];simp at hal;omega
                  · intro v1 w1 hown hB hg hat
                    have hR1:Kd.R (Kd.int .u8) 5 w1 w.heap.size (fun _ => True) v1 (u1b.nats (acc ++ [d])):=by
                     have h9:u1b.nats (acc ++ [d]) = u1b.nats acc ++ [z2]:=by simp [u1b.nats,hzd.out]
                     rw [h9]
                     have e9:∀ y:Int,(u1b.nats acc ++ [y]).length = (u1b.nats acc).length + 1:=fun y => by simp
                     refine Kd.R_of_own ?_ (fun _ _ => trivial)
                     rw [e9]
                     exact hown
                    have HR1:=Aside0.mk hR1
                    have HB1:=Aside0.mk hB
                    clear hown hg hat hB hR1
                    go_wp2
                    go_roundg g1
                    case rel => exact ⟨_,q2,acc ++ [d],rfl,⟨HX23.out,hfin.out,HR1.out⟩,by simp at hk;omega,by simp at hal ⊢;omega,HB1⟩
                    case measure => omega
              · have hfin:Aside0 (r1 = ⟨#[]⟩ ∧ r2 = ⟨#[]⟩ ∧ r3 = 5):=⟨by
                 have h5:=HR.out.2.1
                 rw [h92,Base.unqL_bad d q2 acc hd] at h5
                 obtain ⟨h6,h7⟩:=Prod.mk.inj h5
                 obtain ⟨h8,h9⟩:=Prod.mk.inj h7
                 exact ⟨h6.symm,h8.symm,h9.symm⟩⟩
                have hz2:(z2 == 34) = false:=by
                 have:¬ z2 = 34:=fun e => hd (.inl (hcz2.1.1 e))
                 simpa using this
                have hz3:(z2 == 92) = false:=by
                 have:¬ z2 = 92:=fun e => hd (.inr (hcz2.2.1 e))
                 simpa using this
                have hz2b:(z2 != 34) = true:=by simpa using hz2
                have hz3b:(z2 != 92) = true:=by simpa using hz3
                go_wp2
                go_ret3
                exact ⟨by rw [hfin.out.1,hfin.out.2.1,hfin.out.2.2];rfl,HB.out⟩
          · have hb92:(z == 92) = false:=by
             have:¬ z = 92:=fun e => h92 (hcz.2.1 e)
             simpa using this
            have hfin:Aside0 (u1b.out (Base.unqL q (acc ++ [c])) = (r1,r2,r3)):=⟨by
             have h5:=HR.out.2.1
             rw [Base.unqL_plain c q acc h34 h92] at h5
             exact h5⟩
            go_wp2_with (at_builtin;refine print_append_num (w0:=w) w.heap.size rfl (.tmp 47) (.tmp 49) 42 5 .u8 1 rfl Tryd.underlying42 u1b.info (by decide) _ (u1b.nats acc) z rfl rfl (by exact Kd.own_of_R HR.out.2.2) (by exact HB.out) ?_ ?_ ?_)
            · have:=HB.out.size;simpa using this
            · have h8:(u1b.nats acc).length = acc.length:=by simp [u1b.nats]
              rw [h8];simp at hal;omega
            · intro v1 w1 hown hB hg hat
              have hR1:Kd.R (Kd.int .u8) 5 w1 w.heap.size (fun _ => True) v1 (u1b.nats (acc ++ [c])):=by
               have h9:u1b.nats (acc ++ [c]) = u1b.nats acc ++ [z]:=by simp [u1b.nats,hzc.out]
               rw [h9]
               have e9:∀ y:Int,(u1b.nats acc ++ [y]).length = (u1b.nats acc).length + 1:=fun y => by simp
               refine Kd.R_of_own ?_ (fun _ _ => trivial)
               rw [e9]
               exact hown
              have HR1:=Aside0.mk hR1
              have HB1:=Aside0.mk hB
              clear hown hg hat hB hR1
              go_wp2
              go_roundg g1
              case rel => exact ⟨_,q,acc ++ [c],rfl,⟨HX2.out,hfin.out,HR1.out⟩,by simp at hk;omega,by simp at hal ⊢;omega,HB1⟩
              case measure => omega
   · have hcut:=u1b.cut_no 34 a0 (fun r hr => hq ⟨r,hr⟩)
     have HC:=Aside0.mk hcut
     have hu2:Aside0 (r1 = ⟨#[]⟩ ∧ r2 = ⟨#[]⟩ ∧ r3 = 5):=⟨by
      unfold Base.unq at hu
      cases hl:a0.data.toList with
      | nil =>
        rw [hl] at hu
        obtain ⟨h6,h7⟩:=Prod.mk.inj hu
        obtain ⟨h8,h9⟩:=Prod.mk.inj h7
        exact ⟨h6.symm,h8.symm,h9.symm⟩
      | cons c q =>
        rw [hl] at hu
        have hc:¬ c = 34:=fun e => hq ⟨q,by rw [hl,e]⟩
        simp only [hc,if_false] at hu
        obtain ⟨h6,h7⟩:=Prod.mk.inj hu
        obtain ⟨h8,h9⟩:=Prod.mk.inj h7
        exact ⟨h6.symm,h8.symm,h9.symm⟩⟩
     clear hcut hu
     go_enter Tryd.func105,Tryd.ntmps105
     go_wp2_with (go_at_call 78;refine (u1w.calls _ _ _ _ _ HC.out).mono ?_;rintro e W1 ⟨rfl,⟨nd,rfl⟩⟩)
     refine wp_loop_rounds 1 ?_
     rw [rounds_succ]
     go_wp2
     go_ret3
     exact ⟨by rw [hu2.out.1,hu2.out.2.1,hu2.out.2.2];rfl,ua (Below.refl _ _) nd⟩
 · rw [if_neg hlim] at h
   exact absurd h (by simp)
set_option maxRecDepth 100000 in
set_option maxHeartbeats 1000000 in
theorem u1p.walk (w0 W:World) (g:Nat) (s:List UInt8) (hl:s.length ≤ 1000) (n:ByteArray) (r:List UInt8) (hn:Tx.nameP s = some (n,r)) (q:List UInt8) (hq:r = 61 :: q) (v:ByteArray) (t:List UInt8) (hv:Base.unq (Base.ofL q) = (v,Base.ofL t,0)) (hql:q.length ≤ 1000)
 (h:ud.St w0 W g s) :
 Calls Tryd.prog 85 #[.pointer (some ⟨g,0,none⟩)] W fun e W' => e = .returned (.agg #[.string n,.string v]) ∧ ud.St w0 W' g t ∧ u1y W W' g none:=by
 have HS:=Aside0.mk h
 have HN:=Aside0.mk hn
 have HG:=Aside0.mk h.lt
 have HU:Aside0 (u1b.f (Base.ofL q) = some (v,Base.ofL t,0)):=⟨by
  unfold u1b.f
  rw [if_pos (by rw [(Tx.cut_ofL q 0 (by omega)).2.2];omega),hv]⟩
 subst hq
 clear h hn hv
 go_enter Tryd.func85,Tryd.ntmps85
 go_wp2_with (first
  | (go_at_call 43;(with_reducible refine (u2q.calls_ok w0 _ g s (by omega) n (61 :: q) HN.out (by exact HS.out.one_more _)).mono ?_);rintro e W1 ⟨rfl,hs1,hk1⟩;have HS1:=Aside0.mk hs1;have HK1:=Aside0.mk hk1;have HL1:Aside0 (W.heap.size < W1.heap.size):=⟨by have:=hk1.1;simp at this;omega⟩;have B1:=Aside0.mk (ud.kept_at hk1 (by have:=HG.out;omega) (ud.new_at W _));clear hs1 hk1)
  | (go_at_call 44;(with_reducible refine (u1v.calls_ok w0 _ g 61 q (by exact HS1.out.one_more _)).mono ?_);rintro e W2 ⟨rfl,hs2,hk2⟩;have HS2:=Aside0.mk hs2;have HK2:=Aside0.mk hk2;have B2:=Aside0.mk (ud.kept_at hk2 (by have:=HG.out;omega) (ud.new_old B1.out _));have B3:=Aside0.mk (ud.kept_at hk2 (by have:=HG.out;have:=HL1.out;omega) (ud.new_at W1 _));obtain ⟨h0,f0⟩:=hs2.look;clear hs2 hk2)
  | (go_at_call 105;(with_reducible refine (u1b.calls _ _ _ _ _ HU.out).mono ?_);rintro e W3 ⟨rfl,hb⟩;clear h0 f0;obtain ⟨h0,f0⟩:=(HS2.out.more hb).look;obtain ⟨a0,a1,a2,a3⟩:=ud.look2 (ud.below_at hb B2.out);obtain ⟨b0,b1,b2,b3⟩:=ud.look2 (ud.below_at hb B3.out);have HB:=Aside0.mk hb;clear hb;have n1:¬ W1.heap.size = g:=(by have:=HG.out;have:=HL1.out;omega);have n2:¬ W.heap.size = g:=(by have:=HG.out;omega);have n3:¬ W.heap.size = W1.heap.size:=(by have:=HL1.out;omega);have n4:¬ g = W1.heap.size:=fun e => n1 e.symm;have n5:¬ g = W.heap.size:=fun e => n2 e.symm;have n6:¬ W1.heap.size = W.heap.size:=fun e => n3 e.symm)
  | (go_at_call 45;(with_reducible refine (u2l.calls_ok _).mono ?_);rintro e W4 ⟨rfl,rfl⟩))
 refine bodyPost_ret (v:=.agg #[.string n,.string v]) (by simp [results,Tryd.results85,go_sem,n1,n2,n3,n4,n5,n6,a0,a1,a2,a3]) rfl ⟨rfl,?_,?_⟩
 · have hw:w0.heap.size ≤ W.heap.size:=HS.out.below.size
   have hw1:w0.heap.size ≤ W1.heap.size:=HS1.out.below.size
   exact ((((HS2.out.more HB.out).far hw1 n4 _).set t).far hw n5 _).far hw n5 _
 · have k4:u1y W W4 g none:=ud.keep_then (ud.keep_from HK1.out) (ud.keep_then (ud.keep_from HK2.out) (u1y.of_below HB.out g none))
   exact ud.keep_new (ud.keep_new ((ud.keep_new k4 (by have:=HL1.out;show W.heap.size ≤ W1.heap.size;omega) _).set_ 0 _) (Nat.le_refl _) _) (Nat.le_refl _) _
theorem u1p.quoted (q:List UInt8):(∀ v t,Tx.quotedP q = some (v,t) → Base.unq (Base.ofL q) = (v,Base.ofL t,0)) ∧ (Tx.quotedP q = none → Base.unq (Base.ofL q) = (⟨#[]⟩,⟨#[]⟩,5)):=by
 unfold Tx.quotedP Base.unq
 rw [Base.ofL_data]
 cases q with
 | nil => exact ⟨fun v t h => (by cases h),fun _ => rfl⟩
 | cons c r =>
   simp only
   by_cases hc:c = 34
   · rw [if_pos hc,if_pos hc]
     cases Base.unqL r [] with
     | none => exact ⟨fun v t h => (by cases h),fun _ => rfl⟩
     | some p =>
       refine ⟨fun v t h => ?_,fun h => by cases h⟩
       obtain ⟨rfl,rfl⟩:=Prod.mk.inj (Option.some.inj h)
       rfl
   · rw [if_neg hc,if_neg hc]
     exact ⟨fun v t h => (by cases h),fun _ => rfl⟩
theorem u1p.name_rest {s r:List UInt8} {n:ByteArray} (h:Tx.nameP s = some (n,r)):r.length ≤ s.length:=by
 unfold Tx.nameP at h
 split at h
 · obtain ⟨_,rfl⟩:=Prod.mk.inj (Option.some.inj h)
   have h1:=congrArg List.length (List.takeWhile_append_dropWhile (p:=Tx.wordC) (l:=s))
   rw [List.length_append] at h1
   omega
 · cases h
theorem u1p.expect_is (c:UInt8) (s:List UInt8):(∀ q,Tx.expectP [c] s = some q → s = c :: q) ∧ (Tx.expectP [c] s = none → ∀ r,s ≠ c :: r):=by
 unfold Tx.expectP
 cases s with
 | nil => exact ⟨fun q h => by simp [List.isPrefixOf] at h,fun _ r h => by cases h⟩
 | cons d t =>
   by_cases hc:c = d
   · subst hc
     exact ⟨fun q h => by simp [List.isPrefixOf] at h;rw [h],fun h => by simp [List.isPrefixOf] at h⟩
   · exact ⟨fun q h => by simp [List.isPrefixOf,hc] at h,fun _ r h => hc (List.cons.inj h).1.symm⟩
theorem u1p.calls_ok (w0 W:World) (g:Nat) (s:List UInt8) (hl:s.length ≤ 1000) (x:Tx.Lb) (t:List UInt8) (hx:Tx.labelP s = some (x,t)) (h:ud.St w0 W g s) :
 Calls Tryd.prog 85 #[.pointer (some ⟨g,0,none⟩)] W fun e W' => e = .returned (.agg #[.string x.f0,.string x.f1]) ∧ ud.St w0 W' g t ∧ u1y W W' g none:=by
 unfold Tx.labelP at hx
 obtain ⟨⟨n,r⟩,hn,hx⟩:=Option.bind_eq_some_iff.1 hx
 obtain ⟨⟨v,t'⟩,hv,hx⟩:=Option.map_eq_some_iff.1 hx
 obtain ⟨rfl,rfl⟩:=Prod.mk.inj hx
 obtain ⟨q,hq,hv⟩:=Option.bind_eq_some_iff.1 hv
 have hr:=u1p.name_rest hn
 have hq2:=(u1p.expect_is 61 r).1 q hq
 subst hq2
 rw [List.length_cons] at hr
 exact u1p.walk w0 W g s hl n _ hn q rfl v t' ((u1p.quoted q).1 v t' hv) (by omega) h
set_option maxRecDepth 100000 in
set_option maxHeartbeats 1000000 in
theorem u1p.calls_no (w0 W:World) (g:Nat) (s:List UInt8) (hl:s.length ≤ 1000) (hx:Tx.labelP s = none) (h:ud.St w0 W g s) :
 Calls Tryd.prog 85 #[.pointer (some ⟨g,0,none⟩)] W fun e W' => e = .panicked (u2p.chain 280) ∧ Below w0.heap.size w0 W':=by
 have HS:=Aside0.mk h
 have HG:=Aside0.mk h.lt
 have HX:=Aside0.mk hx
 clear h hx
 cases hn:Tx.nameP s with
 | none =>
   have HN:=Aside0.mk hn
   clear hn
   go_enter Tryd.func85,Tryd.ntmps85
   go_wp2_with (go_at_call 43;(with_reducible refine (u2q.calls_no w0 _ g s (by omega) HN.out (by exact HS.out.one_more _)).mono ?_);rintro e W1 ⟨rfl,hb1⟩)
   exact ⟨rfl,rfl,hb1⟩
 | some p =>
   obtain ⟨n,r⟩:=p
   have hr:=u1p.name_rest hn
   have HN:=Aside0.mk hn
   cases hq:Tx.expectP [61] r with
   | none =>
     have HQ:=Aside0.mk ((u1p.expect_is 61 r).2 hq)
     clear hn hq
     go_enter Tryd.func85,Tryd.ntmps85
     go_wp2_with (first
      | (go_at_call 43;(with_reducible refine (u2q.calls_ok w0 _ g s (by omega) n r HN.out (by exact HS.out.one_more _)).mono ?_);rintro e W1 ⟨rfl,hs1,hk1⟩;have HS1:=Aside0.mk hs1;clear hs1 hk1)
      | (go_at_call 44;(with_reducible refine (u1v.calls_no w0 _ g 61 r HQ.out (by exact HS1.out.one_more _)).mono ?_);rintro e W2 ⟨rfl,hb2⟩))
     exact ⟨rfl,rfl,hb2⟩
   | some q =>
     have hq2:=(u1p.expect_is 61 r).1 q hq
     subst hq2
     have hv:Tx.quotedP q = none:=by
      have h1:=HX.out
      unfold Tx.labelP Tx.valP at h1
      rw [hn] at h1
      simp only [Option.bind_some] at h1
      rw [hq] at h1
      simpa using h1
     rw [List.length_cons] at hr
     have HU:Aside0 (u1b.f (Base.ofL q) = some (⟨#[]⟩,⟨#[]⟩,5)):=⟨by
      unfold u1b.f
      rw [if_pos (by rw [(Tx.cut_ofL q 0 (by omega)).2.2];omega),(u1p.quoted q).2 hv]⟩
     clear hn hq hv
     go_enter Tryd.func85,Tryd.ntmps85
     go_wp2_with (first
      | (go_at_call 43;(with_reducible refine (u2q.calls_ok w0 _ g s (by omega) n (61 :: q) HN.out (by exact HS.out.one_more _)).mono ?_);rintro e W1 ⟨rfl,hs1,hk1⟩;have HS1:=Aside0.mk hs1;clear hs1 hk1)
      | (go_at_call 44;(with_reducible refine (u1v.calls_ok w0 _ g 61 q (by exact HS1.out.one_more _)).mono ?_);rintro e W2 ⟨rfl,hs2,hk2⟩;have HS2:=Aside0.mk hs2;obtain ⟨h0,f0⟩:=hs2.look;clear hs2 hk2)
      | (go_at_call 105;(with_reducible refine (u1b.calls _ _ _ _ _ HU.out).mono ?_);rintro e W3 ⟨rfl,hb⟩;have HB:=Aside0.mk hb;clear hb)
      | (go_at_call 45;(with_reducible refine (u2l.calls_no _).mono ?_);rintro e W4 ⟨rfl,rfl⟩))
     exact ⟨rfl,rfl,(HS2.out.more HB.out).below⟩
theorem u1c.neg_is {n:Int} (h0:0 ≤ n) (h:n ≤ 9223372036854775808):wrap64 (IntKind.u64.wrap (-n)) = -n:=by
 unfold wrap64 IntKind.wrap
 simp only [IntKind.signed,IntKind.bits,Bool.false_and,Bool.false_eq_true,if_false]
 omega
theorem u1c.pos_is {n:Int} (h0:0 ≤ n) (h:n < 9223372036854775808):wrap64 n = n:=by
 unfold wrap64
 omega
theorem u1c.num_ge (base:Int) (hb:base = 10 ∨ base = 16):∀ (d:List UInt8) (m n:Int),(∀ c ∈ d,Tx.hexC c = true) → 0 ≤ m → Tx.numL base d m = some n → 0 ≤ n
 | [],m,n,_,hm,h => by
   cases Option.some.inj h
   exact hm
 | c :: d,m,n,hd,hm,h => by
   unfold Tx.numL at h
   split at h
   · refine u1c.num_ge base hb d _ n (fun x hx => hd x (List.mem_cons_of_mem _ hx)) ?_ h
     have h1:=hd c (List.mem_cons_self ..)
     unfold Tx.hexC Tx.decC at h1
     simp only [Bool.or_eq_true,Bool.and_eq_true,decide_eq_true_eq] at h1
     have h2:0 ≤ Tx.digV c:=by
      unfold Tx.digV
      split <;> omega
     rcases hb with rfl | rfl <;> omega
   · cases h
theorem u1c.peek_at (w0 W:World) (g:Nat) (s:List UInt8) (z:Int) (hz:ud.pk s = z) (h:ud.St w0 W g s):Calls Tryd.prog 31 #[.pointer (some ⟨g,0,none⟩)] W fun e W' => e = .returned (.int .u8 z) ∧ us W W':=by
 subst hz
 exact ud.calls w0 W g s h
set_option maxRecDepth 100000 in
set_option maxHeartbeats 1000000 in
theorem u1c.minus_ok (w0 W:World) (g:Nat) (s:List UInt8) (hl:s.length ≤ 1000) (q:List UInt8) (hs:s = 45 :: q) (n:Int) (r:List UInt8) (hv:Tx.valueD false 19 10 q = some (n,r)) (hle:n ≤ 9223372036854775808) (h:ud.St w0 W g s) :
 Calls Tryd.prog 64 #[.pointer (some ⟨g,0,none⟩)] W fun e W' => e = .returned (.int .i64 (-n)) ∧ ud.St w0 W' g r ∧ u1y W W' g none:=by
 subst hs
 have hql:q.length ≤ 1000:=by rw [List.length_cons] at hl;omega
 have HP:Aside0 (ud.pk (45 :: q) = 45):=⟨rfl⟩
 have HS:=Aside0.mk h
 clear h
 unfold Tx.valueD at hv
 obtain ⟨⟨d,r'⟩,hd,hv⟩:=Option.bind_eq_some_iff.1 hv
 obtain ⟨n',hn,hv⟩:=Option.map_eq_some_iff.1 hv
 obtain ⟨rfl,rfl⟩:=Prod.mk.inj hv
 simp only at hn
 obtain ⟨ha,hdl,hrl⟩:=u1o.dig_is hd
 have h0:=u1c.num_ge 10 (Or.inl rfl) d 0 n' ha (Int.le_refl 0) hn
 have HA:=Aside0.mk ha
 have HD:=Aside0.mk hd
 have HN:=Aside0.mk hn
 have HT:Aside0 (decide (n' ≤ 9223372036854775808) = true):=⟨decide_eq_true hle⟩
 have HW:=Aside0.mk (u1c.neg_is h0 hle)
 clear ha hd hn hv hle h0
 go_enter Tryd.func64,Tryd.ntmps64
 go_wp2_with (first
  | (go_at_call 31;(with_reducible refine (u1c.peek_at w0 _ g (45 :: q) 45 HP.out (by exact HS.out)).mono ?_);rintro e W0 ⟨rfl,⟨nd,rfl⟩⟩)
  | (go_at_call 44;(with_reducible refine (u1v.calls_ok w0 _ g 45 q (by exact HS.out.drew nd)).mono ?_);rintro e W1 ⟨rfl,hs1,hk1⟩;have HS1:=Aside0.mk hs1;have HK1:=Aside0.mk hk1;clear hs1 hk1)
  | (go_at_call 90;(with_reducible refine (u1r.ok_at 19 19 rfl w0 _ g false q (by omega) (by omega) d r' HD.out (by exact HS1.out)).mono ?_);rintro e W2 ⟨rfl,hs2,hk2⟩;have HS2:=Aside0.mk hs2;have HK2:=Aside0.mk hk2;clear hs2 hk2)
  | (go_at_call 89;(with_reducible refine (u1h.says d 10 (by omega) (by omega) HA.out n' HN.out _).mono ?_);rintro e W3 ⟨rfl,hb3⟩;have HB3:=Aside0.mk hb3;clear hb3)
  | (go_at_call 45;(with_reducible refine (u2l.calls_yes _ HT.out _).mono ?_);rintro e W4 ⟨rfl,rfl⟩))
 go_ret
 exact ⟨by first | rfl | (rw [HW.out];rfl),HS2.out.more HB3.out,ud.keep_then (ud.keep_then (u1y.of_below (ua (Below.refl _ _) nd) g none) HK1.out) (ud.keep_then HK2.out (u1y.of_below HB3.out g none))⟩
set_option maxRecDepth 100000 in
set_option maxHeartbeats 1000000 in
theorem u1c.minus_big (w0 W:World) (g:Nat) (s:List UInt8) (hl:s.length ≤ 1000) (q:List UInt8) (hs:s = 45 :: q) (n:Int) (r:List UInt8) (hv:Tx.valueD false 19 10 q = some (n,r)) (hle:¬ n ≤ 9223372036854775808) (h:ud.St w0 W g s) :
 Calls Tryd.prog 64 #[.pointer (some ⟨g,0,none⟩)] W fun e W' => e = .panicked (u2p.chain 280) ∧ Below w0.heap.size w0 W':=by
 subst hs
 have hql:q.length ≤ 1000:=by rw [List.length_cons] at hl;omega
 have HP:Aside0 (ud.pk (45 :: q) = 45):=⟨rfl⟩
 have HS:=Aside0.mk h
 clear h
 unfold Tx.valueD at hv
 obtain ⟨⟨d,r'⟩,hd,hv⟩:=Option.bind_eq_some_iff.1 hv
 obtain ⟨n',hn,hv⟩:=Option.map_eq_some_iff.1 hv
 obtain ⟨rfl,rfl⟩:=Prod.mk.inj hv
 simp only at hn
 obtain ⟨ha,hdl,hrl⟩:=u1o.dig_is hd
 have HA:=Aside0.mk ha
 have HD:=Aside0.mk hd
 have HN:=Aside0.mk hn
 have HT:Aside0 (decide (n' ≤ 9223372036854775808) = false):=⟨decide_eq_false hle⟩
 clear ha hd hn hv hle
 go_enter Tryd.func64,Tryd.ntmps64
 go_wp2_with (first
  | (go_at_call 31;(with_reducible refine (u1c.peek_at w0 _ g (45 :: q) 45 HP.out (by exact HS.out)).mono ?_);rintro e W0 ⟨rfl,⟨nd,rfl⟩⟩)
  | (go_at_call 44;(with_reducible refine (u1v.calls_ok w0 _ g 45 q (by exact HS.out.drew nd)).mono ?_);rintro e W1 ⟨rfl,hs1,hk1⟩;have HS1:=Aside0.mk hs1;have HK1:=Aside0.mk hk1;clear hs1 hk1)
  | (go_at_call 90;(with_reducible refine (u1r.ok_at 19 19 rfl w0 _ g false q (by omega) (by omega) d r' HD.out (by exact HS1.out)).mono ?_);rintro e W2 ⟨rfl,hs2,hk2⟩;have HS2:=Aside0.mk hs2;have HK2:=Aside0.mk hk2;clear hs2 hk2)
  | (go_at_call 89;(with_reducible refine (u1h.says d 10 (by omega) (by omega) HA.out n' HN.out _).mono ?_);rintro e W3 ⟨rfl,hb3⟩;have HB3:=Aside0.mk hb3;clear hb3)
  | (go_at_call 45;(with_reducible refine (u2l.calls_not _ HT.out _).mono ?_);rintro e W4 ⟨rfl,rfl⟩))
 exact ⟨rfl,rfl,(HS2.out.more HB3.out).below⟩
set_option maxRecDepth 100000 in
set_option maxHeartbeats 1000000 in
theorem u1c.minus_no (w0 W:World) (g:Nat) (s:List UInt8) (hl:s.length ≤ 1000) (q:List UInt8) (hs:s = 45 :: q) (hv:Tx.valueD false 19 10 q = none) (h:ud.St w0 W g s) :
 Calls Tryd.prog 64 #[.pointer (some ⟨g,0,none⟩)] W fun e W' => e = .panicked (u2p.chain 280) ∧ Below w0.heap.size w0 W':=by
 subst hs
 have hql:q.length ≤ 1000:=by rw [List.length_cons] at hl;omega
 have HP:Aside0 (ud.pk (45 :: q) = 45):=⟨rfl⟩
 have HS:=Aside0.mk h
 clear h
 unfold Tx.valueD at hv
 cases hd:Tx.digitsP false 19 q with
 | none =>
   have HD:=Aside0.mk hd
   clear hd hv
   go_enter Tryd.func64,Tryd.ntmps64
   go_wp2_with (first
   | (go_at_call 31;(with_reducible refine (u1c.peek_at w0 _ g (45 :: q) 45 HP.out (by exact HS.out)).mono ?_);rintro e W0 ⟨rfl,⟨nd,rfl⟩⟩)
   | (go_at_call 44;(with_reducible refine (u1v.calls_ok w0 _ g 45 q (by exact HS.out.drew nd)).mono ?_);rintro e W1 ⟨rfl,hs1,hk1⟩;have HS1:=Aside0.mk hs1;have HK1:=Aside0.mk hk1;clear hs1 hk1)
   | (go_at_call 90;(with_reducible refine (u1r.no_at 19 19 rfl w0 _ g false q (by omega) (by omega) HD.out (by exact HS1.out)).mono ?_);rintro e W2 ⟨rfl,hb2⟩))
   exact ⟨rfl,rfl,hb2⟩
 | some p =>
   obtain ⟨d,r⟩:=p
   rw [hd] at hv
   have hn:Tx.numL 10 d 0 = none:=by simpa using hv
   obtain ⟨ha,hdl,hrl⟩:=u1o.dig_is hd
   have HA:=Aside0.mk ha
   have HD:=Aside0.mk hd
   have HN:=Aside0.mk hn
   clear ha hd hn hv
   go_enter Tryd.func64,Tryd.ntmps64
   go_wp2_with (first
   | (go_at_call 31;(with_reducible refine (u1c.peek_at w0 _ g (45 :: q) 45 HP.out (by exact HS.out)).mono ?_);rintro e W0 ⟨rfl,⟨nd,rfl⟩⟩)
   | (go_at_call 44;(with_reducible refine (u1v.calls_ok w0 _ g 45 q (by exact HS.out.drew nd)).mono ?_);rintro e W1 ⟨rfl,hs1,hk1⟩;have HS1:=Aside0.mk hs1;have HK1:=Aside0.mk hk1;clear hs1 hk1)
   | (go_at_call 90;(with_reducible refine (u1r.ok_at 19 19 rfl w0 _ g false q (by omega) (by omega) d r HD.out (by exact HS1.out)).mono ?_);rintro e W2 ⟨rfl,hs2,hk2⟩;have HS2:=Aside0.mk hs2;have HK2:=Aside0.mk hk2;clear hs2 hk2)
   | (go_at_call 89;(with_reducible refine (u1h.says_no d 10 (by omega) (by omega) HA.out HN.out _).mono ?_);rintro e W3 ⟨rfl,hb3⟩))
   exact ⟨rfl,rfl,(HS2.out.more hb3).below⟩
set_option maxRecDepth 100000 in
set_option maxHeartbeats 1000000 in
theorem u1c.plus_ok (w0 W:World) (g:Nat) (s:List UInt8) (hl:s.length ≤ 1000) (hs:∀ q,s ≠ 45 :: q) (n:Int) (r:List UInt8) (hv:Tx.valueD false 19 10 s = some (n,r)) (hle:n < 9223372036854775808) (h:ud.St w0 W g s) :
 Calls Tryd.prog 64 #[.pointer (some ⟨g,0,none⟩)] W fun e W' => e = .returned (.int .i64 (n)) ∧ ud.St w0 W' g r ∧ u1y W W' g none:=by
 obtain ⟨z,hz⟩:∃ z,ud.pk s = z:=⟨_,rfl⟩
 have hz45:¬ z = 45:=by
  intro e
  cases s with
  | nil => rw [← hz] at e;exact absurd e (by decide)
  | cons c q =>
    have e2:(c.toNat:Int) = 45:=hz.trans e
    exact hs q (by rw [show c = 45 from UInt8.toNat_inj.1 (by simpa using (by omega:c.toNat = 45))])
 have HP:=Aside0.mk hz
 have hzb:(z == 45) = false:=beq_eq_false_iff_ne.2 hz45
 clear hz hs
 have HS:=Aside0.mk h
 clear h
 unfold Tx.valueD at hv
 obtain ⟨⟨d,r'⟩,hd,hv⟩:=Option.bind_eq_some_iff.1 hv
 obtain ⟨n',hn,hv⟩:=Option.map_eq_some_iff.1 hv
 obtain ⟨rfl,rfl⟩:=Prod.mk.inj hv
 simp only at hn
 obtain ⟨ha,hdl,hrl⟩:=u1o.dig_is hd
 have h0:=u1c.num_ge 10 (Or.inl rfl) d 0 n' ha (Int.le_refl 0) hn
 have HA:=Aside0.mk ha
 have HD:=Aside0.mk hd
 have HN:=Aside0.mk hn
 have HT:Aside0 (decide (n' < 9223372036854775808) = true):=⟨decide_eq_true hle⟩
 have HW:=Aside0.mk (u1c.pos_is h0 hle)
 clear ha hd hn hv hle h0
 go_enter Tryd.func64,Tryd.ntmps64
 go_wp2_with (first
  | (go_at_call 31;(with_reducible refine (u1c.peek_at w0 _ g s z HP.out (by exact HS.out)).mono ?_);rintro e W0 ⟨rfl,⟨nd,rfl⟩⟩)
  | (go_at_call 90;(with_reducible refine (u1r.ok_at 19 19 rfl w0 _ g false s (by omega) (by omega) d r' HD.out (by exact HS.out.drew nd)).mono ?_);rintro e W2 ⟨rfl,hs2,hk2⟩;have HS2:=Aside0.mk hs2;have HK2:=Aside0.mk hk2;clear hs2 hk2)
  | (go_at_call 89;(with_reducible refine (u1h.says d 10 (by omega) (by omega) HA.out n' HN.out _).mono ?_);rintro e W3 ⟨rfl,hb3⟩;have HB3:=Aside0.mk hb3;clear hb3)
  | (go_at_call 45;(with_reducible refine (u2l.calls_yes _ HT.out _).mono ?_);rintro e W4 ⟨rfl,rfl⟩))
 go_ret
 exact ⟨by first | rfl | (rw [HW.out];rfl),HS2.out.more HB3.out,ud.keep_then (u1y.of_below (ua (Below.refl _ _) nd) g none) (ud.keep_then HK2.out (u1y.of_below HB3.out g none))⟩
set_option maxRecDepth 100000 in
set_option maxHeartbeats 1000000 in
theorem u1c.plus_big (w0 W:World) (g:Nat) (s:List UInt8) (hl:s.length ≤ 1000) (hs:∀ q,s ≠ 45 :: q) (n:Int) (r:List UInt8) (hv:Tx.valueD false 19 10 s = some (n,r)) (hle:¬ n < 9223372036854775808) (h:ud.St w0 W g s) :
 Calls Tryd.prog 64 #[.pointer (some ⟨g,0,none⟩)] W fun e W' => e = .panicked (u2p.chain 280) ∧ Below w0.heap.size w0 W':=by
 obtain ⟨z,hz⟩:∃ z,ud.pk s = z:=⟨_,rfl⟩
 have hz45:¬ z = 45:=by
  intro e
  cases s with
  | nil => rw [← hz] at e;exact absurd e (by decide)
  | cons c q =>
    have e2:(c.toNat:Int) = 45:=hz.trans e
    exact hs q (by rw [show c = 45 from UInt8.toNat_inj.1 (by simpa using (by omega:c.toNat = 45))])
 have HP:=Aside0.mk hz
 have hzb:(z == 45) = false:=beq_eq_false_iff_ne.2 hz45
 clear hz hs
 have HS:=Aside0.mk h
 clear h
 unfold Tx.valueD at hv
 obtain ⟨⟨d,r'⟩,hd,hv⟩:=Option.bind_eq_some_iff.1 hv
 obtain ⟨n',hn,hv⟩:=Option.map_eq_some_iff.1 hv
 obtain ⟨rfl,rfl⟩:=Prod.mk.inj hv
 simp only at hn
 obtain ⟨ha,hdl,hrl⟩:=u1o.dig_is hd
 have HA:=Aside0.mk ha
 have HD:=Aside0.mk hd
 have HN:=Aside0.mk hn
 have HT:Aside0 (decide (n' < 9223372036854775808) = false):=⟨decide_eq_false hle⟩
 clear ha hd hn hv hle
 go_enter Tryd.func64,Tryd.ntmps64
 go_wp2_with (first
  | (go_at_call 31;(with_reducible refine (u1c.peek_at w0 _ g s z HP.out (by exact HS.out)).mono ?_);rintro e W0 ⟨rfl,⟨nd,rfl⟩⟩)
  | (go_at_call 90;(with_reducible refine (u1r.ok_at 19 19 rfl w0 _ g false s (by omega) (by omega) d r' HD.out (by exact HS.out.drew nd)).mono ?_);rintro e W2 ⟨rfl,hs2,hk2⟩;have HS2:=Aside0.mk hs2;have HK2:=Aside0.mk hk2;clear hs2 hk2)
  | (go_at_call 89;(with_reducible refine (u1h.says d 10 (by omega) (by omega) HA.out n' HN.out _).mono ?_);rintro e W3 ⟨rfl,hb3⟩;have HB3:=Aside0.mk hb3;clear hb3)
  | (go_at_call 45;(with_reducible refine (u2l.calls_not _ HT.out _).mono ?_);rintro e W4 ⟨rfl,rfl⟩))
 exact ⟨rfl,rfl,(HS2.out.more HB3.out).below⟩
set_option maxRecDepth 100000 in
set_option maxHeartbeats 1000000 in
theorem u1c.plus_no (w0 W:World) (g:Nat) (s:List UInt8) (hl:s.length ≤ 1000) (hs:∀ q,s ≠ 45 :: q) (hv:Tx.valueD false 19 10 s = none) (h:ud.St w0 W g s) :
 Calls Tryd.prog 64 #[.pointer (some ⟨g,0,none⟩)] W fun e W' => e = .panicked (u2p.chain 280) ∧ Below w0.heap.size w0 W':=by
 obtain ⟨z,hz⟩:∃ z,ud.pk s = z:=⟨_,rfl⟩
 have hz45:¬ z = 45:=by
  intro e
  cases s with
  | nil => rw [← hz] at e;exact absurd e (by decide)
  | cons c q =>
    have e2:(c.toNat:Int) = 45:=hz.trans e
    exact hs q (by rw [show c = 45 from UInt8.toNat_inj.1 (by simpa using (by omega:c.toNat = 45))])
 have HP:=Aside0.mk hz
 have hzb:(z == 45) = false:=beq_eq_false_iff_ne.2 hz45
 clear hz hs
 have HS:=Aside0.mk h
 clear h
 unfold Tx.valueD at hv
 cases hd:Tx.digitsP false 19 s with
 | none =>
   have HD:=Aside0.mk hd
   clear hd hv
   go_enter Tryd.func64,Tryd.ntmps64
   go_wp2_with (first
   | (go_at_call 31;(with_reducible refine (u1c.peek_at w0 _ g s z HP.out (by exact HS.out)).mono ?_);rintro e W0 ⟨rfl,⟨nd,rfl⟩⟩)
   | (go_at_call 90;(with_reducible refine (u1r.no_at 19 19 rfl w0 _ g false s (by omega) (by omega) HD.out (by exact HS.out.drew nd)).mono ?_);rintro e W2 ⟨rfl,hb2⟩))
   exact ⟨rfl,rfl,hb2⟩
 | some p =>
   obtain ⟨d,r⟩:=p
   rw [hd] at hv
   have hn:Tx.numL 10 d 0 = none:=by simpa using hv
   obtain ⟨ha,hdl,hrl⟩:=u1o.dig_is hd
   have HA:=Aside0.mk ha
   have HD:=Aside0.mk hd
   have HN:=Aside0.mk hn
   clear ha hd hn hv
   go_enter Tryd.func64,Tryd.ntmps64
   go_wp2_with (first
   | (go_at_call 31;(with_reducible refine (u1c.peek_at w0 _ g s z HP.out (by exact HS.out)).mono ?_);rintro e W0 ⟨rfl,⟨nd,rfl⟩⟩)
   | (go_at_call 90;(with_reducible refine (u1r.ok_at 19 19 rfl w0 _ g false s (by omega) (by omega) d r HD.out (by exact HS.out.drew nd)).mono ?_);rintro e W2 ⟨rfl,hs2,hk2⟩;have HS2:=Aside0.mk hs2;have HK2:=Aside0.mk hk2;clear hs2 hk2)
   | (go_at_call 89;(with_reducible refine (u1h.says_no d 10 (by omega) (by omega) HA.out HN.out _).mono ?_);rintro e W3 ⟨rfl,hb3⟩))
   exact ⟨rfl,rfl,(HS2.out.more hb3).below⟩
theorem u1c.time_is (s:List UInt8):(∃ q,s = 45 :: q ∧ Tx.timeP s = (Tx.valueD false 19 10 q).bind fun p => if p.1 ≤ 9223372036854775808 then some (-p.1,p.2) else none) ∨ ((∀ q,s ≠ 45 :: q) ∧ Tx.timeP s = (Tx.valueD false 19 10 s).bind fun p => if p.1 < 9223372036854775808 then some p else none):=by
 by_cases h:∃ q,s = 45 :: q
 · obtain ⟨q,rfl⟩:=h
   exact Or.inl ⟨q,rfl,rfl⟩
 · refine Or.inr ⟨fun q e => h ⟨q,e⟩,?_⟩
   unfold Tx.timeP
   split
   · exact absurd ⟨_,rfl⟩ h
   · rfl
theorem u1c.calls_ok (w0 W:World) (g:Nat) (s:List UInt8) (hl:s.length ≤ 1000) (t:Int) (r:List UInt8) (hv:Tx.timeP s = some (t,r)) (h:ud.St w0 W g s) :
 Calls Tryd.prog 64 #[.pointer (some ⟨g,0,none⟩)] W fun e W' => e = .returned (.int .i64 t) ∧ ud.St w0 W' g r ∧ u1y W W' g none:=by
 rcases u1c.time_is s with ⟨q,hq,e⟩ | ⟨hq,e⟩
 · rw [e] at hv
   obtain ⟨⟨n,r'⟩,hd,hv⟩:=Option.bind_eq_some_iff.1 hv
   simp only at hv
   split at hv
   · rename_i hle
     obtain ⟨rfl,rfl⟩:=Prod.mk.inj (Option.some.inj hv)
     exact u1c.minus_ok w0 W g s hl q hq n _ hd hle h
   · cases hv
 · rw [e] at hv
   obtain ⟨⟨n,r'⟩,hd,hv⟩:=Option.bind_eq_some_iff.1 hv
   simp only at hv
   split at hv
   · rename_i hle
     obtain ⟨rfl,rfl⟩:=Prod.mk.inj (Option.some.inj hv)
     exact u1c.plus_ok w0 W g s hl hq _ _ hd hle h
   · cases hv
theorem u1c.calls_no (w0 W:World) (g:Nat) (s:List UInt8) (hl:s.length ≤ 1000) (hv:Tx.timeP s = none) (h:ud.St w0 W g s) :
 Calls Tryd.prog 64 #[.pointer (some ⟨g,0,none⟩)] W fun e W' => e = .panicked (u2p.chain 280) ∧ Below w0.heap.size w0 W':=by
 rcases u1c.time_is s with ⟨q,hq,e⟩ | ⟨hq,e⟩
 · rw [e] at hv
   cases hd:Tx.valueD false 19 10 q with
   | none => exact u1c.minus_no w0 W g s hl q hq hd h
   | some p =>
     rw [hd] at hv
     exact u1c.minus_big w0 W g s hl q hq p.1 p.2 hd (by simpa using hv) h
 · rw [e] at hv
   cases hd:Tx.valueD false 19 10 s with
   | none => exact u1c.plus_no w0 W g s hl hq hd h
   | some p =>
     rw [hd] at hv
     exact u1c.plus_big w0 W g s hl hq p.1 p.2 hd (by simpa using hv) h
theorem ur.infoL:(Tryd.prog.info? 37).map (fun i => (i.zero,i.size,i.bytes)) = some (some (.agg #[(.string ⟨#[]⟩),(.string ⟨#[]⟩)]),2,32):=by kernel_rfl
def ur.Out (w0 W:World) (g:Nat) (o:Option (List Tx.Lb × List UInt8)) (e:Ending) (W':World):Prop:=match o with
 | some (l,r) => ∃ v:Value,e = .returned v ∧ Kd.R k37 37 W' W.heap.size (fun k => k ≠ g) v l ∧ ud.St w0 W' g r ∧ u1y W W' g none
 | none => e = .panicked (u2p.chain 280) ∧ Below w0.heap.size w0 W'
theorem ur.out_some {w0 W:World} {g:Nat} {o:Option (List Tx.Lb × List UInt8)} {l:List Tx.Lb} {r:List UInt8} (ho:o = some (l,r)) {v:Value} {W':World} (h1:Kd.R k37 37 W' W.heap.size (fun k => k ≠ g) v l) (h2:ud.St w0 W' g r) (h3:u1y W W' g none):ur.Out w0 W g o (.returned v) W':=by
 subst ho
 exact ⟨v,rfl,h1,h2,h3⟩
theorem ur.out_none {w0 W:World} {g:Nat} {o:Option (List Tx.Lb × List UInt8)} (ho:o = none) {W':World} (h1:Below w0.heap.size w0 W'):ur.Out w0 W g o (.panicked (u2p.chain 280)) W':=by
 subst ho
 exact ⟨rfl,h1⟩
theorem ur.unq_rest:∀ (n:Nat) (l acc a q:List UInt8),l.length ≤ n → Base.unqL l acc = some (a,q) → q.length < l.length
 | 0,l,acc,a,q,hn,h => by
   cases l with
   | nil => rw [Base.unqL_nil] at h;cases h
   | cons c r => simp at hn
 | n + 1,l,acc,a,q,hn,h => by
   cases l with
   | nil => rw [Base.unqL_nil] at h;cases h
   | cons c r =>
     rw [List.length_cons] at hn ⊢
     by_cases h1:c = 34
     · subst h1
       rw [Base.unqL_end] at h
       obtain ⟨_,rfl⟩:=Prod.mk.inj (Option.some.inj h)
       omega
     · by_cases h2:c = 92
       · subst h2
         cases r with
         | nil => rw [Base.unqL_open] at h;cases h
         | cons d z =>
           by_cases h3:d = 34 ∨ d = 92
           · rw [Base.unqL_esc _ _ _ h3] at h
             have:=ur.unq_rest n z _ a q (by simp at hn;omega) h
             rw [List.length_cons]
             omega
           · rw [Base.unqL_bad _ _ _ h3] at h
             cases h
       · rw [Base.unqL_plain _ _ _ h1 h2] at h
         have:=ur.unq_rest n r _ a q (by omega) h
         omega
theorem ur.quoted_rest {q t:List UInt8} {v:ByteArray} (h:Tx.quotedP q = some (v,t)):t.length < q.length:=by
 unfold Tx.quotedP at h
 cases q with
 | nil => cases h
 | cons c r =>
   simp only at h
   split at h
   · obtain ⟨⟨a,z⟩,h1,h2⟩:=Option.map_eq_some_iff.1 h
     obtain ⟨_,rfl⟩:=Prod.mk.inj h2
     have:=ur.unq_rest _ r [] a z (Nat.le_refl _) h1
     rw [List.length_cons]
     simp only
     omega
   · cases h
theorem ur.label_rest {s r:List UInt8} {x:Tx.Lb} (h:Tx.labelP s = some (x,r)):r.length < s.length:=by
 unfold Tx.labelP at h
 obtain ⟨⟨n,q⟩,hn,h⟩:=Option.bind_eq_some_iff.1 h
 obtain ⟨⟨v,t⟩,hv,h⟩:=Option.map_eq_some_iff.1 h
 obtain ⟨_,rfl⟩:=Prod.mk.inj h
 obtain ⟨z,hz,hv⟩:=Option.bind_eq_some_iff.1 hv
 have h1:=u1p.name_rest hn
 have h2:=(u1p.expect_is 61 q).1 z hz
 rw [h2,List.length_cons] at h1
 have h3:=ur.quoted_rest hv
 show t.length < s.length
 omega
def ur.rest (k:Nat) (acc:List Tx.Lb) (s:List UInt8):Option (List Tx.Lb × List UInt8):=(Tx.labelsP k acc s).bind fun q => (Tx.expectP [125] q.2).map fun t => (q.1,t)
theorem ur.rest_comma (k:Nat) (acc:List Tx.Lb) (t:List UInt8):ur.rest (k + 1) acc (44 :: t) = if acc.length ≤ 8 then (Tx.labelP t).bind fun p => ur.rest k (acc ++ [p.1]) p.2 else none:=by
 unfold ur.rest
 conv => lhs;unfold Tx.labelsP
 simp only
 split
 · cases Tx.labelP t <;> rfl
 · rfl
theorem ur.rest_other (k:Nat) (acc:List Tx.Lb) (s:List UInt8) (h:∀ t,s ≠ 44 :: t):ur.rest (k + 1) acc s = (Tx.expectP [125] s).map fun t => (acc,t):=by
 unfold ur.rest
 conv => lhs;unfold Tx.labelsP
 split
 · exact absurd rfl (h _)
 · rfl
theorem ur.pk_ne (s:List UInt8) (c:UInt8) (hc:c.toNat ≠ 0) (h:∀ t,s ≠ c :: t):¬ ud.pk s = (c.toNat:Int):=by
 intro e
 cases s with
 | nil =>
   have e2:(0:Int) = c.toNat:=e
   omega
 | cons d t =>
   have e2:(d.toNat:Int) = c.toNat:=e
   exact h t (by rw [show d = c from UInt8.toNat_inj.1 (by omega)])
theorem ur.grown_keep {W W3 w1:World} {g:Nat} {v:Value} (hk:u1y W W3 g none) (hv:∀ b,v.ownBlock = some b → W.heap.size ≤ b) (hg:W3.grownBy w1 v.ownBlock):u1y W w1 g none :=
 ⟨Nat.le_trans hk.1 hg.size,fun i hi hne hr => (hg.block i (Nat.lt_of_lt_of_le hi hk.1) (fun e => by have:=hv i e.symm;omega)).trans (hk.2 i hi hne hr)⟩
theorem ur.grown_st {w0 W3 w1:World} {g:Nat} {s:List UInt8} {v:Value} (hs:ud.St w0 W3 g s) (hv:∀ b,v.ownBlock = some b → b ≠ g ∧ w0.heap.size ≤ b) (hg:W3.grownBy w1 v.ownBlock):ud.St w0 w1 g s :=
 hs.keep (hs.below.grown hg hs.below.size (fun k hk => (hv k hk).2)) (hg.block g hs.lt (fun e => (hv g e.symm).1 rfl))
structure ur.Own (W w0:World) (g:Nat) (v:Value):Prop where
 base:∀ b,v.ownBlock = some b → W.heap.size ≤ b
 far:∀ b,v.ownBlock = some b → b ≠ g ∧ w0.heap.size ≤ b
theorem ur.own_facts {w0 W W7:World} {g:Nat} {v:Value} {l:List Tx.Lb} (h:Kd.R k37 37 W7 W.heap.size (fun k => k ≠ g) v l) (hw:w0.heap.size ≤ W.heap.size):ur.Own W w0 g v :=
 ⟨fun b hb => Kd.R_base h b hb,fun b hb => ⟨h.1 b hb,Nat.le_trans hw (Kd.R_base h b hb)⟩⟩
set_option maxRecDepth 100000 in
set_option maxHeartbeats 2000000 in
theorem ur.calls (w0 W:World) (g:Nat) (s:List UInt8) (hl:s.length ≤ 1000) (h:ud.St w0 W g s) :
 Calls Tryd.prog 56 #[.pointer (some ⟨g,0,none⟩)] W fun e W' => ur.Out w0 W g (Tx.bracesP s) e W':=by
 have HS:=Aside0.mk h
 have HG:=Aside0.mk h.lt
 clear h
 cases hq:Tx.expectP [123] s with
 | none =>
   have HQ:=Aside0.mk ((u1p.expect_is 123 s).2 hq)
   have HO:Aside0 (Tx.bracesP s = none):=⟨by unfold Tx.bracesP;rw [hq];rfl⟩
   clear hq
   go_enter Tryd.func56,Tryd.ntmps56
   go_wp2_with (go_at_call 44;(with_reducible refine (u1v.calls_no w0 _ g 123 s HQ.out (by exact HS.out)).mono ?_);rintro e W1 ⟨rfl,hb1⟩)
   exact ⟨rfl,ur.out_none HO.out hb1⟩
 | some q =>
   have hs:=(u1p.expect_is 123 s).1 q hq
   cases hx:Tx.labelP q with
   | none =>
     have HO:Aside0 (Tx.bracesP s = none):=⟨by unfold Tx.bracesP;rw [hq];simp [hx]⟩
     subst hs
     have hql:q.length ≤ 1000:=by rw [List.length_cons] at hl;omega
     have HX:=Aside0.mk hx
     clear hq hx
     go_enter Tryd.func56,Tryd.ntmps56
     go_wp2_with (first
      | (go_at_call 44;(with_reducible refine (u1v.calls_ok w0 _ g 123 q (by exact HS.out)).mono ?_);rintro e W1 ⟨rfl,hs1,hk1⟩;have HS1:=Aside0.mk hs1;clear hs1 hk1)
      | (go_at_call 85;(with_reducible refine (u1p.calls_no w0 _ g q (by omega) HX.out (by exact HS1.out)).mono ?_);rintro e W2 ⟨rfl,hb2⟩))
     exact ⟨rfl,ur.out_none HO.out hb2⟩
   | some p =>
     obtain ⟨x,t⟩:=p
     have HO:Aside0 (Tx.bracesP s = ur.rest s.length [x] t):=⟨by unfold Tx.bracesP;rw [hq];simp [hx,ur.rest]⟩
     have htl:=ur.label_rest hx
     subst hs
     have hql:q.length + 1 ≤ 1000:=by rw [List.length_cons] at hl;omega
     have HX:=Aside0.mk hx
     clear hq hx hl
     rw [HO.out,List.length_cons]
     clear HO
     generalize HZ:ur.rest (q.length + 1) [x] t = o
     have HO:=Aside0.mk HZ
     clear HZ
     go_enter Tryd.func56,Tryd.ntmps56
     go_wp2_with (first
      | (go_at_call 44;(with_reducible refine (u1v.calls_ok w0 _ g 123 q (by exact HS.out)).mono ?_);rintro e W1 ⟨rfl,hs1,hk1⟩;have HS1:=Aside0.mk hs1;have HK1:=Aside0.mk hk1;clear hs1 hk1)
      | (go_at_call 85;(with_reducible refine (u1p.calls_ok w0 _ g q (by omega) x t HX.out (by exact HS1.out)).mono ?_);rintro e W2 ⟨rfl,hs2,hk2⟩;have HS2:=Aside0.mk hs2;have HK2:=Aside0.mk (ud.keep_then HK1.out hk2);clear hs2 hk2)
      | ((with_reducible refine u2k (N:=8) rfl ?_);refine Kd.R_lit k37 (w0:=W2) W.heap.size 37 ?hg (N:=8) ?hd (xs:=([x]:List Tx.Lb)) (inner:=[.string x.f0,.string x.f1]) (ok:=fun k => k ≠ g) (okp:=fun _ => False) ?hr ?hp (fun _ hk => hk.elim) ?hf (Below.refl _ _) HK2.out.1 (by simp) ?_;(case hd => rfl);(case hg => rfl);(case hr => first | (go_simp;done) | (go_simp;rfl));(case hp => exact (Reps.c2 (show Kd.M k37 _ _ _ x [.string x.f0,.string x.f1] from (k37_mkM _ _ _ x)) (Reps.none _ _)));(case hf => have h1:=HK2.out.1;have h2:=HG.out;omega);intro v3 w3 ho hb hg_ hnew_;have HR3:=Aside0.mk ho;have HK3:=Aside0.mk (ud.keep_then HK2.out (u1y.of_grown hg_ g));have HS3:=Aside0.mk (HS2.out.more ⟨hg_.os,hg_.tape,hg_.output,hg_.size,fun i hi => hg_.block i hi (by simp)⟩);clear ho hb hg_ hnew_))
     go_loopg [3] (q.length + 1) (fun kq v3 wr => ∃ (acc:List Tx.Lb) (s2:List UInt8),s2.length < kq ∧ s2.length ≤ 1000 ∧ Aside0 (ur.rest kq acc s2 = o) ∧ Aside0 (Kd.R k37 37 wr W.heap.size (fun k => k ≠ g) v3 acc) ∧ Aside0 (ud.St w0 wr g s2) ∧ Aside0 (u1y W wr g none))
     case atStart => exact ⟨[x],t,by omega,by omega,HO,HR3,HS3,HK3⟩
     case round =>
      clear HO HR3 HS3 HK3 HS1 HK1 HS2 HK2
      have HS0:=HS
      clear HS
      obtain ⟨acc,s2,hlk,hl2,HO,HR,HS,HK⟩:=hrel
      obtain ⟨A,c,e⟩:=Kd.R_slice HR.out
      subst e
      obtain ⟨k1,rfl⟩:∃ k1,gk = k1 + 1:=⟨gk - 1,by omega⟩
      by_cases hcm:∃ u,s2 = 44 :: u
      · obtain ⟨u,rfl⟩:=hcm
        rw [List.length_cons] at hlk hl2
        have HP:Aside0 (ud.pk (44 :: u) = 44):=⟨rfl⟩
        rw [ur.rest_comma] at HO
        by_cases h8:acc.length ≤ 8
        · have HT:Aside0 (decide ((acc.length:Int) ≤ 8) = true):=⟨decide_eq_true (by omega)⟩
          have HA8:=Aside0.mk h8
          rw [if_pos h8] at HO
          clear h8
          cases hy:Tx.labelP u with
          | none =>
            rw [hy] at HO
            have HY:=Aside0.mk hy
            clear hy
            go_wp2_with (first
             | (go_at_call 31;(with_reducible refine (u1c.peek_at w0 _ g (44 :: u) 44 HP.out (by exact HS.out)).mono ?_);rintro e W4 ⟨rfl,⟨nd,rfl⟩⟩)
             | (go_at_call 44;(with_reducible refine (u1v.calls_ok w0 _ g 44 u (by exact HS.out.drew nd)).mono ?_);rintro e W5 ⟨rfl,hs5,hk5⟩;have HS5:=Aside0.mk hs5;have HK5:=Aside0.mk (ud.keep_then HK.out (ud.keep_then (u1y.of_below (ua (Below.refl _ _) nd) g none) hk5));have HR5:=Aside0.mk (Kd.R_keep (Kd.R_drewN HR.out nd) hk5 (fun _ hk => hk));clear hs5 hk5)
             | (go_at_call 45;(with_reducible refine (u2l.calls_yes _ HT.out _).mono ?_);rintro e W6 ⟨rfl,rfl⟩)
             | (go_at_call 85;(with_reducible refine (u1p.calls_no w0 _ g u (by omega) HY.out (by exact HS5.out)).mono ?_);rintro e W7 ⟨rfl,hb7⟩))
            exact ⟨rfl,ur.out_none HO.out.symm hb7⟩
          | some p =>
            obtain ⟨y,t2⟩:=p
            rw [hy] at HO
            have hyl:=ur.label_rest hy
            have HY:=Aside0.mk hy
            have HWB:Aside0 (w0.heap.size ≤ W.heap.size):=⟨HS0.out.below.size⟩
            clear hy
            go_wp2_with (first
             | (go_at_call 31;(with_reducible refine (u1c.peek_at w0 _ g (44 :: u) 44 HP.out (by exact HS.out)).mono ?_);rintro e W4 ⟨rfl,⟨nd,rfl⟩⟩)
             | (go_at_call 44;(with_reducible refine (u1v.calls_ok w0 _ g 44 u (by exact HS.out.drew nd)).mono ?_);rintro e W5 ⟨rfl,hs5,hk5⟩;have HS5:=Aside0.mk hs5;have HK5:=Aside0.mk (ud.keep_then HK.out (ud.keep_then (u1y.of_below (ua (Below.refl _ _) nd) g none) hk5));have HR5:=Aside0.mk (Kd.R_keep (Kd.R_drewN HR.out nd) hk5 (fun _ hk => hk));clear hs5 hk5)
             | (go_at_call 45;(with_reducible refine (u2l.calls_yes _ HT.out _).mono ?_);rintro e W6 ⟨rfl,rfl⟩)
             | (go_at_call 85;(with_reducible refine (u1p.calls_ok w0 _ g u (by omega) y t2 HY.out (by exact HS5.out)).mono ?_);rintro e W7 ⟨rfl,hs7,hk7⟩;have HS7:=Aside0.mk hs7;have HK7:=Aside0.mk (ud.keep_then HK5.out hk7);have HR7:=Aside0.mk (Kd.R_keep HR5.out hk7 (fun _ hk => hk));clear hs7 hk7)
             | (at_builtin;refine Kd.R_append k37 (w0:=W7) (W:=W7) W.heap.size rfl (.tmp 18) (.tmp 21) 22 37 (.agg #[(.string ⟨#[]⟩),(.string ⟨#[]⟩)]) 32 rfl Tryd.underlying22 ur.infoL rfl (by decide) (by decide) _ acc y [.string y.f0,.string y.f1] (fun k => k ≠ g) (fun _ => False) rfl rfl (k37_mkM _ _ _ y) (fun _ hk => hk.elim) ?hfr HR7.out (Below.refl _ _) HK7.out.1 ?hbig ?_;(case hfr => have h1:=HS7.out.lt;intro k hk;omega);(case hbig => have:=HA8.out;omega);intro v8 w8 ho hb hg8 hat;have HOW:=Aside0.mk (ur.own_facts HR7.out HWB.out);have HR8:=Aside0.mk ho;have HS8:=Aside0.mk (ur.grown_st HS7.out HOW.out.far hg8);have HK8:=Aside0.mk (ur.grown_keep HK7.out HOW.out.base hg8);clear ho hb hg8 hat))
            go_roundg k1
            case rel => exact ⟨acc ++ [y],t2,by omega,by omega,⟨HO.out⟩,HR8,HS8,HK8⟩
            case measure => omega
        · have HT:Aside0 (decide ((acc.length:Int) ≤ 8) = false):=⟨decide_eq_false (by omega)⟩
          rw [if_neg h8] at HO
          clear h8
          go_wp2_with (first
           | (go_at_call 31;(with_reducible refine (u1c.peek_at w0 _ g (44 :: u) 44 HP.out (by exact HS.out)).mono ?_);rintro e W4 ⟨rfl,⟨nd,rfl⟩⟩)
           | (go_at_call 44;(with_reducible refine (u1v.calls_ok w0 _ g 44 u (by exact HS.out.drew nd)).mono ?_);rintro e W5 ⟨rfl,hs5,hk5⟩;have HS5:=Aside0.mk hs5;have HK5:=Aside0.mk (ud.keep_then HK.out (ud.keep_then (u1y.of_below (ua (Below.refl _ _) nd) g none) hk5));have HR5:=Aside0.mk (Kd.R_keep (Kd.R_drewN HR.out nd) hk5 (fun _ hk => hk));clear hs5 hk5)
           | (go_at_call 45;(with_reducible refine (u2l.calls_not _ HT.out _).mono ?_);rintro e W6 ⟨rfl,rfl⟩))
          exact ⟨rfl,ur.out_none HO.out.symm HS5.out.below⟩
      · obtain ⟨z,hz⟩:∃ z,ud.pk s2 = z:=⟨_,rfl⟩
        have hz44:¬ z = 44:=by
         rw [← hz]
         exact ur.pk_ne s2 44 (by decide) (fun u e => hcm ⟨u,e⟩)
        have HP:=Aside0.mk hz
        have hzb:(z == 44) = false:=beq_eq_false_iff_ne.2 hz44
        rw [ur.rest_other _ _ _ (fun u e => hcm ⟨u,e⟩)] at HO
        clear hz hcm
        cases he:Tx.expectP [125] s2 with
        | none =>
          rw [he] at HO
          have HE:=Aside0.mk ((u1p.expect_is 125 s2).2 he)
          clear he
          go_wp2_with (first
           | (go_at_call 31;(with_reducible refine (u1c.peek_at w0 _ g s2 z HP.out (by exact HS.out)).mono ?_);rintro e W4 ⟨rfl,⟨nd,rfl⟩⟩)
           | (go_at_call 44;(with_reducible refine (u1v.calls_no w0 _ g 125 s2 HE.out (by exact HS.out.drew nd)).mono ?_);rintro e W5 ⟨rfl,hb5⟩))
          exact ⟨rfl,ur.out_none HO.out.symm hb5⟩
        | some r =>
          rw [he] at HO
          have he2:=(u1p.expect_is 125 s2).1 r he
          subst he2
          clear he
          go_wp2_with (first
           | (go_at_call 31;(with_reducible refine (u1c.peek_at w0 _ g (125 :: r) z HP.out (by exact HS.out)).mono ?_);rintro e W4 ⟨rfl,⟨nd,rfl⟩⟩)
           | (go_at_call 44;(with_reducible refine (u1v.calls_ok w0 _ g 125 r (by exact HS.out.drew nd)).mono ?_);rintro e W5 ⟨rfl,hs5,hk5⟩;have HS5:=Aside0.mk hs5;have HK5:=Aside0.mk (ud.keep_then HK.out (ud.keep_then (u1y.of_below (ua (Below.refl _ _) nd) g none) hk5));have HR5:=Aside0.mk (Kd.R_keep (Kd.R_drewN HR.out nd) hk5 (fun _ hk => hk));clear hs5 hk5))
          go_ret
          exact ur.out_some HO.out.symm HR5.out HS5.out HK5.out
theorem u1s.nan (s:ByteArray) (w:World):Calls Tryd.prog 87 #[.string s] w fun e w' => e = .returned (.bool false) ∧ w' = w:=by
 go_enter Tryd.func87,Tryd.ntmps87
 go_wp2
 go_ret
 exact ⟨by simp,rfl⟩
def u1s.cmpB (a b:ByteArray):Int:=if Tx.less a b = true then -1 else if Tx.less b a = true then 1 else 0
theorem u1s.cmp_less (a b:ByteArray):decide (u1s.cmpB a b < 0) = Tx.less a b:=by
 unfold u1s.cmpB
 split
 · rename_i h
   rw [h]
   decide
 · rename_i h
   have h2:Tx.less a b = false:=by simpa using h
   rw [h2]
   split <;> decide
theorem u1s.less_is (a b:ByteArray):Tx.less a b = Op.bytesLess a.toList b.toList:=by
 unfold Tx.less
 rw [ByteArray.toList_eq,ByteArray.toList_eq]
theorem u1s.cmp (a b:ByteArray) (w:World):Calls Tryd.prog 59 #[.string a,.string b] w fun e w' => e = .returned (.int .i64 (u1s.cmpB a b)) ∧ w' = w:=by
 have HE:Aside0 (u1s.cmpB a b = if Op.bytesLess a.toList b.toList = true then -1 else if Op.bytesLess b.toList a.toList = true then 1 else 0):=⟨by unfold u1s.cmpB;rw [u1s.less_is,u1s.less_is]⟩
 rw [HE.out]
 clear HE
 cases h1:Op.bytesLess a.toList b.toList with
 | true =>
   go_enter Tryd.func59,Tryd.ntmps59
   go_wp2_with (go_at_call 87;refine (u1s.nan _ _).mono ?_;rintro e W1 ⟨rfl,rfl⟩)
   go_ret
   exact ⟨rfl,rfl⟩
 | false =>
   cases h2:Op.bytesLess b.toList a.toList with
   | true =>
     go_enter Tryd.func59,Tryd.ntmps59
     go_wp2_with (go_at_call 87;refine (u1s.nan _ _).mono ?_;rintro e W1 ⟨rfl,rfl⟩)
     go_ret
     exact ⟨rfl,rfl⟩
   | false =>
     go_enter Tryd.func59,Tryd.ntmps59
     go_wp2_with (go_at_call 87;refine (u1s.nan _ _).mono ?_;rintro e W1 ⟨rfl,rfl⟩)
     go_ret
     exact ⟨rfl,rfl⟩
theorem u1s.by_name (x y:Tx.Lb) (w:World):Calls Tryd.prog 58 #[.agg #[.string x.f0,.string x.f1],.agg #[.string y.f0,.string y.f1]] w fun e w' => e = .returned (.int .i64 (u1s.cmpB x.f0 y.f0)) ∧ ∃ q os',w' = Go.Sort.grow (w.drewN q) os':=by
 go_enter Tryd.func58,Tryd.ntmps58
 go_wp2_with (go_at_call 59;(with_reducible refine (u1s.cmp _ _ _).mono ?_);rintro e W1 ⟨rfl,rfl⟩)
 go_ret
 exact ⟨rfl,0,#[.cells #[.string x.f0,.string x.f1] 37,.cells #[.string y.f0,.string y.f1] 37],by rw [Go.Sort.alloc_eq_grow,Go.Sort.alloc_eq_grow,Go.Sort.grow_grow];rfl⟩
theorem u1s.cell_at {W:World} {gb c:Nat} {l:List Tx.Lb} {base:Nat} {ok:Nat → Prop} (h:Kd.R k37 37 W base ok (.slice (some ⟨gb,0,none⟩) l.length c) l) (i:Nat) (hi:i < l.length):W.cell? ⟨gb,i * 2,none⟩ = some (.string l[i].f0) ∧ W.cell? ⟨gb,i * 2 + 1,none⟩ = some (.string l[i].f1) ∧ gb < W.heap.size:=by
 obtain ⟨ad,ea,q0,q1⟩:=at_T37 (Kd.R_reads' h).2.2 (i:Int) (by omega) (by omega)
 obtain rfl:ad = ⟨gb,0,none⟩:=by injection ea with ea;exact ea.symm
 have hadd:(⟨gb,0,none⟩:Addr).add ((i:Int).toNat * 2) = ⟨gb,i * 2,none⟩:=by
  rw [show (i:Int).toNat = i from rfl]
  unfold Addr.add
  split
  · rename_i h0
    rw [h0]
  · simp
 rw [hadd] at q0 q1
 have hr:u2b l (i:Int) = l[i]:=by simp [u2b,List.getD_eq_getElem?_getD,hi]
 rw [hr] at q0 q1
 exact ⟨q0,q1,Kd.R_lt h gb (by simp [Value.ownBlock])⟩
theorem u1s.below_grow (W:World) (os:Array Obj):Below W.heap.size W (Go.Sort.grow W os):=⟨rfl,rfl,rfl,by simp,fun i hi => Go.Sort.heap_grow_old W os hi⟩
theorem u1s.thawed {W:World} {gb n c:Nat} {l:List Tx.Lb} {base:Nat} {ok:Nat → Prop} (h:Kd.R k37 37 W base ok (.slice (some ⟨gb,0,none⟩) n c) l):(∀ o,W.frozen? ⟨gb,o,none⟩ = false) ∧ True:=by
 obtain ⟨_,inner,hown,_⟩:=h
 rcases hown.2 with ⟨hv,_⟩ | ⟨g',cap',cur,hv,hb,hh,_⟩
 · cases hv
 injection hv with ha _ _
 injection ha with ha
 injection ha with hg'
 subst hg'
 exact ⟨fun o => ui hh o,trivial⟩
theorem u1s.set_elem {W:World} {gb c n:Nat} {l:List Tx.Lb} {base:Nat} {ok:Nat → Prop} (h:Kd.R k37 37 W base ok (.slice (some ⟨gb,0,none⟩) n c) l) (hn:l.length = n) (i:Nat) (hi:i < n) (x:Tx.Lb) :
 Kd.R k37 37 (W.setCells gb (i * 2) [.string x.f0,.string x.f1]) base ok (.slice (some ⟨gb,0,none⟩) n c) (l.set i x) ∧ W.grownBy (W.setCells gb (i * 2) [.string x.f0,.string x.f1]) (some gb):=by
 subst hn
 obtain ⟨q0,q1,_⟩:=u1s.cell_at h i hi
 have hs:=Kd.R_seg (okp:=fun k => ok k ∧ k ≠ gb) (x':=x) (seg:=[.string x.f0,.string x.f1]) (c:=[.string l[i].f0,.string l[i].f1]) (j:=0) h (i:Int) (by omega) (by omega) rfl (by
  intro j' u hu
  have e2:(i:Int).toNat * k37.sz = i * 2:=rfl
  rw [e2]
  match j',hu with
  | 0,hu => simp at hu;subst hu;exact q0
  | 1,hu => simp at hu;subst hu;exact q1) (by show 0 + 2 ≤ 2;omega) (k37_mkM _ _ _ _) (fun k hk => hk)
 exact hs
set_option maxRecDepth 100000 in
set_option maxHeartbeats 4000000 in
theorem u1s.insertion (W:World) (base:Nat) (ok:Nat → Prop) (gb c:Nat) (l:List Tx.Lb) (hn:l.length ≤ 19) (hR:Kd.R k37 37 W base ok (.slice (some ⟨gb,0,none⟩) l.length c) l) :
 Calls Tryd.prog 106 #[.slice (some ⟨gb,0,none⟩) l.length c,.int .i64 0,.int .i64 (l.length:Int),.func (.func 58) #[] #[]] W fun e W' => e = .returned (.tuple #[]) ∧ Kd.R k37 37 W' base ok (.slice (some ⟨gb,0,none⟩) l.length c) (Tx.sortP l) ∧ W.grownBy W' (some gb):=by
 have HR:=Aside0.mk hR
 have mixed:Tryd.prog.follows .mixedOrders = true:=by kernel_rfl
 clear hR
 go_enter Tryd.func106,Tryd.ntmps106
 go_wp2
 go_loopg [8] (l.length) (fun kq vi wr => ∃ (i:Nat) (cur:List Tx.Lb),vi = .int .i64 i ∧ 1 ≤ i ∧ i ≤ l.length + 1 ∧ l.length ≤ kq + i ∧ Aside0 (cur.length = l.length ∧ cur = Tx.sortedTo l i ++ l.drop i) ∧ Aside0 (Kd.R k37 37 wr base ok (.slice (some ⟨gb,0,none⟩) l.length c) cur) ∧ Aside0 (W.grownBy wr (some gb)))
 case atStart => exact ⟨1,l,by go_num,by omega,by omega,by omega,⟨rfl,by rcases l with _ | ⟨x,l⟩ <;> rfl⟩,HR,⟨World.grownBy.refl _ _⟩⟩
 case round =>
  clear HR
  obtain ⟨i,cur,rfl,hi1,hi2,hkk,HC,HR,HG⟩:=hrel
  by_cases hlt:i < l.length
  · go_wp2
    go_loopg [9] i (fun kj vj wq => ∃ (pa pb:List Tx.Lb) (cur2:List Tx.Lb),vj = .int .i64 (pa.length:Int) ∧ pa.length ≤ kj ∧ pa.length ≤ i ∧ cur2.length = l.length ∧ Aside0 (Tx.sortedTo l i = pa ++ pb ∧ (∀ y ∈ pb,Tx.less l[i].f0 y.f0 = true) ∧ cur2 = pa ++ l[i] :: (pb ++ l.drop (i + 1))) ∧ Aside0 (Kd.R k37 37 wq base ok (.slice (some ⟨gb,0,none⟩) l.length c) cur2) ∧ Aside0 (W.grownBy wq (some gb)))
    case atStart => exact ⟨Tx.sortedTo l i,[],cur,by rw [Tx.sortedTo_len l i (by omega)],by rw [Tx.sortedTo_len l i (by omega)];exact Nat.le_refl _,by rw [Tx.sortedTo_len l i (by omega)];exact Nat.le_refl _,HC.out.1,⟨(List.append_nil _).symm,fun y hy => (by cases hy),by rw [HC.out.2,List.nil_append,List.drop_eq_getElem_cons hlt]⟩,HR,HG⟩
    case round =>
     clear HC HR HG
     obtain ⟨pa,pb,cur2,rfl,hj1,hj2,hcl,HC,HR,HG⟩:=hrel
     cases hpa:pa.reverse with
     | nil =>
       obtain rfl:pa = []:=by simpa using hpa
       have OUT:Aside0 (Tx.sortedTo l (i + 1) ++ l.drop (i + 1) = cur2):=⟨by rw [Tx.sortedTo_next l i hlt [] pb HC.out.1 HC.out.2.1 (fun y hy => (by cases hy)),HC.out.2.2];simp⟩
       have HHC:=Aside0.mk hcl
       clear hpa HC hcl hj1 hj2
       have hjaz:decide (((([]:List Tx.Lb).length:Nat):Int) > 0) = false:=rfl
       have HRd:=Aside0.mk (Kd.R_drew HR.out)
       have HGd:=Aside0.mk (HG.out.trans (grown_of_below (ug (Below.refl _ _)) _))
       rw [List.length_nil]
       go_wp2_with fail
       go_big_region_o
       all_goals go_wp2
       go_roundg (l.length - (i + 1))
       case measure => omega
       case rel => exact ⟨i + 1,cur2,by go_num,by omega,by omega,by omega,⟨HHC.out,OUT.out.symm⟩,HRd,HGd⟩
     | cons y pr =>
       obtain ⟨pq,rfl⟩:∃ pq,pa = pq ++ [y]:=⟨pr.reverse,by rw [← List.reverse_reverse pa,hpa,List.reverse_cons]⟩
       clear hpa
       rw [List.length_append,List.length_singleton] at hj1 hj2
       obtain ⟨jp,hjp⟩:∃ jp,jp = pq.length:=⟨_,rfl⟩
       have hrow:=HC.out.2.2
       have e1:cur2[jp + 1]? = some l[i]:=by rw [hrow];simp [hjp]
       have e2:cur2[jp]? = some y:=by rw [hrow];simp [hjp]
       have b1:jp + 1 < cur2.length:=(List.getElem?_eq_some_iff.1 e1).1
       have b2:jp < cur2.length:=(List.getElem?_eq_some_iff.1 e2).1
       have e3:cur2[jp + 1] = l[i]:=(List.getElem?_eq_some_iff.1 e1).2
       have e4:cur2[jp] = y:=(List.getElem?_eq_some_iff.1 e2).2
       rw [← hcl] at HR
       obtain ⟨x0,x1,hgb⟩:=u1s.cell_at HR.out (jp + 1) b1
       obtain ⟨y0,y1,_⟩:=u1s.cell_at HR.out jp b2
       rw [e3] at x0 x1
       rw [e4] at y0 y1
       rw [hcl] at HR b1 b2
       clear hrow e1 e2 e3 e4
       rw [List.length_append,List.length_singleton,← hjp]
       generalize hxi:l[i] = xi at *
       have HJ:=Aside0.mk hjp
       have HXI:=Aside0.mk hxi
       clear hjp hxi
       have lx0:=fun n os => Go.cell_grown (n:=n) (os:=os) hgb x0
       have lx1:=fun n os => Go.cell_grown (n:=n) (os:=os) hgb x1
       have ly0:=fun n os => Go.cell_grown (n:=n) (os:=os) hgb y0
       have ly1:=fun n os => Go.cell_grown (n:=n) (os:=os) hgb y1
       have hwp:IntKind.i64.wrap (jp:Int) = (jp:Int):=by rw [IntKind.wrap_i64];omega
       have jz:(jp:Int) + 1 < (l.length:Int):=by omega
       have jz1:(jp:Int) < (l.length:Int):=by omega
       have p0:(0:Int) ≤ (jp:Int) + 1:=by omega
       have e0:((jp:Int) + 1).toNat = jp + 1:=by omega
       have hcg:∀ n' os',Calls Tryd.prog 58 #[.agg #[.string xi.f0,.string xi.f1],.agg #[.string y.f0,.string y.f1]] (Go.Sort.grow (wr.drewN n') os') fun e w' => e = .returned (.int .i64 (u1s.cmpB xi.f0 y.f0)) ∧ ∃ q os'',w' = Go.Sort.grow ((Go.Sort.grow (wr.drewN n') os').drewN q) os'':=fun n' os' => u1s.by_name xi y _
       have HHC:=Aside0.mk hcl
       have HJ2:=Aside0.mk hj2
       have HGB:=Aside0.mk hgb
       clear hcl hj2
       have cl:=u1s.cmp_less xi.f0 y.f0
       cases hlv:Tx.less xi.f0 y.f0 with
       | true =>
         rw [hlv] at cl
         go_wp2_with fail
         go_quiet_grown (first | (go_at_call 58;refine Calls.grown_of (hcg _ _)))
         go_wp2_with fail
         have x0':=lx0 nq osq
         have x1':=lx1 nq osq
         have y0':=ly0 nq osq
         have y1':=ly1 nq osq
         have HR2:Aside0 (Kd.R k37 37 (Go.Sort.grow (wr.drewN nq) osq) base ok (.slice (some ⟨gb,0,none⟩) l.length c) cur2):=⟨Kd.R_below (Kd.R_drewN HR.out nq) (u1s.below_grow _ _)⟩
         have HG2:Aside0 (W.grownBy (Go.Sort.grow (wr.drewN nq) osq) (some gb)):=⟨HG.out.trans (grown_of_below (ux (ua (Below.refl _ _) nq) (u1s.below_grow _ _)) _)⟩
         clear lx0 lx1 ly0 ly1 hcg x0 x1 y0 y1 HR HG
         generalize Go.Sort.grow (wr.drewN nq) osq = wq2 at *
         obtain ⟨fz,_⟩:=u1s.thawed HR2.out
         have n1:¬ jp * 2 = (jp + 1) * 2:=by omega
         have n2:¬ jp * 2 = (jp + 1) * 2 + 1:=by omega
         have n3:¬ jp * 2 + 1 = (jp + 1) * 2:=by omega
         have n4:¬ jp * 2 + 1 = (jp + 1) * 2 + 1:=by omega
         go_big_region_o
         all_goals go_wp2
         obtain ⟨r1,g1⟩:=u1s.set_elem HR2.out HHC.out (jp + 1) (by omega) y
         obtain ⟨r2,g2⟩:=u1s.set_elem r1 (by rw [List.length_set];exact HHC.out) jp (by omega) xi
         have HR3:Aside0 (Kd.R k37 37 ((((wq2.setCell ⟨gb,(jp + 1) * 2,none⟩ (.string y.f0)).setCell ⟨gb,(jp + 1) * 2 + 1,none⟩ (.string y.f1)).setCell ⟨gb,jp * 2,none⟩ (.string xi.f0)).setCell ⟨gb,jp * 2 + 1,none⟩ (.string xi.f1)).drew base ok (.slice (some ⟨gb,0,none⟩) l.length c) ((cur2.set (jp + 1) y).set jp xi)):=⟨Kd.R_drew r2⟩
         have HG3:Aside0 (W.grownBy ((((wq2.setCell ⟨gb,(jp + 1) * 2,none⟩ (.string y.f0)).setCell ⟨gb,(jp + 1) * 2 + 1,none⟩ (.string y.f1)).setCell ⟨gb,jp * 2,none⟩ (.string xi.f0)).setCell ⟨gb,jp * 2 + 1,none⟩ (.string xi.f1)).drew (some gb)):=⟨((HG2.out.trans g1).trans g2).trans (grown_of_below (ug (Below.refl _ _)) _)⟩
         clear r1 g1 r2 g2 HR2 HG2
         go_roundg jp
         case measure => have:=HJ.out;omega
         case rel =>
          refine ⟨pq,y :: pb,(cur2.set (jp + 1) y).set jp xi,by rw [HJ.out],by rw [HJ.out];exact Nat.le_refl _,by have:=HJ.out;have:=HJ2.out;omega,by rw [List.length_set,List.length_set];exact HHC.out,⟨?_,?_,?_⟩,HR3,HG3⟩
          · rw [HC.out.1,List.append_assoc,List.singleton_append]
          · intro z hz
            rcases List.mem_cons.1 hz with rfl | hz
            · exact hlv
            · exact HC.out.2.1 z hz
          · rw [HC.out.2.2,HJ.out]
            simp
       | false =>
         rw [hlv] at cl
         go_wp2_with fail
         go_quiet_grown (first | (go_at_call 58;refine Calls.grown_of (hcg _ _)))
         go_wp2
         have HR2:Aside0 (Kd.R k37 37 (Go.Sort.grow (wr.drewN nq) osq) base ok (.slice (some ⟨gb,0,none⟩) l.length c) cur2):=⟨Kd.R_below (Kd.R_drewN HR.out nq) (u1s.below_grow _ _)⟩
         have HG2:Aside0 (W.grownBy (Go.Sort.grow (wr.drewN nq) osq) (some gb)):=⟨HG.out.trans (grown_of_below (ux (ua (Below.refl _ _) nq) (u1s.below_grow _ _)) _)⟩
         have OUT:Aside0 (Tx.sortedTo l (i + 1) ++ l.drop (i + 1) = cur2):=⟨by
          rw [Tx.sortedTo_next l i hlt (pq ++ [y]) pb HC.out.1 (fun z hz => by rw [HXI.out];exact HC.out.2.1 z hz) (fun z hz => by
           obtain rfl:y = z:=by simpa using hz
           rw [HXI.out,hlv]
           decide),HC.out.2.2,HXI.out]
          simp⟩
         go_roundg (l.length - (i + 1))
         case measure => omega
         case rel => exact ⟨i + 1,cur2,by go_num,by omega,by omega,by omega,⟨HHC.out,OUT.out.symm⟩,HR2,HG2⟩
  · have hin:i = l.length ∨ i = l.length + 1:=by omega
    have HF:Aside0 (cur = Tx.sortP l):=⟨by
     rw [HC.out.2,List.drop_eq_nil_of_le (by omega),List.append_nil]
     rcases hin with h9 | h9
     · rw [h9,Tx.sortedTo_all]
     · unfold Tx.sortedTo Tx.sortP
       rw [List.take_of_length_le (by omega)]⟩
    clear hin
    go_wp2
    go_end0
    exact ⟨rfl,HF.out ▸ HR.out,HG.out⟩
theorem u1s.insertion_few (W:World) (A:Option Addr) (c:Nat) (l:List Tx.Lb) (hn:l.length ≤ 1) :
 Calls Tryd.prog 106 #[.slice A l.length c,.int .i64 0,.int .i64 (l.length:Int),.func (.func 58) #[] #[]] W fun e W' => e = .returned (.tuple #[]) ∧ W' = W:=by
 have hd:decide ((1:Int) < (l.length:Int)) = false:=decide_eq_false (by omega)
 have hlt:¬ (1:Int) < (l.length:Int):=by omega
 go_enter Tryd.func106,Tryd.ntmps106
 go_wp2
 go_loopg [8] (1) (fun kq vi wr => vi = .int .i64 1 ∧ 0 < kq ∧ wr = W)
 case atStart => exact ⟨by rfl,by omega,rfl⟩
 case round =>
  obtain ⟨rfl,hk,rfl⟩:=hrel
  go_wp2
  go_end0
  exact ⟨rfl,rfl⟩
theorem u1s.sortP_few (l:List Tx.Lb) (hn:l.length ≤ 1):Tx.sortP l = l:=by
 rcases l with _ | ⟨x,_ | ⟨y,l⟩⟩
 · rfl
 · rfl
 · simp at hn
theorem u1s.form {W:World} {base n c:Nat} {ok:Nat → Prop} {A:Option Addr} {xs:List Tx.Lb} (h:Kd.R k37 37 W base ok (.slice A n c) xs) (hn:0 < n):∃ g,A = some ⟨g,0,none⟩:=by
 obtain ⟨_,_,ho,_⟩:=h
 rcases ho.2 with ⟨hv,h0⟩ | ⟨g,cap,cur,hv,_⟩
 · injection hv with _ h1
   omega
 · injection hv with h1
   exact ⟨g,h1⟩
theorem u1s.ins (W:World) (base:Nat) (ok:Nat → Prop) (A:Option Addr) (c:Nat) (l:List Tx.Lb) (hn:l.length ≤ 19) (hR:Kd.R k37 37 W base ok (.slice A l.length c) l) :
 Calls Tryd.prog 106 #[.slice A l.length c,.int .i64 0,.int .i64 (l.length:Int),.func (.func 58) #[] #[]] W fun e W' => e = .returned (.tuple #[]) ∧ Kd.R k37 37 W' base ok (.slice A l.length c) (Tx.sortP l) ∧ W.grownBy W' (Value.slice A l.length c).ownBlock:=by
 by_cases h1:l.length ≤ 1
 · refine (u1s.insertion_few W A c l h1).mono ?_
   rintro e W' ⟨rfl,rfl⟩
   exact ⟨rfl,by rw [u1s.sortP_few l h1];exact hR,World.grownBy.refl _ _⟩
 · obtain ⟨gb,rfl⟩:=u1s.form hR (by omega)
   exact u1s.insertion W base ok gb c l hn hR
set_option maxRecDepth 100000 in
set_option maxHeartbeats 1000000 in
theorem u1s.stable (W:World) (base:Nat) (ok:Nat → Prop) (A:Option Addr) (c:Nat) (l:List Tx.Lb) (hn:l.length ≤ 19) (hR:Kd.R k37 37 W base ok (.slice A l.length c) l) :
 Calls Tryd.prog 86 #[.slice A l.length c,.int .i64 (l.length:Int),.func (.func 58) #[] #[]] W fun e W' => e = .returned (.tuple #[]) ∧ Kd.R k37 37 W' base ok (.slice A l.length c) (Tx.sortP l) ∧ W.grownBy W' (Value.slice A l.length c).ownBlock:=by
 have HR:=Aside0.mk hR
 clear hR
 have h20:¬ (20:Int) ≤ (l.length:Int):=by omega
 have h20b:¬ (20:Int) < (l.length:Int):=by omega
 go_enter Tryd.func86,Tryd.ntmps86
 go_wp2
 go_loopg [7,8] (1) (fun kq v7 v8 wr => v7 = .int .i64 0 ∧ v8 = .int .i64 20 ∧ 0 < kq ∧ wr = W)
 case atStart => exact ⟨by rfl,by rfl,by omega,rfl⟩
 case round =>
  obtain ⟨rfl,rfl,hk,rfl⟩:=hrel
  go_wp2_with (go_at_call 106;(with_reducible refine (u1s.ins _ base ok A c l hn HR.out).mono ?_);rintro e W1 ⟨rfl,hr1,hg1⟩;have HR1:=Aside0.mk hr1;have HG1:=Aside0.mk hg1;clear hr1 hg1)
  go_loopg [6] (1) (fun kq v6 wr => v6 = .int .i64 20 ∧ 0 < kq ∧ wr = W1)
  case atStart => exact ⟨by rfl,by omega,rfl⟩
  case round =>
   obtain ⟨rfl,hk,rfl⟩:=hrel
   go_wp2
   go_end0
   exact ⟨rfl,HR1.out,HG1.out⟩
theorem u1s.calls (W:World) (base:Nat) (ok:Nat → Prop) (A:Option Addr) (c:Nat) (l:List Tx.Lb) (hn:l.length ≤ 19) (hR:Kd.R k37 37 W base ok (.slice A l.length c) l) :
 Calls Tryd.prog 57 #[.slice A l.length c,.func (.func 58) #[] #[]] W fun e W' => e = .returned (.tuple #[]) ∧ Kd.R k37 37 W' base ok (.slice A l.length c) (Tx.sortP l) ∧ W.grownBy W' (Value.slice A l.length c).ownBlock:=by
 have HR:=Aside0.mk hR
 clear hR
 go_enter Tryd.func57,Tryd.ntmps57
 go_wp2_with (go_at_call 86;(with_reducible refine (u1s.stable _ base ok A c l hn HR.out).mono ?_);rintro e W1 ⟨rfl,hr1,hg1⟩;have HR1:=Aside0.mk hr1;have HG1:=Aside0.mk hg1;clear hr1 hg1)
 go_end0
 exact ⟨rfl,HR1.out,HG1.out⟩
def u2x.f (k:Nat) (l0_0:List (S37)) (a0_1:Int) (a0_2:Int) (l1_0:List (S37)) (a1_1:Int) (a1_2:Int):Option (Bool):=(u1q.f k (([(⟨l0_0,a0_1,a0_2⟩:S25)]:List (S25))) (([(⟨l1_0,a1_1,a1_2⟩:S25)]:List (S25)))).bind fun t260 => (some t260)
set_option maxHeartbeats 8000000 in
set_option maxRecDepth 100000 in
theorem u2x.calls (k:Nat) (P0_0_:Nat → Prop) (A0_0:Option Addr) (c0_0:Nat) (l0_0:List (S37)) (a0_1:Int) (a0_2:Int) (P1_0_:Nat → Prop) (A1_0:Option Addr) (c1_0:Nat) (l1_0:List (S37)) (a1_1:Int) (a1_2:Int) (r:Bool) (w:World) (hs0_0:Kd.V k37 37 w w.heap.size (fun k_ => P0_0_ k_) (.slice A0_0 l0_0.length c0_0) l0_0) (hs1_0:Kd.V k37 37 w w.heap.size (fun k_ => P1_0_ k_) (.slice A1_0 l1_0.length c1_0) l1_0) (h:u2x.f k l0_0 a0_1 a0_2 l1_0 a1_1 a1_2 = some r) :
 Calls Tryd.prog 8 #[.agg #[.slice A0_0 l0_0.length c0_0,.int .i64 a0_1,.int .u64 a0_2],.agg #[.slice A1_0 l1_0.length c1_0,.int .i64 a1_1,.int .u64 a1_2]] w fun e w' => e = .returned (.bool r) ∧ Below w.heap.size w w':=by
 have hu25:=Tryd.underlying25
 have HO0_0:=Aside0.mk (show Kd.V k37 37 w w.heap.size (fun k_ => ((P0_0_ k_ ∨ P1_0_ k_) ∨ w.heap.size ≤ k_)) (.slice A0_0 l0_0.length c0_0) l0_0 from Kd.V_mono hs0_0 (fun k_ hk => .inl (.inl hk)))
 have HO1_0:=Aside0.mk (show Kd.V k37 37 w w.heap.size (fun k_ => ((P0_0_ k_ ∨ P1_0_ k_) ∨ w.heap.size ≤ k_)) (.slice A1_0 l1_0.length c1_0) l1_0 from Kd.V_mono hs1_0 (fun k_ hk => .inl (.inr hk)))
 have HB:=Aside0.mk (Below.refl w.heap.size w)
 have H:((u1q.f k (([(⟨l0_0,a0_1,a0_2⟩:S25)]:List (S25))) (([(⟨l1_0,a1_1,a1_2⟩:S25)]:List (S25)))).bind fun t260 => (some t260)) = some r:=h
 clear h
 obtain ⟨y254,hy254⟩:∃ y_:List (S25),y_ = (([(⟨l0_0,a0_1,a0_2⟩:S25)]:List (S25))):=⟨_,rfl⟩
 replace H:((u1q.f k y254 (([(⟨l1_0,a1_1,a1_2⟩:S25)]:List (S25)))).bind fun t260 => (some t260)) = some r:=by first | (rw [hy254];with_reducible exact H) | (have H2_:=(Option.bind_some _ _).symm.trans H;rw [hy254];with_reducible exact H2_) | (have H2_:=(Option.bind_some _ _).symm.trans H;with_reducible exact H2_) | with_reducible exact H | (rw [hy254];exact H) | exact H
 have Ny254:=Aside0.mk hy254
 clear hy254
 obtain ⟨y257,hy257⟩:∃ y_:List (S25),y_ = (([(⟨l1_0,a1_1,a1_2⟩:S25)]:List (S25))):=⟨_,rfl⟩
 replace H:((u1q.f k y254 y257).bind fun t260 => (some t260)) = some r:=by first | (rw [hy257];with_reducible exact H) | (have H2_:=(Option.bind_some _ _).symm.trans H;rw [hy257];with_reducible exact H2_) | (have H2_:=(Option.bind_some _ _).symm.trans H;with_reducible exact H2_) | with_reducible exact H | (rw [hy257];exact H) | exact H
 have Ny257:=Aside0.mk hy257
 clear hy257
 replace H:=Option.bind_eq_some_iff.mp H
 obtain ⟨t260,A30,H⟩:=H
 replace H:(some t260) = some r:=H
 have A3:=Aside0.mk A30
 clear A30
 obtain rfl:=Option.some.inj H
 go_enter Tryd.func8,Tryd.ntmps8
 go_wp2_with (first | ((with_reducible refine u2k (N:=2) rfl ?_);refine u2h ?hg (N:=2) ?hd (cs:=#[.slice A0_0 l0_0.length c0_0,.int .i64 a0_1,.int .u64 a0_2]) (t:=25) ?hr ?_;(case hd => rfl);(case hg => rfl);(case hr => first | (go_simp;done) | (go_simp;rfl));intro gb252 hg w4 hbox hb;have n0_:=Aside0.mk (Kd.V_below (Kd.V_elderB (by (with_reducible repeat (first | apply Kd.V_alloc | apply Kd.V_drewN | apply Kd.V_drew));exact HO0_0.out) gb252 (Nat.le_of_eq hg.symm)) hb);have n1_:=Aside0.mk (Kd.V_below (Kd.V_elderB (by (with_reducible repeat (first | apply Kd.V_alloc | apply Kd.V_drewN | apply Kd.V_drew));exact HO1_0.out) gb252 (Nat.le_of_eq hg.symm)) hb);have n2_:=Aside0.mk (ux (by repeat (first | (with_reducible first | exact HB.out | apply uf | apply ua | apply ug) | exact HB.out)) hb);have n3_:=Aside0.mk (hbox);have n4_:=Aside0.mk ((by rw [hg];exact (uq (by repeat (first | (with_reducible first | exact HB.out | apply uf | apply ua | apply ug) | exact HB.out))):w.heap.size ≤ gb252));have n5_:=Aside0.mk ((by rw [hg];exact (uq (by repeat (first | (with_reducible first | exact HB.out | apply uf | apply ua | apply ug) | exact HB.out))):w.heap.size ≤ gb252));clear HO0_0;clear HO1_0;clear HB;have HO0_0:=n0_;have HO1_0:=n1_;have HB:=n2_;have BK252:=n3_;have GW252:=n4_;have GE252:=n5_;clear n0_ n1_ n2_ n3_ n4_ n5_;clear hb hbox hg) | ((with_reducible refine u2k (N:=3) rfl ?_);refine u2h ?hg (N:=3) ?hd (cs:=#[.slice A1_0 l1_0.length c1_0,.int .i64 a1_1,.int .u64 a1_2]) (t:=25) ?hr ?_;(case hd => rfl);(case hg => rfl);(case hr => first | (go_simp;done) | (go_simp;rfl));intro gb253 hg w5 hbox hb;have n0_:=Aside0.mk (Kd.V_below (Kd.V_elderB (by (with_reducible repeat (first | apply Kd.V_alloc | apply Kd.V_drewN | apply Kd.V_drew));exact HO0_0.out) gb253 (Nat.le_of_eq hg.symm)) hb);have n1_:=Aside0.mk (Kd.V_below (Kd.V_elderB (by (with_reducible repeat (first | apply Kd.V_alloc | apply Kd.V_drewN | apply Kd.V_drew));exact HO1_0.out) gb253 (Nat.le_of_eq hg.symm)) hb);have n2_:=Aside0.mk (u1a (g:=gb252) (o:=.cells #[.slice A0_0 l0_0.length c0_0,.int .i64 a0_1,.int .u64 a0_2] 25 (0,0)) (by (with_reducible repeat (first | refine uc ?_ _ | refine ue ?_ | refine ub ?_ _));exact BK252.out) hb);have n3_:=Aside0.mk (ux (by repeat (first | (with_reducible first | exact HB.out | apply uf | apply ua | apply ug | refine uh ?_ GE252.out) | exact HB.out)) hb);have n4_:=Aside0.mk (hbox);have n5_:=Aside0.mk ((by rw [hg];exact (uq (by repeat (first | (with_reducible first | exact HB.out | apply uf | apply ua | apply ug | refine uh ?_ GE252.out) | exact HB.out))):w.heap.size ≤ gb253));have n6_:=Aside0.mk ((by rw [hg];exact (uq (by repeat (first | (with_reducible first | exact HB.out | apply uf | apply ua | apply ug | refine uh ?_ GE252.out) | exact HB.out))):w.heap.size ≤ gb253));have n7_:=Aside0.mk ((by rw [hg];exact Nat.ne_of_lt (u2d (g:=gb252) (o:=.cells #[.slice A0_0 l0_0.length c0_0,.int .i64 a0_1,.int .u64 a0_2] 25 (0,0)) (by (with_reducible repeat (first | refine uc ?_ _ | refine ue ?_ | refine ub ?_ _));exact BK252.out)):gb252 ≠ gb253));have n8_:=Aside0.mk ((by rw [hg];exact Nat.ne_of_gt (u2d (g:=gb252) (o:=.cells #[.slice A0_0 l0_0.length c0_0,.int .i64 a0_1,.int .u64 a0_2] 25 (0,0)) (by (with_reducible repeat (first | refine uc ?_ _ | refine ue ?_ | refine ub ?_ _));exact BK252.out)):gb253 ≠ gb252));clear HO0_0;clear HO1_0;clear BK252;clear HB;have HO0_0:=n0_;have HO1_0:=n1_;have BK252:=n2_;have HB:=n3_;have BK253:=n4_;have GW253:=n5_;have GE253:=n6_;have NB252_253:=n7_;have NB253_252:=n8_;clear n0_ n1_ n2_ n3_ n4_ n5_ n6_ n7_ n8_;clear hb hbox hg;have hnb6:=NB252_253.out;have hnc6:=NB253_252.out;have hcz7_0:w5.cell? ⟨gb252,0,none⟩ = some (.slice A0_0 l0_0.length c0_0):=(uj BK252.out 0).trans rfl;have hcz7_1:w5.cell? ⟨gb252,1,none⟩ = some (.int .i64 a0_1):=(uj BK252.out 1).trans rfl;have hcz7_2:w5.cell? ⟨gb252,2,none⟩ = some (.int .u64 a0_2):=(uj BK252.out 2).trans rfl;have hfz7_0:=ui BK252.out 0;have hfz7_1:=ui BK252.out 1;have hfz7_2:=ui BK252.out 2) | ((with_reducible refine u2k (N:=6) rfl ?_);refine Kd.N_lit k25 _ 25 ?hg (N':=6) ?hd (xs:=([(⟨l0_0,a0_1,a0_2⟩:S25)]:List (S25))) (inner:=[.slice A0_0 l0_0.length c0_0,.int .i64 a0_1,.int .u64 a0_2]) (ok:=(fun k_ => ((P0_0_ k_ ∨ P1_0_ k_) ∨ w.heap.size ≤ k_) ∧ k_ ≠ gb252 ∧ k_ ≠ gb253)) (okp:=(fun k_ => ((P0_0_ k_ ∨ P1_0_ k_) ∨ w.heap.size ≤ k_) ∧ k_ ≠ gb252 ∧ k_ ≠ gb253)) ?hr ?hp (fun _ hk => hk) ((show ∀ k_,w5.heap.size ≤ k_ → (fun k_ => ((P0_0_ k_ ∨ P1_0_ k_) ∨ w.heap.size ≤ k_) ∧ k_ ≠ gb252 ∧ k_ ≠ gb253) k_ from fun k_ hk => ⟨(.inr (Nat.le_trans (uq (by repeat (first | (with_reducible first | exact HB.out | apply uf | apply ua | apply ug | refine uh ?_ GE252.out | refine uh ?_ GE253.out) | exact HB.out))) hk)),Kd.freshB (g:=gb252) (o:=.cells #[.slice A0_0 l0_0.length c0_0,.int .i64 a0_1,.int .u64 a0_2] 25 (0,0)) (by (with_reducible repeat (first | refine uc ?_ _ | refine ue ?_ | refine ub ?_ _));exact BK252.out) k_ hk,Kd.freshB (g:=gb253) (o:=.cells #[.slice A1_0 l1_0.length c1_0,.int .i64 a1_1,.int .u64 a1_2] 25 (0,0)) (by (with_reducible repeat (first | refine uc ?_ _ | refine ue ?_ | refine ub ?_ _));exact BK253.out) k_ hk⟩) _ (Nat.le_refl _)) (Below.refl _ _) (Nat.le_refl _) (by simp) ?_;(case hd => rfl);(case hg => rfl);(case hr => first | (go_simp;done) | (go_simp;rfl));(case hp => exact (Reps.c3 (show Kd.FK k25 _ _ (⟨l0_0,a0_1,a0_2⟩:S25) [.slice A0_0 l0_0.length c0_0,.int .i64 a0_1,.int .u64 a0_2] from (k25_mkF _ _ (⟨l0_0,a0_1,a0_2⟩:S25) (Kd.V_reads' (Kd.V_mono (ok':=(fun k_ => ((P0_0_ k_ ∨ P1_0_ k_) ∨ w.heap.size ≤ k_) ∧ k_ ≠ gb252 ∧ k_ ≠ gb253)) (HO0_0.out) (fun k_ hk => ⟨hk.1.1,⟨hk.1.2,hk.2⟩⟩))).2.1 (Kd.V_F (Kd.V_mono (ok':=(fun k_ => ((P0_0_ k_ ∨ P1_0_ k_) ∨ w.heap.size ≤ k_) ∧ k_ ≠ gb252 ∧ k_ ≠ gb253)) (HO0_0.out) (fun k_ hk => ⟨hk.1.1,⟨hk.1.2,hk.2⟩⟩))))) (Reps.none _ _)));intro v255 w8 ho9 hb hg_ hnew_;clear hg_ hnew_;(first | rw [← Ny254.out] at ho9 | (simp only [Int.reduceToNat] at ho9;rw [← Ny254.out] at ho9));have n0_:=Aside0.mk (Kd.V_elder' (by (with_reducible repeat (first | apply Kd.V_alloc | apply Kd.V_drewN | apply Kd.V_drew));exact HO0_0.out) (Kd.N_base ho9) hb);have n1_:=Aside0.mk (Kd.V_elder' (by (with_reducible repeat (first | apply Kd.V_alloc | apply Kd.V_drewN | apply Kd.V_drew));exact HO1_0.out) (Kd.N_base ho9) hb);have n2_:=Aside0.mk (Kd.N_lower ho9 (uq (by repeat (first | (with_reducible first | exact HB.out | apply uf | apply ua | apply ug | refine uh ?_ GE252.out | refine uh ?_ GE253.out) | exact HB.out))));have n3_:=Aside0.mk (u1a (g:=gb252) (o:=.cells #[.slice A0_0 l0_0.length c0_0,.int .i64 a0_1,.int .u64 a0_2] 25 (0,0)) (by (with_reducible repeat (first | refine uc ?_ _ | refine ue ?_ | refine ub ?_ _));exact BK252.out) hb);have n4_:=Aside0.mk (u1a (g:=gb253) (o:=.cells #[.slice A1_0 l1_0.length c1_0,.int .i64 a1_1,.int .u64 a1_2] 25 (0,0)) (by (with_reducible repeat (first | refine uc ?_ _ | refine ue ?_ | refine ub ?_ _));exact BK253.out) hb);have n5_:=Aside0.mk (ux (by repeat (first | (with_reducible first | exact HB.out | apply uf | apply ua | apply ug | refine uh ?_ GE252.out | refine uh ?_ GE253.out) | exact HB.out)) hb);clear HO0_0;clear HO1_0;clear BK252;clear BK253;clear HB;have HO0_0:=n0_;have HO1_0:=n1_;have HO256:=n2_;have BK252:=n3_;have BK253:=n4_;have HB:=n5_;clear n0_ n1_ n2_ n3_ n4_ n5_;clear hb ho9;have hcz10_0:w8.cell? ⟨gb253,0,none⟩ = some (.slice A1_0 l1_0.length c1_0):=(uj BK253.out 0).trans rfl;have hcz10_1:w8.cell? ⟨gb253,1,none⟩ = some (.int .i64 a1_1):=(uj BK253.out 1).trans rfl;have hcz10_2:w8.cell? ⟨gb253,2,none⟩ = some (.int .u64 a1_2):=(uj BK253.out 2).trans rfl;have hfz10_0:=ui BK253.out 0;have hfz10_1:=ui BK253.out 1;have hfz10_2:=ui BK253.out 2) | ((with_reducible refine u2k (N:=8) rfl ?_);refine Kd.N_lit k25 _ 25 ?hg (N':=8) ?hd (xs:=([(⟨l1_0,a1_1,a1_2⟩:S25)]:List (S25))) (inner:=[.slice A1_0 l1_0.length c1_0,.int .i64 a1_1,.int .u64 a1_2]) (ok:=(fun k_ => ((P0_0_ k_ ∨ P1_0_ k_) ∨ w.heap.size ≤ k_) ∧ some k_ ≠ (v255:Value).ownBlock ∧ k_ ≠ gb252 ∧ k_ ≠ gb253)) (okp:=(fun k_ => ((P0_0_ k_ ∨ P1_0_ k_) ∨ w.heap.size ≤ k_) ∧ some k_ ≠ (v255:Value).ownBlock ∧ k_ ≠ gb252 ∧ k_ ≠ gb253)) ?hr ?hp (fun _ hk => hk) ((show ∀ k_,w8.heap.size ≤ k_ → (fun k_ => ((P0_0_ k_ ∨ P1_0_ k_) ∨ w.heap.size ≤ k_) ∧ some k_ ≠ (v255:Value).ownBlock ∧ k_ ≠ gb252 ∧ k_ ≠ gb253) k_ from fun k_ hk => ⟨(.inr (Nat.le_trans (uq (by repeat (first | (with_reducible first | exact HB.out | apply uf | apply ua | apply ug | refine uh ?_ GE252.out | refine uh ?_ GE253.out) | exact HB.out))) hk)),Kd.fresh' (Kd.N_lt (by (with_reducible repeat (first | apply Kd.N_alloc | apply Kd.N_drewN | apply Kd.N_drew));exact HO256.out)) k_ hk,Kd.freshB (g:=gb252) (o:=.cells #[.slice A0_0 l0_0.length c0_0,.int .i64 a0_1,.int .u64 a0_2] 25 (0,0)) (by (with_reducible repeat (first | refine uc ?_ _ | refine ue ?_ | refine ub ?_ _));exact BK252.out) k_ hk,Kd.freshB (g:=gb253) (o:=.cells #[.slice A1_0 l1_0.length c1_0,.int .i64 a1_1,.int .u64 a1_2] 25 (0,0)) (by (with_reducible repeat (first | refine uc ?_ _ | refine ue ?_ | refine ub ?_ _));exact BK253.out) k_ hk⟩) _ (Nat.le_refl _)) (Below.refl _ _) (Nat.le_refl _) (by simp) ?_;(case hd => rfl);(case hg => rfl);(case hr => first | (go_simp;done) | (go_simp;rfl));(case hp => exact (Reps.c3 (show Kd.FK k25 _ _ (⟨l1_0,a1_1,a1_2⟩:S25) [.slice A1_0 l1_0.length c1_0,.int .i64 a1_1,.int .u64 a1_2] from (k25_mkF _ _ (⟨l1_0,a1_1,a1_2⟩:S25) (Kd.V_reads' (Kd.V_mono (ok':=(fun k_ => ((P0_0_ k_ ∨ P1_0_ k_) ∨ w.heap.size ≤ k_) ∧ some k_ ≠ (v255:Value).ownBlock ∧ k_ ≠ gb252 ∧ k_ ≠ gb253)) (HO1_0.out) (fun k_ hk => ⟨hk.1.1.1,⟨hk.2,⟨hk.1.1.2,hk.1.2⟩⟩⟩))).2.1 (Kd.V_F (Kd.V_mono (ok':=(fun k_ => ((P0_0_ k_ ∨ P1_0_ k_) ∨ w.heap.size ≤ k_) ∧ some k_ ≠ (v255:Value).ownBlock ∧ k_ ≠ gb252 ∧ k_ ≠ gb253)) (HO1_0.out) (fun k_ hk => ⟨hk.1.1.1,⟨hk.2,⟨hk.1.1.2,hk.1.2⟩⟩⟩))))) (Reps.none _ _)));intro v258 w11 ho12 hb hg_ hnew_;clear hg_ hnew_;(first | rw [← Ny257.out] at ho12 | (simp only [Int.reduceToNat] at ho12;rw [← Ny257.out] at ho12));have n0_:=Aside0.mk (Kd.V_elder' (by (with_reducible repeat (first | apply Kd.V_alloc | apply Kd.V_drewN | apply Kd.V_drew));exact HO0_0.out) (Kd.N_base ho12) hb);have n1_:=Aside0.mk (Kd.V_elder' (by (with_reducible repeat (first | apply Kd.V_alloc | apply Kd.V_drewN | apply Kd.V_drew));exact HO1_0.out) (Kd.N_base ho12) hb);have n2_:=Aside0.mk (Kd.N_elder' (by (with_reducible repeat (first | apply Kd.N_alloc | apply Kd.N_drewN | apply Kd.N_drew));exact HO256.out) (Kd.N_base ho12) hb);have n3_:=Aside0.mk (Kd.N_lower ho12 (uq (by repeat (first | (with_reducible first | exact HB.out | apply uf | apply ua | apply ug | refine uh ?_ GE252.out | refine uh ?_ GE253.out) | exact HB.out))));have n4_:=Aside0.mk (u1a (g:=gb252) (o:=.cells #[.slice A0_0 l0_0.length c0_0,.int .i64 a0_1,.int .u64 a0_2] 25 (0,0)) (by (with_reducible repeat (first | refine uc ?_ _ | refine ue ?_ | refine ub ?_ _));exact BK252.out) hb);have n5_:=Aside0.mk (u1a (g:=gb253) (o:=.cells #[.slice A1_0 l1_0.length c1_0,.int .i64 a1_1,.int .u64 a1_2] 25 (0,0)) (by (with_reducible repeat (first | refine uc ?_ _ | refine ue ?_ | refine ub ?_ _));exact BK253.out) hb);have n6_:=Aside0.mk (ux (by repeat (first | (with_reducible first | exact HB.out | apply uf | apply ua | apply ug | refine uh ?_ GE252.out | refine uh ?_ GE253.out) | exact HB.out)) hb);clear HO0_0;clear HO1_0;clear HO256;clear BK252;clear BK253;clear HB;have HO0_0:=n0_;have HO1_0:=n1_;have HO256:=n2_;have HO259:=n3_;have BK252:=n4_;have BK253:=n5_;have HB:=n6_;clear n0_ n1_ n2_ n3_ n4_ n5_ n6_;clear hb ho12;obtain ⟨Ao13,co13,eo13⟩:=Kd.N_slice HO256.out;subst eo13;obtain ⟨Ao14,co14,eo14⟩:=Kd.N_slice HO259.out;subst eo14) | ((with_reducible refine u1k (f:=15) rfl ?_);refine u2r (some 9) rfl rfl Tryd.func15 (by kernel_rfl) rfl #[.slice Ao13 y254.length co13,.slice Ao14 y257.length co14] rfl (by (try simp only [List.map_toArray,List.map_cons,List.map_nil]);first | done | rfl | (simp only [List.length_drop,List.length_take];rfl)) ?_;(with_reducible refine (u1q.calls k _ _ y254 _ _ y257 t260 _ ?side1 ?side2 ?side3 ?side4 A3.out).mono ?_);(case side1 => repeat (first | exact (Kd.N_reads' HO256.out).2.2 | (with_reducible refine Kd.C_alloc ?_ _) | (with_reducible refine Kd.C_drewN ?_ _) | (with_reducible refine Kd.C_drew ?_)));(case side2 => exact (Kd.N_reads' HO256.out).2.1);(case side3 => repeat (first | exact (Kd.N_reads' HO259.out).2.2 | (with_reducible refine Kd.C_alloc ?_ _) | (with_reducible refine Kd.C_drewN ?_ _) | (with_reducible refine Kd.C_drew ?_)));(case side4 => exact (Kd.N_reads' HO259.out).2.1);rintro e w15 ⟨rfl,hb⟩;refine ⟨_,rfl,?_⟩;have n0_:=Aside0.mk (Kd.V_below (by (with_reducible repeat (first | apply Kd.V_alloc | apply Kd.V_drewN | apply Kd.V_drew));exact HO0_0.out) hb);have n1_:=Aside0.mk (Kd.V_below (by (with_reducible repeat (first | apply Kd.V_alloc | apply Kd.V_drewN | apply Kd.V_drew));exact HO1_0.out) hb);have n2_:=Aside0.mk (Kd.N_below (by (with_reducible repeat (first | apply Kd.N_alloc | apply Kd.N_drewN | apply Kd.N_drew));exact HO256.out) hb);have n3_:=Aside0.mk (Kd.N_below (by (with_reducible repeat (first | apply Kd.N_alloc | apply Kd.N_drewN | apply Kd.N_drew));exact HO259.out) hb);have n4_:=Aside0.mk (u1a (g:=gb252) (o:=.cells #[.slice A0_0 l0_0.length c0_0,.int .i64 a0_1,.int .u64 a0_2] 25 (0,0)) (by (with_reducible repeat (first | refine uc ?_ _ | refine ue ?_ | refine ub ?_ _));exact BK252.out) hb);have n5_:=Aside0.mk (u1a (g:=gb253) (o:=.cells #[.slice A1_0 l1_0.length c1_0,.int .i64 a1_1,.int .u64 a1_2] 25 (0,0)) (by (with_reducible repeat (first | refine uc ?_ _ | refine ue ?_ | refine ub ?_ _));exact BK253.out) hb);have n6_:=Aside0.mk (ux (by repeat (first | (with_reducible first | exact HB.out | apply uf | apply ua | apply ug | refine uh ?_ GE252.out | refine uh ?_ GE253.out) | exact HB.out)) hb);clear HO0_0;clear HO1_0;clear HO256;clear HO259;clear BK252;clear BK253;clear HB;have HO0_0:=n0_;have HO1_0:=n1_;have HO256:=n2_;have HO259:=n3_;have BK252:=n4_;have BK253:=n5_;have HB:=n6_;clear n0_ n1_ n2_ n3_ n4_ n5_ n6_;(try clear hb);(try clear hb2);(try clear hk);(try clear hi)))
 go_ret
 exact ⟨by first | rfl | (simp [u1j,u1i] <;> rfl) | (simp [*,u1j,u1i] <;> rfl),by repeat (first | (with_reducible first | exact HB.out | apply uf | apply ua | apply ug | refine uh ?_ GE252.out | refine uh ?_ GE253.out) | exact HB.out)⟩
end Go.Proofs.YtmcpeifhapekoaaDoor.PAll
