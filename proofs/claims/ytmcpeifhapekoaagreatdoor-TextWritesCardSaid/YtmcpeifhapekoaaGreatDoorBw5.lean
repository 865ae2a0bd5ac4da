/- Texts of this seat, joined in the order in which they build. -/
import Derived.Test.YtmcpeifhapekoaaGreatDoorBw2
import Derived.Test.YtmcpeifhapekoaaGreatDoorBw1
import Derived.Test.YtmcpeifhapekoaaGreatDoorBw3
import Derived.Test.YtmcpeifhapekoaaGreatDoorBw4
namespace Go.Proofs.YtmcpeifhapekoaaGreatDoor.PAll
open Go.RowKit Go.Proofs.YtmcpeifhapekoaaGreatDoorW.PrintWords Go.Proofs.YtmcpeifhapekoaaGreatDoorW.PrintLast Go.Proofs.YtmcpeifhapekoaaGreatDoorW.PrintMore
attribute [local go_sem] max2_int min2_int max_two min_two max_three min_three max_four min_four
set_option linter.unusedVariables false
set_option linter.unusedSimpArgs false
def uh.f:Option Int:=none
theorem uh.ta_nil (w:World):(Instr.typeAssert Value.nilIface 20 83 true).run Tryz.prog w = .ok (.tuple #[.agg #[.int .i64 0],.bool false]) w:=by kernel_rfl
theorem uh.ta_hit (c:Int) (w:World):(Instr.typeAssert (Value.iface 83 (.agg #[.int .i64 c])) 20 83 true).run Tryz.prog w = .ok (.tuple #[.agg #[.int .i64 c],.bool true]) w:=by kernel_rfl
set_option maxRecDepth 100000 in
theorem uh.catch_idle (p q:Addr) (w:World) :
 CallsD Tryz.prog 44 #[.pointer (some p),.pointer (some q)] .returning w fun e u' w' => e = .returned (.tuple #[]) ∧ u' = .returning ∧ w' = w.alloc (.cells #[.int .i64 0] 83):=by
 have h1:=uh.ta_nil
 refine callsD_of_wpS Tryz.func44 rfl fun c₀ cs hu => ?_
 apply wpS_seq
 apply wpS_region
 simp [wpOpsS,go_sem,recoverD,hu,Tryz.ntmps44,Exit.thenS,h1,Array.replicate]
 refine wpS_of_wp ?_
 go_wp2
 cases c₀
 simp_all [bodyPostS,results,Tryz.results44]
structure uh.Cleared (w w':World) (b q:Nat) (c:Int):Prop where
 said:w'.heap[b]? = some (.cells #[.slice none 0 0,.int .i64 0,.int .u64 0,.bool false,.string ⟨#[]⟩,.string ⟨#[]⟩,.string ⟨#[]⟩] 55 (0,0))
 code:w'.heap[q]? = some (.cells #[.int .i64 c] 26 (0,0))
 rest:∀ B,B ≤ w.heap.size → B ≤ b → B ≤ q → Below B w w'
theorem uh.look7 {W:World} {b t:Nat} {v0 v1 v2 v3 v4 v5 v6:Value} (h:W.heap[b]? = some (.cells #[v0,v1,v2,v3,v4,v5,v6] t (0,0))):(W.cell? ⟨b,0,none⟩ = some v0 ∧ W.cell? ⟨b,1,none⟩ = some v1 ∧ W.cell? ⟨b,2,none⟩ = some v2 ∧ W.cell? ⟨b,3,none⟩ = some v3 ∧ W.cell? ⟨b,4,none⟩ = some v4 ∧ W.cell? ⟨b,5,none⟩ = some v5 ∧ W.cell? ⟨b,6,none⟩ = some v6) ∧ (∀ i,W.frozen? ⟨b,i,none⟩ = false):=by
 have h0:=um h 0
 have h1:=um h 1
 have h2:=um h 2
 have h3:=um h 3
 have h4:=um h 4
 have h5:=um h 5
 have h6:=um h 6
 simp only [List.size_toArray,List.length_cons,List.length_nil,List.getElem?_toArray,List.getElem?_cons_zero,List.getElem?_cons_succ] at h0 h1 h2 h3 h4 h5 h6
 exact ⟨⟨h0,h1,h2,h3,h4,h5,h6⟩,fun i => uk h i⟩
theorem uh.look1 {W:World} {b t:Nat} {v:Value} (h:W.heap[b]? = some (.cells #[v] t (0,0))):W.cell? ⟨b,0,none⟩ = some v ∧ W.frozen? ⟨b,0,none⟩ = false:=by
 have h0:=um h 0
 simp only [List.size_toArray,List.length_cons,List.length_nil,List.getElem?_toArray,List.getElem?_cons_zero,List.getElem?_cons_succ] at h0
 exact ⟨h0,uk h 0⟩
theorem uh.set7 {W:World} {b t:Nat} {v0 v1 v2 v3 v4 v5 v6:Value} (h:W.heap[b]? = some (.cells #[v0,v1,v2,v3,v4,v5,v6] t (0,0))) (u0 u1 u2 u3 u4 u5 u6:Value):(((((((W.setCell ⟨b,0,none⟩ u0).setCell ⟨b,1,none⟩ u1).setCell ⟨b,2,none⟩ u2).setCell ⟨b,3,none⟩ u3).setCell ⟨b,4,none⟩ u4).setCell ⟨b,5,none⟩ u5).setCell ⟨b,6,none⟩ u6).heap[b]? = some (.cells #[u0,u1,u2,u3,u4,u5,u6] t (0,0)):=by
 have h0:=blk_set h 0 u0
 have h1:=blk_set h0 1 u1
 have h2:=blk_set h1 2 u2
 have h3:=blk_set h2 3 u3
 have h4:=blk_set h3 4 u4
 have h5:=blk_set h4 5 u5
 have h6:=blk_set h5 6 u6
 simp only [List.setIfInBounds_toArray,List.set_cons_zero,List.set_cons_succ] at h6
 exact h6
theorem uh.below7 {w W:World} {B b:Nat} (h:Below B w W) (hb:B ≤ b) (u0 u1 u2 u3 u4 u5 u6:Value):Below B w (((((((W.setCell ⟨b,0,none⟩ u0).setCell ⟨b,1,none⟩ u1).setCell ⟨b,2,none⟩ u2).setCell ⟨b,3,none⟩ u3).setCell ⟨b,4,none⟩ u4).setCell ⟨b,5,none⟩ u5).setCell ⟨b,6,none⟩ u6):=by
 have h0:=h.setCell (p:=⟨b,0,none⟩) hb u0
 have h1:=h0.setCell (p:=⟨b,1,none⟩) hb u1
 have h2:=h1.setCell (p:=⟨b,2,none⟩) hb u2
 have h3:=h2.setCell (p:=⟨b,3,none⟩) hb u3
 have h4:=h3.setCell (p:=⟨b,4,none⟩) hb u4
 have h5:=h4.setCell (p:=⟨b,5,none⟩) hb u5
 exact h5.setCell (p:=⟨b,6,none⟩) hb u6
theorem uh.far7 {W:World} {b k:Nat} {o:Obj} (h:W.heap[k]? = some o) (hk:k ≠ b) (u0 u1 u2 u3 u4 u5 u6:Value):(((((((W.setCell ⟨b,0,none⟩ u0).setCell ⟨b,1,none⟩ u1).setCell ⟨b,2,none⟩ u2).setCell ⟨b,3,none⟩ u3).setCell ⟨b,4,none⟩ u4).setCell ⟨b,5,none⟩ u5).setCell ⟨b,6,none⟩ u6).heap[k]? = some o:=by
 rw [Below.heap_setCell _ ⟨b,6,none⟩ _ k hk,Below.heap_setCell _ ⟨b,5,none⟩ _ k hk,Below.heap_setCell _ ⟨b,4,none⟩ _ k hk,Below.heap_setCell _ ⟨b,3,none⟩ _ k hk,Below.heap_setCell _ ⟨b,2,none⟩ _ k hk,Below.heap_setCell _ ⟨b,1,none⟩ _ k hk,Below.heap_setCell _ ⟨b,0,none⟩ _ k hk,h]
theorem uh.same7 (W:World) {b k:Nat} (hk:k ≠ b) (u0 u1 u2 u3 u4 u5 u6:Value):(((((((W.setCell ⟨b,0,none⟩ u0).setCell ⟨b,1,none⟩ u1).setCell ⟨b,2,none⟩ u2).setCell ⟨b,3,none⟩ u3).setCell ⟨b,4,none⟩ u4).setCell ⟨b,5,none⟩ u5).setCell ⟨b,6,none⟩ u6).heap[k]? = W.heap[k]? := by
 rw [Below.heap_setCell _ ⟨b,6,none⟩ _ k hk,Below.heap_setCell _ ⟨b,5,none⟩ _ k hk,Below.heap_setCell _ ⟨b,4,none⟩ _ k hk,Below.heap_setCell _ ⟨b,3,none⟩ _ k hk,Below.heap_setCell _ ⟨b,2,none⟩ _ k hk,Below.heap_setCell _ ⟨b,1,none⟩ _ k hk,Below.heap_setCell _ ⟨b,0,none⟩ _ k hk]
theorem uh.cleared {w Wx:World} {b q:Nat} {v0 v1 v2 v3 v4 v5 v6 v7:Value} (hW:Below w.heap.size w Wx) (hbq:¬ b = q) (hb:Wx.heap[b]? = some (.cells #[v0,v1,v2,v3,v4,v5,v6] 55 (0,0))) (hq:Wx.heap[q]? = some (.cells #[v7] 26 (0,0))) (h1:b < w.heap.size) (h2:q < w.heap.size) (c:Int) :
 uh.Cleared w (((((((((Wx.setCell ⟨b,0,none⟩ (.slice none 0 0)).setCell ⟨b,1,none⟩ (.int .i64 0)).setCell ⟨b,2,none⟩ (.int .u64 0)).setCell ⟨b,3,none⟩ (.bool false)).setCell ⟨b,4,none⟩ (.string ⟨#[]⟩)).setCell ⟨b,5,none⟩ (.string ⟨#[]⟩)).setCell ⟨b,6,none⟩ (.string ⟨#[]⟩)).setCell ⟨q,0,none⟩ (.int .i64 c)).drew) b q c:=by
 have s7:=uh.set7 hb (.slice none 0 0) (.int .i64 0) (.int .u64 0) (.bool false) (.string ⟨#[]⟩) (.string ⟨#[]⟩) (.string ⟨#[]⟩)
 have f7:=uh.far7 hq (fun e => hbq e.symm) (.slice none 0 0) (.int .i64 0) (.int .u64 0) (.bool false) (.string ⟨#[]⟩) (.string ⟨#[]⟩) (.string ⟨#[]⟩)
 have b7:=fun B (hB:B ≤ w.heap.size) (hb2:B ≤ b) => uh.below7 (hW.mono hB) hb2 (.slice none 0 0) (.int .i64 0) (.int .u64 0) (.bool false) (.string ⟨#[]⟩) (.string ⟨#[]⟩) (.string ⟨#[]⟩)
 generalize ((((((Wx.setCell ⟨b,0,none⟩ (.slice none 0 0)).setCell ⟨b,1,none⟩ (.int .i64 0)).setCell ⟨b,2,none⟩ (.int .u64 0)).setCell ⟨b,3,none⟩ (.bool false)).setCell ⟨b,4,none⟩ (.string ⟨#[]⟩)).setCell ⟨b,5,none⟩ (.string ⟨#[]⟩)).setCell ⟨b,6,none⟩ (.string ⟨#[]⟩) = W7 at s7 f7 b7 ⊢
 have q1:=blk_set f7 0 (.int .i64 c)
 simp only [List.setIfInBounds_toArray,List.set_cons_zero] at q1
 exact ⟨(Below.heap_setCell W7 ⟨q,0,none⟩ (.int .i64 c) b hbq).trans s7,q1,fun B hB hb2 hq2 => uf ((b7 B hB hb2).setCell (p:=⟨q,0,none⟩) hq2 _)⟩
set_option maxRecDepth 100000 in
set_option maxHeartbeats 2000000 in
theorem uh.catch_fault (b q:Nat) (hbq:¬ b = q) (v0 v1 v2 v3 v4 v5 v6 v7:Value) (c:Int) (older:List PanicEntry) (w:World) (hb:w.heap[b]? = some (.cells #[v0,v1,v2,v3,v4,v5,v6] 55 (0,0))) (hq:w.heap[q]? = some (.cells #[v7] 26 (0,0))) :
 CallsD Tryz.prog 44 #[.pointer (some ⟨b,0,none⟩),.pointer (some ⟨q,0,none⟩)] (.panicking ({ v:=.iface 83 (.agg #[.int .i64 c]),recovered:=false } :: older)) w fun e u' w' => e = .returned (.tuple #[]) ∧ u' = .panicking ({ v:=.iface 83 (.agg #[.int .i64 c]),recovered:=true } :: older) ∧ uh.Cleared w w' b q c:=by
 have h1:=uh.ta_hit
 have hb2:=ua.new_old hb (.cells #[.int .i64 c] 83)
 have hq2:=ua.new_old hq (.cells #[.int .i64 c] 83)
 have HB:=Aside0.mk hb2
 have HQ:=Aside0.mk hq2
 have L1:=Aside0.mk (u2u hb)
 have L2:=Aside0.mk (u2u hq)
 obtain ⟨⟨a0,a1,a2,a3,a4,a5,a6⟩,fa⟩:=uh.look7 hb2
 obtain ⟨d0,fd⟩:=uh.look1 hq2
 have n1:¬ q = b:=fun e => hbq e.symm
 clear hb hq hb2 hq2
 refine callsD_of_wpS Tryz.func44 rfl fun c₀ cs hu => ?_
 apply wpS_seq
 apply wpS_region
 simp [wpOpsS,go_sem,recoverD,hu,Tryz.ntmps44,Exit.thenS,h1,Array.replicate]
 refine wpS_of_wp ?_
 go_wp2_with fail
 have x0:=(uh.look1 (ua.new_at w (.cells #[.int .i64 c] 83))).1
 have hW:Aside0 (Below w.heap.size w (w.alloc (.cells #[.int .i64 c] 83))):=⟨ud (Below.refl _ _) _⟩
 have m1:¬ w.heap.size = b:=by have:=L1.out;omega
 have m2:¬ w.heap.size = q:=by have:=L2.out;omega
 have m3:¬ b = w.heap.size:=fun e => m1 e.symm
 have m4:¬ q = w.heap.size:=fun e => m2 e.symm
 generalize w.alloc (.cells #[.int .i64 c] 83) = Wx at *
 generalize w.heap.size = zz at x0 m1 m2 m3 m4 ⊢
 have mixed:Tryz.prog.follows .mixedOrders = true:=by kernel_rfl
 go_big_region_o
 have HC:=Aside0.mk (uh.cleared hW.out hbq HB.out HQ.out L1.out L2.out c)
 clear HB HQ hW fa fd a0 a1 a2 a3 a4 a5 a6 d0 L1 L2
 change bodyPostS _ _ _ _ _ _ _ _ _
 cases c₀
 simp_all [bodyPostS,results,Tryz.results44]
 exact HC.out
def uh.Out (W:World) (o:Option Tx.Rw × Tx.Me × Int) (e:Ending) (W':World):Prop:=∃ v:Value,e = .returned (.tuple #[.agg #[v,.int .i64 (match o.1 with | none => 0 | some r => r.f1),.int .u64 (match o.1 with | none => 0 | some r => r.f2),.bool o.1.isSome,.string o.2.1.1,.string o.2.1.2.1,.string o.2.1.2.2],.int .i64 o.2.2]) ∧ Kd.R k66 66 W' W.heap.size (fun _ => True) v (match o.1 with | none => [] | some r => r.f0) ∧ Below W.heap.size W W'
theorem uh.out_fault {W W':World} {c:Int} {o:Option Tx.Rw × Tx.Me × Int} (ho:o = (none,Tx.me0,c)) (hb:Below W.heap.size W W'):uh.Out W o (.returned (.tuple #[.agg #[.slice none 0 0,.int .i64 0,.int .u64 0,.bool false,.string ⟨#[]⟩,.string ⟨#[]⟩,.string ⟨#[]⟩],.int .i64 c])) W':=by
 subst ho
 exact ⟨_,rfl,Kd.R_nil _ _ _ _ _,hb⟩
structure uh.Pre (W w:World):Prop where
 said:w.heap[W.heap.size]? = some (.cells #[.slice none 0 0,.int .i64 0,.int .u64 0,.bool false,.string ⟨#[]⟩,.string ⟨#[]⟩,.string ⟨#[]⟩] 55 (0,0))
 code:w.heap[W.heap.size + 1]? = some (.cells #[.int .i64 0] 26 (0,0))
 below:Below W.heap.size W w
theorem uh.pre_start (W:World) (o:Obj):uh.Pre W (((W.alloc (.cells #[.slice none 0 0,.int .i64 0,.int .u64 0,.bool false,.string ⟨#[]⟩,.string ⟨#[]⟩,.string ⟨#[]⟩] 55)).alloc (.cells #[.int .i64 0] 26)).alloc o):=by
 have h1:=ua.new_at W (.cells #[.slice none 0 0,.int .i64 0,.int .u64 0,.bool false,.string ⟨#[]⟩,.string ⟨#[]⟩,.string ⟨#[]⟩] 55)
 have h2:=ua.new_at (W.alloc (.cells #[.slice none 0 0,.int .i64 0,.int .u64 0,.bool false,.string ⟨#[]⟩,.string ⟨#[]⟩,.string ⟨#[]⟩] 55)) (.cells #[.int .i64 0] 26)
 rw [World.size_alloc] at h2
 exact ⟨ua.new_old (ua.new_old h1 _) _,ua.new_old h2 _,ud (ud (ud (Below.refl _ _) _) _) _⟩
def uh.mk2 (W:World):World:=(W.alloc (.cells #[.slice none 0 0,.int .i64 0,.int .u64 0,.bool false,.string ⟨#[]⟩,.string ⟨#[]⟩,.string ⟨#[]⟩] 55)).alloc (.cells #[.int .i64 0] 26)
theorem uh.mk2_size (W:World):(uh.mk2 W).heap.size = W.heap.size + 1 + 1:=by
 unfold uh.mk2
 rw [World.size_alloc,World.size_alloc]
theorem uh.st_start (W:World) (s:List UInt8):ua.St (uh.mk2 W) (((W.alloc (.cells #[.slice none 0 0,.int .i64 0,.int .u64 0,.bool false,.string ⟨#[]⟩,.string ⟨#[]⟩,.string ⟨#[]⟩] 55)).alloc (.cells #[.int .i64 0] 26)).alloc (.cells #[.string (Base.ofL s)] 87)) (W.heap.size + 1 + 1) s:=by
 have h2:=ua.new_at (uh.mk2 W) (.cells #[.string (Base.ofL s)] 87)
 rw [uh.mk2_size] at h2
 exact ⟨ud (Below.refl _ _) _,by rw [uh.mk2_size];exact Nat.le_refl _,h2⟩
theorem uh.pre_of {W w:World} (h:Below (uh.mk2 W).heap.size (uh.mk2 W) w):uh.Pre W w:=by
 have h1:=ua.new_at W (.cells #[.slice none 0 0,.int .i64 0,.int .u64 0,.bool false,.string ⟨#[]⟩,.string ⟨#[]⟩,.string ⟨#[]⟩] 55)
 have h2:=ua.new_at (W.alloc (.cells #[.slice none 0 0,.int .i64 0,.int .u64 0,.bool false,.string ⟨#[]⟩,.string ⟨#[]⟩,.string ⟨#[]⟩] 55)) (.cells #[.int .i64 0] 26)
 rw [World.size_alloc] at h2
 exact ⟨ua.below_at h (ua.new_old h1 _),ua.below_at h h2,u1c (ud (ud (Below.refl _ _) _) _) (h.mono (by rw [uh.mk2_size,World.size_alloc,World.size_alloc];exact Nat.le_refl _))⟩
theorem uh.Pre.keep {W w w':World} (h:uh.Pre W w) (hb:Below W.heap.size W w') (hk:u1q w w' (W.heap.size + 1 + 1) none):uh.Pre W w' :=
 ⟨ua.kept_at hk (by omega) h.said,ua.kept_at hk (by omega) h.code,hb⟩
theorem uh.Pre.drew {W w:World} (h:uh.Pre W w) (n:Nat):uh.Pre W (w.drewN n):=⟨h.said,h.code,ub h.below n⟩
structure uh.Fin (W V w:World) (u0 u1 u2 u3 u4 u5 u6:Value):Prop where
 said:w.heap[W.heap.size]? = some (.cells #[u0,u1,u2,u3,u4,u5,u6] 55 (0,0))
 code:w.heap[W.heap.size + 1]? = some (.cells #[.int .i64 0] 26 (0,0))
 below:Below W.heap.size W w
 far:∀ k,k ≠ W.heap.size → k ≠ W.heap.size + 1 → w.heap[k]? = V.heap[k]?
theorem uh.fin7 {W V:World} {v0 v1 v2 v3 v4 v5 v6 v7:Value} (hs:V.heap[W.heap.size]? = some (.cells #[v0,v1,v2,v3,v4,v5,v6] 55 (0,0))) (hc:V.heap[W.heap.size + 1]? = some (.cells #[v7] 26 (0,0))) (hb:Below W.heap.size W V) (u0 u1 u2 u3 u4 u5 u6:Value) :
 uh.Fin W V ((((((((V.setCell ⟨W.heap.size,0,none⟩ u0).setCell ⟨W.heap.size,1,none⟩ u1).setCell ⟨W.heap.size,2,none⟩ u2).setCell ⟨W.heap.size,3,none⟩ u3).setCell ⟨W.heap.size,4,none⟩ u4).setCell ⟨W.heap.size,5,none⟩ u5).setCell ⟨W.heap.size,6,none⟩ u6).setCell ⟨W.heap.size + 1,0,none⟩ (.int .i64 0)) u0 u1 u2 u3 u4 u5 u6:=by
 have s7:=uh.set7 hs u0 u1 u2 u3 u4 u5 u6
 have f7:=uh.far7 hc (show W.heap.size + 1 ≠ W.heap.size by omega) u0 u1 u2 u3 u4 u5 u6
 have b7:=uh.below7 hb (Nat.le_refl _) u0 u1 u2 u3 u4 u5 u6
 have k7:=fun k (hk:k ≠ W.heap.size) => uh.same7 V hk u0 u1 u2 u3 u4 u5 u6
 generalize ((((((V.setCell ⟨W.heap.size,0,none⟩ u0).setCell ⟨W.heap.size,1,none⟩ u1).setCell ⟨W.heap.size,2,none⟩ u2).setCell ⟨W.heap.size,3,none⟩ u3).setCell ⟨W.heap.size,4,none⟩ u4).setCell ⟨W.heap.size,5,none⟩ u5).setCell ⟨W.heap.size,6,none⟩ u6 = W7 at s7 f7 b7 k7 ⊢
 have q1:=blk_set f7 0 (.int .i64 0)
 simp only [List.setIfInBounds_toArray,List.set_cons_zero] at q1
 exact ⟨(Below.heap_setCell W7 ⟨W.heap.size + 1,0,none⟩ (.int .i64 0) W.heap.size (by show W.heap.size ≠ W.heap.size + 1;omega)).trans s7,q1,b7.setCell (p:=⟨W.heap.size + 1,0,none⟩) (by show W.heap.size ≤ W.heap.size + 1;omega) _,fun k h1 h2 => (Below.heap_setCell W7 ⟨W.heap.size + 1,0,none⟩ (.int .i64 0) k h2).trans (k7 k h1)⟩
theorem uh.out_meta {W W':World} {m:Tx.Me} {o:Option Tx.Rw × Tx.Me × Int} (ho:o = (none,m,0)) (hb:Below W.heap.size W W'):uh.Out W o (.returned (.tuple #[.agg #[.slice none 0 0,.int .i64 0,.int .u64 0,.bool false,.string m.1,.string m.2.1,.string m.2.2],.int .i64 0])) W':=by
 subst ho
 exact ⟨_,rfl,Kd.R_nil _ _ _ _ _,hb⟩
theorem uh.out_row {W W':World} {r:Tx.Rw} {o:Option Tx.Rw × Tx.Me × Int} (ho:o = (some r,Tx.me0,0)) {v:Value} (hr:Kd.R k66 66 W' W.heap.size (fun _ => True) v r.f0) (hb:Below W.heap.size W W'):uh.Out W o (.returned (.tuple #[.agg #[v,.int .i64 r.f1,.int .u64 r.f2,.bool true,.string ⟨#[]⟩,.string ⟨#[]⟩,.string ⟨#[]⟩],.int .i64 0])) W':=by
 subst ho
 exact ⟨v,rfl,hr,hb⟩
theorem uh.rm_no (w0 W:World) (g:Nat) (s:List UInt8) (hl:s.length ≤ 1000) (hr:Tx.remarkP s = none) (h:ua.St w0 W g s):Calls Tryz.prog 48 #[.pointer (some ⟨g,0,none⟩)] W fun e W' => e = .panicked (u2l.chain 280) ∧ Below w0.heap.size w0 W' :=
 (uj.calls w0 W g s hl h).mono fun e W' ho => by rw [hr] at ho;exact ho
theorem uh.rm_ok (w0 W:World) (g:Nat) (s:List UInt8) (hl:s.length ≤ 1000) (m:Tx.Me) (hr:Tx.remarkP s = some m) (h:ua.St w0 W g s):Calls Tryz.prog 48 #[.pointer (some ⟨g,0,none⟩)] W fun e W' => e = .returned (.agg #[.string m.1,.string m.2.1,.string m.2.2]) ∧ Below w0.heap.size w0 W' :=
 (uj.calls w0 W g s hl h).mono fun e W' ho => by rw [hr] at ho;exact ⟨ho.1,ho.2.1⟩
theorem uh.ib_at (s:List UInt8):∃ z:Int,decide (0 ≤ z) = s.contains 10 ∧ ∀ w:World,Calls Tryz.prog 46 #[.string (Base.ofL s),.int .u8 10] w fun e w' => e = .returned (.int .i64 z) ∧ w' = w:=by
 refine ⟨Lib.indexByte s 10,(Lib.contains_iff_indexByte s 10).symm,fun w => ?_⟩
 have h:=strings_IndexByte.calls (Base.ofL s) 10 w
 rw [Base.ofL_data] at h
 exact h
theorem uh.dw_nil (p:UInt8 → Bool):∀ l:List UInt8,l.dropWhile p = [] ↔ ∀ x ∈ l,p x = true
 | [] => by simp
 | c :: l => by
   rw [List.dropWhile_cons]
   by_cases h:p c = true
   · rw [if_pos h,uh.dw_nil p l]
     simp [h]
   · rw [if_neg h]
     simp [h]
theorem uh.dw_head (p:UInt8 → Bool):∀ (l:List UInt8) (y:UInt8) (r:List UInt8),l.dropWhile p = y :: r → p y = false
 | [],y,r,h => by cases h
 | c :: l,y,r,h => by
   rw [List.dropWhile_cons] at h
   by_cases hc:p c = true
   · rw [if_pos hc] at h
     exact uh.dw_head p l y r h
   · rw [if_neg hc] at h
     obtain ⟨rfl,_⟩:=List.cons.inj h
     simpa using hc
theorem uh.trim_nil (s:List UInt8):(Lib.trimS s [32,9] = []) = (s.all Tx.blankC = true):=by
 have hp:∀ c:UInt8,([32,9]:List UInt8).contains c = Tx.blankC c:=fun c => by
  unfold Tx.blankC
  rw [Bool.eq_iff_iff]
  simp
 have hf:(fun c => ([32,9]:List UInt8).contains c) = Tx.blankC:=funext hp
 unfold Lib.trimS Lib.trimLeftS Lib.trimRightS
 rw [hf]
 apply propext
 rw [uh.dw_nil,List.all_eq_true]
 constructor
 · intro h x hx
   cases he:s.reverse.dropWhile Tx.blankC with
   | nil => exact (uh.dw_nil _ _).1 he x (List.mem_reverse.2 hx)
   | cons y r =>
     have h1:Tx.blankC y = true:=h y (by rw [he];simp)
     have h2:=uh.dw_head Tx.blankC s.reverse y r he
     rw [h1] at h2
     cases h2
 · intro h x hx
   have h1:x ∈ s.reverse:=(List.dropWhile_sublist _).subset (List.mem_reverse.1 hx)
   exact h x (List.mem_reverse.1 h1)
theorem uh.after_fault {W w w':World} {c:Int} (h:uh.Pre W w) (hC:uh.Cleared w w' W.heap.size (W.heap.size + 1) c):Below W.heap.size W w' :=
 below_weaken h.below (Nat.le_refl _) (hC.rest W.heap.size h.below.size (Nat.le_refl _) (by omega))
set_option maxRecDepth 100000 in
set_option maxHeartbeats 2000000 in
theorem uh.too_long (can:List Tx.Lb → Bool) (W:World) (s:List UInt8) (now:Int) (hm:s.length ≤ 4611686018427387904) (hl:s.length > 1000) :
 Calls Tryz.prog 18 #[.string (Base.ofL s),.int .i64 now] W fun e W' => uh.Out W (Tx.readP can s now) e W':=by
 have hmf:∀ (fn:Fn) (first cap:Array Value) (w:World),(Instr.makeFunc fn first cap).run Tryz.prog w = .ok (.func fn first cap) w:=fun _ _ _ _ => rfl
 have hsz:(Base.ofL s).size = s.length:=(Tx.cut_ofL s 0 (by omega)).2.2
 have HE:Aside0 (Tx.readP can s now = (none,Tx.me0,4)):=⟨by unfold Tx.readP;rw [if_pos hl]⟩
 have hd2:(1000:Int) < (s.length:Int):=by omega
 go_enter_defers Tryz.func18,Tryz.ntmps18
 go_wp2_with (go_at_call 45;(with_reducible refine (u2l.calls 4 _).mono ?_);rintro e W1 ⟨rfl,rfl⟩)
 refine leaves_cons (f:=44) (args:=#[.pointer (some ⟨W.heap.size,0,none⟩),.pointer (some ⟨W.heap.size + 1,0,none⟩)]) (by simp) (by simp [go_sem]) ?_
 refine (uh.catch_fault W.heap.size (W.heap.size + 1) (by omega) _ _ _ _ _ _ _ _ 4 [] _ (uh.pre_start W _).said (uh.pre_start W _).code).mono ?_
 rintro e u' w'' ⟨rfl,rfl,hC⟩
 have HBF:=Aside0.mk (uh.after_fault (uh.pre_start W _) hC)
 obtain ⟨⟨a0,a1,a2,a3,a4,a5,a6⟩,fa⟩:=uh.look7 hC.said
 obtain ⟨d0,fd⟩:=uh.look1 hC.code
 clear hC
 simp [Leaves,settle,results,Tryz.results18,go_sem,a0,a1,a2,a3,a4,a5,a6,d0]
 exact uh.out_fault HE.out HBF.out
set_option maxRecDepth 100000 in
set_option maxHeartbeats 2000000 in
theorem uh.lines (can:List Tx.Lb → Bool) (W:World) (s:List UInt8) (now:Int) (hl:s.length ≤ 1000) (hn:s.contains 10 = true) :
 Calls Tryz.prog 18 #[.string (Base.ofL s),.int .i64 now] W fun e W' => uh.Out W (Tx.readP can s now) e W':=by
 have hmf:∀ (fn:Fn) (first cap:Array Value) (w:World),(Instr.makeFunc fn first cap).run Tryz.prog w = .ok (.func fn first cap) w:=fun _ _ _ _ => rfl
 have hsz:(Base.ofL s).size = s.length:=(Tx.cut_ofL s 0 (by omega)).2.2
 have HE:Aside0 (Tx.readP can s now = (none,Tx.me0,280)):=⟨by unfold Tx.readP;rw [if_neg (by omega),if_pos hn]⟩
 obtain ⟨z,hz,hzc⟩:=uh.ib_at s
 have HZ:=Aside0.mk hzc
 rw [hn] at hz
 have hd2:¬ (1000:Int) < (s.length:Int):=by omega
 have hz0:0 ≤ z:=of_decide_eq_true hz
 clear hn hzc
 go_enter_defers Tryz.func18,Tryz.ntmps18
 go_wp2_with (first
  | (go_at_call 46;(with_reducible refine (HZ.out _).mono ?_);rintro e W1 ⟨rfl,rfl⟩)
  | (go_at_call 45;(with_reducible refine (u2l.calls 280 _).mono ?_);rintro e W1 ⟨rfl,rfl⟩))
 refine leaves_cons (f:=44) (args:=#[.pointer (some ⟨W.heap.size,0,none⟩),.pointer (some ⟨W.heap.size + 1,0,none⟩)]) (by simp) (by simp [go_sem]) ?_
 refine (uh.catch_fault W.heap.size (W.heap.size + 1) (by omega) _ _ _ _ _ _ _ _ 280 [] _ (uh.pre_start W _).said (uh.pre_start W _).code).mono ?_
 rintro e u' w'' ⟨rfl,rfl,hC⟩
 have HBF:=Aside0.mk (uh.after_fault (uh.pre_start W _) hC)
 obtain ⟨⟨a0,a1,a2,a3,a4,a5,a6⟩,fa⟩:=uh.look7 hC.said
 obtain ⟨d0,fd⟩:=uh.look1 hC.code
 clear hC
 simp [Leaves,settle,results,Tryz.results18,go_sem,a0,a1,a2,a3,a4,a5,a6,d0]
 exact uh.out_fault HE.out HBF.out
set_option maxRecDepth 100000 in
set_option maxHeartbeats 4000000 in
theorem uh.remark (can:List Tx.Lb → Bool) (W:World) (s:List UInt8) (now:Int) (hl:s.length ≤ 1000) (hn:s.contains 10 = false) (r:List UInt8) (hs:s = 35 :: r) :
 Calls Tryz.prog 18 #[.string (Base.ofL s),.int .i64 now] W fun e W' => uh.Out W (Tx.readP can s now) e W':=by
 have hmf:∀ (fn:Fn) (first cap:Array Value) (w:World),(Instr.makeFunc fn first cap).run Tryz.prog w = .ok (.func fn first cap) w:=fun _ _ _ _ => rfl
 have hsz:(Base.ofL s).size = s.length:=(Tx.cut_ofL s 0 (by omega)).2.2
 have HV:Aside0 (Tx.readP can s now = match Tx.remarkP s with | none => (none,Tx.me0,280) | some m => (none,m,0)):=⟨by unfold Tx.readP;rw [if_neg (by omega),hn,if_neg (by decide)];subst hs;rfl⟩
 obtain ⟨z,hz,hzc⟩:=uh.ib_at s
 have HZ:=Aside0.mk hzc
 rw [hn] at hz
 have hd2:¬ (1000:Int) < (s.length:Int):=by omega
 have hz0:¬ 0 ≤ z:=of_decide_eq_false hz
 have HPK:Aside0 (ua.pk s = 35):=⟨by rw [hs];rfl⟩
 generalize hoo:Tx.readP can s now = o at HV ⊢
 clear hn hzc hoo hs
 cases hr:Tx.remarkP s with
 | none =>
   have HR:=Aside0.mk hr
   have HE:Aside0 (o = (none,Tx.me0,280)):=⟨by rw [HV.out,hr]⟩
   clear hr HV
   go_enter_defers Tryz.func18,Tryz.ntmps18
   go_wp2_with (first
    | (go_at_call 46;(with_reducible refine (HZ.out _).mono ?_);rintro e W1 ⟨rfl,rfl⟩)
    | (go_at_call 47;(with_reducible refine (uv.peek_at (uh.mk2 W) _ (W.heap.size + 1 + 1) s 35 HPK.out (by exact uh.st_start W s)).mono ?_);rintro e W2 ⟨rfl,⟨nd,rfl⟩⟩)
    | (go_at_call 48;(with_reducible refine (uh.rm_no (uh.mk2 W) _ (W.heap.size + 1 + 1) s hl HR.out (by exact (uh.st_start W s).drew nd)).mono ?_);rintro e W3 ⟨rfl,hb3⟩;have HPF:=Aside0.mk (uh.pre_of hb3);clear hb3))
   refine leaves_cons (f:=44) (args:=#[.pointer (some ⟨W.heap.size,0,none⟩),.pointer (some ⟨W.heap.size + 1,0,none⟩)]) (by simp) (by simp [go_sem]) ?_
   refine (uh.catch_fault W.heap.size (W.heap.size + 1) (by omega) _ _ _ _ _ _ _ _ 280 [] _ HPF.out.said HPF.out.code).mono ?_
   rintro e u' w'' ⟨rfl,rfl,hC⟩
   have HBF:=Aside0.mk (uh.after_fault HPF.out hC)
   obtain ⟨⟨a0,a1,a2,a3,a4,a5,a6⟩,fa⟩:=uh.look7 hC.said
   obtain ⟨d0,fd⟩:=uh.look1 hC.code
   clear hC
   simp [Leaves,settle,results,Tryz.results18,go_sem,a0,a1,a2,a3,a4,a5,a6,d0]
   exact uh.out_fault HE.out HBF.out
 | some m =>
   have HR:=Aside0.mk hr
   have HE:Aside0 (o = (none,m,0)):=⟨by rw [HV.out,hr]⟩
   clear hr HV
   go_enter_defers Tryz.func18,Tryz.ntmps18
   go_wp2_with (first
    | (go_at_call 46;(with_reducible refine (HZ.out _).mono ?_);rintro e W1 ⟨rfl,rfl⟩)
    | (go_at_call 47;(with_reducible refine (uv.peek_at (uh.mk2 W) _ (W.heap.size + 1 + 1) s 35 HPK.out (by exact uh.st_start W s)).mono ?_);rintro e W2 ⟨rfl,⟨nd,rfl⟩⟩)
    | (go_at_call 48;(with_reducible refine (uh.rm_ok (uh.mk2 W) _ (W.heap.size + 1 + 1) s hl m HR.out (by exact (uh.st_start W s).drew nd)).mono ?_);rintro e W3 ⟨rfl,hb3⟩;have HPF:=Aside0.mk (uh.pre_of hb3);obtain ⟨⟨a0,a1,a2,a3,a4,a5,a6⟩,fa⟩:=uh.look7 HPF.out.said;obtain ⟨d0,fd⟩:=uh.look1 HPF.out.code;clear hb3))
   have hV1:=blk_set (blk_set (blk_set HPF.out.said 4 (.string m.1)) 5 (.string m.2.1)) 6 (.string m.2.2)
   simp only [List.setIfInBounds_toArray,List.set_cons_zero,List.set_cons_succ] at hV1
   have hV2:(((W3.setCell ⟨W.heap.size,4,none⟩ (.string m.1)).setCell ⟨W.heap.size,5,none⟩ (.string m.2.1)).setCell ⟨W.heap.size,6,none⟩ (.string m.2.2)).heap[W.heap.size + 1]? = some (.cells #[.int .i64 0] 26 (0,0)):=by
    rw [Below.heap_setCell _ ⟨W.heap.size,6,none⟩ _ _ (show W.heap.size + 1 ≠ W.heap.size by omega),Below.heap_setCell _ ⟨W.heap.size,5,none⟩ _ _ (show W.heap.size + 1 ≠ W.heap.size by omega),Below.heap_setCell _ ⟨W.heap.size,4,none⟩ _ _ (show W.heap.size + 1 ≠ W.heap.size by omega),HPF.out.code]
   have hV3:=((HPF.out.below.setCell (p:=⟨W.heap.size,4,none⟩) (Nat.le_refl _) (.string m.1)).setCell (p:=⟨W.heap.size,5,none⟩) (Nat.le_refl _) (.string m.2.1)).setCell (p:=⟨W.heap.size,6,none⟩) (Nat.le_refl _) (.string m.2.2)
   clear a0 a1 a2 a3 a4 a5 a6 fa d0 fd
   have HF:=uh.fin7 (V:=(((W3.setCell ⟨W.heap.size,4,none⟩ (.string m.1)).setCell ⟨W.heap.size,5,none⟩ (.string m.2.1)).setCell ⟨W.heap.size,6,none⟩ (.string m.2.2))) hV1 hV2 hV3 (.slice none 0 0) (.int .i64 0) (.int .u64 0) (.bool false) (.string m.1) (.string m.2.1) (.string m.2.2)
   generalize (((((((((((W3.setCell ⟨W.heap.size,4,none⟩ (.string m.1)).setCell ⟨W.heap.size,5,none⟩ (.string m.2.1)).setCell ⟨W.heap.size,6,none⟩ (.string m.2.2)).setCell ⟨W.heap.size,0,none⟩ (.slice none 0 0)).setCell ⟨W.heap.size,1,none⟩ (.int .i64 0)).setCell ⟨W.heap.size,2,none⟩ (.int .u64 0)).setCell ⟨W.heap.size,3,none⟩ (.bool false)).setCell ⟨W.heap.size,4,none⟩ (.string m.1)).setCell ⟨W.heap.size,5,none⟩ (.string m.2.1)).setCell ⟨W.heap.size,6,none⟩ (.string m.2.2)).setCell ⟨W.heap.size + 1,0,none⟩ (.int .i64 0)) = Wz at HF ⊢
   have hs9:=ua.new_old HF.said (.cells #[.int .i64 0] 83)
   have hc9:=ua.new_old HF.code (.cells #[.int .i64 0] 83)
   have HBF:=Aside0.mk (u1c HF.below (ud (Below.refl Wz.heap.size Wz) (.cells #[.int .i64 0] 83)))
   clear HF
   obtain ⟨⟨p0,p1,p2,p3,p4,p5,p6⟩,fp⟩:=uh.look7 hs9
   obtain ⟨q0,fq⟩:=uh.look1 hc9
   clear hs9 hc9
   refine leaves_cons (f:=44) (args:=#[.pointer (some ⟨W.heap.size,0,none⟩),.pointer (some ⟨W.heap.size + 1,0,none⟩)]) (by simp) (by simp [go_sem]) ?_
   refine (uh.catch_idle _ _ _).mono ?_
   rintro e u' w'' ⟨rfl,rfl,rfl⟩
   simp [Leaves,settle,results,Tryz.results18,go_sem,p0,p1,p2,p3,p4,p5,p6,q0]
   exact uh.out_meta HE.out HBF.out
theorem uh.trim_at (s:List UInt8) (hl:s.length ≤ 1000) (W:World):Calls Tryz.prog 49 #[.string (Base.ofL s),.string (⟨#[32,9]⟩:ByteArray)] W fun e W' => e = .returned (.string (Base.ofL (Lib.trimS s [32,9]))) ∧ Below W.heap.size W W':=by
 have h:=Go.Proofs.Tryz.strings_Trim (Base.ofL s) ⟨#[32,9]⟩ W (by rw [(Tx.cut_ofL s 0 (by omega)).2.2];omega) (by decide) (Go.Proofs.ascii_of_all (by decide))
 rw [Base.ofL_data] at h
 exact h
theorem uh.read_blank (can:List Tx.Lb → Bool) (s:List UInt8) (now:Int) (hl:s.length ≤ 1000) (hn:s.contains 10 = false) (hs:∀ r,s ≠ 35 :: r):Tx.readP can s now = if s.all Tx.blankC = true then ((none,Tx.me0,0):Option Tx.Rw × Tx.Me × Int) else match Tx.sampleP can s now with | none => (none,Tx.me0,280) | some r => (some r,Tx.me0,0):=by
 unfold Tx.readP
 rw [if_neg (by omega),hn,if_neg (by decide)]
 split
 · exact absurd rfl (hs _)
 · rfl
set_option maxRecDepth 100000 in
set_option maxHeartbeats 4000000 in
theorem uh.blank (can:List Tx.Lb → Bool) (W:World) (s:List UInt8) (now:Int) (hl:s.length ≤ 1000) (hn:s.contains 10 = false) (hs:∀ r,s ≠ 35 :: r) (ha:s.all Tx.blankC = true) :
 Calls Tryz.prog 18 #[.string (Base.ofL s),.int .i64 now] W fun e W' => uh.Out W (Tx.readP can s now) e W':=by
 have HE:Aside0 (Tx.readP can s now = (none,Tx.me0,0)):=⟨by rw [uh.read_blank can s now hl hn hs,if_pos ha]⟩
 generalize hoo:Tx.readP can s now = o at HE ⊢
 have hmf:∀ (fn:Fn) (first cap:Array Value) (w:World),(Instr.makeFunc fn first cap).run Tryz.prog w = .ok (.func fn first cap) w:=fun _ _ _ _ => rfl
 have hsz:(Base.ofL s).size = s.length:=(Tx.cut_ofL s 0 (by omega)).2.2
 obtain ⟨z,hz,hzc⟩:=uh.ib_at s
 have HZ:=Aside0.mk hzc
 rw [hn] at hz
 have hd2:¬ (1000:Int) < (s.length:Int):=by omega
 have hz0:¬ 0 ≤ z:=of_decide_eq_false hz
 obtain ⟨y,hy⟩:∃ y,ua.pk s = y:=⟨_,rfl⟩
 have HPK:=Aside0.mk hy
 have hyb:(y == 35) = false:=beq_eq_false_iff_ne.2 (by rw [← hy];exact ui.pk_ne s 35 (by decide) hs)
 obtain ⟨_,tw,twn⟩:=u1l.txt (Lib.trimS s [32,9])
 obtain ⟨e1,e2⟩:=twn ((uh.trim_nil s).mpr ha)
 clear hn hzc hoo hs ha tw twn hy
 go_enter_defers Tryz.func18,Tryz.ntmps18
 go_wp2_with (first
  | (go_at_call 46;(with_reducible refine (HZ.out _).mono ?_);rintro e W1 ⟨rfl,rfl⟩)
  | (go_at_call 47;(with_reducible refine (uv.peek_at (uh.mk2 W) _ (W.heap.size + 1 + 1) s y HPK.out (by exact uh.st_start W s)).mono ?_);rintro e W2 ⟨rfl,⟨nd,rfl⟩⟩)
  | (go_at_call 49;(with_reducible refine (uh.trim_at s (by omega) _).mono ?_);rintro e W3 ⟨rfl,hb3⟩;have HS3:=Aside0.mk (((uh.st_start W s).drew nd).more hb3);clear hb3;have HPF:=Aside0.mk (uh.pre_of HS3.out.below);obtain ⟨⟨a0,a1,a2,a3,a4,a5,a6⟩,fa⟩:=uh.look7 HPF.out.said;obtain ⟨d0,fd⟩:=uh.look1 HPF.out.code))
 clear a0 a1 a2 a3 a4 a5 a6 fa d0 fd
 have hV1:=HPF.out.said
 have hV2:=HPF.out.code
 have hV3:=HPF.out.below
 have HF:=uh.fin7 (V:=W3) hV1 hV2 hV3 (.slice none 0 0) (.int .i64 0) (.int .u64 0) (.bool false) (.string ⟨#[]⟩) (.string ⟨#[]⟩) (.string ⟨#[]⟩)
 generalize ((((((((W3.setCell ⟨W.heap.size,0,none⟩ (.slice none 0 0)).setCell ⟨W.heap.size,1,none⟩ (.int .i64 0)).setCell ⟨W.heap.size,2,none⟩ (.int .u64 0)).setCell ⟨W.heap.size,3,none⟩ (.bool false)).setCell ⟨W.heap.size,4,none⟩ (.string ⟨#[]⟩)).setCell ⟨W.heap.size,5,none⟩ (.string ⟨#[]⟩)).setCell ⟨W.heap.size,6,none⟩ (.string ⟨#[]⟩)).setCell ⟨W.heap.size + 1,0,none⟩ (.int .i64 0)) = Wz at HF ⊢
 have hs9:=ua.new_old HF.said (.cells #[.int .i64 0] 83)
 have hc9:=ua.new_old HF.code (.cells #[.int .i64 0] 83)
 have HBF:=Aside0.mk (u1c HF.below (ud (Below.refl Wz.heap.size Wz) (.cells #[.int .i64 0] 83)))
 clear HF
 obtain ⟨⟨p0,p1,p2,p3,p4,p5,p6⟩,fp⟩:=uh.look7 hs9
 obtain ⟨q0,fq⟩:=uh.look1 hc9
 clear hs9 hc9
 refine leaves_cons (f:=44) (args:=#[.pointer (some ⟨W.heap.size,0,none⟩),.pointer (some ⟨W.heap.size + 1,0,none⟩)]) (by simp) (by simp [go_sem]) ?_
 refine (uh.catch_idle _ _ _).mono ?_
 rintro e u' w'' ⟨rfl,rfl,rfl⟩
 simp [Leaves,settle,results,Tryz.results18,go_sem,p0,p1,p2,p3,p4,p5,p6,q0]
 exact uh.out_fault HE.out HBF.out
theorem uh.sa_no (can:List Tx.Lb → Bool) (hcan:∀ l:List Tx.Lb,l.length ≤ 10 → ∃ k,u1s.f k l = some (can l)) (w0 W:World) (g:Nat) (s:List UInt8) (now:Int) (hl:s.length ≤ 1000) (hr:Tx.sampleP can s now = none) (h:ua.St w0 W g s):Calls Tryz.prog 50 #[.pointer (some ⟨g,0,none⟩),.int .i64 now] W fun e W' => e = .panicked (u2l.chain 280) ∧ Below w0.heap.size w0 W' :=
 (uc.calls can hcan w0 W g s now hl h).mono fun e W' ho => by rw [hr] at ho;exact ho
theorem uh.sa_ok (can:List Tx.Lb → Bool) (hcan:∀ l:List Tx.Lb,l.length ≤ 10 → ∃ k,u1s.f k l = some (can l)) (w0 W:World) (g:Nat) (s:List UInt8) (now:Int) (hl:s.length ≤ 1000) (r:Tx.Rw) (hr:Tx.sampleP can s now = some r) (h:ua.St w0 W g s):Calls Tryz.prog 50 #[.pointer (some ⟨g,0,none⟩),.int .i64 now] W fun e W' => ∃ v:Value,e = .returned (.agg #[v,.int .i64 r.f1,.int .u64 r.f2]) ∧ Kd.R k66 66 W' w0.heap.size (fun _ => True) v r.f0 ∧ Below w0.heap.size w0 W' :=
 (uc.calls can hcan w0 W g s now hl h).mono fun e W' ho => by
   rw [hr] at ho
   obtain ⟨v,he,h1,h2,_⟩:=ho
   exact ⟨v,he,Kd.R_lower (Kd.R_mono h1 (fun _ _ => trivial)) h.below.size,h2⟩
set_option maxRecDepth 100000 in
set_option maxHeartbeats 4000000 in
theorem uh.row (can:List Tx.Lb → Bool) (hcan:∀ l:List Tx.Lb,l.length ≤ 10 → ∃ k,u1s.f k l = some (can l)) (W:World) (s:List UInt8) (now:Int) (hl:s.length ≤ 1000) (hn:s.contains 10 = false) (hs:∀ r,s ≠ 35 :: r) (ha:¬ s.all Tx.blankC = true) :
 Calls Tryz.prog 18 #[.string (Base.ofL s),.int .i64 now] W fun e W' => uh.Out W (Tx.readP can s now) e W':=by
 have HV:Aside0 (Tx.readP can s now = match Tx.sampleP can s now with | none => (none,Tx.me0,280) | some r => (some r,Tx.me0,0)):=⟨by rw [uh.read_blank can s now hl hn hs,if_neg ha]⟩
 generalize hoo:Tx.readP can s now = o at HV ⊢
 have HCN:=Aside0.mk hcan
 have hmf:∀ (fn:Fn) (first cap:Array Value) (w:World),(Instr.makeFunc fn first cap).run Tryz.prog w = .ok (.func fn first cap) w:=fun _ _ _ _ => rfl
 have hsz:(Base.ofL s).size = s.length:=(Tx.cut_ofL s 0 (by omega)).2.2
 obtain ⟨z,hz,hzc⟩:=uh.ib_at s
 have HZ:=Aside0.mk hzc
 rw [hn] at hz
 have hd2:¬ (1000:Int) < (s.length:Int):=by omega
 have hz0:¬ 0 ≤ z:=of_decide_eq_false hz
 obtain ⟨y,hy⟩:∃ y,ua.pk s = y:=⟨_,rfl⟩
 have HPK:=Aside0.mk hy
 have hyb:(y == 35) = false:=beq_eq_false_iff_ne.2 (by rw [← hy];exact ui.pk_ne s 35 (by decide) hs)
 obtain ⟨_,tw,twn⟩:=u1l.txt (Lib.trimS s [32,9])
 obtain ⟨e1,e2⟩:=tw (fun e => ha ((uh.trim_nil s).mp e))
 clear hn hzc hoo hs ha tw twn hy hcan
 cases hr:Tx.sampleP can s now with
 | none =>
   have HR:=Aside0.mk hr
   have HE:Aside0 (o = (none,Tx.me0,280)):=⟨by rw [HV.out,hr]⟩
   clear hr HV
   go_enter_defers Tryz.func18,Tryz.ntmps18
   go_wp2_with (first
    | (go_at_call 46;(with_reducible refine (HZ.out _).mono ?_);rintro e W1 ⟨rfl,rfl⟩)
    | (go_at_call 47;(with_reducible refine (uv.peek_at (uh.mk2 W) _ (W.heap.size + 1 + 1) s y HPK.out (by exact uh.st_start W s)).mono ?_);rintro e W2 ⟨rfl,⟨nd,rfl⟩⟩)
    | (go_at_call 49;(with_reducible refine (uh.trim_at s (by omega) _).mono ?_);rintro e W3 ⟨rfl,hb3⟩;have HS3:=Aside0.mk (((uh.st_start W s).drew nd).more hb3);clear hb3)
    | (go_at_call 50;(with_reducible refine (uh.sa_no can HCN.out (uh.mk2 W) _ (W.heap.size + 1 + 1) s now hl HR.out (by exact HS3.out)).mono ?_);rintro e W4 ⟨rfl,hb4⟩;have HPF:=Aside0.mk (uh.pre_of hb4);clear hb4))
   refine leaves_cons (f:=44) (args:=#[.pointer (some ⟨W.heap.size,0,none⟩),.pointer (some ⟨W.heap.size + 1,0,none⟩)]) (by simp) (by simp [go_sem]) ?_
   refine (uh.catch_fault W.heap.size (W.heap.size + 1) (by omega) _ _ _ _ _ _ _ _ 280 [] _ HPF.out.said HPF.out.code).mono ?_
   rintro e u' w'' ⟨rfl,rfl,hC⟩
   have HBF:=Aside0.mk (uh.after_fault HPF.out hC)
   obtain ⟨⟨a0,a1,a2,a3,a4,a5,a6⟩,fa⟩:=uh.look7 hC.said
   obtain ⟨d0,fd⟩:=uh.look1 hC.code
   clear hC
   simp [Leaves,settle,results,Tryz.results18,go_sem,a0,a1,a2,a3,a4,a5,a6,d0]
   exact uh.out_fault HE.out HBF.out
 | some r =>
   have HR:=Aside0.mk hr
   have HE:Aside0 (o = (some r,Tx.me0,0)):=⟨by rw [HV.out,hr]⟩
   clear hr HV
   go_enter_defers Tryz.func18,Tryz.ntmps18
   go_wp2_with (first
    | (go_at_call 46;(with_reducible refine (HZ.out _).mono ?_);rintro e W1 ⟨rfl,rfl⟩)
    | (go_at_call 47;(with_reducible refine (uv.peek_at (uh.mk2 W) _ (W.heap.size + 1 + 1) s y HPK.out (by exact uh.st_start W s)).mono ?_);rintro e W2 ⟨rfl,⟨nd,rfl⟩⟩)
    | (go_at_call 49;(with_reducible refine (uh.trim_at s (by omega) _).mono ?_);rintro e W3 ⟨rfl,hb3⟩;have HS3:=Aside0.mk (((uh.st_start W s).drew nd).more hb3);clear hb3)
    | (go_at_call 50;(with_reducible refine (uh.sa_ok can HCN.out (uh.mk2 W) _ (W.heap.size + 1 + 1) s now hl r HR.out (by exact HS3.out)).mono ?_);rintro e W4 ⟨v,rfl,hr4,hb4⟩;have HR4:=Aside0.mk hr4;have HPF:=Aside0.mk (uh.pre_of hb4);obtain ⟨A,c,ev⟩:=Kd.R_slice hr4;subst ev;obtain ⟨⟨a0,a1,a2,a3,a4,a5,a6⟩,fa⟩:=uh.look7 HPF.out.said;obtain ⟨d0,fd⟩:=uh.look1 HPF.out.code;clear hb4 hr4))
   have hV1:=blk_set (blk_set (blk_set (blk_set HPF.out.said 0 (.slice A r.f0.length c)) 1 (.int .i64 r.f1)) 2 (.int .u64 r.f2)) 3 (.bool true)
   simp only [List.setIfInBounds_toArray,List.set_cons_zero,List.set_cons_succ] at hV1
   have hVF:∀ k,k ≠ W.heap.size → ((((W4.setCell ⟨W.heap.size,0,none⟩ (.slice A r.f0.length c)).setCell ⟨W.heap.size,1,none⟩ (.int .i64 r.f1)).setCell ⟨W.heap.size,2,none⟩ (.int .u64 r.f2)).setCell ⟨W.heap.size,3,none⟩ (.bool true)).heap[k]? = W4.heap[k]? := fun k hk => by
    rw [Below.heap_setCell _ ⟨W.heap.size,3,none⟩ _ k hk,Below.heap_setCell _ ⟨W.heap.size,2,none⟩ _ k hk,Below.heap_setCell _ ⟨W.heap.size,1,none⟩ _ k hk,Below.heap_setCell _ ⟨W.heap.size,0,none⟩ _ k hk]
   have hV2:=(hVF (W.heap.size + 1) (by omega)).trans HPF.out.code
   have hV3:=(((HPF.out.below.setCell (p:=⟨W.heap.size,0,none⟩) (Nat.le_refl _) (.slice A r.f0.length c)).setCell (p:=⟨W.heap.size,1,none⟩) (Nat.le_refl _) (.int .i64 r.f1)).setCell (p:=⟨W.heap.size,2,none⟩) (Nat.le_refl _) (.int .u64 r.f2)).setCell (p:=⟨W.heap.size,3,none⟩) (Nat.le_refl _) (.bool true)
   clear a0 a1 a2 a3 a4 a5 a6 fa d0 fd
   have HF:=uh.fin7 (V:=((((W4.setCell ⟨W.heap.size,0,none⟩ (.slice A r.f0.length c)).setCell ⟨W.heap.size,1,none⟩ (.int .i64 r.f1)).setCell ⟨W.heap.size,2,none⟩ (.int .u64 r.f2)).setCell ⟨W.heap.size,3,none⟩ (.bool true))) hV1 hV2 hV3 (.slice A r.f0.length c) (.int .i64 r.f1) (.int .u64 r.f2) (.bool true) (.string ⟨#[]⟩) (.string ⟨#[]⟩) (.string ⟨#[]⟩)
   generalize ((((((((((((W4.setCell ⟨W.heap.size,0,none⟩ (.slice A r.f0.length c)).setCell ⟨W.heap.size,1,none⟩ (.int .i64 r.f1)).setCell ⟨W.heap.size,2,none⟩ (.int .u64 r.f2)).setCell ⟨W.heap.size,3,none⟩ (.bool true)).setCell ⟨W.heap.size,0,none⟩ (.slice A r.f0.length c)).setCell ⟨W.heap.size,1,none⟩ (.int .i64 r.f1)).setCell ⟨W.heap.size,2,none⟩ (.int .u64 r.f2)).setCell ⟨W.heap.size,3,none⟩ (.bool true)).setCell ⟨W.heap.size,4,none⟩ (.string ⟨#[]⟩)).setCell ⟨W.heap.size,5,none⟩ (.string ⟨#[]⟩)).setCell ⟨W.heap.size,6,none⟩ (.string ⟨#[]⟩)).setCell ⟨W.heap.size + 1,0,none⟩ (.int .i64 0)) = Wz at HF ⊢
   have hs9:=ua.new_old HF.said (.cells #[.int .i64 0] 83)
   have hc9:=ua.new_old HF.code (.cells #[.int .i64 0] 83)
   have HBF:=Aside0.mk (u1c HF.below (ud (Below.refl Wz.heap.size Wz) (.cells #[.int .i64 0] 83)))
   have HRF:=Aside0.mk (Kd.R_alloc (Kd.R_lower (Kd.R_mono (Kd.R_step (Kd.R_bound HR4.out) (fun k hk _ => (HF.far k (by have h8:=hk.2.1;rw [uh.mk2_size] at h8;omega) (by have h8:=hk.2.1;rw [uh.mk2_size] at h8;omega)).trans (hVF k (by have h8:=hk.2.1;rw [uh.mk2_size] at h8;omega)))) (fun _ _ => trivial)) (show W.heap.size ≤ (uh.mk2 W).heap.size by rw [uh.mk2_size];omega)) (.cells #[.int .i64 0] 83))
   clear HF
   obtain ⟨⟨p0,p1,p2,p3,p4,p5,p6⟩,fp⟩:=uh.look7 hs9
   obtain ⟨q0,fq⟩:=uh.look1 hc9
   clear hs9 hc9
   refine leaves_cons (f:=44) (args:=#[.pointer (some ⟨W.heap.size,0,none⟩),.pointer (some ⟨W.heap.size + 1,0,none⟩)]) (by simp) (by simp [go_sem]) ?_
   refine (uh.catch_idle _ _ _).mono ?_
   rintro e u' w'' ⟨rfl,rfl,rfl⟩
   simp [Leaves,settle,results,Tryz.results18,go_sem,p0,p1,p2,p3,p4,p5,p6,q0]
   exact uh.out_row HE.out HRF.out HBF.out
theorem uh.calls (can:List Tx.Lb → Bool) (hcan:∀ l:List Tx.Lb,l.length ≤ 10 → ∃ k,u1s.f k l = some (can l)) (W:World) (s:List UInt8) (now:Int) (hm:s.length ≤ 4611686018427387904) :
 Calls Tryz.prog 18 #[.string (Base.ofL s),.int .i64 now] W fun e W' => uh.Out W (Tx.readP can s now) e W':=by
 by_cases hl:s.length > 1000
 · exact uh.too_long can W s now hm hl
 · have hl2:s.length ≤ 1000:=by omega
   cases hn:s.contains 10 with
   | true => exact uh.lines can W s now hl2 hn
   | false =>
     by_cases hs:∃ r,s = 35 :: r
     · obtain ⟨r,hr⟩:=hs
       exact uh.remark can W s now hl2 hn r hr
     · have hs2:∀ r,s ≠ 35 :: r:=fun r e => hs ⟨r,e⟩
       by_cases ha:s.all Tx.blankC = true
       · exact uh.blank can W s now hl2 hn hs2 ha
       · exact uh.row can hcan W s now hl2 hn hs2 ha
def u2k.lab (o:Option Tx.Rw × Tx.Me × Int):List Tx.Lb:=match o.1 with | none => [] | some r => r.f0
def u2k.tim (o:Option Tx.Rw × Tx.Me × Int):Int:=match o.1 with | none => 0 | some r => r.f1
def u2k.val (o:Option Tx.Rw × Tx.Me × Int):Int:=match o.1 with | none => 0 | some r => r.f2
def u2k.Out (W:World) (o:Option Tx.Rw × Tx.Me × Int) (e:Ending) (W':World):Prop:=∃ v:Value,e = .returned (.tuple #[.agg #[v,.int .i64 (u2k.tim o),.int .u64 (u2k.val o)],.bool o.1.isSome,.agg #[.int .i64 o.2.2,.int .i64 0]]) ∧ Kd.R k66 66 W' W.heap.size (fun _ => True) v (u2k.lab o) ∧ Below W.heap.size W W'
def u2k.f (a0:ByteArray) (a1:Int):Option (List Tx.Lb × Int × Int × Bool × Int × Int):=if a0.size ≤ 4611686018427387904 then some (u2k.lab (Tx.readP Laws.canB a0.data.toList a1),u2k.tim (Tx.readP Laws.canB a0.data.toList a1),u2k.val (Tx.readP Laws.canB a0.data.toList a1),(Tx.readP Laws.canB a0.data.toList a1).1.isSome,(Tx.readP Laws.canB a0.data.toList a1).2.2,0) else none
theorem u2k.read_at (can:List Tx.Lb → Bool) (hcan:∀ l:List Tx.Lb,l.length ≤ 10 → ∃ k,u1s.f k l = some (can l)) (W:World) (s:List UInt8) (now:Int) (hm:s.length ≤ 4611686018427387904) (L:List Tx.Lb) (T N C:Int) (B:Bool) (a b c:ByteArray) (hL:u2k.lab (Tx.readP can s now) = L) (hT:u2k.tim (Tx.readP can s now) = T) (hN:u2k.val (Tx.readP can s now) = N) (hB:(Tx.readP can s now).1.isSome = B) (hM:(Tx.readP can s now).2.1 = (a,b,c)) (hC:(Tx.readP can s now).2.2 = C) :
 Calls Tryz.prog 18 #[.string (Base.ofL s),.int .i64 now] W fun e W' => ∃ v:Value,e = .returned (.tuple #[.agg #[v,.int .i64 T,.int .u64 N,.bool B,.string a,.string b,.string c],.int .i64 C]) ∧ Kd.R k66 66 W' W.heap.size (fun _ => True) v L ∧ Below W.heap.size W W':=by
 refine (uh.calls can hcan W s now hm).mono fun e W' h => ?_
 obtain ⟨v,he,h1,h2⟩:=h
 subst hL hT hN hB hC
 have ha:(Tx.readP can s now).2.1.1 = a:=by rw [hM]
 have hb:(Tx.readP can s now).2.1.2.1 = b:=by rw [hM]
 have hc:(Tx.readP can s now).2.1.2.2 = c:=by rw [hM]
 rw [ha,hb,hc] at he
 exact ⟨v,he,h1,h2⟩
set_option maxRecDepth 100000 in
set_option maxHeartbeats 4000000 in
theorem u2k.walk (can:List Tx.Lb → Bool) (hcan:∀ l:List Tx.Lb,l.length ≤ 10 → ∃ k,u1s.f k l = some (can l)) (W:World) (s:List UInt8) (now:Int) (hm:s.length ≤ 4611686018427387904) :
 Calls Tryz.prog 27 #[.string (Base.ofL s),.int .i64 now] W fun e W' => u2k.Out W (Tx.readP can s now) e W':=by
 unfold u2k.Out
 obtain ⟨L,hL⟩:∃ L,u2k.lab (Tx.readP can s now) = L:=⟨_,rfl⟩
 obtain ⟨T,hT⟩:∃ T,u2k.tim (Tx.readP can s now) = T:=⟨_,rfl⟩
 obtain ⟨N,hN⟩:∃ N,u2k.val (Tx.readP can s now) = N:=⟨_,rfl⟩
 obtain ⟨B,hB⟩:∃ B,(Tx.readP can s now).1.isSome = B:=⟨_,rfl⟩
 obtain ⟨C,hC⟩:∃ C,(Tx.readP can s now).2.2 = C:=⟨_,rfl⟩
 obtain ⟨a,b,c,hM⟩:∃ a b c,(Tx.readP can s now).2.1 = (a,b,c):=⟨_,_,_,rfl⟩
 rw [hL,hT,hN,hB,hC]
 have HRD:=Aside0.mk (fun W => u2k.read_at can hcan W s now hm L T N C B a b c hL hT hN hB hM hC)
 clear hL hT hN hB hC hM hcan
 have hx1:=ua.new_old (ua.new_at W (.cells #[.slice none 0 0,.int .i64 0,.int .u64 0] 53)) (.cells #[.int .i64 0,.int .i64 0] 28)
 have hx2:=ua.new_at (W.alloc (.cells #[.slice none 0 0,.int .i64 0,.int .u64 0] 53)) (.cells #[.int .i64 0,.int .i64 0] 28)
 rw [World.size_alloc] at hx2
 have HX1:=Aside0.mk hx1
 have HX2:=Aside0.mk hx2
 clear hx1 hx2
 go_enter Tryz.func27,Tryz.ntmps27
 go_wp2_with (go_at_call 18;(with_reducible refine (HRD.out _).mono ?_);rintro e W3 ⟨v,rfl,hr3,hb3⟩;have HR3:=Aside0.mk hr3;have HB3:=Aside0.mk (u1c (ud (ud (Below.refl W.heap.size W) _) _) hb3);have X1:=Aside0.mk (ua.below_at hb3 HX1.out);have X2:=Aside0.mk (ua.below_at hb3 HX2.out);obtain ⟨A,cc,ev⟩:=Kd.R_slice hr3;subst ev;clear hr3 hb3)
 have y7:=ua.new_at W3 (.cells #[.slice A L.length cc,.int .i64 T,.int .u64 N,.bool B,.string a,.string b,.string c] 55)
 have y1:=ua.new_old X1.out (.cells #[.slice A L.length cc,.int .i64 T,.int .u64 N,.bool B,.string a,.string b,.string c] 55)
 have y2:=ua.new_old X2.out (.cells #[.slice A L.length cc,.int .i64 T,.int .u64 N,.bool B,.string a,.string b,.string c] 55)
 have HRA:=Aside0.mk (Kd.R_alloc HR3.out (.cells #[.slice A L.length cc,.int .i64 T,.int .u64 N,.bool B,.string a,.string b,.string c] 55))
 have HBA:=Aside0.mk (ud HB3.out (.cells #[.slice A L.length cc,.int .i64 T,.int .u64 N,.bool B,.string a,.string b,.string c] 55))
 have l1:=u2u X1.out
 have l2:=u2u X2.out
 have m1:¬ W3.heap.size = W.heap.size:=by omega
 have m2:¬ W3.heap.size = W.heap.size + 1:=by omega
 have m3:¬ W.heap.size = W3.heap.size:=by omega
 have m4:¬ W.heap.size + 1 = W3.heap.size:=by omega
 have m5:¬ W.heap.size + 1 = W.heap.size:=by omega
 have m6:¬ W.heap.size = W.heap.size + 1:=by omega
 have Y1:=Aside0.mk y1
 have Y2:=Aside0.mk y2
 obtain ⟨⟨a0,a1,a2,a3,a4,a5,a6⟩,fa⟩:=uh.look7 y7
 obtain ⟨⟨b0,b1,b2⟩,b3,b4,b5⟩:=uc.look3 y1
 obtain ⟨c0,c1,c2,c3⟩:=ua.look2 y2
 clear y7 y1 y2 l1 l2 HR3 HB3 X1 X2 HX1 HX2
 generalize W3.alloc (.cells #[.slice A L.length cc,.int .i64 T,.int .u64 N,.bool B,.string a,.string b,.string c] 55) = W4 at *
 generalize W3.heap.size = zz at *
 have mixed:Tryz.prog.follows .mixedOrders = true:=by kernel_rfl
 go_big_region_o
 all_goals go_wp2
 refine bodyPost_ret (v:=.tuple #[.agg #[.slice A L.length cc,.int .i64 T,.int .u64 N],.bool B,.agg #[.int .i64 C,.int .i64 0]]) (by simp [results,Tryz.results27,go_sem,b0,b1,b2,c0,c1,m5,m6]) rfl ⟨.slice A L.length cc,rfl,?_,?_⟩
 · refine Kd.R_drew (Kd.R_lower (Kd.R_mono (Kd.R_step (Kd.R_bound HRA.out) (fun k hk _ => ?_)) (fun _ _ => trivial)) (by rw [World.size_alloc,World.size_alloc];omega))
   have h8:=hk.2.1
   rw [World.size_alloc,World.size_alloc] at h8
   rw [Below.heap_setCell _ ⟨W.heap.size + 1,1,none⟩ _ k (show k ≠ W.heap.size + 1 by omega),Below.heap_setCell _ ⟨W.heap.size + 1,0,none⟩ _ k (show k ≠ W.heap.size + 1 by omega),Below.heap_setCell _ ⟨W.heap.size,2,none⟩ _ k (show k ≠ W.heap.size by omega),Below.heap_setCell _ ⟨W.heap.size,1,none⟩ _ k (show k ≠ W.heap.size by omega),Below.heap_setCell _ ⟨W.heap.size,0,none⟩ _ k (show k ≠ W.heap.size by omega)]
 · have h1:=HBA.out.setCell (p:=⟨W.heap.size,0,none⟩) (Nat.le_refl _) (.slice A L.length cc)
   have h2:=h1.setCell (p:=⟨W.heap.size,1,none⟩) (Nat.le_refl _) (.int .i64 T)
   have h3:=h2.setCell (p:=⟨W.heap.size,2,none⟩) (Nat.le_refl _) (.int .u64 N)
   have h4:=h3.setCell (p:=⟨W.heap.size + 1,0,none⟩) (by show W.heap.size ≤ W.heap.size + 1;omega) (.int .i64 C)
   exact uf (h4.setCell (p:=⟨W.heap.size + 1,1,none⟩) (by show W.heap.size ≤ W.heap.size + 1;omega) (.int .i64 0))
theorem u2k.calls (a0:ByteArray) (a1:Int) (r1:List Tx.Lb) (r2 r3:Int) (r4:Bool) (r5 r6:Int) (w:World) (h:u2k.f a0 a1 = some (r1,r2,r3,r4,r5,r6)) :
 Calls Tryz.prog 27 #[.string a0,.int .i64 a1] w fun e w' => ∃ v:Value,e = .returned (.tuple #[.agg #[v,.int .i64 r2,.int .u64 r3],.bool r4,.agg #[.int .i64 r5,.int .i64 r6]]) ∧ Kd.R k66 66 w' w.heap.size (fun _ => True) v r1 ∧ Below w.heap.size w w':=by
 unfold u2k.f at h
 split at h
 · rename_i hm
   cases Option.some.inj h
   have e:a0 = Base.ofL a0.data.toList:=Base.ext_data (Base.ofL_data _).symm
   have hl:a0.data.toList.length ≤ 4611686018427387904:=by rw [← Base.size_list];exact hm
   have h1:=u2k.walk Laws.canB (fun l _ => (Laws.can_ev l).rounds) w a0.data.toList a1 hl
   rw [← e] at h1
   exact h1
 · cases h
def u2z.f  : Option (Bool):=(u2k.f (⟨#[117,112,123,106,111,98,61,34,120,34,125,32,48,120,49,102,32,55]⟩:ByteArray) 0).bind fun bt255 => (if bt255.2.2.2.1 = true then (if bt255.2.2.2.2.1 = 0 then (if bt255.2.2.1 = 31 then (if bt255.2.1 = 7 then (some ((bt255.1.length:Int) == 2)) else (some false)) else (some false)) else (some false)) else (some false))
set_option maxHeartbeats 8000000 in
set_option maxRecDepth 100000 in
theorem u2z.calls  (r:Bool) (w:World) (h:u2z.f  = some r) :
 Calls Tryz.prog 12 #[] w fun e w' => e = .returned (.bool r) ∧ Below w.heap.size w w':=by
 have hu53:=Tryz.underlying53
 have hu28:=Tryz.underlying28
 have HB:=Aside0.mk (Below.refl w.heap.size w)
 have H:((u2k.f (⟨#[117,112,123,106,111,98,61,34,120,34,125,32,48,120,49,102,32,55]⟩:ByteArray) 0).bind fun bt255 => (if bt255.2.2.2.1 = true then (if bt255.2.2.2.2.1 = 0 then (if bt255.2.2.1 = 31 then (if bt255.2.1 = 7 then (some ((bt255.1.length:Int) == 2)) else (some false)) else (some false)) else (some false)) else (some false))) = some r:=h
 clear h
 replace H:=Option.bind_eq_some_iff.mp H
 obtain ⟨⟨t255,t258,t259,t260,t261,t262⟩,A10,H⟩:=H
 replace H:(if t260 = true then (if t261 = 0 then (if t259 = 31 then (if t258 = 7 then (some ((t255.length:Int) == 2)) else (some false)) else (some false)) else (some false)) else (some false)) = some r:=H
 have A1:=Aside0.mk A10
 clear A10
 by_cases c2:t260 = true
 · subst c2
   have H1:(if t261 = 0 then (if t259 = 31 then (if t258 = 7 then (some ((t255.length:Int) == 2)) else (some false)) else (some false)) else (some false)) = some r:=by rw [if_pos rfl] at H;exact H
   clear H
   have H:=H1
   clear H1
   by_cases c3:t261 = 0
   · rw [if_pos c3] at H
     have c3b0:(t261 == 0) = true:=beq_iff_eq.mpr c3
     have c3b1:(t261 != 0) = false:=bne_eq_false_iff_eq.mpr c3
     clear c3
     by_cases c4:t259 = 31
     · rw [if_pos c4] at H
       have c4b0:(t259 == 31) = true:=beq_iff_eq.mpr c4
       have c4b1:(t259 != 31) = false:=bne_eq_false_iff_eq.mpr c4
       clear c4
       by_cases c5:t258 = 7
       · rw [if_pos c5] at H
         have c5b0:(t258 == 7) = true:=beq_iff_eq.mpr c5
         have c5b1:(t258 != 7) = false:=bne_eq_false_iff_eq.mpr c5
         clear c5
         obtain rfl:=Option.some.inj H
         go_enter Tryz.func12,Tryz.ntmps12
         go_wp2_with (first | ((with_reducible refine u2w (f:=27) rfl ?_);refine goesL_ (some 5) rfl rfl Tryz.func27 (by kernel_rfl) rfl #[.string (⟨#[117,112,123,106,111,98,61,34,120,34,125,32,48,120,49,102,32,55]⟩:ByteArray),.int .i64 0] rfl (by (try simp only [List.map_toArray,List.map_cons,List.map_nil]);first | done | rfl | (simp only [List.length_drop,List.length_take];rfl)) ?_;(with_reducible refine (u2k.calls (⟨#[117,112,123,106,111,98,61,34,120,34,125,32,48,120,49,102,32,55]⟩:ByteArray) 0 t255 t258 t259 true t261 t262 _ A1.out).mono ?_);rintro e w6 ⟨v256,rfl,ho0,hb⟩;refine ⟨_,rfl,?_⟩;have n0_:=Aside0.mk (Kd.R_lower ho0 (uz (by repeat (first | (with_reducible first | exact HB.out | apply ud | apply ub | apply uf) | exact HB.out))));have n1_:=Aside0.mk (u1c (by repeat (first | (with_reducible first | exact HB.out | apply ud | apply ub | apply uf) | exact HB.out)) hb);clear HB;have HO257:=n0_;have HB:=n1_;clear n0_ n1_;(try clear hb);(try clear hb2);(try clear hk);(try clear hi);(try clear ho0)) | ((with_reducible refine u2o (N:=1) rfl ?_);(try (refine u3g (by rfl) ?_;dsimp only));refine u2n ?hg (N:=1) ?hd (cs:=#[.slice none 0 0,.int .i64 0,.int .u64 0]) (t:=53) ?hr ?_;(case hd => rfl);(case hg => rfl);(case hr => first | (go_simp;done) | (go_simp;rfl));intro gb263 hg w7 hbox hb;have n0_:=Aside0.mk (Kd.R_below (by (with_reducible repeat (first | apply Kd.R_alloc | apply Kd.R_drewN | apply Kd.R_drew));exact HO257.out) hb);have n1_:=Aside0.mk (u1c (by repeat (first | (with_reducible first | exact HB.out | apply ud | apply ub | apply uf) | exact HB.out)) hb);have n2_:=Aside0.mk (hbox);have n3_:=Aside0.mk ((by rw [hg];exact (uz (by repeat (first | (with_reducible first | exact HB.out | apply ud | apply ub | apply uf) | exact HB.out))):w.heap.size ≤ gb263));have n4_:=Aside0.mk ((by rw [hg];exact (uz (by repeat (first | (with_reducible first | exact HB.out | apply ud | apply ub | apply uf) | exact HB.out))):w.heap.size ≤ gb263));clear HO257;clear HB;have HO257:=n0_;have HB:=n1_;have BK263:=n2_;have GW263:=n3_;have GE263:=n4_;clear n0_ n1_ n2_ n3_ n4_;clear hb hbox hg) | ((with_reducible refine u2o (N:=3) rfl ?_);(try (refine u3g (by rfl) ?_;dsimp only));refine u2n ?hg (N:=3) ?hd (cs:=#[.int .i64 0,.int .i64 0]) (t:=28) ?hr ?_;(case hd => rfl);(case hg => rfl);(case hr => first | (go_simp;done) | (go_simp;rfl));intro gb264 hg w8 hbox hb;have n0_:=Aside0.mk (Kd.R_below (by (with_reducible repeat (first | apply Kd.R_alloc | apply Kd.R_drewN | apply Kd.R_drew));exact HO257.out) hb);have n1_:=Aside0.mk (u1z (g:=gb263) (o:=.cells #[.slice none 0 0,.int .i64 0,.int .u64 0] 53 (0,0)) (by (with_reducible repeat (first | refine us ?_ _ | refine uw ?_ | refine uq ?_ _));exact BK263.out) hb);have n2_:=Aside0.mk (u1c (by repeat (first | (with_reducible first | exact HB.out | apply ud | apply ub | apply uf | refine ux ?_ GE263.out) | exact HB.out)) hb);have n3_:=Aside0.mk (hbox);have n4_:=Aside0.mk ((by rw [hg];exact (uz (by repeat (first | (with_reducible first | exact HB.out | apply ud | apply ub | apply uf | refine ux ?_ GE263.out) | exact HB.out))):w.heap.size ≤ gb264));have n5_:=Aside0.mk ((by rw [hg];exact (uz (by repeat (first | (with_reducible first | exact HB.out | apply ud | apply ub | apply uf | refine ux ?_ GE263.out) | exact HB.out))):w.heap.size ≤ gb264));have n6_:=Aside0.mk ((by rw [hg];exact Nat.ne_of_lt (u2u (g:=gb263) (o:=.cells #[.slice none 0 0,.int .i64 0,.int .u64 0] 53 (0,0)) (by (with_reducible repeat (first | refine us ?_ _ | refine uw ?_ | refine uq ?_ _));exact BK263.out)):gb263 ≠ gb264));have n7_:=Aside0.mk ((by rw [hg];exact Nat.ne_of_gt (u2u (g:=gb263) (o:=.cells #[.slice none 0 0,.int .i64 0,.int .u64 0] 53 (0,0)) (by (with_reducible repeat (first | refine us ?_ _ | refine uw ?_ | refine uq ?_ _));exact BK263.out)):gb264 ≠ gb263));clear HO257;clear BK263;clear HB;have HO257:=n0_;have BK263:=n1_;have HB:=n2_;have BK264:=n3_;have GW264:=n4_;have GE264:=n5_;have NB263_264:=n6_;have NB264_263:=n7_;clear n0_ n1_ n2_ n3_ n4_ n5_ n6_ n7_;clear hb hbox hg;obtain ⟨Ao9,co9,eo9⟩:=Kd.R_slice HO257.out;subst eo9;have hnb10:=NB263_264.out;have hnc10:=NB264_263.out;have hcz11_0:w8.cell? ⟨gb263,0,none⟩ = some (.slice none 0 0):=(um BK263.out 0).trans rfl;have hcz11_1:w8.cell? ⟨gb263,1,none⟩ = some (.int .i64 0):=(um BK263.out 1).trans rfl;have hcz11_2:w8.cell? ⟨gb263,2,none⟩ = some (.int .u64 0):=(um BK263.out 2).trans rfl;have hfz11_0:=uk BK263.out 0;have hfz11_1:=uk BK263.out 1;have hfz11_2:=uk BK263.out 2;have hcz12_0:w8.cell? ⟨gb264,0,none⟩ = some (.int .i64 0):=(um BK264.out 0).trans rfl;have hcz12_1:w8.cell? ⟨gb264,1,none⟩ = some (.int .i64 0):=(um BK264.out 1).trans rfl;have hfz12_0:=uk BK264.out 0;have hfz12_1:=uk BK264.out 1))
         go_ret
         exact ⟨by first | rfl | (simp [u1x,u1y] <;> rfl) | (simp [*,u1x,u1y] <;> rfl),by repeat (first | (with_reducible first | exact HB.out | apply ud | apply ub | apply uf | refine ux ?_ GE263.out | refine ux ?_ GE264.out) | exact HB.out)⟩
       · rw [if_neg c5] at H
         have c5b0:(t258 == 7) = false:=beq_eq_false_iff_ne.mpr c5
         have c5b1:(t258 != 7) = true:=bne_iff_ne.mpr c5
         obtain rfl:=Option.some.inj H
         go_enter Tryz.func12,Tryz.ntmps12
         go_wp2_with (first | ((with_reducible refine u2w (f:=27) rfl ?_);refine goesL_ (some 5) rfl rfl Tryz.func27 (by kernel_rfl) rfl #[.string (⟨#[117,112,123,106,111,98,61,34,120,34,125,32,48,120,49,102,32,55]⟩:ByteArray),.int .i64 0] rfl (by (try simp only [List.map_toArray,List.map_cons,List.map_nil]);first | done | rfl | (simp only [List.length_drop,List.length_take];rfl)) ?_;(with_reducible refine (u2k.calls (⟨#[117,112,123,106,111,98,61,34,120,34,125,32,48,120,49,102,32,55]⟩:ByteArray) 0 t255 t258 t259 true t261 t262 _ A1.out).mono ?_);rintro e w13 ⟨v256,rfl,ho0,hb⟩;refine ⟨_,rfl,?_⟩;have n0_:=Aside0.mk (Kd.R_lower ho0 (uz (by repeat (first | (with_reducible first | exact HB.out | apply ud | apply ub | apply uf) | exact HB.out))));have n1_:=Aside0.mk (u1c (by repeat (first | (with_reducible first | exact HB.out | apply ud | apply ub | apply uf) | exact HB.out)) hb);clear HB;have HO257:=n0_;have HB:=n1_;clear n0_ n1_;(try clear hb);(try clear hb2);(try clear hk);(try clear hi);(try clear ho0)) | ((with_reducible refine u2o (N:=1) rfl ?_);(try (refine u3g (by rfl) ?_;dsimp only));refine u2n ?hg (N:=1) ?hd (cs:=#[.slice none 0 0,.int .i64 0,.int .u64 0]) (t:=53) ?hr ?_;(case hd => rfl);(case hg => rfl);(case hr => first | (go_simp;done) | (go_simp;rfl));intro gb263 hg w14 hbox hb;have n0_:=Aside0.mk (Kd.R_below (by (with_reducible repeat (first | apply Kd.R_alloc | apply Kd.R_drewN | apply Kd.R_drew));exact HO257.out) hb);have n1_:=Aside0.mk (u1c (by repeat (first | (with_reducible first | exact HB.out | apply ud | apply ub | apply uf) | exact HB.out)) hb);have n2_:=Aside0.mk (hbox);have n3_:=Aside0.mk ((by rw [hg];exact (uz (by repeat (first | (with_reducible first | exact HB.out | apply ud | apply ub | apply uf) | exact HB.out))):w.heap.size ≤ gb263));have n4_:=Aside0.mk ((by rw [hg];exact (uz (by repeat (first | (with_reducible first | exact HB.out | apply ud | apply ub | apply uf) | exact HB.out))):w.heap.size ≤ gb263));clear HO257;clear HB;have HO257:=n0_;have HB:=n1_;have BK263:=n2_;have GW263:=n3_;have GE263:=n4_;clear n0_ n1_ n2_ n3_ n4_;clear hb hbox hg) | ((with_reducible refine u2o (N:=3) rfl ?_);(try (refine u3g (by rfl) ?_;dsimp only));refine u2n ?hg (N:=3) ?hd (cs:=#[.int .i64 0,.int .i64 0]) (t:=28) ?hr ?_;(case hd => rfl);(case hg => rfl);(case hr => first | (go_simp;done) | (go_simp;rfl));intro gb264 hg w15 hbox hb;have n0_:=Aside0.mk (Kd.R_below (by (with_reducible repeat (first | apply Kd.R_alloc | apply Kd.R_drewN | apply Kd.R_drew));exact HO257.out) hb);have n1_:=Aside0.mk (u1z (g:=gb263) (o:=.cells #[.slice none 0 0,.int .i64 0,.int .u64 0] 53 (0,0)) (by (with_reducible repeat (first | refine us ?_ _ | refine uw ?_ | refine uq ?_ _));exact BK263.out) hb);have n2_:=Aside0.mk (u1c (by repeat (first | (with_reducible first | exact HB.out | apply ud | apply ub | apply uf | refine ux ?_ GE263.out) | exact HB.out)) hb);have n3_:=Aside0.mk (hbox);have n4_:=Aside0.mk ((by rw [hg];exact (uz (by repeat (first | (with_reducible first | exact HB.out | apply ud | apply ub | apply uf | refine ux ?_ GE263.out) | exact HB.out))):w.heap.size ≤ gb264));have n5_:=Aside0.mk ((by rw [hg];exact (uz (by repeat (first | (with_reducible first | exact HB.out | apply ud | apply ub | apply uf | refine ux ?_ GE263.out) | exact HB.out))):w.heap.size ≤ gb264));have n6_:=Aside0.mk ((by rw [hg];exact Nat.ne_of_lt (u2u (g:=gb263) (o:=.cells #[.slice none 0 0,.int .i64 0,.int .u64 0] 53 (0,0)) (by (with_reducible repeat (first | refine us ?_ _ | refine uw ?_ | refine uq ?_ _));exact BK263.out)):gb263 ≠ gb264));have n7_:=Aside0.mk ((by rw [hg];exact Nat.ne_of_gt (u2u (g:=gb263) (o:=.cells #[.slice none 0 0,.int .i64 0,.int .u64 0] 53 (0,0)) (by (with_reducible repeat (first | refine us ?_ _ | refine uw ?_ | refine uq ?_ _));exact BK263.out)):gb264 ≠ gb263));clear HO257;clear BK263;clear HB;have HO257:=n0_;have BK263:=n1_;have HB:=n2_;have BK264:=n3_;have GW264:=n4_;have GE264:=n5_;have NB263_264:=n6_;have NB264_263:=n7_;clear n0_ n1_ n2_ n3_ n4_ n5_ n6_ n7_;clear hb hbox hg;obtain ⟨Ao16,co16,eo16⟩:=Kd.R_slice HO257.out;subst eo16;have hnb17:=NB263_264.out;have hnc17:=NB264_263.out;have hcz18_0:w15.cell? ⟨gb263,0,none⟩ = some (.slice none 0 0):=(um BK263.out 0).trans rfl;have hcz18_1:w15.cell? ⟨gb263,1,none⟩ = some (.int .i64 0):=(um BK263.out 1).trans rfl;have hcz18_2:w15.cell? ⟨gb263,2,none⟩ = some (.int .u64 0):=(um BK263.out 2).trans rfl;have hfz18_0:=uk BK263.out 0;have hfz18_1:=uk BK263.out 1;have hfz18_2:=uk BK263.out 2;have hcz19_0:w15.cell? ⟨gb264,0,none⟩ = some (.int .i64 0):=(um BK264.out 0).trans rfl;have hcz19_1:w15.cell? ⟨gb264,1,none⟩ = some (.int .i64 0):=(um BK264.out 1).trans rfl;have hfz19_0:=uk BK264.out 0;have hfz19_1:=uk BK264.out 1))
         go_ret
         exact ⟨by first | rfl | (simp [u1x,u1y] <;> rfl) | (simp [*,u1x,u1y] <;> rfl),by repeat (first | (with_reducible first | exact HB.out | apply ud | apply ub | apply uf | refine ux ?_ GE263.out | refine ux ?_ GE264.out) | exact HB.out)⟩
     · rw [if_neg c4] at H
       have c4b0:(t259 == 31) = false:=beq_eq_false_iff_ne.mpr c4
       have c4b1:(t259 != 31) = true:=bne_iff_ne.mpr c4
       obtain rfl:=Option.some.inj H
       go_enter Tryz.func12,Tryz.ntmps12
       go_wp2_with (first | ((with_reducible refine u2w (f:=27) rfl ?_);refine goesL_ (some 5) rfl rfl Tryz.func27 (by kernel_rfl) rfl #[.string (⟨#[117,112,123,106,111,98,61,34,120,34,125,32,48,120,49,102,32,55]⟩:ByteArray),.int .i64 0] rfl (by (try simp only [List.map_toArray,List.map_cons,List.map_nil]);first | done | rfl | (simp only [List.length_drop,List.length_take];rfl)) ?_;(with_reducible refine (u2k.calls (⟨#[117,112,123,106,111,98,61,34,120,34,125,32,48,120,49,102,32,55]⟩:ByteArray) 0 t255 t258 t259 true t261 t262 _ A1.out).mono ?_);rintro e w20 ⟨v256,rfl,ho0,hb⟩;refine ⟨_,rfl,?_⟩;have n0_:=Aside0.mk (Kd.R_lower ho0 (uz (by repeat (first | (with_reducible first | exact HB.out | apply ud | apply ub | apply uf) | exact HB.out))));have n1_:=Aside0.mk (u1c (by repeat (first | (with_reducible first | exact HB.out | apply ud | apply ub | apply uf) | exact HB.out)) hb);clear HB;have HO257:=n0_;have HB:=n1_;clear n0_ n1_;(try clear hb);(try clear hb2);(try clear hk);(try clear hi);(try clear ho0)) | ((with_reducible refine u2o (N:=1) rfl ?_);(try (refine u3g (by rfl) ?_;dsimp only));refine u2n ?hg (N:=1) ?hd (cs:=#[.slice none 0 0,.int .i64 0,.int .u64 0]) (t:=53) ?hr ?_;(case hd => rfl);(case hg => rfl);(case hr => first | (go_simp;done) | (go_simp;rfl));intro gb263 hg w21 hbox hb;have n0_:=Aside0.mk (Kd.R_below (by (with_reducible repeat (first | apply Kd.R_alloc | apply Kd.R_drewN | apply Kd.R_drew));exact HO257.out) hb);have n1_:=Aside0.mk (u1c (by repeat (first | (with_reducible first | exact HB.out | apply ud | apply ub | apply uf) | exact HB.out)) hb);have n2_:=Aside0.mk (hbox);have n3_:=Aside0.mk ((by rw [hg];exact (uz (by repeat (first | (with_reducible first | exact HB.out | apply ud | apply ub | apply uf) | exact HB.out))):w.heap.size ≤ gb263));have n4_:=Aside0.mk ((by rw [hg];exact (uz (by repeat (first | (with_reducible first | exact HB.out | apply ud | apply ub | apply uf) | exact HB.out))):w.heap.size ≤ gb263));clear HO257;clear HB;have HO257:=n0_;have HB:=n1_;have BK263:=n2_;have GW263:=n3_;have GE263:=n4_;clear n0_ n1_ n2_ n3_ n4_;clear hb hbox hg) | ((with_reducible refine u2o (N:=3) rfl ?_);(try (refine u3g (by rfl) ?_;dsimp only));refine u2n ?hg (N:=3) ?hd (cs:=#[.int .i64 0,.int .i64 0]) (t:=28) ?hr ?_;(case hd => rfl);(case hg => rfl);(case hr => first | (go_simp;done) | (go_simp;rfl));intro gb264 hg w22 hbox hb;have n0_:=Aside0.mk (Kd.R_below (by (with_reducible repeat (first | apply Kd.R_alloc | apply Kd.R_drewN | apply Kd.R_drew));exact HO257.out) hb);have n1_:=Aside0.mk (u1z (g:=gb263) (o:=.cells #[.slice none 0 0,.int .i64 0,.int .u64 0] 53 (0,0)) (by (with_reducible repeat (first | refine us ?_ _ | refine uw ?_ | refine uq ?_ _));exact BK263.out) hb);have n2_:=Aside0.mk (u1c (by repeat (first | (with_reducible first | exact HB.out | apply ud | apply ub | apply uf | refine ux ?_ GE263.out) | exact HB.out)) hb);have n3_:=Aside0.mk (hbox);have n4_:=Aside0.mk ((by rw [hg];exact (uz (by repeat (first | (with_reducible first | exact HB.out | apply ud | apply ub | apply uf | refine ux ?_ GE263.out) | exact HB.out))):w.heap.size ≤ gb264));have n5_:=Aside0.mk ((by rw [hg];exact (uz (by repeat (first | (with_reducible first | exact HB.out | apply ud | apply ub | apply uf | refine ux ?_ GE263.out) | exact HB.out))):w.heap.size ≤ gb264));have n6_:=Aside0.mk ((by rw [hg];exact Nat.ne_of_lt (u2u (g:=gb263) (o:=.cells #[.slice none 0 0,.int .i64 0,.int .u64 0] 53 (0,0)) (by (with_reducible repeat (first | refine us ?_ _ | refine uw ?_ | refine uq ?_ _));exact BK263.out)):gb263 ≠ gb264));have n7_:=Aside0.mk ((by rw [hg];exact Nat.ne_of_gt (u2u (g:=gb263) (o:=.cells #[.slice none 0 0,.int .i64 0,.int .u64 0] 53 (0,0)) (by (with_reducible repeat (first | refine us ?_ _ | refine uw ?_ | refine uq ?_ _));exact BK263.out)):gb264 ≠ gb263));clear HO257;clear BK263;clear HB;have HO257:=n0_;have BK263:=n1_;have HB:=n2_;have BK264:=n3_;have GW264:=n4_;have GE264:=n5_;have NB263_264:=n6_;have NB264_263:=n7_;clear n0_ n1_ n2_ n3_ n4_ n5_ n6_ n7_;clear hb hbox hg;obtain ⟨Ao23,co23,eo23⟩:=Kd.R_slice HO257.out;subst eo23;have hnb24:=NB263_264.out;have hnc24:=NB264_263.out;have hcz25_0:w22.cell? ⟨gb263,0,none⟩ = some (.slice none 0 0):=(um BK263.out 0).trans rfl;have hcz25_1:w22.cell? ⟨gb263,1,none⟩ = some (.int .i64 0):=(um BK263.out 1).trans rfl;have hcz25_2:w22.cell? ⟨gb263,2,none⟩ = some (.int .u64 0):=(um BK263.out 2).trans rfl;have hfz25_0:=uk BK263.out 0;have hfz25_1:=uk BK263.out 1;have hfz25_2:=uk BK263.out 2;have hcz26_0:w22.cell? ⟨gb264,0,none⟩ = some (.int .i64 0):=(um BK264.out 0).trans rfl;have hcz26_1:w22.cell? ⟨gb264,1,none⟩ = some (.int .i64 0):=(um BK264.out 1).trans rfl;have hfz26_0:=uk BK264.out 0;have hfz26_1:=uk BK264.out 1))
       go_ret
       exact ⟨by first | rfl | (simp [u1x,u1y] <;> rfl) | (simp [*,u1x,u1y] <;> rfl),by repeat (first | (with_reducible first | exact HB.out | apply ud | apply ub | apply uf | refine ux ?_ GE263.out | refine ux ?_ GE264.out) | exact HB.out)⟩
   · rw [if_neg c3] at H
     have c3b0:(t261 == 0) = false:=beq_eq_false_iff_ne.mpr c3
     have c3b1:(t261 != 0) = true:=bne_iff_ne.mpr c3
     obtain rfl:=Option.some.inj H
     go_enter Tryz.func12,Tryz.ntmps12
     go_wp2_with (first | ((with_reducible refine u2w (f:=27) rfl ?_);refine goesL_ (some 5) rfl rfl Tryz.func27 (by kernel_rfl) rfl #[.string (⟨#[117,112,123,106,111,98,61,34,120,34,125,32,48,120,49,102,32,55]⟩:ByteArray),.int .i64 0] rfl (by (try simp only [List.map_toArray,List.map_cons,List.map_nil]);first | done | rfl | (simp only [List.length_drop,List.length_take];rfl)) ?_;(with_reducible refine (u2k.calls (⟨#[117,112,123,106,111,98,61,34,120,34,125,32,48,120,49,102,32,55]⟩:ByteArray) 0 t255 t258 t259 true t261 t262 _ A1.out).mono ?_);rintro e w27 ⟨v256,rfl,ho0,hb⟩;refine ⟨_,rfl,?_⟩;have n0_:=Aside0.mk (Kd.R_lower ho0 (uz (by repeat (first | (with_reducible first | exact HB.out | apply ud | apply ub | apply uf) | exact HB.out))));have n1_:=Aside0.mk (u1c (by repeat (first | (with_reducible first | exact HB.out | apply ud | apply ub | apply uf) | exact HB.out)) hb);clear HB;have HO257:=n0_;have HB:=n1_;clear n0_ n1_;(try clear hb);(try clear hb2);(try clear hk);(try clear hi);(try clear ho0)) | ((with_reducible refine u2o (N:=1) rfl ?_);(try (refine u3g (by rfl) ?_;dsimp only));refine u2n ?hg (N:=1) ?hd (cs:=#[.slice none 0 0,.int .i64 0,.int .u64 0]) (t:=53) ?hr ?_;(case hd => rfl);(case hg => rfl);(case hr => first | (go_simp;done) | (go_simp;rfl));intro gb263 hg w28 hbox hb;have n0_:=Aside0.mk (Kd.R_below (by (with_reducible repeat (first | apply Kd.R_alloc | apply Kd.R_drewN | apply Kd.R_drew));exact HO257.out) hb);have n1_:=Aside0.mk (u1c (by repeat (first | (with_reducible first | exact HB.out | apply ud | apply ub | apply uf) | exact HB.out)) hb);have n2_:=Aside0.mk (hbox);have n3_:=Aside0.mk ((by rw [hg];exact (uz (by repeat (first | (with_reducible first | exact HB.out | apply ud | apply ub | apply uf) | exact HB.out))):w.heap.size ≤ gb263));have n4_:=Aside0.mk ((by rw [hg];exact (uz (by repeat (first | (with_reducible first | exact HB.out | apply ud | apply ub | apply uf) | exact HB.out))):w.heap.size ≤ gb263));clear HO257;clear HB;have HO257:=n0_;have HB:=n1_;have BK263:=n2_;have GW263:=n3_;have GE263:=n4_;clear n0_ n1_ n2_ n3_ n4_;clear hb hbox hg) | ((with_reducible refine u2o (N:=3) rfl ?_);(try (refine u3g (by rfl) ?_;dsimp only));refine u2n ?hg (N:=3) ?hd (cs:=#[.int .i64 0,.int .i64 0]) (t:=28) ?hr ?_;(case hd => rfl);(case hg => rfl);(case hr => first | (go_simp;done) | (go_simp;rfl));intro gb264 hg w29 hbox hb;have n0_:=Aside0.mk (Kd.R_below (by (with_reducible repeat (first | apply Kd.R_alloc | apply Kd.R_drewN | apply Kd.R_drew));exact HO257.out) hb);have n1_:=Aside0.mk (u1z (g:=gb263) (o:=.cells #[.slice none 0 0,.int .i64 0,.int .u64 0] 53 (0,0)) (by (with_reducible repeat (first | refine us ?_ _ | refine uw ?_ | refine uq ?_ _));exact BK263.out) hb);have n2_:=Aside0.mk (u1c (by repeat (first | (with_reducible first | exact HB.out | apply ud | apply ub | apply uf | refine ux ?_ GE263.out) | exact HB.out)) hb);have n3_:=Aside0.mk (hbox);have n4_:=Aside0.mk ((by rw [hg];exact (uz (by repeat (first | (with_reducible first | exact HB.out | apply ud | apply ub | apply uf | refine ux ?_ GE263.out) | exact HB.out))):w.heap.size ≤ gb264));have n5_:=Aside0.mk ((by rw [hg];exact (uz (by repeat (first | (with_reducible first | exact HB.out | apply ud | apply ub | apply uf | refine ux ?_ GE263.out) | exact HB.out))):w.heap.size ≤ gb264));have n6_:=Aside0.mk ((by rw [hg];exact Nat.ne_of_lt (u2u (g:=gb263) (o:=.cells #[.slice none 0 0,.int .i64 0,.int .u64 0] 53 (0,0)) (by (with_reducible repeat (first | refine us ?_ _ | refine uw ?_ | refine uq ?_ _));exact BK263.out)):gb263 ≠ gb264));have n7_:=Aside0.mk ((by rw [hg];exact Nat.ne_of_gt (u2u (g:=gb263) (o:=.cells #[.slice none 0 0,.int .i64 0,.int .u64 0] 53 (0,0)) (by (with_reducible repeat (first | refine us ?_ _ | refine uw ?_ | refine uq ?_ _));exact BK263.out)):gb264 ≠ gb263));clear HO257;clear BK263;clear HB;have HO257:=n0_;have BK263:=n1_;have HB:=n2_;have BK264:=n3_;have GW264:=n4_;have GE264:=n5_;have NB263_264:=n6_;have NB264_263:=n7_;clear n0_ n1_ n2_ n3_ n4_ n5_ n6_ n7_;clear hb hbox hg;obtain ⟨Ao30,co30,eo30⟩:=Kd.R_slice HO257.out;subst eo30;have hnb31:=NB263_264.out;have hnc31:=NB264_263.out;have hcz32_0:w29.cell? ⟨gb263,0,none⟩ = some (.slice none 0 0):=(um BK263.out 0).trans rfl;have hcz32_1:w29.cell? ⟨gb263,1,none⟩ = some (.int .i64 0):=(um BK263.out 1).trans rfl;have hcz32_2:w29.cell? ⟨gb263,2,none⟩ = some (.int .u64 0):=(um BK263.out 2).trans rfl;have hfz32_0:=uk BK263.out 0;have hfz32_1:=uk BK263.out 1;have hfz32_2:=uk BK263.out 2;have hcz33_0:w29.cell? ⟨gb264,0,none⟩ = some (.int .i64 0):=(um BK264.out 0).trans rfl;have hcz33_1:w29.cell? ⟨gb264,1,none⟩ = some (.int .i64 0):=(um BK264.out 1).trans rfl;have hfz33_0:=uk BK264.out 0;have hfz33_1:=uk BK264.out 1))
     go_ret
     exact ⟨by first | rfl | (simp [u1x,u1y] <;> rfl) | (simp [*,u1x,u1y] <;> rfl),by repeat (first | (with_reducible first | exact HB.out | apply ud | apply ub | apply uf | refine ux ?_ GE263.out | refine ux ?_ GE264.out) | exact HB.out)⟩
 · replace c2:=Bool.eq_false_iff.mpr c2
   subst c2
   have H1:(some false) = some r:=by rw [if_neg (show ¬ (false = true) by decide)] at H;exact H
   clear H
   have H:=H1
   clear H1
   obtain rfl:=Option.some.inj H
   go_enter Tryz.func12,Tryz.ntmps12
   go_wp2_with (first | ((with_reducible refine u2w (f:=27) rfl ?_);refine goesL_ (some 5) rfl rfl Tryz.func27 (by kernel_rfl) rfl #[.string (⟨#[117,112,123,106,111,98,61,34,120,34,125,32,48,120,49,102,32,55]⟩:ByteArray),.int .i64 0] rfl (by (try simp only [List.map_toArray,List.map_cons,List.map_nil]);first | done | rfl | (simp only [List.length_drop,List.length_take];rfl)) ?_;(with_reducible refine (u2k.calls (⟨#[117,112,123,106,111,98,61,34,120,34,125,32,48,120,49,102,32,55]⟩:ByteArray) 0 t255 t258 t259 false t261 t262 _ A1.out).mono ?_);rintro e w34 ⟨v256,rfl,ho0,hb⟩;refine ⟨_,rfl,?_⟩;have n0_:=Aside0.mk (Kd.R_lower ho0 (uz (by repeat (first | (with_reducible first | exact HB.out | apply ud | apply ub | apply uf) | exact HB.out))));have n1_:=Aside0.mk (u1c (by repeat (first | (with_reducible first | exact HB.out | apply ud | apply ub | apply uf) | exact HB.out)) hb);clear HB;have HO257:=n0_;have HB:=n1_;clear n0_ n1_;(try clear hb);(try clear hb2);(try clear hk);(try clear hi);(try clear ho0)) | ((with_reducible refine u2o (N:=1) rfl ?_);(try (refine u3g (by rfl) ?_;dsimp only));refine u2n ?hg (N:=1) ?hd (cs:=#[.slice none 0 0,.int .i64 0,.int .u64 0]) (t:=53) ?hr ?_;(case hd => rfl);(case hg => rfl);(case hr => first | (go_simp;done) | (go_simp;rfl));intro gb263 hg w35 hbox hb;have n0_:=Aside0.mk (Kd.R_below (by (with_reducible repeat (first | apply Kd.R_alloc | apply Kd.R_drewN | apply Kd.R_drew));exact HO257.out) hb);have n1_:=Aside0.mk (u1c (by repeat (first | (with_reducible first | exact HB.out | apply ud | apply ub | apply uf) | exact HB.out)) hb);have n2_:=Aside0.mk (hbox);have n3_:=Aside0.mk ((by rw [hg];exact (uz (by repeat (first | (with_reducible first | exact HB.out | apply ud | apply ub | apply uf) | exact HB.out))):w.heap.size ≤ gb263));have n4_:=Aside0.mk ((by rw [hg];exact (uz (by repeat (first | (with_reducible first | exact HB.out | apply ud | apply ub | apply uf) | exact HB.out))):w.heap.size ≤ gb263));clear HO257;clear HB;have HO257:=n0_;have HB:=n1_;have BK263:=n2_;have GW263:=n3_;have GE263:=n4_;clear n0_ n1_ n2_ n3_ n4_;clear hb hbox hg) | ((with_reducible refine u2o (N:=3) rfl ?_);(try (refine u3g (by rfl) ?_;dsimp only));refine u2n ?hg (N:=3) ?hd (cs:=#[.int .i64 0,.int .i64 0]) (t:=28) ?hr ?_;(case hd => rfl);(case hg => rfl);(case hr => first | (go_simp;done) | (go_simp;rfl));intro gb264 hg w36 hbox hb;have n0_:=Aside0.mk (Kd.R_below (by (with_reducible repeat (first | apply Kd.R_alloc | apply Kd.R_drewN | apply Kd.R_drew));exact HO257.out) hb);have n1_:=Aside0.mk (u1z (g:=gb263) (o:=.cells #[.slice none 0 0,.int .i64 0,.int .u64 0] 53 (0,0)) (by (with_reducible repeat (first | refine us ?_ _ | refine uw ?_ | refine uq ?_ _));exact BK263.out) hb);have n2_:=Aside0.mk (u1c (by repeat (first | (with_reducible first | exact HB.out | apply ud | apply ub | apply uf | refine ux ?_ GE263.out) | exact HB.out)) hb);have n3_:=Aside0.mk (hbox);have n4_:=Aside0.mk ((by rw [hg];exact (uz (by repeat (first | (with_reducible first | exact HB.out | apply ud | apply ub | apply uf | refine ux ?_ GE263.out) | exact HB.out))):w.heap.size ≤ gb264));have n5_:=Aside0.mk ((by rw [hg];exact (uz (by repeat (first | (with_reducible first | exact HB.out | apply ud | apply ub | apply uf | refine ux ?_ GE263.out) | exact HB.out))):w.heap.size ≤ gb264));have n6_:=Aside0.mk ((by rw [hg];exact Nat.ne_of_lt (u2u (g:=gb263) (o:=.cells #[.slice none 0 0,.int .i64 0,.int .u64 0] 53 (0,0)) (by (with_reducible repeat (first | refine us ?_ _ | refine uw ?_ | refine uq ?_ _));exact BK263.out)):gb263 ≠ gb264));have n7_:=Aside0.mk ((by rw [hg];exact Nat.ne_of_gt (u2u (g:=gb263) (o:=.cells #[.slice none 0 0,.int .i64 0,.int .u64 0] 53 (0,0)) (by (with_reducible repeat (first | refine us ?_ _ | refine uw ?_ | refine uq ?_ _));exact BK263.out)):gb264 ≠ gb263));clear HO257;clear BK263;clear HB;have HO257:=n0_;have BK263:=n1_;have HB:=n2_;have BK264:=n3_;have GW264:=n4_;have GE264:=n5_;have NB263_264:=n6_;have NB264_263:=n7_;clear n0_ n1_ n2_ n3_ n4_ n5_ n6_ n7_;clear hb hbox hg;obtain ⟨Ao37,co37,eo37⟩:=Kd.R_slice HO257.out;subst eo37;have hnb38:=NB263_264.out;have hnc38:=NB264_263.out;have hcz39_0:w36.cell? ⟨gb263,0,none⟩ = some (.slice none 0 0):=(um BK263.out 0).trans rfl;have hcz39_1:w36.cell? ⟨gb263,1,none⟩ = some (.int .i64 0):=(um BK263.out 1).trans rfl;have hcz39_2:w36.cell? ⟨gb263,2,none⟩ = some (.int .u64 0):=(um BK263.out 2).trans rfl;have hfz39_0:=uk BK263.out 0;have hfz39_1:=uk BK263.out 1;have hfz39_2:=uk BK263.out 2;have hcz40_0:w36.cell? ⟨gb264,0,none⟩ = some (.int .i64 0):=(um BK264.out 0).trans rfl;have hcz40_1:w36.cell? ⟨gb264,1,none⟩ = some (.int .i64 0):=(um BK264.out 1).trans rfl;have hfz40_0:=uk BK264.out 0;have hfz40_1:=uk BK264.out 1))
   go_ret
   exact ⟨by first | rfl | (simp [u1x,u1y] <;> rfl) | (simp [*,u1x,u1y] <;> rfl),by repeat (first | (with_reducible first | exact HB.out | apply ud | apply ub | apply uf | refine ux ?_ GE263.out | refine ux ?_ GE264.out) | exact HB.out)⟩
end Go.Proofs.YtmcpeifhapekoaaGreatDoor.PAll
namespace Go.Proofs.YtmcpeifhapekoaaGreatDoor.Tx
open Go.RowKit Go.Proofs.YtmcpeifhapekoaaGreatDoor.PAll Go.Proofs.YtmcpeifhapekoaaGreatDoorW.PrintWords Go.Proofs.YtmcpeifhapekoaaGreatDoorW.PrintLast
open Go.Proofs.YtmcpeifhapekoaaGreatDoor.Laws (okFrom canB)
set_option linter.unusedVariables false
set_option linter.unusedSimpArgs false
theorem line9_is (a0:ByteArray) (a1:Int) (h:a0.size ≤ 4611686018427387904):u2k.f a0 a1 = some (u2k.lab (readP canB a0.data.toList a1),u2k.tim (readP canB a0.data.toList a1),u2k.val (readP canB a0.data.toList a1),(readP canB a0.data.toList a1).1.isSome,(readP canB a0.data.toList a1).2.2,0):=by
 unfold u2k.f
 rw [if_pos h]
theorem awake9:u2z.f = some true:=by
 unfold u2z.f
 rw [line9_is _ _ (by decide),show (⟨#[117,112,123,106,111,98,61,34,120,34,125,32,48,120,49,102,32,55]⟩:ByteArray).data.toList = [117,112,123,106,111,98,61,34,120,34,125,32,48,120,49,102,32,55] from rfl,awake_read]
 rfl
end Go.Proofs.YtmcpeifhapekoaaGreatDoor.Tx
namespace Go.Proofs.YtmcpeifhapekoaaGreatDoor.PAll
open Go.RowKit Go.Proofs.YtmcpeifhapekoaaGreatDoorW.PrintWords Go.Proofs.YtmcpeifhapekoaaGreatDoorW.PrintLast Go.Proofs.YtmcpeifhapekoaaGreatDoorW.PrintMore
attribute [local go_sem] max2_int min2_int max_two min_two max_three min_three max_four min_four
set_option linter.unusedVariables false
set_option linter.unusedSimpArgs false
mutual
def u1h.l0:Nat → ByteArray → List (S66) → List (S66) → Int → Int → List (S66) → Int → Int → Option (ByteArray)
 | 0,_,_,_,_,_,_,_,_ => none
 | k + 1,x3,x4,x14,x15,x16,x309000,x309001,x309002 => if x16 < x15 then (if 0 ≤ x16 then (if x16 < (x14.length:Int) then (if ((un x14 x16).f0).toList = ([95,95,110,97,109,101,95,95]:List UInt8) then ((ut.f k x3).bind fun t312 => (if t312 = true then (u1h.l0 k x3 x4 x14 x15 (wrap64 (x16 + 1)) x309000 x309001 x309002) else (if x4.length < 4398046511104 then (u1h.l0 k x3 (x4 ++ [(⟨(un x14 x16).f0,(un x14 x16).f1⟩:S66)]) x14 x15 (wrap64 (x16 + 1)) x309000 x309001 x309002) else (none)))) else (if x4.length < 4398046511104 then (u1h.l0 k x3 (x4 ++ [(⟨(un x14 x16).f0,(un x14 x16).f1⟩:S66)]) x14 x15 (wrap64 (x16 + 1)) x309000 x309001 x309002) else (none))) else (none)) else (none)) else ((ut.f k x3).bind fun t319 => (if t319 = true then (u1h.j1 k x4 x3 x309000 x309001 x309002) else (u1h.j1 k x4 (⟨#[]⟩:ByteArray) x309000 x309001 x309002)))
def u1h.j1:Nat → List (S66) → ByteArray → List (S66) → Int → Int → Option (ByteArray)
 | 0,_,_,_,_,_ => none
 | k + 1,x4,x7,x309000,x309001,x309002 => if (x4.length:Int) > 0 then ((u1v.f k x4).bind fun bt320 => (if x7.size + bt320.1.size ≤ 9223372036854775807 then (if (x7 ++ bt320.1).size + 1 ≤ 9223372036854775807 then ((u1f.f k x309002).bind fun t322 => (if ((x7 ++ bt320.1) ++ (⟨#[32]⟩:ByteArray)).size + t322.size ≤ 9223372036854775807 then (if (((x7 ++ bt320.1) ++ (⟨#[32]⟩:ByteArray)) ++ t322).size + 1 ≤ 9223372036854775807 then ((u2c.f k x309001).bind fun t323 => (if ((((x7 ++ bt320.1) ++ (⟨#[32]⟩:ByteArray)) ++ t322) ++ (⟨#[32]⟩:ByteArray)).size + t323.size ≤ 9223372036854775807 then (if (((((x7 ++ bt320.1) ++ (⟨#[32]⟩:ByteArray)) ++ t322) ++ (⟨#[32]⟩:ByteArray)) ++ t323).size + 1 ≤ 9223372036854775807 then (some ((((((x7 ++ bt320.1) ++ (⟨#[32]⟩:ByteArray)) ++ t322) ++ (⟨#[32]⟩:ByteArray)) ++ t323) ++ (⟨#[10]⟩:ByteArray))) else (none)) else (none))) else (none)) else (none))) else (none)) else (none))) else (if x7.size + 1 ≤ 9223372036854775807 then ((u1f.f k x309002).bind fun t324 => (if (x7 ++ (⟨#[32]⟩:ByteArray)).size + t324.size ≤ 9223372036854775807 then (if ((x7 ++ (⟨#[32]⟩:ByteArray)) ++ t324).size + 1 ≤ 9223372036854775807 then ((u2c.f k x309001).bind fun t325 => (if (((x7 ++ (⟨#[32]⟩:ByteArray)) ++ t324) ++ (⟨#[32]⟩:ByteArray)).size + t325.size ≤ 9223372036854775807 then (if ((((x7 ++ (⟨#[32]⟩:ByteArray)) ++ t324) ++ (⟨#[32]⟩:ByteArray)) ++ t325).size + 1 ≤ 9223372036854775807 then (some (((((x7 ++ (⟨#[32]⟩:ByteArray)) ++ t324) ++ (⟨#[32]⟩:ByteArray)) ++ t325) ++ (⟨#[10]⟩:ByteArray))) else (none)) else (none))) else (none)) else (none))) else (none))
end
def u1h.f (k:Nat) (l0_0:List (S66)) (a0_1:Int) (a0_2:Int):Option (ByteArray):=(u2j.f k l0_0 (⟨#[95,95,110,97,109,101,95,95]⟩:ByteArray)).bind fun t309 => (u1h.l0 k t309 ([]:List (S66)) l0_0 (l0_0.length:Int) 0 l0_0 a0_1 a0_2)
set_option maxHeartbeats 8000000 in
set_option maxRecDepth 100000 in
theorem u1h.calls (k:Nat) (A0_0:Option Addr) (c0_0:Nat) (l0_0:List (S66)) (a0_1:Int) (a0_2:Int) (r:ByteArray) (w:World) (hr0_0:Kd.C k66 w A0_0 l0_0.length l0_0) (hc0_0:l0_0.length ≤ c0_0) (h:u1h.f k l0_0 a0_1 a0_2 = some r) :
 Calls Tryz.prog 41 #[.agg #[.slice A0_0 l0_0.length c0_0,.int .i64 a0_1,.int .u64 a0_2]] w fun e w' => e = .returned (.string r) ∧ Below w.heap.size w w':=by
 have hu53:=Tryz.underlying53
 have hu66:=Tryz.underlying66
 have HR0_0:=Aside0.mk hr0_0
 have HC0_0:=Aside0.mk hc0_0
 clear hr0_0 hc0_0
 have HB:=Aside0.mk (Below.refl w.heap.size w)
 have H:((u2j.f k l0_0 (⟨#[95,95,110,97,109,101,95,95]⟩:ByteArray)).bind fun t309 => (u1h.l0 k t309 ([]:List (S66)) l0_0 (l0_0.length:Int) 0 l0_0 a0_1 a0_2)) = some r:=h
 clear h
 replace H:=Option.bind_eq_some_iff.mp H
 obtain ⟨t309,A20,H⟩:=H
 replace H:(u1h.l0 k t309 ([]:List (S66)) l0_0 (l0_0.length:Int) 0 l0_0 a0_1 a0_2) = some r:=H
 have A2:=Aside0.mk A20
 clear A20
 have H':=Aside0.mk H
 clear H
 go_enter Tryz.func41,Tryz.ntmps41
 go_wp2_with (first | ((with_reducible refine u2o (N:=1) rfl ?_);refine u2n ?hg (N:=1) ?hd (cs:=#[.slice A0_0 l0_0.length c0_0,.int .i64 a0_1,.int .u64 a0_2]) (t:=53) ?hr ?_;(case hd => rfl);(case hg => rfl);(case hr => first | (go_simp;done) | (go_simp;rfl));intro gb308 hg w3 hbox hb;have n0_:=Aside0.mk (u1c (by repeat (first | (with_reducible first | exact HB.out | apply ud | apply ub | apply uf) | exact HB.out)) hb);have n1_:=Aside0.mk (hbox);have n2_:=Aside0.mk ((by rw [hg];exact (uz (by repeat (first | (with_reducible first | exact HB.out | apply ud | apply ub | apply uf) | exact HB.out))):w.heap.size ≤ gb308));have n3_:=Aside0.mk ((by rw [hg];exact (uz (by repeat (first | (with_reducible first | exact HB.out | apply ud | apply ub | apply uf) | exact HB.out))):w.heap.size ≤ gb308));clear HB;have HB:=n0_;have BK308:=n1_;have GW308:=n2_;have GE308:=n3_;clear n0_ n1_ n2_ n3_;clear hb hbox hg;have hcz4_0:w3.cell? ⟨gb308,0,none⟩ = some (.slice A0_0 l0_0.length c0_0):=(um BK308.out 0).trans rfl;have hcz4_1:w3.cell? ⟨gb308,1,none⟩ = some (.int .i64 a0_1):=(um BK308.out 1).trans rfl;have hcz4_2:w3.cell? ⟨gb308,2,none⟩ = some (.int .u64 a0_2):=(um BK308.out 2).trans rfl;have hfz4_0:=uk BK308.out 0;have hfz4_1:=uk BK308.out 1;have hfz4_2:=uk BK308.out 2) | (go_at_call 71;(with_reducible refine (u2j.calls k _ _ l0_0 (⟨#[95,95,110,97,109,101,95,95]⟩:ByteArray) t309 _ ?side1 ?side2 A2.out).mono ?_);(case side1 => repeat (first | exact (Kd.C_below HR0_0.out HB.out) | (with_reducible refine Kd.C_alloc ?_ _) | (with_reducible refine Kd.C_drewN ?_ _) | (with_reducible refine Kd.C_drew ?_)));(case side2 => exact HC0_0.out);rintro e w5 ⟨rfl,hb⟩;have n0_:=Aside0.mk (u1z (g:=gb308) (o:=.cells #[.slice A0_0 l0_0.length c0_0,.int .i64 a0_1,.int .u64 a0_2] 53 (0,0)) (by (with_reducible repeat (first | refine us ?_ _ | refine uw ?_ | refine uq ?_ _));exact BK308.out) hb);have n1_:=Aside0.mk (u1c (by repeat (first | (with_reducible first | exact HB.out | apply ud | apply ub | apply uf | refine ux ?_ GE308.out) | exact HB.out)) hb);clear BK308;clear HB;have BK308:=n0_;have HB:=n1_;clear n0_ n1_;(try clear hb);(try clear hb2);(try clear hk);(try clear hi);have hcz6_0:w5.cell? ⟨gb308,0,none⟩ = some (.slice A0_0 l0_0.length c0_0):=(um BK308.out 0).trans rfl;have hcz6_1:w5.cell? ⟨gb308,1,none⟩ = some (.int .i64 a0_1):=(um BK308.out 1).trans rfl;have hcz6_2:w5.cell? ⟨gb308,2,none⟩ = some (.int .u64 a0_2):=(um BK308.out 2).trans rfl;have hfz6_0:=uk BK308.out 0;have hfz6_1:=uk BK308.out 1;have hfz6_2:=uk BK308.out 2))
 repeat (go_quiet (first | ((with_reducible refine u2o (N:=1) rfl ?_);refine u2n ?hg (N:=1) ?hd (cs:=#[.slice A0_0 l0_0.length c0_0,.int .i64 a0_1,.int .u64 a0_2]) (t:=53) ?hr ?_;(case hd => rfl);(case hg => rfl);(case hr => first | (go_simp;done) | (go_simp;rfl));intro gb308 hg w3 hbox hb;have n0_:=Aside0.mk (u1c (by repeat (first | (with_reducible first | exact HB.out | apply ud | apply ub | apply uf) | exact HB.out)) hb);have n1_:=Aside0.mk (hbox);have n2_:=Aside0.mk ((by rw [hg];exact (uz (by repeat (first | (with_reducible first | exact HB.out | apply ud | apply ub | apply uf) | exact HB.out))):w.heap.size ≤ gb308));have n3_:=Aside0.mk ((by rw [hg];exact (uz (by repeat (first | (with_reducible first | exact HB.out | apply ud | apply ub | apply uf) | exact HB.out))):w.heap.size ≤ gb308));clear HB;have HB:=n0_;have BK308:=n1_;have GW308:=n2_;have GE308:=n3_;clear n0_ n1_ n2_ n3_;clear hb hbox hg;have hcz4_0:w3.cell? ⟨gb308,0,none⟩ = some (.slice A0_0 l0_0.length c0_0):=(um BK308.out 0).trans rfl;have hcz4_1:w3.cell? ⟨gb308,1,none⟩ = some (.int .i64 a0_1):=(um BK308.out 1).trans rfl;have hcz4_2:w3.cell? ⟨gb308,2,none⟩ = some (.int .u64 a0_2):=(um BK308.out 2).trans rfl;have hfz4_0:=uk BK308.out 0;have hfz4_1:=uk BK308.out 1;have hfz4_2:=uk BK308.out 2) | (go_at_call 71;(with_reducible refine (u2j.calls k _ _ l0_0 (⟨#[95,95,110,97,109,101,95,95]⟩:ByteArray) t309 _ ?side1 ?side2 A2.out).mono ?_);(case side1 => repeat (first | exact (Kd.C_below HR0_0.out HB.out) | (with_reducible refine Kd.C_alloc ?_ _) | (with_reducible refine Kd.C_drewN ?_ _) | (with_reducible refine Kd.C_drew ?_)));(case side2 => exact HC0_0.out);rintro e w5 ⟨rfl,hb⟩;have n0_:=Aside0.mk (u1z (g:=gb308) (o:=.cells #[.slice A0_0 l0_0.length c0_0,.int .i64 a0_1,.int .u64 a0_2] 53 (0,0)) (by (with_reducible repeat (first | refine us ?_ _ | refine uw ?_ | refine uq ?_ _));exact BK308.out) hb);have n1_:=Aside0.mk (u1c (by repeat (first | (with_reducible first | exact HB.out | apply ud | apply ub | apply uf | refine ux ?_ GE308.out) | exact HB.out)) hb);clear BK308;clear HB;have BK308:=n0_;have HB:=n1_;clear n0_ n1_;(try clear hb);(try clear hb2);(try clear hk);(try clear hi);have hcz6_0:w5.cell? ⟨gb308,0,none⟩ = some (.slice A0_0 l0_0.length c0_0):=(um BK308.out 0).trans rfl;have hcz6_1:w5.cell? ⟨gb308,1,none⟩ = some (.int .i64 a0_1):=(um BK308.out 1).trans rfl;have hcz6_2:w5.cell? ⟨gb308,2,none⟩ = some (.int .u64 a0_2):=(um BK308.out 2).trans rfl;have hfz6_0:=uk BK308.out 0;have hfz6_1:=uk BK308.out 1;have hfz6_2:=uk BK308.out 2));try go_wp2_with (first | ((with_reducible refine u2o (N:=1) rfl ?_);refine u2n ?hg (N:=1) ?hd (cs:=#[.slice A0_0 l0_0.length c0_0,.int .i64 a0_1,.int .u64 a0_2]) (t:=53) ?hr ?_;(case hd => rfl);(case hg => rfl);(case hr => first | (go_simp;done) | (go_simp;rfl));intro gb308 hg w3 hbox hb;have n0_:=Aside0.mk (u1c (by repeat (first | (with_reducible first | exact HB.out | apply ud | apply ub | apply uf) | exact HB.out)) hb);have n1_:=Aside0.mk (hbox);have n2_:=Aside0.mk ((by rw [hg];exact (uz (by repeat (first | (with_reducible first | exact HB.out | apply ud | apply ub | apply uf) | exact HB.out))):w.heap.size ≤ gb308));have n3_:=Aside0.mk ((by rw [hg];exact (uz (by repeat (first | (with_reducible first | exact HB.out | apply ud | apply ub | apply uf) | exact HB.out))):w.heap.size ≤ gb308));clear HB;have HB:=n0_;have BK308:=n1_;have GW308:=n2_;have GE308:=n3_;clear n0_ n1_ n2_ n3_;clear hb hbox hg;have hcz4_0:w3.cell? ⟨gb308,0,none⟩ = some (.slice A0_0 l0_0.length c0_0):=(um BK308.out 0).trans rfl;have hcz4_1:w3.cell? ⟨gb308,1,none⟩ = some (.int .i64 a0_1):=(um BK308.out 1).trans rfl;have hcz4_2:w3.cell? ⟨gb308,2,none⟩ = some (.int .u64 a0_2):=(um BK308.out 2).trans rfl;have hfz4_0:=uk BK308.out 0;have hfz4_1:=uk BK308.out 1;have hfz4_2:=uk BK308.out 2) | (go_at_call 71;(with_reducible refine (u2j.calls k _ _ l0_0 (⟨#[95,95,110,97,109,101,95,95]⟩:ByteArray) t309 _ ?side1 ?side2 A2.out).mono ?_);(case side1 => repeat (first | exact (Kd.C_below HR0_0.out HB.out) | (with_reducible refine Kd.C_alloc ?_ _) | (with_reducible refine Kd.C_drewN ?_ _) | (with_reducible refine Kd.C_drew ?_)));(case side2 => exact HC0_0.out);rintro e w5 ⟨rfl,hb⟩;have n0_:=Aside0.mk (u1z (g:=gb308) (o:=.cells #[.slice A0_0 l0_0.length c0_0,.int .i64 a0_1,.int .u64 a0_2] 53 (0,0)) (by (with_reducible repeat (first | refine us ?_ _ | refine uw ?_ | refine uq ?_ _));exact BK308.out) hb);have n1_:=Aside0.mk (u1c (by repeat (first | (with_reducible first | exact HB.out | apply ud | apply ub | apply uf | refine ux ?_ GE308.out) | exact HB.out)) hb);clear BK308;clear HB;have BK308:=n0_;have HB:=n1_;clear n0_ n1_;(try clear hb);(try clear hb2);(try clear hk);(try clear hi);have hcz6_0:w5.cell? ⟨gb308,0,none⟩ = some (.slice A0_0 l0_0.length c0_0):=(um BK308.out 0).trans rfl;have hcz6_1:w5.cell? ⟨gb308,1,none⟩ = some (.int .i64 a0_1):=(um BK308.out 1).trans rfl;have hcz6_2:w5.cell? ⟨gb308,2,none⟩ = some (.int .u64 a0_2):=(um BK308.out 2).trans rfl;have hfz6_0:=uk BK308.out 0;have hfz6_1:=uk BK308.out 1;have hfz6_2:=uk BK308.out 2)))
 go_loopg [4,16] k (fun kq v4 v16 w' => ∃ (x4_1:List (S66)) (x16_1:Int),v16 = .int .i64 x16_1 ∧ Aside0 (u1h.l0 kq t309 x4_1 l0_0 (l0_0.length:Int) x16_1 l0_0 a0_1 a0_2 = some r) ∧ Aside0 (kq ≤ k) ∧ Aside0 (Kd.R k66 66 w' w.heap.size (fun _ => True) v4 x4_1) ∧ Aside0 (w'.heap[gb308]? = some (.cells #[(.slice A0_0 l0_0.length c0_0),.int .i64 a0_1,.int .u64 a0_2] 53 (0,0))) ∧ Aside0 (Below w.heap.size w w'))
 case atStart => exact ⟨(([]:List (S66))),(0),(by first | rfl | (simp;done) | (simp [*];done)),H',⟨Nat.le_refl _⟩,⟨by first | exact Kd.R_nil _ _ _ _ _ | exact Kd.N_nil _ _ _ _ _ | exact Kd.V_nil _ _ _ _ _ | exact Kd.Q_nil _ _ _ _ _ | exact Kd.S_nil _ _ _ _ _⟩,⟨by (with_reducible repeat (first | refine us ?_ _ | refine uw ?_ | refine uq ?_ _));exact BK308.out⟩,⟨by repeat (first | (with_reducible first | exact HB.out | apply ud | apply ub | apply uf | refine ux ?_ GE308.out) | exact HB.out)⟩⟩
 case round =>
  clear H'
  try clear p2
  try clear c4
  try clear hcz4_0
  try clear hcz4_1
  try clear hcz4_2
  try clear hcz6_0
  try clear hcz6_1
  try clear hcz6_2
  try clear hfz4_0
  try clear hfz4_1
  try clear hfz4_2
  try clear hfz6_0
  try clear hfz6_1
  try clear hfz6_2
  obtain ⟨x4_1,x16_1,rfl,HA,HK1,HO_4,BK308,HB⟩:=hrel
  cases gk with
  | zero => exact absurd HA.out (by simp [u1h.l0])
  | succ k1 =>
    have H:=HA.out
    clear HA
    simp only [u1h.l0] at H
    by_cases c7:x16_1 < (l0_0.length:Int)
    · rw [if_pos c7] at H
      have c7b0:decide (x16_1 < (l0_0.length:Int)) = true:=decide_eq_true c7
      clear c7
      by_cases c8:0 ≤ x16_1
      · rw [if_pos c8] at H
        have c8b0:decide (0 ≤ x16_1) = true:=decide_eq_true c8
        clear c8
        by_cases c9:x16_1 < (l0_0.length:Int)
        · rw [if_pos c9] at H
          have c9b0:decide (x16_1 < (l0_0.length:Int)) = true:=decide_eq_true c9
          clear c9
          by_cases c10:((un l0_0 x16_1).f0).toList = ([95,95,110,97,109,101,95,95]:List UInt8)
          · rw [if_pos c10] at H
            have c10b0:(((un l0_0 x16_1).f0).toList == ([95,95,110,97,109,101,95,95]:List UInt8)) = true:=beq_iff_eq.mpr c10
            have c10b1:(((un l0_0 x16_1).f0).toList != ([95,95,110,97,109,101,95,95]:List UInt8)) = false:=bne_eq_false_iff_eq.mpr c10
            clear c10
            replace H:=Option.bind_eq_some_iff.mp H
            obtain ⟨t312,A110,H⟩:=H
            replace H:(if t312 = true then (u1h.l0 k1 t309 x4_1 l0_0 (l0_0.length:Int) (wrap64 (x16_1 + 1)) l0_0 a0_1 a0_2) else (if x4_1.length < 4398046511104 then (u1h.l0 k1 t309 (x4_1 ++ [(⟨(un l0_0 x16_1).f0,(un l0_0 x16_1).f1⟩:S66)]) l0_0 (l0_0.length:Int) (wrap64 (x16_1 + 1)) l0_0 a0_1 a0_2) else (none))) = some r:=H
            have A11:=Aside0.mk A110
            clear A110
            by_cases c12:t312 = true
            · subst c12
              have H1:(u1h.l0 k1 t309 x4_1 l0_0 (l0_0.length:Int) (wrap64 (x16_1 + 1)) l0_0 a0_1 a0_2) = some r:=by rw [if_pos rfl] at H;exact H
              clear H
              have H:=H1
              clear H1
              have H':=Aside0.mk H
              clear H
              have p310:0 ≤ (x16_1:Int):=of_decide_eq_true (by first | (with_reducible assumption) | assumption)
              have q310:x16_1 < (l0_0.length:Int):=of_decide_eq_true (by first | (with_reducible assumption) | assumption)
              obtain ⟨ad310,e310,hx310_0,hx310_1⟩:=at_T66 HR0_0.out x16_1 p310 q310
              cases e310
              replace hx310_0:=(HB.out.cell (World.block_lt_of_cell? w _ hx310_0)).trans hx310_0
              replace hx310_1:=(HB.out.cell (World.block_lt_of_cell? w _ hx310_1)).trans hx310_1
              replace p310:=eq_true p310
              replace q310:=eq_true q310
              go_wp2_with (first | ((with_reducible refine u2o (N:=6) rfl ?_);refine u2n ?hg (N:=6) ?hd (cs:=#[.string (⟨#[]⟩:ByteArray),.string (⟨#[]⟩:ByteArray)]) (t:=66) ?hr ?_;(case hd => rfl);(case hg => rfl);(case hr => first | (go_simp;done) | (go_simp;rfl));intro gb311 hg w13 hbox hb;have n0_:=Aside0.mk (Kd.R_below (Kd.R_elderB (by (with_reducible repeat (first | apply Kd.R_alloc | apply Kd.R_drewN | apply Kd.R_drew));exact HO_4.out) gb311 (Nat.le_of_eq hg.symm)) hb);have n1_:=Aside0.mk (u1z (g:=gb308) (o:=.cells #[.slice (some ad310) l0_0.length c0_0,.int .i64 a0_1,.int .u64 a0_2] 53 (0,0)) (by (with_reducible repeat (first | refine us ?_ _ | refine uw ?_ | refine uq ?_ _));exact BK308.out) hb);have n2_:=Aside0.mk (u1c (by repeat (first | (with_reducible first | exact HB.out | apply ud | apply ub | apply uf | refine ux ?_ GE308.out) | exact HB.out)) hb);have n3_:=Aside0.mk (hbox);have n4_:=Aside0.mk ((by rw [hg];exact (uz (by repeat (first | (with_reducible first | exact HB.out | apply ud | apply ub | apply uf | refine ux ?_ GE308.out) | exact HB.out))):w.heap.size ≤ gb311));have n5_:=Aside0.mk ((by rw [hg];exact (uz (by repeat (first | (with_reducible first | exact HB.out | apply ud | apply ub | apply uf | refine ux ?_ GE308.out) | exact HB.out))):w.heap.size ≤ gb311));have n6_:=Aside0.mk ((by rw [hg];exact Nat.ne_of_lt (u2u (g:=gb308) (o:=.cells #[.slice (some ad310) l0_0.length c0_0,.int .i64 a0_1,.int .u64 a0_2] 53 (0,0)) (by (with_reducible repeat (first | refine us ?_ _ | refine uw ?_ | refine uq ?_ _));exact BK308.out)):gb308 ≠ gb311));have n7_:=Aside0.mk ((by rw [hg];exact Nat.ne_of_gt (u2u (g:=gb308) (o:=.cells #[.slice (some ad310) l0_0.length c0_0,.int .i64 a0_1,.int .u64 a0_2] 53 (0,0)) (by (with_reducible repeat (first | refine us ?_ _ | refine uw ?_ | refine uq ?_ _));exact BK308.out)):gb311 ≠ gb308));clear HO_4;clear BK308;clear HB;have HO_4:=n0_;have BK308:=n1_;have HB:=n2_;have BK311:=n3_;have GW311:=n4_;have GE311:=n5_;have NB308_311:=n6_;have NB311_308:=n7_;clear n0_ n1_ n2_ n3_ n4_ n5_ n6_ n7_;clear hb hbox hg;have hnb14:=NB311_308.out;have hnc14:=NB308_311.out;have hcz15_0:w13.cell? ⟨gb311,0,none⟩ = some (.string (⟨#[]⟩:ByteArray)):=(um BK311.out 0).trans rfl;have hcz15_1:w13.cell? ⟨gb311,1,none⟩ = some (.string (⟨#[]⟩:ByteArray)):=(um BK311.out 1).trans rfl;have hfz15_0:=uk BK311.out 0;have hfz15_1:=uk BK311.out 1) | (go_at_call 37;(with_reducible refine (ut.calls k1 t309 true _ A11.out).mono ?_);rintro e w' ⟨rfl,⟨nd,rfl⟩⟩;(try first | exact ⟨rfl,_,World.drewN_drewN _ _ _⟩ | exact ⟨rfl,_,Eq.trans (World.drewN_drewN _ _ _) (congrArg (World.drewN _) (Nat.add_assoc _ _ _))⟩)))
              repeat (go_quiet (first | ((with_reducible refine u2o (N:=6) rfl ?_);refine u2n ?hg (N:=6) ?hd (cs:=#[.string (⟨#[]⟩:ByteArray),.string (⟨#[]⟩:ByteArray)]) (t:=66) ?hr ?_;(case hd => rfl);(case hg => rfl);(case hr => first | (go_simp;done) | (go_simp;rfl));intro gb311 hg w13 hbox hb;have n0_:=Aside0.mk (Kd.R_below (Kd.R_elderB (by (with_reducible repeat (first | apply Kd.R_alloc | apply Kd.R_drewN | apply Kd.R_drew));exact HO_4.out) gb311 (Nat.le_of_eq hg.symm)) hb);have n1_:=Aside0.mk (u1z (g:=gb308) (o:=.cells #[.slice (some ad310) l0_0.length c0_0,.int .i64 a0_1,.int .u64 a0_2] 53 (0,0)) (by (with_reducible repeat (first | refine us ?_ _ | refine uw ?_ | refine uq ?_ _));exact BK308.out) hb);have n2_:=Aside0.mk (u1c (by repeat (first | (with_reducible first | exact HB.out | apply ud | apply ub | apply uf | refine ux ?_ GE308.out) | exact HB.out)) hb);have n3_:=Aside0.mk (hbox);have n4_:=Aside0.mk ((by rw [hg];exact (uz (by repeat (first | (with_reducible first | exact HB.out | apply ud | apply ub | apply uf | refine ux ?_ GE308.out) | exact HB.out))):w.heap.size ≤ gb311));have n5_:=Aside0.mk ((by rw [hg];exact (uz (by repeat (first | (with_reducible first | exact HB.out | apply ud | apply ub | apply uf | refine ux ?_ GE308.out) | exact HB.out))):w.heap.size ≤ gb311));have n6_:=Aside0.mk ((by rw [hg];exact Nat.ne_of_lt (u2u (g:=gb308) (o:=.cells #[.slice (some ad310) l0_0.length c0_0,.int .i64 a0_1,.int .u64 a0_2] 53 (0,0)) (by (with_reducible repeat (first | refine us ?_ _ | refine uw ?_ | refine uq ?_ _));exact BK308.out)):gb308 ≠ gb311));have n7_:=Aside0.mk ((by rw [hg];exact Nat.ne_of_gt (u2u (g:=gb308) (o:=.cells #[.slice (some ad310) l0_0.length c0_0,.int .i64 a0_1,.int .u64 a0_2] 53 (0,0)) (by (with_reducible repeat (first | refine us ?_ _ | refine uw ?_ | refine uq ?_ _));exact BK308.out)):gb311 ≠ gb308));clear HO_4;clear BK308;clear HB;have HO_4:=n0_;have BK308:=n1_;have HB:=n2_;have BK311:=n3_;have GW311:=n4_;have GE311:=n5_;have NB308_311:=n6_;have NB311_308:=n7_;clear n0_ n1_ n2_ n3_ n4_ n5_ n6_ n7_;clear hb hbox hg;have hnb14:=NB311_308.out;have hnc14:=NB308_311.out;have hcz15_0:w13.cell? ⟨gb311,0,none⟩ = some (.string (⟨#[]⟩:ByteArray)):=(um BK311.out 0).trans rfl;have hcz15_1:w13.cell? ⟨gb311,1,none⟩ = some (.string (⟨#[]⟩:ByteArray)):=(um BK311.out 1).trans rfl;have hfz15_0:=uk BK311.out 0;have hfz15_1:=uk BK311.out 1) | (go_at_call 37;(with_reducible refine (ut.calls k1 t309 true _ A11.out).mono ?_);rintro e w' ⟨rfl,⟨nd,rfl⟩⟩;(try first | exact ⟨rfl,_,World.drewN_drewN _ _ _⟩ | exact ⟨rfl,_,Eq.trans (World.drewN_drewN _ _ _) (congrArg (World.drewN _) (Nat.add_assoc _ _ _))⟩)));try go_wp2_with (first | ((with_reducible refine u2o (N:=6) rfl ?_);refine u2n ?hg (N:=6) ?hd (cs:=#[.string (⟨#[]⟩:ByteArray),.string (⟨#[]⟩:ByteArray)]) (t:=66) ?hr ?_;(case hd => rfl);(case hg => rfl);(case hr => first | (go_simp;done) | (go_simp;rfl));intro gb311 hg w13 hbox hb;have n0_:=Aside0.mk (Kd.R_below (Kd.R_elderB (by (with_reducible repeat (first | apply Kd.R_alloc | apply Kd.R_drewN | apply Kd.R_drew));exact HO_4.out) gb311 (Nat.le_of_eq hg.symm)) hb);have n1_:=Aside0.mk (u1z (g:=gb308) (o:=.cells #[.slice (some ad310) l0_0.length c0_0,.int .i64 a0_1,.int .u64 a0_2] 53 (0,0)) (by (with_reducible repeat (first | refine us ?_ _ | refine uw ?_ | refine uq ?_ _));exact BK308.out) hb);have n2_:=Aside0.mk (u1c (by repeat (first | (with_reducible first | exact HB.out | apply ud | apply ub | apply uf | refine ux ?_ GE308.out) | exact HB.out)) hb);have n3_:=Aside0.mk (hbox);have n4_:=Aside0.mk ((by rw [hg];exact (uz (by repeat (first | (with_reducible first | exact HB.out | apply ud | apply ub | apply uf | refine ux ?_ GE308.out) | exact HB.out))):w.heap.size ≤ gb311));have n5_:=Aside0.mk ((by rw [hg];exact (uz (by repeat (first | (with_reducible first | exact HB.out | apply ud | apply ub | apply uf | refine ux ?_ GE308.out) | exact HB.out))):w.heap.size ≤ gb311));have n6_:=Aside0.mk ((by rw [hg];exact Nat.ne_of_lt (u2u (g:=gb308) (o:=.cells #[.slice (some ad310) l0_0.length c0_0,.int .i64 a0_1,.int .u64 a0_2] 53 (0,0)) (by (with_reducible repeat (first | refine us ?_ _ | refine uw ?_ | refine uq ?_ _));exact BK308.out)):gb308 ≠ gb311));have n7_:=Aside0.mk ((by rw [hg];exact Nat.ne_of_gt (u2u (g:=gb308) (o:=.cells #[.slice (some ad310) l0_0.length c0_0,.int .i64 a0_1,.int .u64 a0_2] 53 (0,0)) (by (with_reducible repeat (first | refine us ?_ _ | refine uw ?_ | refine uq ?_ _));exact BK308.out)):gb311 ≠ gb308));clear HO_4;clear BK308;clear HB;have HO_4:=n0_;have BK308:=n1_;have HB:=n2_;have BK311:=n3_;have GW311:=n4_;have GE311:=n5_;have NB308_311:=n6_;have NB311_308:=n7_;clear n0_ n1_ n2_ n3_ n4_ n5_ n6_ n7_;clear hb hbox hg;have hnb14:=NB311_308.out;have hnc14:=NB308_311.out;have hcz15_0:w13.cell? ⟨gb311,0,none⟩ = some (.string (⟨#[]⟩:ByteArray)):=(um BK311.out 0).trans rfl;have hcz15_1:w13.cell? ⟨gb311,1,none⟩ = some (.string (⟨#[]⟩:ByteArray)):=(um BK311.out 1).trans rfl;have hfz15_0:=uk BK311.out 0;have hfz15_1:=uk BK311.out 1) | (go_at_call 37;(with_reducible refine (ut.calls k1 t309 true _ A11.out).mono ?_);rintro e w' ⟨rfl,⟨nd,rfl⟩⟩;(try first | exact ⟨rfl,_,World.drewN_drewN _ _ _⟩ | exact ⟨rfl,_,Eq.trans (World.drewN_drewN _ _ _) (congrArg (World.drewN _) (Nat.add_assoc _ _ _))⟩))))
              go_roundg k1
              case measure => have:=HK1.out;omega
              case rel => exact ⟨(x4_1),(wrap64 (x16_1 + 1)),(by first | rfl | (simp;done) | (simp [*];done)),H',⟨by have:=HK1.out;omega⟩,⟨by (with_reducible repeat (first | apply Kd.R_alloc | apply Kd.R_drewN | apply Kd.R_drew));exact Kd.R_mono (Kd.R_far (p:=⟨gb311,1,none⟩) (Kd.R_far (p:=⟨gb311,0,none⟩) (Kd.R_mono HO_4.out (fun k_ hk => (⟨hk,hk.2⟩:_ ∧ k_ ≠ gb311))) (fun _ hk => hk.2) (.string ((un l0_0 x16_1).f0))) (fun _ hk => hk.2) (.string ((un l0_0 x16_1).f1))) (fun _ hk => trivial)⟩,⟨by (with_reducible repeat (first | refine us ?_ _ | refine uw ?_ | refine uq ?_ _));refine blk_far ?_ NB308_311.out _;(with_reducible repeat (first | refine us ?_ _ | refine uw ?_ | refine uq ?_ _));refine blk_far ?_ NB308_311.out _;(with_reducible repeat (first | refine us ?_ _ | refine uw ?_ | refine uq ?_ _));exact BK308.out⟩,⟨by repeat (first | (with_reducible first | exact HB.out | apply ud | apply ub | apply uf | refine ux ?_ GE308.out | refine ux ?_ GE311.out) | exact HB.out)⟩⟩
            · replace c12:=Bool.eq_false_iff.mpr c12
              subst c12
              have H1:(if x4_1.length < 4398046511104 then (u1h.l0 k1 t309 (x4_1 ++ [(⟨(un l0_0 x16_1).f0,(un l0_0 x16_1).f1⟩:S66)]) l0_0 (l0_0.length:Int) (wrap64 (x16_1 + 1)) l0_0 a0_1 a0_2) else (none)) = some r:=by rw [if_neg (show ¬ (false = true) by decide)] at H;exact H
              clear H
              have H:=H1
              clear H1
              by_cases c16:x4_1.length < 4398046511104
              · rw [if_pos c16] at H
                have LMc16:=Aside0.mk c16
                clear c16
                obtain ⟨y313,hy313⟩:∃ y_:List (S66),y_ = (x4_1 ++ [(⟨(un l0_0 x16_1).f0,(un l0_0 x16_1).f1⟩:S66)]):=⟨_,rfl⟩
                replace H:(u1h.l0 k1 t309 y313 l0_0 (l0_0.length:Int) (wrap64 (x16_1 + 1)) l0_0 a0_1 a0_2) = some r:=by first | (rw [hy313];with_reducible exact H) | (have H2_:=(Option.bind_some _ _).symm.trans H;rw [hy313];with_reducible exact H2_) | (have H2_:=(Option.bind_some _ _).symm.trans H;with_reducible exact H2_) | with_reducible exact H | (rw [hy313];exact H) | exact H
                have Ny313:=Aside0.mk hy313
                clear hy313
                have H':=Aside0.mk H
                clear H
                have p310:0 ≤ (x16_1:Int):=of_decide_eq_true (by first | (with_reducible assumption) | assumption)
                have q310:x16_1 < (l0_0.length:Int):=of_decide_eq_true (by first | (with_reducible assumption) | assumption)
                obtain ⟨ad310,e310,hx310_0,hx310_1⟩:=at_T66 HR0_0.out x16_1 p310 q310
                cases e310
                replace hx310_0:=(HB.out.cell (World.block_lt_of_cell? w _ hx310_0)).trans hx310_0
                replace hx310_1:=(HB.out.cell (World.block_lt_of_cell? w _ hx310_1)).trans hx310_1
                replace p310:=eq_true p310
                replace q310:=eq_true q310
                go_wp2_with (first | ((with_reducible refine u2o (N:=6) rfl ?_);refine u2n ?hg (N:=6) ?hd (cs:=#[.string (⟨#[]⟩:ByteArray),.string (⟨#[]⟩:ByteArray)]) (t:=66) ?hr ?_;(case hd => rfl);(case hg => rfl);(case hr => first | (go_simp;done) | (go_simp;rfl));intro gb311 hg w17 hbox hb;have n0_:=Aside0.mk (Kd.R_below (Kd.R_elderB (by (with_reducible repeat (first | apply Kd.R_alloc | apply Kd.R_drewN | apply Kd.R_drew));exact HO_4.out) gb311 (Nat.le_of_eq hg.symm)) hb);have n1_:=Aside0.mk (u1z (g:=gb308) (o:=.cells #[.slice (some ad310) l0_0.length c0_0,.int .i64 a0_1,.int .u64 a0_2] 53 (0,0)) (by (with_reducible repeat (first | refine us ?_ _ | refine uw ?_ | refine uq ?_ _));exact BK308.out) hb);have n2_:=Aside0.mk (u1c (by repeat (first | (with_reducible first | exact HB.out | apply ud | apply ub | apply uf | refine ux ?_ GE308.out) | exact HB.out)) hb);have n3_:=Aside0.mk (hbox);have n4_:=Aside0.mk ((by rw [hg];exact (uz (by repeat (first | (with_reducible first | exact HB.out | apply ud | apply ub | apply uf | refine ux ?_ GE308.out) | exact HB.out))):w.heap.size ≤ gb311));have n5_:=Aside0.mk ((by rw [hg];exact (uz (by repeat (first | (with_reducible first | exact HB.out | apply ud | apply ub | apply uf | refine ux ?_ GE308.out) | exact HB.out))):w.heap.size ≤ gb311));have n6_:=Aside0.mk ((by rw [hg];exact Nat.ne_of_lt (u2u (g:=gb308) (o:=.cells #[.slice (some ad310) l0_0.length c0_0,.int .i64 a0_1,.int .u64 a0_2] 53 (0,0)) (by (with_reducible repeat (first | refine us ?_ _ | refine uw ?_ | refine uq ?_ _));exact BK308.out)):gb308 ≠ gb311));have n7_:=Aside0.mk ((by rw [hg];exact Nat.ne_of_gt (u2u (g:=gb308) (o:=.cells #[.slice (some ad310) l0_0.length c0_0,.int .i64 a0_1,.int .u64 a0_2] 53 (0,0)) (by (with_reducible repeat (first | refine us ?_ _ | refine uw ?_ | refine uq ?_ _));exact BK308.out)):gb311 ≠ gb308));clear HO_4;clear BK308;clear HB;have HO_4:=n0_;have BK308:=n1_;have HB:=n2_;have BK311:=n3_;have GW311:=n4_;have GE311:=n5_;have NB308_311:=n6_;have NB311_308:=n7_;clear n0_ n1_ n2_ n3_ n4_ n5_ n6_ n7_;clear hb hbox hg;have hnb18:=NB311_308.out;have hnc18:=NB308_311.out;have hcz19_0:w17.cell? ⟨gb311,0,none⟩ = some (.string (⟨#[]⟩:ByteArray)):=(um BK311.out 0).trans rfl;have hcz19_1:w17.cell? ⟨gb311,1,none⟩ = some (.string (⟨#[]⟩:ByteArray)):=(um BK311.out 1).trans rfl;have hfz19_0:=uk BK311.out 0;have hfz19_1:=uk BK311.out 1) | (go_at_call 37;(with_reducible refine (ut.calls k1 t309 false _ A11.out).mono ?_);rintro e w' ⟨rfl,⟨nd,rfl⟩⟩;(try first | exact ⟨rfl,_,World.drewN_drewN _ _ _⟩ | exact ⟨rfl,_,Eq.trans (World.drewN_drewN _ _ _) (congrArg (World.drewN _) (Nat.add_assoc _ _ _))⟩)) | ((with_reducible refine u3f (b:=.append) (xs:=#[.tmp 28,.tmp 30]) rfl ?_);at_builtin;refine Kd.R_append k66 (w0:=w) w.heap.size rfl (.tmp 28) (.tmp 30) 50 66 (.agg #[(.string ⟨#[]⟩),(.string ⟨#[]⟩)]) 32 rfl Tryz.underlying50 info66 rfl (by decide) (by omega) u4 x4_1 (⟨(un l0_0 x16_1).f0,(un l0_0 x16_1).f1⟩:S66) [.string ((un l0_0 x16_1).f0),.string ((un l0_0 x16_1).f1)] (fun k_ => k_ ≠ gb311) (fun _ => False) rfl (by first | (go_simp;done) | (go_simp;rfl)) ?aP (fun _ hk => hk.elim) ?aF ?aO ?aB ?aS ?aL ?_;(case aP => exact k66_mkM _ _ _ (⟨(un l0_0 x16_1).f0,(un l0_0 x16_1).f1⟩:S66));(case aB => exact (by repeat (first | (with_reducible first | exact HB.out | apply ud | apply ub | apply uf | refine ux ?_ GE308.out | refine ux ?_ GE311.out) | exact HB.out)));(case aF => exact (fun k_ hk => Kd.freshB (g:=gb311) (o:=.cells #[.string ((un l0_0 x16_1).f0),.string ((un l0_0 x16_1).f1)] 66 (0,0)) (by (with_reducible repeat (first | refine us ?_ _ | refine uw ?_ | refine uq ?_ _));refine u2y (cs:=#[.string ((un l0_0 x16_1).f0),.string (⟨#[]⟩:ByteArray)]) ?_ 1 _ rfl;(with_reducible repeat (first | refine us ?_ _ | refine uw ?_ | refine uq ?_ _));refine u2y (cs:=#[.string (⟨#[]⟩:ByteArray),.string (⟨#[]⟩:ByteArray)]) ?_ 0 _ rfl;(with_reducible repeat (first | refine us ?_ _ | refine uw ?_ | refine uq ?_ _));exact BK311.out) k_ hk));(case aO => exact (by (with_reducible repeat (first | apply Kd.R_alloc | apply Kd.R_drewN | apply Kd.R_drew));exact Kd.R_mono (Kd.R_far (p:=⟨gb311,1,none⟩) (Kd.R_far (p:=⟨gb311,0,none⟩) (Kd.R_mono HO_4.out (fun k_ hk => (⟨hk,hk.2⟩:_ ∧ k_ ≠ gb311))) (fun _ hk => hk.2) (.string ((un l0_0 x16_1).f0))) (fun _ hk => hk.2) (.string ((un l0_0 x16_1).f1))) (fun _ hk => hk.1.2)));(case aS => exact (uz (by repeat (first | (with_reducible first | exact HB.out | apply ud | apply ub | apply uf | refine ux ?_ GE308.out | refine ux ?_ GE311.out) | exact HB.out))));(case aL => have:=LMc16.out;omega);intro v314 w20 ho hb hg hat;rw [← Ny313.out] at ho;have n0_:=Aside0.mk (u3i (g:=gb308) (o:=.cells #[.slice (some ad310) l0_0.length c0_0,.int .i64 a0_1,.int .u64 a0_2] 53 (0,0)) (by (with_reducible repeat (first | refine us ?_ _ | refine uw ?_ | refine uq ?_ _));refine blk_far ?_ NB308_311.out _;(with_reducible repeat (first | refine us ?_ _ | refine uw ?_ | refine uq ?_ _));refine blk_far ?_ NB308_311.out _;(with_reducible repeat (first | refine us ?_ _ | refine uw ?_ | refine uq ?_ _));exact BK308.out) hg (Kd.R_ne HO_4.out BK308.out (by decide)));have n1_:=Aside0.mk (u3i (g:=gb311) (o:=.cells #[.string ((un l0_0 x16_1).f0),.string ((un l0_0 x16_1).f1)] 66 (0,0)) (by (with_reducible repeat (first | refine us ?_ _ | refine uw ?_ | refine uq ?_ _));refine u2y (cs:=#[.string ((un l0_0 x16_1).f0),.string (⟨#[]⟩:ByteArray)]) ?_ 1 _ rfl;(with_reducible repeat (first | refine us ?_ _ | refine uw ?_ | refine uq ?_ _));refine u2y (cs:=#[.string (⟨#[]⟩:ByteArray),.string (⟨#[]⟩:ByteArray)]) ?_ 0 _ rfl;(with_reducible repeat (first | refine us ?_ _ | refine uw ?_ | refine uq ?_ _));exact BK311.out) hg (Kd.R_away HO_4.out (fun _ hk => hk.2)));have n2_:=Aside0.mk (hb);have n3_:=Aside0.mk (ho);clear BK308;clear BK311;clear HB;clear HO_4;have BK308:=n0_;have BK311:=n1_;have HB:=n2_;have HO315:=n3_;clear n0_ n1_ n2_ n3_;clear ho hb hg hat))
                repeat (go_quiet (first | ((with_reducible refine u2o (N:=6) rfl ?_);refine u2n ?hg (N:=6) ?hd (cs:=#[.string (⟨#[]⟩:ByteArray),.string (⟨#[]⟩:ByteArray)]) (t:=66) ?hr ?_;(case hd => rfl);(case hg => rfl);(case hr => first | (go_simp;done) | (go_simp;rfl));intro gb311 hg w17 hbox hb;have n0_:=Aside0.mk (Kd.R_below (Kd.R_elderB (by (with_reducible repeat (first | apply Kd.R_alloc | apply Kd.R_drewN | apply Kd.R_drew));exact HO_4.out) gb311 (Nat.le_of_eq hg.symm)) hb);have n1_:=Aside0.mk (u1z (g:=gb308) (o:=.cells #[.slice (some ad310) l0_0.length c0_0,.int .i64 a0_1,.int .u64 a0_2] 53 (0,0)) (by (with_reducible repeat (first | refine us ?_ _ | refine uw ?_ | refine uq ?_ _));exact BK308.out) hb);have n2_:=Aside0.mk (u1c (by repeat (first | (with_reducible first | exact HB.out | apply ud | apply ub | apply uf | refine ux ?_ GE308.out) | exact HB.out)) hb);have n3_:=Aside0.mk (hbox);have n4_:=Aside0.mk ((by rw [hg];exact (uz (by repeat (first | (with_reducible first | exact HB.out | apply ud | apply ub | apply uf | refine ux ?_ GE308.out) | exact HB.out))):w.heap.size ≤ gb311));have n5_:=Aside0.mk ((by rw [hg];exact (uz (by repeat (first | (with_reducible first | exact HB.out | apply ud | apply ub | apply uf | refine ux ?_ GE308.out) | exact HB.out))):w.heap.size ≤ gb311));have n6_:=Aside0.mk ((by rw [hg];exact Nat.ne_of_lt (u2u (g:=gb308) (o:=.cells #[.slice (some ad310) l0_0.length c0_0,.int .i64 a0_1,.int .u64 a0_2] 53 (0,0)) (by (with_reducible repeat (first | refine us ?_ _ | refine uw ?_ | refine uq ?_ _));exact BK308.out)):gb308 ≠ gb311));have n7_:=Aside0.mk ((by rw [hg];exact Nat.ne_of_gt (u2u (g:=gb308) (o:=.cells #[.slice (some ad310) l0_0.length c0_0,.int .i64 a0_1,.int .u64 a0_2] 53 (0,0)) (by (with_reducible repeat (first | refine us ?_ _ | refine uw ?_ | refine uq ?_ _));exact BK308.out)):gb311 ≠ gb308));clear HO_4;clear BK308;clear HB;have HO_4:=n0_;have BK308:=n1_;have HB:=n2_;have BK311:=n3_;have GW311:=n4_;have GE311:=n5_;have NB308_311:=n6_;have NB311_308:=n7_;clear n0_ n1_ n2_ n3_ n4_ n5_ n6_ n7_;clear hb hbox hg;have hnb18:=NB311_308.out;have hnc18:=NB308_311.out;have hcz19_0:w17.cell? ⟨gb311,0,none⟩ = some (.string (⟨#[]⟩:ByteArray)):=(um BK311.out 0).trans rfl;have hcz19_1:w17.cell? ⟨gb311,1,none⟩ = some (.string (⟨#[]⟩:ByteArray)):=(um BK311.out 1).trans rfl;have hfz19_0:=uk BK311.out 0;have hfz19_1:=uk BK311.out 1) | (go_at_call 37;(with_reducible refine (ut.calls k1 t309 false _ A11.out).mono ?_);rintro e w' ⟨rfl,⟨nd,rfl⟩⟩;(try first | exact ⟨rfl,_,World.drewN_drewN _ _ _⟩ | exact ⟨rfl,_,Eq.trans (World.drewN_drewN _ _ _) (congrArg (World.drewN _) (Nat.add_assoc _ _ _))⟩)) | ((with_reducible refine u3f (b:=.append) (xs:=#[.tmp 28,.tmp 30]) rfl ?_);at_builtin;refine Kd.R_append k66 (w0:=w) w.heap.size rfl (.tmp 28) (.tmp 30) 50 66 (.agg #[(.string ⟨#[]⟩),(.string ⟨#[]⟩)]) 32 rfl Tryz.underlying50 info66 rfl (by decide) (by omega) u4 x4_1 (⟨(un l0_0 x16_1).f0,(un l0_0 x16_1).f1⟩:S66) [.string ((un l0_0 x16_1).f0),.string ((un l0_0 x16_1).f1)] (fun k_ => k_ ≠ gb311) (fun _ => False) rfl (by first | (go_simp;done) | (go_simp;rfl)) ?aP (fun _ hk => hk.elim) ?aF ?aO ?aB ?aS ?aL ?_;(case aP => exact k66_mkM _ _ _ (⟨(un l0_0 x16_1).f0,(un l0_0 x16_1).f1⟩:S66));(case aB => exact (by repeat (first | (with_reducible first | exact HB.out | apply ud | apply ub | apply uf | refine ux ?_ GE308.out | refine ux ?_ GE311.out) | exact HB.out)));(case aF => exact (fun k_ hk => Kd.freshB (g:=gb311) (o:=.cells #[.string ((un l0_0 x16_1).f0),.string ((un l0_0 x16_1).f1)] 66 (0,0)) (by (with_reducible repeat (first | refine us ?_ _ | refine uw ?_ | refine uq ?_ _));refine u2y (cs:=#[.string ((un l0_0 x16_1).f0),.string (⟨#[]⟩:ByteArray)]) ?_ 1 _ rfl;(with_reducible repeat (first | refine us ?_ _ | refine uw ?_ | refine uq ?_ _));refine u2y (cs:=#[.string (⟨#[]⟩:ByteArray),.string (⟨#[]⟩:ByteArray)]) ?_ 0 _ rfl;(with_reducible repeat (first | refine us ?_ _ | refine uw ?_ | refine uq ?_ _));exact BK311.out) k_ hk));(case aO => exact (by (with_reducible repeat (first | apply Kd.R_alloc | apply Kd.R_drewN | apply Kd.R_drew));exact Kd.R_mono (Kd.R_far (p:=⟨gb311,1,none⟩) (Kd.R_far (p:=⟨gb311,0,none⟩) (Kd.R_mono HO_4.out (fun k_ hk => (⟨hk,hk.2⟩:_ ∧ k_ ≠ gb311))) (fun _ hk => hk.2) (.string ((un l0_0 x16_1).f0))) (fun _ hk => hk.2) (.string ((un l0_0 x16_1).f1))) (fun _ hk => hk.1.2)));(case aS => exact (uz (by repeat (first | (with_reducible first | exact HB.out | apply ud | apply ub | apply uf | refine ux ?_ GE308.out | refine ux ?_ GE311.out) | exact HB.out))));(case aL => have:=LMc16.out;omega);intro v314 w20 ho hb hg hat;rw [← Ny313.out] at ho;have n0_:=Aside0.mk (u3i (g:=gb308) (o:=.cells #[.slice (some ad310) l0_0.length c0_0,.int .i64 a0_1,.int .u64 a0_2] 53 (0,0)) (by (with_reducible repeat (first | refine us ?_ _ | refine uw ?_ | refine uq ?_ _));refine blk_far ?_ NB308_311.out _;(with_reducible repeat (first | refine us ?_ _ | refine uw ?_ | refine uq ?_ _));refine blk_far ?_ NB308_311.out _;(with_reducible repeat (first | refine us ?_ _ | refine uw ?_ | refine uq ?_ _));exact BK308.out) hg (Kd.R_ne HO_4.out BK308.out (by decide)));have n1_:=Aside0.mk (u3i (g:=gb311) (o:=.cells #[.string ((un l0_0 x16_1).f0),.string ((un l0_0 x16_1).f1)] 66 (0,0)) (by (with_reducible repeat (first | refine us ?_ _ | refine uw ?_ | refine uq ?_ _));refine u2y (cs:=#[.string ((un l0_0 x16_1).f0),.string (⟨#[]⟩:ByteArray)]) ?_ 1 _ rfl;(with_reducible repeat (first | refine us ?_ _ | refine uw ?_ | refine uq ?_ _));refine u2y (cs:=#[.string (⟨#[]⟩:ByteArray),.string (⟨#[]⟩:ByteArray)]) ?_ 0 _ rfl;(with_reducible repeat (first | refine us ?_ _ | refine uw ?_ | refine uq ?_ _));exact BK311.out) hg (Kd.R_away HO_4.out (fun _ hk => hk.2)));have n2_:=Aside0.mk (hb);have n3_:=Aside0.mk (ho);clear BK308;clear BK311;clear HB;clear HO_4;have BK308:=n0_;have BK311:=n1_;have HB:=n2_;have HO315:=n3_;clear n0_ n1_ n2_ n3_;clear ho hb hg hat));try go_wp2_with (first | ((with_reducible refine u2o (N:=6) rfl ?_);refine u2n ?hg (N:=6) ?hd (cs:=#[.string (⟨#[]⟩:ByteArray),.string (⟨#[]⟩:ByteArray)]) (t:=66) ?hr ?_;(case hd => rfl);(case hg => rfl);(case hr => first | (go_simp;done) | (go_simp;rfl));intro gb311 hg w17 hbox hb;have n0_:=Aside0.mk (Kd.R_below (Kd.R_elderB (by (with_reducible repeat (first | apply Kd.R_alloc | apply Kd.R_drewN | apply Kd.R_drew));exact HO_4.out) gb311 (Nat.le_of_eq hg.symm)) hb);have n1_:=Aside0.mk (u1z (g:=gb308) (o:=.cells #[.slice (some ad310) l0_0.length c0_0,.int .i64 a0_1,.int .u64 a0_2] 53 (0,0)) (by (with_reducible repeat (first | refine us ?_ _ | refine uw ?_ | refine uq ?_ _));exact BK308.out) hb);have n2_:=Aside0.mk (u1c (by repeat (first | (with_reducible first | exact HB.out | apply ud | apply ub | apply uf | refine ux ?_ GE308.out) | exact HB.out)) hb);have n3_:=Aside0.mk (hbox);have n4_:=Aside0.mk ((by rw [hg];exact (uz (by repeat (first | (with_reducible first | exact HB.out | apply ud | apply ub | apply uf | refine ux ?_ GE308.out) | exact HB.out))):w.heap.size ≤ gb311));have n5_:=Aside0.mk ((by rw [hg];exact (uz (by repeat (first | (with_reducible first | exact HB.out | apply ud | apply ub | apply uf | refine ux ?_ GE308.out) | exact HB.out))):w.heap.size ≤ gb311));have n6_:=Aside0.mk ((by rw [hg];exact Nat.ne_of_lt (u2u (g:=gb308) (o:=.cells #[.slice (some ad310) l0_0.length c0_0,.int .i64 a0_1,.int .u64 a0_2] 53 (0,0)) (by (with_reducible repeat (first | refine us ?_ _ | refine uw ?_ | refine uq ?_ _));exact BK308.out)):gb308 ≠ gb311));have n7_:=Aside0.mk ((by rw [hg];exact Nat.ne_of_gt (u2u (g:=gb308) (o:=.cells #[.slice (some ad310) l0_0.length c0_0,.int .i64 a0_1,.int .u64 a0_2] 53 (0,0)) (by (with_reducible repeat (first | refine us ?_ _ | refine uw ?_ | refine uq ?_ _));exact BK308.out)):gb311 ≠ gb308));clear HO_4;clear BK308;clear HB;have HO_4:=n0_;have BK308:=n1_;have HB:=n2_;have BK311:=n3_;have GW311:=n4_;have GE311:=n5_;have NB308_311:=n6_;have NB311_308:=n7_;clear n0_ n1_ n2_ n3_ n4_ n5_ n6_ n7_;clear hb hbox hg;have hnb18:=NB311_308.out;have hnc18:=NB308_311.out;have hcz19_0:w17.cell? ⟨gb311,0,none⟩ = some (.string (⟨#[]⟩:ByteArray)):=(um BK311.out 0).trans rfl;have hcz19_1:w17.cell? ⟨gb311,1,none⟩ = some (.string (⟨#[]⟩:ByteArray)):=(um BK311.out 1).trans rfl;have hfz19_0:=uk BK311.out 0;have hfz19_1:=uk BK311.out 1) | (go_at_call 37;(with_reducible refine (ut.calls k1 t309 false _ A11.out).mono ?_);rintro e w' ⟨rfl,⟨nd,rfl⟩⟩;(try first | exact ⟨rfl,_,World.drewN_drewN _ _ _⟩ | exact ⟨rfl,_,Eq.trans (World.drewN_drewN _ _ _) (congrArg (World.drewN _) (Nat.add_assoc _ _ _))⟩)) | ((with_reducible refine u3f (b:=.append) (xs:=#[.tmp 28,.tmp 30]) rfl ?_);at_builtin;refine Kd.R_append k66 (w0:=w) w.heap.size rfl (.tmp 28) (.tmp 30) 50 66 (.agg #[(.string ⟨#[]⟩),(.string ⟨#[]⟩)]) 32 rfl Tryz.underlying50 info66 rfl (by decide) (by omega) u4 x4_1 (⟨(un l0_0 x16_1).f0,(un l0_0 x16_1).f1⟩:S66) [.string ((un l0_0 x16_1).f0),.string ((un l0_0 x16_1).f1)] (fun k_ => k_ ≠ gb311) (fun _ => False) rfl (by first | (go_simp;done) | (go_simp;rfl)) ?aP (fun _ hk => hk.elim) ?aF ?aO ?aB ?aS ?aL ?_;(case aP => exact k66_mkM _ _ _ (⟨(un l0_0 x16_1).f0,(un l0_0 x16_1).f1⟩:S66));(case aB => exact (by repeat (first | (with_reducible first | exact HB.out | apply ud | apply ub | apply uf | refine ux ?_ GE308.out | refine ux ?_ GE311.out) | exact HB.out)));(case aF => exact (fun k_ hk => Kd.freshB (g:=gb311) (o:=.cells #[.string ((un l0_0 x16_1).f0),.string ((un l0_0 x16_1).f1)] 66 (0,0)) (by (with_reducible repeat (first | refine us ?_ _ | refine uw ?_ | refine uq ?_ _));refine u2y (cs:=#[.string ((un l0_0 x16_1).f0),.string (⟨#[]⟩:ByteArray)]) ?_ 1 _ rfl;(with_reducible repeat (first | refine us ?_ _ | refine uw ?_ | refine uq ?_ _));refine u2y (cs:=#[.string (⟨#[]⟩:ByteArray),.string (⟨#[]⟩:ByteArray)]) ?_ 0 _ rfl;(with_reducible repeat (first | refine us ?_ _ | refine uw ?_ | refine uq ?_ _));exact BK311.out) k_ hk));(case aO => exact (by (with_reducible repeat (first | apply Kd.R_alloc | apply Kd.R_drewN | apply Kd.R_drew));exact Kd.R_mono (Kd.R_far (p:=⟨gb311,1,none⟩) (Kd.R_far (p:=⟨gb311,0,none⟩) (Kd.R_mono HO_4.out (fun k_ hk => (⟨hk,hk.2⟩:_ ∧ k_ ≠ gb311))) (fun _ hk => hk.2) (.string ((un l0_0 x16_1).f0))) (fun _ hk => hk.2) (.string ((un l0_0 x16_1).f1))) (fun _ hk => hk.1.2)));(case aS => exact (uz (by repeat (first | (with_reducible first | exact HB.out | apply ud | apply ub | apply uf | refine ux ?_ GE308.out | refine ux ?_ GE311.out) | exact HB.out))));(case aL => have:=LMc16.out;omega);intro v314 w20 ho hb hg hat;rw [← Ny313.out] at ho;have n0_:=Aside0.mk (u3i (g:=gb308) (o:=.cells #[.slice (some ad310) l0_0.length c0_0,.int .i64 a0_1,.int .u64 a0_2] 53 (0,0)) (by (with_reducible repeat (first | refine us ?_ _ | refine uw ?_ | refine uq ?_ _));refine blk_far ?_ NB308_311.out _;(with_reducible repeat (first | refine us ?_ _ | refine uw ?_ | refine uq ?_ _));refine blk_far ?_ NB308_311.out _;(with_reducible repeat (first | refine us ?_ _ | refine uw ?_ | refine uq ?_ _));exact BK308.out) hg (Kd.R_ne HO_4.out BK308.out (by decide)));have n1_:=Aside0.mk (u3i (g:=gb311) (o:=.cells #[.string ((un l0_0 x16_1).f0),.string ((un l0_0 x16_1).f1)] 66 (0,0)) (by (with_reducible repeat (first | refine us ?_ _ | refine uw ?_ | refine uq ?_ _));refine u2y (cs:=#[.string ((un l0_0 x16_1).f0),.string (⟨#[]⟩:ByteArray)]) ?_ 1 _ rfl;(with_reducible repeat (first | refine us ?_ _ | refine uw ?_ | refine uq ?_ _));refine u2y (cs:=#[.string (⟨#[]⟩:ByteArray),.string (⟨#[]⟩:ByteArray)]) ?_ 0 _ rfl;(with_reducible repeat (first | refine us ?_ _ | refine uw ?_ | refine uq ?_ _));exact BK311.out) hg (Kd.R_away HO_4.out (fun _ hk => hk.2)));have n2_:=Aside0.mk (hb);have n3_:=Aside0.mk (ho);clear BK308;clear BK311;clear HB;clear HO_4;have BK308:=n0_;have BK311:=n1_;have HB:=n2_;have HO315:=n3_;clear n0_ n1_ n2_ n3_;clear ho hb hg hat)))
                go_roundg k1
                case measure => have:=HK1.out;omega
                case rel => exact ⟨(y313),(wrap64 (x16_1 + 1)),(by first | rfl | (simp;done) | (simp [*];done)),H',⟨by have:=HK1.out;omega⟩,⟨by (with_reducible repeat (first | apply Kd.R_alloc | apply Kd.R_drewN | apply Kd.R_drew));exact Kd.R_mono HO315.out (fun _ hk => trivial)⟩,⟨by (with_reducible repeat (first | refine us ?_ _ | refine uw ?_ | refine uq ?_ _));exact BK308.out⟩,⟨by repeat (first | (with_reducible first | exact HB.out | apply ud | apply ub | apply uf | refine ux ?_ GE308.out | refine ux ?_ GE311.out) | exact HB.out)⟩⟩
              · rw [if_neg c16] at H
                exact absurd H (by simp)
          · rw [if_neg c10] at H
            have c10b0:(((un l0_0 x16_1).f0).toList == ([95,95,110,97,109,101,95,95]:List UInt8)) = false:=beq_eq_false_iff_ne.mpr c10
            have c10b1:(((un l0_0 x16_1).f0).toList != ([95,95,110,97,109,101,95,95]:List UInt8)) = true:=bne_iff_ne.mpr c10
            by_cases c21:x4_1.length < 4398046511104
            · rw [if_pos c21] at H
              have LMc21:=Aside0.mk c21
              clear c21
              obtain ⟨y316,hy316⟩:∃ y_:List (S66),y_ = (x4_1 ++ [(⟨(un l0_0 x16_1).f0,(un l0_0 x16_1).f1⟩:S66)]):=⟨_,rfl⟩
              replace H:(u1h.l0 k1 t309 y316 l0_0 (l0_0.length:Int) (wrap64 (x16_1 + 1)) l0_0 a0_1 a0_2) = some r:=by first | (rw [hy316];with_reducible exact H) | (have H2_:=(Option.bind_some _ _).symm.trans H;rw [hy316];with_reducible exact H2_) | (have H2_:=(Option.bind_some _ _).symm.trans H;with_reducible exact H2_) | with_reducible exact H | (rw [hy316];exact H) | exact H
              have Ny316:=Aside0.mk hy316
              clear hy316
              have H':=Aside0.mk H
              clear H
              have p310:0 ≤ (x16_1:Int):=of_decide_eq_true (by first | (with_reducible assumption) | assumption)
              have q310:x16_1 < (l0_0.length:Int):=of_decide_eq_true (by first | (with_reducible assumption) | assumption)
              obtain ⟨ad310,e310,hx310_0,hx310_1⟩:=at_T66 HR0_0.out x16_1 p310 q310
              cases e310
              replace hx310_0:=(HB.out.cell (World.block_lt_of_cell? w _ hx310_0)).trans hx310_0
              replace hx310_1:=(HB.out.cell (World.block_lt_of_cell? w _ hx310_1)).trans hx310_1
              replace p310:=eq_true p310
              replace q310:=eq_true q310
              go_wp2_with (first | ((with_reducible refine u2o (N:=6) rfl ?_);refine u2n ?hg (N:=6) ?hd (cs:=#[.string (⟨#[]⟩:ByteArray),.string (⟨#[]⟩:ByteArray)]) (t:=66) ?hr ?_;(case hd => rfl);(case hg => rfl);(case hr => first | (go_simp;done) | (go_simp;rfl));intro gb311 hg w22 hbox hb;have n0_:=Aside0.mk (Kd.R_below (Kd.R_elderB (by (with_reducible repeat (first | apply Kd.R_alloc | apply Kd.R_drewN | apply Kd.R_drew));exact HO_4.out) gb311 (Nat.le_of_eq hg.symm)) hb);have n1_:=Aside0.mk (u1z (g:=gb308) (o:=.cells #[.slice (some ad310) l0_0.length c0_0,.int .i64 a0_1,.int .u64 a0_2] 53 (0,0)) (by (with_reducible repeat (first | refine us ?_ _ | refine uw ?_ | refine uq ?_ _));exact BK308.out) hb);have n2_:=Aside0.mk (u1c (by repeat (first | (with_reducible first | exact HB.out | apply ud | apply ub | apply uf | refine ux ?_ GE308.out) | exact HB.out)) hb);have n3_:=Aside0.mk (hbox);have n4_:=Aside0.mk ((by rw [hg];exact (uz (by repeat (first | (with_reducible first | exact HB.out | apply ud | apply ub | apply uf | refine ux ?_ GE308.out) | exact HB.out))):w.heap.size ≤ gb311));have n5_:=Aside0.mk ((by rw [hg];exact (uz (by repeat (first | (with_reducible first | exact HB.out | apply ud | apply ub | apply uf | refine ux ?_ GE308.out) | exact HB.out))):w.heap.size ≤ gb311));have n6_:=Aside0.mk ((by rw [hg];exact Nat.ne_of_lt (u2u (g:=gb308) (o:=.cells #[.slice (some ad310) l0_0.length c0_0,.int .i64 a0_1,.int .u64 a0_2] 53 (0,0)) (by (with_reducible repeat (first | refine us ?_ _ | refine uw ?_ | refine uq ?_ _));exact BK308.out)):gb308 ≠ gb311));have n7_:=Aside0.mk ((by rw [hg];exact Nat.ne_of_gt (u2u (g:=gb308) (o:=.cells #[.slice (some ad310) l0_0.length c0_0,.int .i64 a0_1,.int .u64 a0_2] 53 (0,0)) (by (with_reducible repeat (first | refine us ?_ _ | refine uw ?_ | refine uq ?_ _));exact BK308.out)):gb311 ≠ gb308));clear HO_4;clear BK308;clear HB;have HO_4:=n0_;have BK308:=n1_;have HB:=n2_;have BK311:=n3_;have GW311:=n4_;have GE311:=n5_;have NB308_311:=n6_;have NB311_308:=n7_;clear n0_ n1_ n2_ n3_ n4_ n5_ n6_ n7_;clear hb hbox hg;have hnb23:=NB311_308.out;have hnc23:=NB308_311.out;have hcz24_0:w22.cell? ⟨gb311,0,none⟩ = some (.string (⟨#[]⟩:ByteArray)):=(um BK311.out 0).trans rfl;have hcz24_1:w22.cell? ⟨gb311,1,none⟩ = some (.string (⟨#[]⟩:ByteArray)):=(um BK311.out 1).trans rfl;have hfz24_0:=uk BK311.out 0;have hfz24_1:=uk BK311.out 1) | ((with_reducible refine u3f (b:=.append) (xs:=#[.tmp 28,.tmp 30]) rfl ?_);at_builtin;refine Kd.R_append k66 (w0:=w) w.heap.size rfl (.tmp 28) (.tmp 30) 50 66 (.agg #[(.string ⟨#[]⟩),(.string ⟨#[]⟩)]) 32 rfl Tryz.underlying50 info66 rfl (by decide) (by omega) u4 x4_1 (⟨(un l0_0 x16_1).f0,(un l0_0 x16_1).f1⟩:S66) [.string ((un l0_0 x16_1).f0),.string ((un l0_0 x16_1).f1)] (fun k_ => k_ ≠ gb311) (fun _ => False) rfl (by first | (go_simp;done) | (go_simp;rfl)) ?aP (fun _ hk => hk.elim) ?aF ?aO ?aB ?aS ?aL ?_;(case aP => exact k66_mkM _ _ _ (⟨(un l0_0 x16_1).f0,(un l0_0 x16_1).f1⟩:S66));(case aB => exact (by repeat (first | (with_reducible first | exact HB.out | apply ud | apply ub | apply uf | refine ux ?_ GE308.out | refine ux ?_ GE311.out) | exact HB.out)));(case aF => exact (fun k_ hk => Kd.freshB (g:=gb311) (o:=.cells #[.string ((un l0_0 x16_1).f0),.string ((un l0_0 x16_1).f1)] 66 (0,0)) (by (with_reducible repeat (first | refine us ?_ _ | refine uw ?_ | refine uq ?_ _));refine u2y (cs:=#[.string ((un l0_0 x16_1).f0),.string (⟨#[]⟩:ByteArray)]) ?_ 1 _ rfl;(with_reducible repeat (first | refine us ?_ _ | refine uw ?_ | refine uq ?_ _));refine u2y (cs:=#[.string (⟨#[]⟩:ByteArray),.string (⟨#[]⟩:ByteArray)]) ?_ 0 _ rfl;(with_reducible repeat (first | refine us ?_ _ | refine uw ?_ | refine uq ?_ _));exact BK311.out) k_ hk));(case aO => exact (by (with_reducible repeat (first | apply Kd.R_alloc | apply Kd.R_drewN | apply Kd.R_drew));exact Kd.R_mono (Kd.R_far (p:=⟨gb311,1,none⟩) (Kd.R_far (p:=⟨gb311,0,none⟩) (Kd.R_mono HO_4.out (fun k_ hk => (⟨hk,hk.2⟩:_ ∧ k_ ≠ gb311))) (fun _ hk => hk.2) (.string ((un l0_0 x16_1).f0))) (fun _ hk => hk.2) (.string ((un l0_0 x16_1).f1))) (fun _ hk => hk.1.2)));(case aS => exact (uz (by repeat (first | (with_reducible first | exact HB.out | apply ud | apply ub | apply uf | refine ux ?_ GE308.out | refine ux ?_ GE311.out) | exact HB.out))));(case aL => have:=LMc21.out;omega);intro v317 w25 ho hb hg hat;rw [← Ny316.out] at ho;have n0_:=Aside0.mk (u3i (g:=gb308) (o:=.cells #[.slice (some ad310) l0_0.length c0_0,.int .i64 a0_1,.int .u64 a0_2] 53 (0,0)) (by (with_reducible repeat (first | refine us ?_ _ | refine uw ?_ | refine uq ?_ _));refine blk_far ?_ NB308_311.out _;(with_reducible repeat (first | refine us ?_ _ | refine uw ?_ | refine uq ?_ _));refine blk_far ?_ NB308_311.out _;(with_reducible repeat (first | refine us ?_ _ | refine uw ?_ | refine uq ?_ _));exact BK308.out) hg (Kd.R_ne HO_4.out BK308.out (by decide)));have n1_:=Aside0.mk (u3i (g:=gb311) (o:=.cells #[.string ((un l0_0 x16_1).f0),.string ((un l0_0 x16_1).f1)] 66 (0,0)) (by (with_reducible repeat (first | refine us ?_ _ | refine uw ?_ | refine uq ?_ _));refine u2y (cs:=#[.string ((un l0_0 x16_1).f0),.string (⟨#[]⟩:ByteArray)]) ?_ 1 _ rfl;(with_reducible repeat (first | refine us ?_ _ | refine uw ?_ | refine uq ?_ _));refine u2y (cs:=#[.string (⟨#[]⟩:ByteArray),.string (⟨#[]⟩:ByteArray)]) ?_ 0 _ rfl;(with_reducible repeat (first | refine us ?_ _ | refine uw ?_ | refine uq ?_ _));exact BK311.out) hg (Kd.R_away HO_4.out (fun _ hk => hk.2)));have n2_:=Aside0.mk (hb);have n3_:=Aside0.mk (ho);clear BK308;clear BK311;clear HB;clear HO_4;have BK308:=n0_;have BK311:=n1_;have HB:=n2_;have HO318:=n3_;clear n0_ n1_ n2_ n3_;clear ho hb hg hat))
              repeat (go_quiet (first | ((with_reducible refine u2o (N:=6) rfl ?_);refine u2n ?hg (N:=6) ?hd (cs:=#[.string (⟨#[]⟩:ByteArray),.string (⟨#[]⟩:ByteArray)]) (t:=66) ?hr ?_;(case hd => rfl);(case hg => rfl);(case hr => first | (go_simp;done) | (go_simp;rfl));intro gb311 hg w22 hbox hb;have n0_:=Aside0.mk (Kd.R_below (Kd.R_elderB (by (with_reducible repeat (first | apply Kd.R_alloc | apply Kd.R_drewN | apply Kd.R_drew));exact HO_4.out) gb311 (Nat.le_of_eq hg.symm)) hb);have n1_:=Aside0.mk (u1z (g:=gb308) (o:=.cells #[.slice (some ad310) l0_0.length c0_0,.int .i64 a0_1,.int .u64 a0_2] 53 (0,0)) (by (with_reducible repeat (first | refine us ?_ _ | refine uw ?_ | refine uq ?_ _));exact BK308.out) hb);have n2_:=Aside0.mk (u1c (by repeat (first | (with_reducible first | exact HB.out | apply ud | apply ub | apply uf | refine ux ?_ GE308.out) | exact HB.out)) hb);have n3_:=Aside0.mk (hbox);have n4_:=Aside0.mk ((by rw [hg];exact (uz (by repeat (first | (with_reducible first | exact HB.out | apply ud | apply ub | apply uf | refine ux ?_ GE308.out) | exact HB.out))):w.heap.size ≤ gb311));have n5_:=Aside0.mk ((by rw [hg];exact (uz (by repeat (first | (with_reducible first | exact HB.out | apply ud | apply ub | apply uf | refine ux ?_ GE308.out) | exact HB.out))):w.heap.size ≤ gb311));have n6_:=Aside0.mk ((by rw [hg];exact Nat.ne_of_lt (u2u (g:=gb308) (o:=.cells #[.slice (some ad310) l0_0.length c0_0,.int .i64 a0_1,.int .u64 a0_2] 53 (0,0)) (by (with_reducible repeat (first | refine us ?_ _ | refine uw ?_ | refine uq ?_ _));exact BK308.out)):gb308 ≠ gb311));have n7_:=Aside0.mk ((by rw [hg];exact Nat.ne_of_gt (u2u (g:=gb308) (o:=.cells #[.slice (some ad310) l0_0.length c0_0,.int .i64 a0_1,.int .u64 a0_2] 53 (0,0)) (by (with_reducible repeat (first | refine us ?_ _ | refine uw ?_ | refine uq ?_ _));exact BK308.out)):gb311 ≠ gb308));clear HO_4;clear BK308;clear HB;have HO_4:=n0_;have BK308:=n1_;have HB:=n2_;have BK311:=n3_;have GW311:=n4_;have GE311:=n5_;have NB308_311:=n6_;have NB311_308:=n7_;clear n0_ n1_ n2_ n3_ n4_ n5_ n6_ n7_;clear hb hbox hg;have hnb23:=NB311_308.out;have hnc23:=NB308_311.out;have hcz24_0:w22.cell? ⟨gb311,0,none⟩ = some (.string (⟨#[]⟩:ByteArray)):=(um BK311.out 0).trans rfl;have hcz24_1:w22.cell? ⟨gb311,1,none⟩ = some (.string (⟨#[]⟩:ByteArray)):=(um BK311.out 1).trans rfl;have hfz24_0:=uk BK311.out 0;have hfz24_1:=uk BK311.out 1) | ((with_reducible refine u3f (b:=.append) (xs:=#[.tmp 28,.tmp 30]) rfl ?_);at_builtin;refine Kd.R_append k66 (w0:=w) w.heap.size rfl (.tmp 28) (.tmp 30) 50 66 (.agg #[(.string ⟨#[]⟩),(.string ⟨#[]⟩)]) 32 rfl Tryz.underlying50 info66 rfl (by decide) (by omega) u4 x4_1 (⟨(un l0_0 x16_1).f0,(un l0_0 x16_1).f1⟩:S66) [.string ((un l0_0 x16_1).f0),.string ((un l0_0 x16_1).f1)] (fun k_ => k_ ≠ gb311) (fun _ => False) rfl (by first | (go_simp;done) | (go_simp;rfl)) ?aP (fun _ hk => hk.elim) ?aF ?aO ?aB ?aS ?aL ?_;(case aP => exact k66_mkM _ _ _ (⟨(un l0_0 x16_1).f0,(un l0_0 x16_1).f1⟩:S66));(case aB => exact (by repeat (first | (with_reducible first | exact HB.out | apply ud | apply ub | apply uf | refine ux ?_ GE308.out | refine ux ?_ GE311.out) | exact HB.out)));(case aF => exact (fun k_ hk => Kd.freshB (g:=gb311) (o:=.cells #[.string ((un l0_0 x16_1).f0),.string ((un l0_0 x16_1).f1)] 66 (0,0)) (by (with_reducible repeat (first | refine us ?_ _ | refine uw ?_ | refine uq ?_ _));refine u2y (cs:=#[.string ((un l0_0 x16_1).f0),.string (⟨#[]⟩:ByteArray)]) ?_ 1 _ rfl;(with_reducible repeat (first | refine us ?_ _ | refine uw ?_ | refine uq ?_ _));refine u2y (cs:=#[.string (⟨#[]⟩:ByteArray),.string (⟨#[]⟩:ByteArray)]) ?_ 0 _ rfl;(with_reducible repeat (first | refine us ?_ _ | refine uw ?_ | refine uq ?_ _));exact BK311.out) k_ hk));(case aO => exact (by (with_reducible repeat (first | apply Kd.R_alloc | apply Kd.R_drewN | apply Kd.R_drew));exact Kd.R_mono (Kd.R_far (p:=⟨gb311,1,none⟩) (Kd.R_far (p:=⟨gb311,0,none⟩) (Kd.R_mono HO_4.out (fun k_ hk => (⟨hk,hk.2⟩:_ ∧ k_ ≠ gb311))) (fun _ hk => hk.2) (.string ((un l0_0 x16_1).f0))) (fun _ hk => hk.2) (.string ((un l0_0 x16_1).f1))) (fun _ hk => hk.1.2)));(case aS => exact (uz (by repeat (first | (with_reducible first | exact HB.out | apply ud | apply ub | apply uf | refine ux ?_ GE308.out | refine ux ?_ GE311.out) | exact HB.out))));(case aL => have:=LMc21.out;omega);intro v317 w25 ho hb hg hat;rw [← Ny316.out] at ho;have n0_:=Aside0.mk (u3i (g:=gb308) (o:=.cells #[.slice (some ad310) l0_0.length c0_0,.int .i64 a0_1,.int .u64 a0_2] 53 (0,0)) (by (with_reducible repeat (first | refine us ?_ _ | refine uw ?_ | refine uq ?_ _));refine blk_far ?_ NB308_311.out _;(with_reducible repeat (first | refine us ?_ _ | refine uw ?_ | refine uq ?_ _));refine blk_far ?_ NB308_311.out _;(with_reducible repeat (first | refine us ?_ _ | refine uw ?_ | refine uq ?_ _));exact BK308.out) hg (Kd.R_ne HO_4.out BK308.out (by decide)));have n1_:=Aside0.mk (u3i (g:=gb311) (o:=.cells #[.string ((un l0_0 x16_1).f0),.string ((un l0_0 x16_1).f1)] 66 (0,0)) (by (with_reducible repeat (first | refine us ?_ _ | refine uw ?_ | refine uq ?_ _));refine u2y (cs:=#[.string ((un l0_0 x16_1).f0),.string (⟨#[]⟩:ByteArray)]) ?_ 1 _ rfl;(with_reducible repeat (first | refine us ?_ _ | refine uw ?_ | refine uq ?_ _));refine u2y (cs:=#[.string (⟨#[]⟩:ByteArray),.string (⟨#[]⟩:ByteArray)]) ?_ 0 _ rfl;(with_reducible repeat (first | refine us ?_ _ | refine uw ?_ | refine uq ?_ _));exact BK311.out) hg (Kd.R_away HO_4.out (fun _ hk => hk.2)));have n2_:=Aside0.mk (hb);have n3_:=Aside0.mk (ho);clear BK308;clear BK311;clear HB;clear HO_4;have BK308:=n0_;have BK311:=n1_;have HB:=n2_;have HO318:=n3_;clear n0_ n1_ n2_ n3_;clear ho hb hg hat));try go_wp2_with (first | ((with_reducible refine u2o (N:=6) rfl ?_);refine u2n ?hg (N:=6) ?hd (cs:=#[.string (⟨#[]⟩:ByteArray),.string (⟨#[]⟩:ByteArray)]) (t:=66) ?hr ?_;(case hd => rfl);(case hg => rfl);(case hr => first | (go_simp;done) | (go_simp;rfl));intro gb311 hg w22 hbox hb;have n0_:=Aside0.mk (Kd.R_below (Kd.R_elderB (by (with_reducible repeat (first | apply Kd.R_alloc | apply Kd.R_drewN | apply Kd.R_drew));exact HO_4.out) gb311 (Nat.le_of_eq hg.symm)) hb);have n1_:=Aside0.mk (u1z (g:=gb308) (o:=.cells #[.slice (some ad310) l0_0.length c0_0,.int .i64 a0_1,.int .u64 a0_2] 53 (0,0)) (by (with_reducible repeat (first | refine us ?_ _ | refine uw ?_ | refine uq ?_ _));exact BK308.out) hb);have n2_:=Aside0.mk (u1c (by repeat (first | (with_reducible first | exact HB.out | apply ud | apply ub | apply uf | refine ux ?_ GE308.out) | exact HB.out)) hb);have n3_:=Aside0.mk (hbox);have n4_:=Aside0.mk ((by rw [hg];exact (uz (by repeat (first | (with_reducible first | exact HB.out | apply ud | apply ub | apply uf | refine ux ?_ GE308.out) | exact HB.out))):w.heap.size ≤ gb311));have n5_:=Aside0.mk ((by rw [hg];exact (uz (by repeat (first | (with_reducible first | exact HB.out | apply ud | apply ub | apply uf | refine ux ?_ GE308.out) | exact HB.out))):w.heap.size ≤ gb311));have n6_:=Aside0.mk ((by rw [hg];exact Nat.ne_of_lt (u2u (g:=gb308) (o:=.cells #[.slice (some ad310) l0_0.length c0_0,.int .i64 a0_1,.int .u64 a0_2] 53 (0,0)) (by (with_reducible repeat (first | refine us ?_ _ | refine uw ?_ | refine uq ?_ _));exact BK308.out)):gb308 ≠ gb311));have n7_:=Aside0.mk ((by rw [hg];exact Nat.ne_of_gt (u2u (g:=gb308) (o:=.cells #[.slice (some ad310) l0_0.length c0_0,.int .i64 a0_1,.int .u64 a0_2] 53 (0,0)) (by (with_reducible repeat (first | refine us ?_ _ | refine uw ?_ | refine uq ?_ _));exact BK308.out)):gb311 ≠ gb308));clear HO_4;clear BK308;clear HB;have HO_4:=n0_;have BK308:=n1_;have HB:=n2_;have BK311:=n3_;have GW311:=n4_;have GE311:=n5_;have NB308_311:=n6_;have NB311_308:=n7_;clear n0_ n1_ n2_ n3_ n4_ n5_ n6_ n7_;clear hb hbox hg;have hnb23:=NB311_308.out;have hnc23:=NB308_311.out;have hcz24_0:w22.cell? ⟨gb311,0,none⟩ = some (.string (⟨#[]⟩:ByteArray)):=(um BK311.out 0).trans rfl;have hcz24_1:w22.cell? ⟨gb311,1,none⟩ = some (.string (⟨#[]⟩:ByteArray)):=(um BK311.out 1).trans rfl;have hfz24_0:=uk BK311.out 0;have hfz24_1:=uk BK311.out 1) | ((with_reducible refine u3f (b:=.append) (xs:=#[.tmp 28,.tmp 30]) rfl ?_);at_builtin;refine Kd.R_append k66 (w0:=w) w.heap.size rfl (.tmp 28) (.tmp 30) 50 66 (.agg #[(.string ⟨#[]⟩),(.string ⟨#[]⟩)]) 32 rfl Tryz.underlying50 info66 rfl (by decide) (by omega) u4 x4_1 (⟨(un l0_0 x16_1).f0,(un l0_0 x16_1).f1⟩:S66) [.string ((un l0_0 x16_1).f0),.string ((un l0_0 x16_1).f1)] (fun k_ => k_ ≠ gb311) (fun _ => False) rfl (by first | (go_simp;done) | (go_simp;rfl)) ?aP (fun _ hk => hk.elim) ?aF ?aO ?aB ?aS ?aL ?_;(case aP => exact k66_mkM _ _ _ (⟨(un l0_0 x16_1).f0,(un l0_0 x16_1).f1⟩:S66));(case aB => exact (by repeat (first | (with_reducible first | exact HB.out | apply ud | apply ub | apply uf | refine ux ?_ GE308.out | refine ux ?_ GE311.out) | exact HB.out)));(case aF => exact (fun k_ hk => Kd.freshB (g:=gb311) (o:=.cells #[.string ((un l0_0 x16_1).f0),.string ((un l0_0 x16_1).f1)] 66 (0,0)) (by (with_reducible repeat (first | refine us ?_ _ | refine uw ?_ | refine uq ?_ _));refine u2y (cs:=#[.string ((un l0_0 x16_1).f0),.string (⟨#[]⟩:ByteArray)]) ?_ 1 _ rfl;(with_reducible repeat (first | refine us ?_ _ | refine uw ?_ | refine uq ?_ _));refine u2y (cs:=#[.string (⟨#[]⟩:ByteArray),.string (⟨#[]⟩:ByteArray)]) ?_ 0 _ rfl;(with_reducible repeat (first | refine us ?_ _ | refine uw ?_ | refine uq ?_ _));exact BK311.out) k_ hk));(case aO => exact (by (with_reducible repeat (first | apply Kd.R_alloc | apply Kd.R_drewN | apply Kd.R_drew));exact Kd.R_mono (Kd.R_far (p:=⟨gb311,1,none⟩) (Kd.R_far (p:=⟨gb311,0,none⟩) (Kd.R_mono HO_4.out (fun k_ hk => (⟨hk,hk.2⟩:_ ∧ k_ ≠ gb311))) (fun _ hk => hk.2) (.string ((un l0_0 x16_1).f0))) (fun _ hk => hk.2) (.string ((un l0_0 x16_1).f1))) (fun _ hk => hk.1.2)));(case aS => exact (uz (by repeat (first | (with_reducible first | exact HB.out | apply ud | apply ub | apply uf | refine ux ?_ GE308.out | refine ux ?_ GE311.out) | exact HB.out))));(case aL => have:=LMc21.out;omega);intro v317 w25 ho hb hg hat;rw [← Ny316.out] at ho;have n0_:=Aside0.mk (u3i (g:=gb308) (o:=.cells #[.slice (some ad310) l0_0.length c0_0,.int .i64 a0_1,.int .u64 a0_2] 53 (0,0)) (by (with_reducible repeat (first | refine us ?_ _ | refine uw ?_ | refine uq ?_ _));refine blk_far ?_ NB308_311.out _;(with_reducible repeat (first | refine us ?_ _ | refine uw ?_ | refine uq ?_ _));refine blk_far ?_ NB308_311.out _;(with_reducible repeat (first | refine us ?_ _ | refine uw ?_ | refine uq ?_ _));exact BK308.out) hg (Kd.R_ne HO_4.out BK308.out (by decide)));have n1_:=Aside0.mk (u3i (g:=gb311) (o:=.cells #[.string ((un l0_0 x16_1).f0),.string ((un l0_0 x16_1).f1)] 66 (0,0)) (by (with_reducible repeat (first | refine us ?_ _ | refine uw ?_ | refine uq ?_ _));refine u2y (cs:=#[.string ((un l0_0 x16_1).f0),.string (⟨#[]⟩:ByteArray)]) ?_ 1 _ rfl;(with_reducible repeat (first | refine us ?_ _ | refine uw ?_ | refine uq ?_ _));refine u2y (cs:=#[.string (⟨#[]⟩:ByteArray),.string (⟨#[]⟩:ByteArray)]) ?_ 0 _ rfl;(with_reducible repeat (first | refine us ?_ _ | refine uw ?_ | refine uq ?_ _));exact BK311.out) hg (Kd.R_away HO_4.out (fun _ hk => hk.2)));have n2_:=Aside0.mk (hb);have n3_:=Aside0.mk (ho);clear BK308;clear BK311;clear HB;clear HO_4;have BK308:=n0_;have BK311:=n1_;have HB:=n2_;have HO318:=n3_;clear n0_ n1_ n2_ n3_;clear ho hb hg hat)))
              go_roundg k1
              case measure => have:=HK1.out;omega
              case rel => exact ⟨(y316),(wrap64 (x16_1 + 1)),(by first | rfl | (simp;done) | (simp [*];done)),H',⟨by have:=HK1.out;omega⟩,⟨by (with_reducible repeat (first | apply Kd.R_alloc | apply Kd.R_drewN | apply Kd.R_drew));exact Kd.R_mono HO318.out (fun _ hk => trivial)⟩,⟨by (with_reducible repeat (first | refine us ?_ _ | refine uw ?_ | refine uq ?_ _));exact BK308.out⟩,⟨by repeat (first | (with_reducible first | exact HB.out | apply ud | apply ub | apply uf | refine ux ?_ GE308.out | refine ux ?_ GE311.out) | exact HB.out)⟩⟩
            · rw [if_neg c21] at H
              exact absurd H (by simp)
        · rw [if_neg c9] at H
          exact absurd H (by simp)
      · rw [if_neg c8] at H
        exact absurd H (by simp)
    · rw [if_neg c7] at H
      have c7b0:decide (x16_1 < (l0_0.length:Int)) = false:=decide_eq_false c7
      clear c7
      replace H:=Option.bind_eq_some_iff.mp H
      obtain ⟨t319,A260,H⟩:=H
      replace H:(if t319 = true then (u1h.j1 k1 x4_1 t309 l0_0 a0_1 a0_2) else (u1h.j1 k1 x4_1 (⟨#[]⟩:ByteArray) l0_0 a0_1 a0_2)) = some r:=H
      have A26:=Aside0.mk A260
      clear A260
      have HC27:=Aside0.mk H
      clear H
      go_upto_if 34 with (first | (go_at_call 37;(with_reducible refine (ut.calls k1 t309 t319 _ A26.out).mono ?_);rintro e w' ⟨rfl,⟨nd,rfl⟩⟩;(try first | exact ⟨rfl,_,World.drewN_drewN _ _ _⟩ | exact ⟨rfl,_,Eq.trans (World.drewN_drewN _ _ _) (congrArg (World.drewN _) (Nat.add_assoc _ _ _))⟩)))
      repeat (go_quiet (first | (go_at_call 37;(with_reducible refine (ut.calls k1 t309 t319 _ A26.out).mono ?_);rintro e w' ⟨rfl,⟨nd,rfl⟩⟩;(try first | exact ⟨rfl,_,World.drewN_drewN _ _ _⟩ | exact ⟨rfl,_,Eq.trans (World.drewN_drewN _ _ _) (congrArg (World.drewN _) (Nat.add_assoc _ _ _))⟩)));go_upto_if 34 with (first | (go_at_call 37;(with_reducible refine (ut.calls k1 t309 t319 _ A26.out).mono ?_);rintro e w' ⟨rfl,⟨nd,rfl⟩⟩;(try first | exact ⟨rfl,_,World.drewN_drewN _ _ _⟩ | exact ⟨rfl,_,Eq.trans (World.drewN_drewN _ _ _) (congrArg (World.drewN _) (Nat.add_assoc _ _ _))⟩))))
      (try simp only [Act.put,List.setIfInBounds_toArray,List.set_cons_zero,List.set_cons_succ])
      go_cut [7] (fun v7 wc => ∃ (kq:Nat) (x7_26:ByteArray),v7 = .string x7_26 ∧ Aside0 (u1h.j1 kq x4_1 x7_26 l0_0 a0_1 a0_2 = some r) ∧ Aside0 (kq ≤ k1) ∧ Aside0 (Kd.R k66 66 wc w.heap.size (fun _ => True) u4 x4_1) ∧ Aside0 (wc.heap[gb308]? = some (.cells #[(.slice A0_0 l0_0.length c0_0),.int .i64 a0_1,.int .u64 a0_2] 53 (0,0))) ∧ Aside0 (Below w.heap.size w wc))
      case first =>
       have H:=HC27.out
       clear HC27
       by_cases c28:t319 = true
       · subst c28
         have H1:(u1h.j1 k1 x4_1 t309 l0_0 a0_1 a0_2) = some r:=by rw [if_pos rfl] at H;exact H
         clear H
         have H:=H1
         clear H1
         have H':=Aside0.mk H
         clear H
         go_wp2
         repeat (go_quiet (fail);try go_wp2)
         go_meet
         case rel => exact ⟨_,(t309),(by first | rfl | (simp;done) | (simp [*];done)),H',⟨by have:=HK1.out;first | omega | exact Nat.le_refl _⟩,⟨by (with_reducible repeat (first | apply Kd.R_alloc | apply Kd.R_drewN | apply Kd.R_drew));exact HO_4.out⟩,⟨by (with_reducible repeat (first | refine us ?_ _ | refine uw ?_ | refine uq ?_ _));exact BK308.out⟩,⟨by repeat (first | (with_reducible first | exact HB.out | apply ud | apply ub | apply uf | refine ux ?_ GE308.out) | exact HB.out)⟩⟩
       · replace c28:=Bool.eq_false_iff.mpr c28
         subst c28
         have H1:(u1h.j1 k1 x4_1 (⟨#[]⟩:ByteArray) l0_0 a0_1 a0_2) = some r:=by rw [if_neg (show ¬ (false = true) by decide)] at H;exact H
         clear H
         have H:=H1
         clear H1
         have H':=Aside0.mk H
         clear H
         go_wp2
         repeat (go_quiet (fail);try go_wp2)
         go_meet
         case rel => exact ⟨_,((⟨#[]⟩:ByteArray)),(by first | rfl | (simp;done) | (simp [*];done)),H',⟨by have:=HK1.out;first | omega | exact Nat.le_refl _⟩,⟨by (with_reducible repeat (first | apply Kd.R_alloc | apply Kd.R_drewN | apply Kd.R_drew));exact HO_4.out⟩,⟨by (with_reducible repeat (first | refine us ?_ _ | refine uw ?_ | refine uq ?_ _));exact BK308.out⟩,⟨by repeat (first | (with_reducible first | exact HB.out | apply ud | apply ub | apply uf | refine ux ?_ GE308.out) | exact HB.out)⟩⟩
      case rest =>
       clear HC27
       try clear c1
       try clear c2
       try clear p2
       try clear p3
       try clear q3
       try clear hx3
       try clear c4
       try clear p6
       try clear c7
       try clear c7b0
       try clear c8
       try clear c8b0
       try clear c9
       try clear c9b0
       try clear c10
       try clear c10b0
       try clear c10b1
       try clear c12
       try clear c14
       try clear c16
       try clear c18
       try clear c21
       try clear c23
       try clear c28
       try clear hcz15_0
       try clear hcz15_1
       try clear hcz19_0
       try clear hcz19_1
       try clear hcz24_0
       try clear hcz24_1
       try clear hcz4_0
       try clear hcz4_1
       try clear hcz4_2
       try clear hcz6_0
       try clear hcz6_1
       try clear hcz6_2
       try clear hfz15_0
       try clear hfz15_1
       try clear hfz19_0
       try clear hfz19_1
       try clear hfz24_0
       try clear hfz24_1
       try clear hfz4_0
       try clear hfz4_1
       try clear hfz4_2
       try clear hfz6_0
       try clear hfz6_1
       try clear hfz6_2
       try clear hx310_0
       try clear hx310_1
       try clear p2
       try clear p310
       try clear q310
       obtain ⟨kq,x7_26,rfl,HA,HJ26,HO_4,BK308,HB⟩:=hcut
       cases kq with
       | zero => exact absurd HA.out (by simp [u1h.j1])
       | succ kj26 =>
         have H:=HA.out
         clear HA
         simp only [u1h.j1] at H
         by_cases c29:(x4_1.length:Int) > 0
         · rw [if_pos c29] at H
           have c29b0:decide (0 < (x4_1.length:Int)) = true:=decide_eq_true c29
           have c29b1:decide (0 < x4_1.length) = true:=decide_eq_true (by omega)
           clear c29
           replace H:=Option.bind_eq_some_iff.mp H
           obtain ⟨⟨t320,t321⟩,A300,H⟩:=H
           replace H:(if x7_26.size + t320.size ≤ 9223372036854775807 then (if (x7_26 ++ t320).size + 1 ≤ 9223372036854775807 then ((u1f.f kj26 a0_2).bind fun t322 => (if ((x7_26 ++ t320) ++ (⟨#[32]⟩:ByteArray)).size + t322.size ≤ 9223372036854775807 then (if (((x7_26 ++ t320) ++ (⟨#[32]⟩:ByteArray)) ++ t322).size + 1 ≤ 9223372036854775807 then ((u2c.f kj26 a0_1).bind fun t323 => (if ((((x7_26 ++ t320) ++ (⟨#[32]⟩:ByteArray)) ++ t322) ++ (⟨#[32]⟩:ByteArray)).size + t323.size ≤ 9223372036854775807 then (if (((((x7_26 ++ t320) ++ (⟨#[32]⟩:ByteArray)) ++ t322) ++ (⟨#[32]⟩:ByteArray)) ++ t323).size + 1 ≤ 9223372036854775807 then (some ((((((x7_26 ++ t320) ++ (⟨#[32]⟩:ByteArray)) ++ t322) ++ (⟨#[32]⟩:ByteArray)) ++ t323) ++ (⟨#[10]⟩:ByteArray))) else (none)) else (none))) else (none)) else (none))) else (none)) else (none)) = some r:=H
           have A30:=Aside0.mk A300
           clear A300
           by_cases c31:x7_26.size + t320.size ≤ 9223372036854775807
           · rw [if_pos c31] at H
             have c31b0:=eq_true c31
             have c31b1:decide (x7_26.size + t320.size ≤ 9223372036854775807) = true:=decide_eq_true c31
             try have c31b2:(9223372036854775807 < x7_26.size + t320.size) = False:=eq_false (Nat.not_lt.2 c31)
             try (have c31b3:=c31b2;simp only [ByteArray.size_append,Base.size1,(show ∀ a_ b_:UInt8,(⟨#[a_,b_]⟩:ByteArray).size = 2 from fun _ _ => rfl)] at c31b3)
             by_cases c32:(x7_26 ++ t320).size + 1 ≤ 9223372036854775807
             · rw [if_pos c32] at H
               have c32b0:=eq_true c32
               have c32b1:decide ((x7_26 ++ t320).size + 1 ≤ 9223372036854775807) = true:=decide_eq_true c32
               try have c32b2:(9223372036854775807 < (x7_26 ++ t320).size + 1) = False:=eq_false (Nat.not_lt.2 c32)
               try (have c32b3:=c32b2;simp only [ByteArray.size_append,Base.size1,(show ∀ a_ b_:UInt8,(⟨#[a_,b_]⟩:ByteArray).size = 2 from fun _ _ => rfl)] at c32b3)
               replace H:=Option.bind_eq_some_iff.mp H
               obtain ⟨t322,A330,H⟩:=H
               replace H:(if ((x7_26 ++ t320) ++ (⟨#[32]⟩:ByteArray)).size + t322.size ≤ 9223372036854775807 then (if (((x7_26 ++ t320) ++ (⟨#[32]⟩:ByteArray)) ++ t322).size + 1 ≤ 9223372036854775807 then ((u2c.f kj26 a0_1).bind fun t323 => (if ((((x7_26 ++ t320) ++ (⟨#[32]⟩:ByteArray)) ++ t322) ++ (⟨#[32]⟩:ByteArray)).size + t323.size ≤ 9223372036854775807 then (if (((((x7_26 ++ t320) ++ (⟨#[32]⟩:ByteArray)) ++ t322) ++ (⟨#[32]⟩:ByteArray)) ++ t323).size + 1 ≤ 9223372036854775807 then (some ((((((x7_26 ++ t320) ++ (⟨#[32]⟩:ByteArray)) ++ t322) ++ (⟨#[32]⟩:ByteArray)) ++ t323) ++ (⟨#[10]⟩:ByteArray))) else (none)) else (none))) else (none)) else (none)) = some r:=H
               have A33:=Aside0.mk A330
               clear A330
               by_cases c34:((x7_26 ++ t320) ++ (⟨#[32]⟩:ByteArray)).size + t322.size ≤ 9223372036854775807
               · rw [if_pos c34] at H
                 have c34b0:=eq_true c34
                 have c34b1:decide (((x7_26 ++ t320) ++ (⟨#[32]⟩:ByteArray)).size + t322.size ≤ 9223372036854775807) = true:=decide_eq_true c34
                 try have c34b2:(9223372036854775807 < ((x7_26 ++ t320) ++ (⟨#[32]⟩:ByteArray)).size + t322.size) = False:=eq_false (Nat.not_lt.2 c34)
                 try (have c34b3:=c34b2;simp only [ByteArray.size_append,Base.size1,(show ∀ a_ b_:UInt8,(⟨#[a_,b_]⟩:ByteArray).size = 2 from fun _ _ => rfl)] at c34b3)
                 by_cases c35:(((x7_26 ++ t320) ++ (⟨#[32]⟩:ByteArray)) ++ t322).size + 1 ≤ 9223372036854775807
                 · rw [if_pos c35] at H
                   have c35b0:=eq_true c35
                   have c35b1:decide ((((x7_26 ++ t320) ++ (⟨#[32]⟩:ByteArray)) ++ t322).size + 1 ≤ 9223372036854775807) = true:=decide_eq_true c35
                   try have c35b2:(9223372036854775807 < (((x7_26 ++ t320) ++ (⟨#[32]⟩:ByteArray)) ++ t322).size + 1) = False:=eq_false (Nat.not_lt.2 c35)
                   try (have c35b3:=c35b2;simp only [ByteArray.size_append,Base.size1,(show ∀ a_ b_:UInt8,(⟨#[a_,b_]⟩:ByteArray).size = 2 from fun _ _ => rfl)] at c35b3)
                   replace H:=Option.bind_eq_some_iff.mp H
                   obtain ⟨t323,A360,H⟩:=H
                   replace H:(if ((((x7_26 ++ t320) ++ (⟨#[32]⟩:ByteArray)) ++ t322) ++ (⟨#[32]⟩:ByteArray)).size + t323.size ≤ 9223372036854775807 then (if (((((x7_26 ++ t320) ++ (⟨#[32]⟩:ByteArray)) ++ t322) ++ (⟨#[32]⟩:ByteArray)) ++ t323).size + 1 ≤ 9223372036854775807 then (some ((((((x7_26 ++ t320) ++ (⟨#[32]⟩:ByteArray)) ++ t322) ++ (⟨#[32]⟩:ByteArray)) ++ t323) ++ (⟨#[10]⟩:ByteArray))) else (none)) else (none)) = some r:=H
                   have A36:=Aside0.mk A360
                   clear A360
                   by_cases c37:((((x7_26 ++ t320) ++ (⟨#[32]⟩:ByteArray)) ++ t322) ++ (⟨#[32]⟩:ByteArray)).size + t323.size ≤ 9223372036854775807
                   · rw [if_pos c37] at H
                     have c37b0:=eq_true c37
                     have c37b1:decide (((((x7_26 ++ t320) ++ (⟨#[32]⟩:ByteArray)) ++ t322) ++ (⟨#[32]⟩:ByteArray)).size + t323.size ≤ 9223372036854775807) = true:=decide_eq_true c37
                     try have c37b2:(9223372036854775807 < ((((x7_26 ++ t320) ++ (⟨#[32]⟩:ByteArray)) ++ t322) ++ (⟨#[32]⟩:ByteArray)).size + t323.size) = False:=eq_false (Nat.not_lt.2 c37)
                     try (have c37b3:=c37b2;simp only [ByteArray.size_append,Base.size1,(show ∀ a_ b_:UInt8,(⟨#[a_,b_]⟩:ByteArray).size = 2 from fun _ _ => rfl)] at c37b3)
                     by_cases c38:(((((x7_26 ++ t320) ++ (⟨#[32]⟩:ByteArray)) ++ t322) ++ (⟨#[32]⟩:ByteArray)) ++ t323).size + 1 ≤ 9223372036854775807
                     · rw [if_pos c38] at H
                       have c38b0:=eq_true c38
                       have c38b1:decide ((((((x7_26 ++ t320) ++ (⟨#[32]⟩:ByteArray)) ++ t322) ++ (⟨#[32]⟩:ByteArray)) ++ t323).size + 1 ≤ 9223372036854775807) = true:=decide_eq_true c38
                       try have c38b2:(9223372036854775807 < (((((x7_26 ++ t320) ++ (⟨#[32]⟩:ByteArray)) ++ t322) ++ (⟨#[32]⟩:ByteArray)) ++ t323).size + 1) = False:=eq_false (Nat.not_lt.2 c38)
                       try (have c38b3:=c38b2;simp only [ByteArray.size_append,Base.size1,(show ∀ a_ b_:UInt8,(⟨#[a_,b_]⟩:ByteArray).size = 2 from fun _ _ => rfl)] at c38b3)
                       obtain rfl:=Option.some.inj H
                       obtain ⟨Ao39,co39,eo39⟩:=Kd.R_slice HO_4.out
                       subst eo39
                       go_wp2_with (first | (go_at_call 72;(with_reducible refine (u1v.calls kj26 _ _ x4_1 t320 t321 _ ?side1 ?side2 A30.out).mono ?_);(case side1 => repeat (first | exact (Kd.R_reads' HO_4.out).2.2 | (with_reducible refine Kd.C_alloc ?_ _) | (with_reducible refine Kd.C_drewN ?_ _) | (with_reducible refine Kd.C_drew ?_)));(case side2 => exact (Kd.R_reads' HO_4.out).2.1);rintro e w40 ⟨rfl,hb⟩;have n0_:=Aside0.mk (Kd.R_below (by (with_reducible repeat (first | apply Kd.R_alloc | apply Kd.R_drewN | apply Kd.R_drew));exact HO_4.out) hb);have n1_:=Aside0.mk (u1z (g:=gb308) (o:=.cells #[.slice A0_0 l0_0.length c0_0,.int .i64 a0_1,.int .u64 a0_2] 53 (0,0)) (by (with_reducible repeat (first | refine us ?_ _ | refine uw ?_ | refine uq ?_ _));exact BK308.out) hb);have n2_:=Aside0.mk (u1c (by repeat (first | (with_reducible first | exact HB.out | apply ud | apply ub | apply uf | refine ux ?_ GE308.out) | exact HB.out)) hb);clear HO_4;clear BK308;clear HB;have HO_4:=n0_;have BK308:=n1_;have HB:=n2_;clear n0_ n1_ n2_;(try clear hb);(try clear hb2);(try clear hk);(try clear hi);have hcz41_0:w40.cell? ⟨gb308,0,none⟩ = some (.slice A0_0 l0_0.length c0_0):=(um BK308.out 0).trans rfl;have hcz41_1:w40.cell? ⟨gb308,1,none⟩ = some (.int .i64 a0_1):=(um BK308.out 1).trans rfl;have hcz41_2:w40.cell? ⟨gb308,2,none⟩ = some (.int .u64 a0_2):=(um BK308.out 2).trans rfl;have hfz41_0:=uk BK308.out 0;have hfz41_1:=uk BK308.out 1;have hfz41_2:=uk BK308.out 2) | (go_at_call 73;(with_reducible refine (u1f.calls kj26 a0_2 t322 _ A33.out).mono ?_);rintro e w' ⟨rfl,⟨nd,rfl⟩⟩;(try first | exact ⟨rfl,_,World.drewN_drewN _ _ _⟩ | exact ⟨rfl,_,Eq.trans (World.drewN_drewN _ _ _) (congrArg (World.drewN _) (Nat.add_assoc _ _ _))⟩)) | (go_at_call 74;(with_reducible refine (u2c.calls kj26 a0_1 t323 _ A36.out).mono ?_);rintro e w' ⟨rfl,⟨nd,rfl⟩⟩;(try first | exact ⟨rfl,_,World.drewN_drewN _ _ _⟩ | exact ⟨rfl,_,Eq.trans (World.drewN_drewN _ _ _) (congrArg (World.drewN _) (Nat.add_assoc _ _ _))⟩)))
                       repeat (go_quiet (first | (go_at_call 72;(with_reducible refine (u1v.calls kj26 _ _ x4_1 t320 t321 _ ?side1 ?side2 A30.out).mono ?_);(case side1 => repeat (first | exact (Kd.R_reads' HO_4.out).2.2 | (with_reducible refine Kd.C_alloc ?_ _) | (with_reducible refine Kd.C_drewN ?_ _) | (with_reducible refine Kd.C_drew ?_)));(case side2 => exact (Kd.R_reads' HO_4.out).2.1);rintro e w40 ⟨rfl,hb⟩;have n0_:=Aside0.mk (Kd.R_below (by (with_reducible repeat (first | apply Kd.R_alloc | apply Kd.R_drewN | apply Kd.R_drew));exact HO_4.out) hb);have n1_:=Aside0.mk (u1z (g:=gb308) (o:=.cells #[.slice A0_0 l0_0.length c0_0,.int .i64 a0_1,.int .u64 a0_2] 53 (0,0)) (by (with_reducible repeat (first | refine us ?_ _ | refine uw ?_ | refine uq ?_ _));exact BK308.out) hb);have n2_:=Aside0.mk (u1c (by repeat (first | (with_reducible first | exact HB.out | apply ud | apply ub | apply uf | refine ux ?_ GE308.out) | exact HB.out)) hb);clear HO_4;clear BK308;clear HB;have HO_4:=n0_;have BK308:=n1_;have HB:=n2_;clear n0_ n1_ n2_;(try clear hb);(try clear hb2);(try clear hk);(try clear hi);have hcz41_0:w40.cell? ⟨gb308,0,none⟩ = some (.slice A0_0 l0_0.length c0_0):=(um BK308.out 0).trans rfl;have hcz41_1:w40.cell? ⟨gb308,1,none⟩ = some (.int .i64 a0_1):=(um BK308.out 1).trans rfl;have hcz41_2:w40.cell? ⟨gb308,2,none⟩ = some (.int .u64 a0_2):=(um BK308.out 2).trans rfl;have hfz41_0:=uk BK308.out 0;have hfz41_1:=uk BK308.out 1;have hfz41_2:=uk BK308.out 2) | (go_at_call 73;(with_reducible refine (u1f.calls kj26 a0_2 t322 _ A33.out).mono ?_);rintro e w' ⟨rfl,⟨nd,rfl⟩⟩;(try first | exact ⟨rfl,_,World.drewN_drewN _ _ _⟩ | exact ⟨rfl,_,Eq.trans (World.drewN_drewN _ _ _) (congrArg (World.drewN _) (Nat.add_assoc _ _ _))⟩)) | (go_at_call 74;(with_reducible refine (u2c.calls kj26 a0_1 t323 _ A36.out).mono ?_);rintro e w' ⟨rfl,⟨nd,rfl⟩⟩;(try first | exact ⟨rfl,_,World.drewN_drewN _ _ _⟩ | exact ⟨rfl,_,Eq.trans (World.drewN_drewN _ _ _) (congrArg (World.drewN _) (Nat.add_assoc _ _ _))⟩)));try go_wp2_with (first | (go_at_call 72;(with_reducible refine (u1v.calls kj26 _ _ x4_1 t320 t321 _ ?side1 ?side2 A30.out).mono ?_);(case side1 => repeat (first | exact (Kd.R_reads' HO_4.out).2.2 | (with_reducible refine Kd.C_alloc ?_ _) | (with_reducible refine Kd.C_drewN ?_ _) | (with_reducible refine Kd.C_drew ?_)));(case side2 => exact (Kd.R_reads' HO_4.out).2.1);rintro e w40 ⟨rfl,hb⟩;have n0_:=Aside0.mk (Kd.R_below (by (with_reducible repeat (first | apply Kd.R_alloc | apply Kd.R_drewN | apply Kd.R_drew));exact HO_4.out) hb);have n1_:=Aside0.mk (u1z (g:=gb308) (o:=.cells #[.slice A0_0 l0_0.length c0_0,.int .i64 a0_1,.int .u64 a0_2] 53 (0,0)) (by (with_reducible repeat (first | refine us ?_ _ | refine uw ?_ | refine uq ?_ _));exact BK308.out) hb);have n2_:=Aside0.mk (u1c (by repeat (first | (with_reducible first | exact HB.out | apply ud | apply ub | apply uf | refine ux ?_ GE308.out) | exact HB.out)) hb);clear HO_4;clear BK308;clear HB;have HO_4:=n0_;have BK308:=n1_;have HB:=n2_;clear n0_ n1_ n2_;(try clear hb);(try clear hb2);(try clear hk);(try clear hi);have hcz41_0:w40.cell? ⟨gb308,0,none⟩ = some (.slice A0_0 l0_0.length c0_0):=(um BK308.out 0).trans rfl;have hcz41_1:w40.cell? ⟨gb308,1,none⟩ = some (.int .i64 a0_1):=(um BK308.out 1).trans rfl;have hcz41_2:w40.cell? ⟨gb308,2,none⟩ = some (.int .u64 a0_2):=(um BK308.out 2).trans rfl;have hfz41_0:=uk BK308.out 0;have hfz41_1:=uk BK308.out 1;have hfz41_2:=uk BK308.out 2) | (go_at_call 73;(with_reducible refine (u1f.calls kj26 a0_2 t322 _ A33.out).mono ?_);rintro e w' ⟨rfl,⟨nd,rfl⟩⟩;(try first | exact ⟨rfl,_,World.drewN_drewN _ _ _⟩ | exact ⟨rfl,_,Eq.trans (World.drewN_drewN _ _ _) (congrArg (World.drewN _) (Nat.add_assoc _ _ _))⟩)) | (go_at_call 74;(with_reducible refine (u2c.calls kj26 a0_1 t323 _ A36.out).mono ?_);rintro e w' ⟨rfl,⟨nd,rfl⟩⟩;(try first | exact ⟨rfl,_,World.drewN_drewN _ _ _⟩ | exact ⟨rfl,_,Eq.trans (World.drewN_drewN _ _ _) (congrArg (World.drewN _) (Nat.add_assoc _ _ _))⟩))))
                       go_ret
                       exact ⟨by first | rfl | (simp [u1x,u1y] <;> rfl) | (simp [*,u1x,u1y] <;> rfl),by repeat (first | (with_reducible first | exact HB.out | apply ud | apply ub | apply uf | refine ux ?_ GE308.out) | exact HB.out)⟩
                     · rw [if_neg c38] at H
                       exact absurd H (by simp)
                   · rw [if_neg c37] at H
                     exact absurd H (by simp)
                 · rw [if_neg c35] at H
                   exact absurd H (by simp)
               · rw [if_neg c34] at H
                 exact absurd H (by simp)
             · rw [if_neg c32] at H
               exact absurd H (by simp)
           · rw [if_neg c31] at H
             exact absurd H (by simp)
         · rw [if_neg c29] at H
           have c29b0:decide (0 < (x4_1.length:Int)) = false:=decide_eq_false c29
           have c29b1:decide (0 < x4_1.length) = false:=decide_eq_false (by omega)
           clear c29
           by_cases c42:x7_26.size + 1 ≤ 9223372036854775807
           · rw [if_pos c42] at H
             have c42b0:=eq_true c42
             have c42b1:decide (x7_26.size + 1 ≤ 9223372036854775807) = true:=decide_eq_true c42
             try have c42b2:(9223372036854775807 < x7_26.size + 1) = False:=eq_false (Nat.not_lt.2 c42)
             try (have c42b3:=c42b2;simp only [ByteArray.size_append,Base.size1,(show ∀ a_ b_:UInt8,(⟨#[a_,b_]⟩:ByteArray).size = 2 from fun _ _ => rfl)] at c42b3)
             replace H:=Option.bind_eq_some_iff.mp H
             obtain ⟨t324,A430,H⟩:=H
             replace H:(if (x7_26 ++ (⟨#[32]⟩:ByteArray)).size + t324.size ≤ 9223372036854775807 then (if ((x7_26 ++ (⟨#[32]⟩:ByteArray)) ++ t324).size + 1 ≤ 9223372036854775807 then ((u2c.f kj26 a0_1).bind fun t325 => (if (((x7_26 ++ (⟨#[32]⟩:ByteArray)) ++ t324) ++ (⟨#[32]⟩:ByteArray)).size + t325.size ≤ 9223372036854775807 then (if ((((x7_26 ++ (⟨#[32]⟩:ByteArray)) ++ t324) ++ (⟨#[32]⟩:ByteArray)) ++ t325).size + 1 ≤ 9223372036854775807 then (some (((((x7_26 ++ (⟨#[32]⟩:ByteArray)) ++ t324) ++ (⟨#[32]⟩:ByteArray)) ++ t325) ++ (⟨#[10]⟩:ByteArray))) else (none)) else (none))) else (none)) else (none)) = some r:=H
             have A43:=Aside0.mk A430
             clear A430
             by_cases c44:(x7_26 ++ (⟨#[32]⟩:ByteArray)).size + t324.size ≤ 9223372036854775807
             · rw [if_pos c44] at H
               have c44b0:=eq_true c44
               have c44b1:decide ((x7_26 ++ (⟨#[32]⟩:ByteArray)).size + t324.size ≤ 9223372036854775807) = true:=decide_eq_true c44
               try have c44b2:(9223372036854775807 < (x7_26 ++ (⟨#[32]⟩:ByteArray)).size + t324.size) = False:=eq_false (Nat.not_lt.2 c44)
               try (have c44b3:=c44b2;simp only [ByteArray.size_append,Base.size1,(show ∀ a_ b_:UInt8,(⟨#[a_,b_]⟩:ByteArray).size = 2 from fun _ _ => rfl)] at c44b3)
               by_cases c45:((x7_26 ++ (⟨#[32]⟩:ByteArray)) ++ t324).size + 1 ≤ 9223372036854775807
               · rw [if_pos c45] at H
                 have c45b0:=eq_true c45
                 have c45b1:decide (((x7_26 ++ (⟨#[32]⟩:ByteArray)) ++ t324).size + 1 ≤ 9223372036854775807) = true:=decide_eq_true c45
                 try have c45b2:(9223372036854775807 < ((x7_26 ++ (⟨#[32]⟩:ByteArray)) ++ t324).size + 1) = False:=eq_false (Nat.not_lt.2 c45)
                 try (have c45b3:=c45b2;simp only [ByteArray.size_append,Base.size1,(show ∀ a_ b_:UInt8,(⟨#[a_,b_]⟩:ByteArray).size = 2 from fun _ _ => rfl)] at c45b3)
                 replace H:=Option.bind_eq_some_iff.mp H
                 obtain ⟨t325,A460,H⟩:=H
                 replace H:(if (((x7_26 ++ (⟨#[32]⟩:ByteArray)) ++ t324) ++ (⟨#[32]⟩:ByteArray)).size + t325.size ≤ 9223372036854775807 then (if ((((x7_26 ++ (⟨#[32]⟩:ByteArray)) ++ t324) ++ (⟨#[32]⟩:ByteArray)) ++ t325).size + 1 ≤ 9223372036854775807 then (some (((((x7_26 ++ (⟨#[32]⟩:ByteArray)) ++ t324) ++ (⟨#[32]⟩:ByteArray)) ++ t325) ++ (⟨#[10]⟩:ByteArray))) else (none)) else (none)) = some r:=H
                 have A46:=Aside0.mk A460
                 clear A460
                 by_cases c47:(((x7_26 ++ (⟨#[32]⟩:ByteArray)) ++ t324) ++ (⟨#[32]⟩:ByteArray)).size + t325.size ≤ 9223372036854775807
                 · rw [if_pos c47] at H
                   have c47b0:=eq_true c47
                   have c47b1:decide ((((x7_26 ++ (⟨#[32]⟩:ByteArray)) ++ t324) ++ (⟨#[32]⟩:ByteArray)).size + t325.size ≤ 9223372036854775807) = true:=decide_eq_true c47
                   try have c47b2:(9223372036854775807 < (((x7_26 ++ (⟨#[32]⟩:ByteArray)) ++ t324) ++ (⟨#[32]⟩:ByteArray)).size + t325.size) = False:=eq_false (Nat.not_lt.2 c47)
                   try (have c47b3:=c47b2;simp only [ByteArray.size_append,Base.size1,(show ∀ a_ b_:UInt8,(⟨#[a_,b_]⟩:ByteArray).size = 2 from fun _ _ => rfl)] at c47b3)
                   by_cases c48:((((x7_26 ++ (⟨#[32]⟩:ByteArray)) ++ t324) ++ (⟨#[32]⟩:ByteArray)) ++ t325).size + 1 ≤ 9223372036854775807
                   · rw [if_pos c48] at H
                     have c48b0:=eq_true c48
                     have c48b1:decide (((((x7_26 ++ (⟨#[32]⟩:ByteArray)) ++ t324) ++ (⟨#[32]⟩:ByteArray)) ++ t325).size + 1 ≤ 9223372036854775807) = true:=decide_eq_true c48
                     try have c48b2:(9223372036854775807 < ((((x7_26 ++ (⟨#[32]⟩:ByteArray)) ++ t324) ++ (⟨#[32]⟩:ByteArray)) ++ t325).size + 1) = False:=eq_false (Nat.not_lt.2 c48)
                     try (have c48b3:=c48b2;simp only [ByteArray.size_append,Base.size1,(show ∀ a_ b_:UInt8,(⟨#[a_,b_]⟩:ByteArray).size = 2 from fun _ _ => rfl)] at c48b3)
                     obtain rfl:=Option.some.inj H
                     obtain ⟨Ao49,co49,eo49⟩:=Kd.R_slice HO_4.out
                     subst eo49
                     have hcz50_0:wc.cell? ⟨gb308,0,none⟩ = some (.slice A0_0 l0_0.length c0_0):=(um BK308.out 0).trans rfl
                     have hcz50_1:wc.cell? ⟨gb308,1,none⟩ = some (.int .i64 a0_1):=(um BK308.out 1).trans rfl
                     have hcz50_2:wc.cell? ⟨gb308,2,none⟩ = some (.int .u64 a0_2):=(um BK308.out 2).trans rfl
                     have hfz50_0:=uk BK308.out 0
                     have hfz50_1:=uk BK308.out 1
                     have hfz50_2:=uk BK308.out 2
                     go_wp2_with (first | (go_at_call 73;(with_reducible refine (u1f.calls kj26 a0_2 t324 _ A43.out).mono ?_);rintro e w' ⟨rfl,⟨nd,rfl⟩⟩;(try first | exact ⟨rfl,_,World.drewN_drewN _ _ _⟩ | exact ⟨rfl,_,Eq.trans (World.drewN_drewN _ _ _) (congrArg (World.drewN _) (Nat.add_assoc _ _ _))⟩)) | (go_at_call 74;(with_reducible refine (u2c.calls kj26 a0_1 t325 _ A46.out).mono ?_);rintro e w' ⟨rfl,⟨nd,rfl⟩⟩;(try first | exact ⟨rfl,_,World.drewN_drewN _ _ _⟩ | exact ⟨rfl,_,Eq.trans (World.drewN_drewN _ _ _) (congrArg (World.drewN _) (Nat.add_assoc _ _ _))⟩)))
                     repeat (go_quiet (first | (go_at_call 73;(with_reducible refine (u1f.calls kj26 a0_2 t324 _ A43.out).mono ?_);rintro e w' ⟨rfl,⟨nd,rfl⟩⟩;(try first | exact ⟨rfl,_,World.drewN_drewN _ _ _⟩ | exact ⟨rfl,_,Eq.trans (World.drewN_drewN _ _ _) (congrArg (World.drewN _) (Nat.add_assoc _ _ _))⟩)) | (go_at_call 74;(with_reducible refine (u2c.calls kj26 a0_1 t325 _ A46.out).mono ?_);rintro e w' ⟨rfl,⟨nd,rfl⟩⟩;(try first | exact ⟨rfl,_,World.drewN_drewN _ _ _⟩ | exact ⟨rfl,_,Eq.trans (World.drewN_drewN _ _ _) (congrArg (World.drewN _) (Nat.add_assoc _ _ _))⟩)));try go_wp2_with (first | (go_at_call 73;(with_reducible refine (u1f.calls kj26 a0_2 t324 _ A43.out).mono ?_);rintro e w' ⟨rfl,⟨nd,rfl⟩⟩;(try first | exact ⟨rfl,_,World.drewN_drewN _ _ _⟩ | exact ⟨rfl,_,Eq.trans (World.drewN_drewN _ _ _) (congrArg (World.drewN _) (Nat.add_assoc _ _ _))⟩)) | (go_at_call 74;(with_reducible refine (u2c.calls kj26 a0_1 t325 _ A46.out).mono ?_);rintro e w' ⟨rfl,⟨nd,rfl⟩⟩;(try first | exact ⟨rfl,_,World.drewN_drewN _ _ _⟩ | exact ⟨rfl,_,Eq.trans (World.drewN_drewN _ _ _) (congrArg (World.drewN _) (Nat.add_assoc _ _ _))⟩))))
                     go_ret
                     exact ⟨by first | rfl | (simp [u1x,u1y] <;> rfl) | (simp [*,u1x,u1y] <;> rfl),by repeat (first | (with_reducible first | exact HB.out | apply ud | apply ub | apply uf | refine ux ?_ GE308.out) | exact HB.out)⟩
                   · rw [if_neg c48] at H
                     exact absurd H (by simp)
                 · rw [if_neg c47] at H
                   exact absurd H (by simp)
               · rw [if_neg c45] at H
                 exact absurd H (by simp)
             · rw [if_neg c44] at H
               exact absurd H (by simp)
           · rw [if_neg c42] at H
             exact absurd H (by simp)
end Go.Proofs.YtmcpeifhapekoaaGreatDoor.PAll
namespace Go.Proofs.YtmcpeifhapekoaaGreatDoor.Tx
open Go.RowKit Go.Proofs.YtmcpeifhapekoaaGreatDoor.PAll Go.Proofs.YtmcpeifhapekoaaGreatDoorW.PrintWords Go.Proofs.YtmcpeifhapekoaaGreatDoorW.PrintLast
open Go.Proofs.YtmcpeifhapekoaaGreatDoor.Laws (okFrom canB wrap_up at_byte no_byte rd_drop rtext_ev textL pieceL rname_ev)
set_option linter.unusedVariables false
set_option linter.unusedSimpArgs false
theorem app_of2 (a b:B8):Base.ofL a ++ Base.ofL b = Base.ofL (a ++ b):=Base.ext_data (by rw [Base.ofL_data,ByteArray.data_append,Array.toList_append,Base.ofL_data,Base.ofL_data])
theorem text_is {a b:ByteArray}:a.toList = b.toList ↔ a = b:=by
 rw [ByteArray.toList_eq,ByteArray.toList_eq]
 exact ⟨fun h => Base.ext_data h,fun h => by rw [h]⟩
theorem digit_fin3:∀ n:Fin 10,(⟨#[48,49,50,51,52,53,54,55,56,57]⟩:ByteArray).extract n.val (n.val + 1) = Base.ofL [UInt8.ofNat (48 + n.val)]:=by decide +kernel
theorem digit_at3 (n:Nat) (h:n < 10):(⟨#[48,49,50,51,52,53,54,55,56,57]⟩:ByteArray).extract n (n + 1) = Base.ofL [UInt8.ofNat (48 + n)]:=digit_fin3 ⟨n,h⟩
theorem dec3_l0:∀ (j n:Nat) (acc:B8),n < 10 ^ (j + 1) → n ≤ 18446744073709551615 → acc.length + j ≤ 1000 → Ev (fun k => u1f.l0 k (n:Int) (Base.ofL acc)) (Base.ofL (decN n ++ acc)):=by
 intro j
 induction j with
 | zero =>
   intro n acc hn h9 ha
   have hn':n < 10:=by simpa using hn
   have hu:IntKind.u64.wrap ((n:Int) + 1) = ((n + 1:Nat):Int):=by rw [u64_id _ (by omega) (by omega)];omega
   have hd:decN n = [UInt8.ofNat (48 + n)]:=by unfold decN;rw [if_pos hn']
   refine Ev.step (f:=fun _ => some (Base.ofL (decN n ++ acc))) (fun k => ?_) (Ev.now _)
   simp only [u1f.l0]
   rw [if_neg (by omega),if_pos (by omega),hu,if_pos (by omega),if_pos (by omega),Int.toNat_natCast,Int.toNat_natCast,digit_at3 n hn',if_pos (by rw [sz,sz,List.length_singleton];omega),app_of2,hd]
 | succ j ih =>
   intro n acc hn h9 ha
   by_cases hn':n < 10
   · have hu:IntKind.u64.wrap ((n:Int) + 1) = ((n + 1:Nat):Int):=by rw [u64_id _ (by omega) (by omega)];omega
     have hd:decN n = [UInt8.ofNat (48 + n)]:=by unfold decN;rw [if_pos hn']
     refine Ev.step (f:=fun _ => some (Base.ofL (decN n ++ acc))) (fun k => ?_) (Ev.now _)
     simp only [u1f.l0]
     rw [if_neg (by omega),if_pos (by omega),hu,if_pos (by omega),if_pos (by omega),Int.toNat_natCast,Int.toNat_natCast,digit_at3 n hn',if_pos (by rw [sz,sz,List.length_singleton];omega),app_of2,hd]
   · have hm:Int.tmod (n:Int) 10 = ((n % 10:Nat):Int):=rfl
     have hq:IntKind.u64.wrap (Int.tdiv (n:Int) 10) = ((n / 10:Nat):Int):=by
      rw [show Int.tdiv (n:Int) 10 = ((n / 10:Nat):Int) from rfl]
      exact u64_id _ (by omega) (by omega)
     have hlt:n % 10 < 10:=Nat.mod_lt _ (by decide)
     have hu:IntKind.u64.wrap (((n % 10:Nat):Int) + 1) = ((n % 10 + 1:Nat):Int):=by rw [u64_id _ (by omega) (by omega)];omega
     have hd:decN n = decN (n / 10) ++ [UInt8.ofNat (48 + n % 10)]:=by conv => lhs;unfold decN;rw [if_neg hn']
     have h10:n / 10 < 10 ^ (j + 1):=by
      rw [Nat.pow_succ] at hn
      omega
     have h:=ih (n / 10) ([UInt8.ofNat (48 + n % 10)] ++ acc) h10 (by omega) (by simp;omega)
     rw [← List.append_assoc,← hd] at h
     refine Ev.step (fun k => ?_) h
     simp only [u1f.l0]
     rw [if_pos (by omega),hm,hu,hq,if_pos (by omega),if_pos (by omega),if_pos (by omega),Int.toNat_natCast,Int.toNat_natCast,digit_at3 _ hlt,if_pos (by rw [sz,sz,List.length_singleton];omega),app_of2]
theorem rdec_ev (n:Nat) (h:n ≤ 18446744073709551615):Ev (fun k => u1f.f k (n:Int)) (Base.ofL (decN n)):=by
 have h1:=dec3_l0 20 n [] (by omega) h (by simp)
 rw [List.append_nil] at h1
 exact h1
theorem u64_neg (x:Int) (h0 : -9223372036854775808 ≤ x) (h1:x < 0):IntKind.u64.wrap (-(IntKind.u64.wrap x)) = (((-x).toNat:Nat):Int):=by
 have e1:IntKind.u64.wrap x = x + 18446744073709551616:=by
  simp [IntKind.wrap,IntKind.bits,IntKind.signed]
  omega
 rw [e1]
 simp [IntKind.wrap,IntKind.bits,IntKind.signed]
 omega
theorem rsigned_ev (x:Int) (h0 : -9223372036854775808 ≤ x) (h1:x ≤ 9223372036854775807):Ev (fun k => u2c.f k x) (Base.ofL (signL x)):=by
 unfold signL
 by_cases hx:x < 0
 · rw [if_pos hx]
   have hl:=decN_len 19 (-x).toNat (by omega)
   refine Ev.congr (f:=fun k => (u1f.f k (((-x).toNat:Nat):Int)).bind fun t306 => (if 1 + t306.size ≤ 9223372036854775807 then (some ((⟨#[45]⟩:ByteArray) ++ t306)) else (none))) (fun k => ?_) (Ev.bind (rdec_ev _ (by omega)) ?_)
   · simp only [u2c.f]
     rw [if_pos hx,u64_neg x h0 hx]
   · refine Ev.congr (f:=fun _ => some (Base.ofL (45 :: decN (-x).toNat))) (fun k => ?_) (Ev.now _)
     rw [if_pos (by rw [sz];omega)]
     exact congrArg some (app_of2 [45] (decN (-x).toNat))
 · rw [if_neg hx]
   refine Ev.congr (f:=fun k => (u1f.f k ((x.toNat:Nat):Int)).bind fun t307 => some t307) (fun k => ?_) (Ev.bind (rdec_ev _ (by omega)) (Ev.now _))
   simp only [u2c.f]
   rw [if_neg hx,u64_id x (by omega) (by omega),show ((x.toNat:Nat):Int) = x by omega]
theorem met_lit:(⟨#[95,95,110,97,109,101,95,95]⟩:ByteArray) = metric:=rfl
theorem met_list:metric.toList = [95,95,110,97,109,101,95,95]:=by rw [ByteArray.toList_eq];rfl
theorem rget_ev (l:List Lb) (hl:l.length ≤ 1000):∀ (r:List Lb) (i:Nat),l.drop i = r → i ≤ l.length → Ev (fun k => u2j.l0 k (⟨#[95,95,110,97,109,101,95,95]⟩:ByteArray) l (l.length:Int) (i:Int)) (u3j r):=by
 intro r
 induction r with
 | nil =>
   intro i h hi
   have h2:=List.drop_eq_nil_iff.1 h
   refine Ev.step (f:=fun _ => some (⟨#[]⟩:ByteArray)) (fun k => ?_) (Ev.now _)
   simp only [u2j.l0]
   rw [if_neg (by omega)]
 | cons x r ih =>
   intro i h hi
   obtain ⟨hx,hlt,hr⟩:=rd_drop l i x r h
   have hw:=wrap_up i (by omega)
   by_cases hm:x.f0 = metric
   · have e:u3j (x :: r) = x.f1:=by
      unfold u3j
      rw [List.find?_cons_of_pos (by simpa using hm)]
     rw [e]
     refine Ev.step (f:=fun _ => some x.f1) (fun k => ?_) (Ev.now _)
     simp only [u2j.l0]
     rw [if_pos (by omega),if_pos (by omega),if_pos (by omega),hx,met_lit,if_pos (text_is.2 hm)]
   · have e:u3j (x :: r) = u3j r:=by
      unfold u3j
      rw [List.find?_cons_of_neg (by simpa using hm)]
     rw [e]
     refine Ev.step (fun k => ?_) (ih (i + 1) hr (by omega))
     simp only [u2j.l0]
     rw [if_pos (by omega),if_pos (by omega),if_pos (by omega),hx,met_lit,if_neg (fun h => hm (text_is.1 h)),hw]
theorem text_braces (l:List Lb) (h:l ≠ []):textL l = u3e l:=by
 cases l with
 | nil => exact absurd rfl h
 | cons x r => exact braces_text x r
theorem ok_from {p q:List UInt8} (hp:q = [] ∨ Op.bytesLess q p = true):∀ (l:List Lb),okFrom p l = true → okFrom q l = true
 | [],_ => rfl
 | x :: l,h => by
   unfold okFrom at h ⊢
   rw [Bool.and_eq_true,Bool.and_eq_true] at h ⊢
   refine ⟨⟨h.1.1,?_⟩,h.2⟩
   rcases hp with rfl | hp
   · rw [less_iff]
     cases hd:x.f0.data.toList with
     | nil =>
       have:=h.1.2
       rw [hd,less_iff] at this
       exact absurd this (List.not_lt_nil _)
     | cons c t => exact List.nil_lt_cons _ _
   · exact less_tr hp h.1.2
theorem ok_filter (g:Lb → Bool):∀ (l:List Lb) (p:List UInt8),okFrom p l = true → okFrom p (l.filter g) = true
 | [],_,_ => rfl
 | x :: l,p,h => by
   have h':=h
   unfold okFrom at h
   rw [Bool.and_eq_true,Bool.and_eq_true] at h
   by_cases hg:g x = true
   · rw [List.filter_cons_of_pos hg]
     unfold okFrom
     rw [Bool.and_eq_true,Bool.and_eq_true]
     exact ⟨h.1,ok_filter g l _ h.2⟩
   · rw [List.filter_cons_of_neg hg]
     exact ok_from (Or.inr h.1.2) _ (ok_filter g l _ h.2)
theorem can_filter (g:Lb → Bool) (l:List Lb) (h:canB l = true) (hne:l.filter g ≠ []):canB (l.filter g) = true:=by
 unfold canB at h ⊢
 rw [Bool.and_eq_true,Bool.and_eq_true] at h ⊢
 have h8:=of_decide_eq_true h.1.2
 have hl:=List.length_filter_le g l
 refine ⟨⟨decide_eq_true ?_,decide_eq_true (by omega)⟩,ok_filter g l _ h.2⟩
 exact Nat.one_le_iff_ne_zero.2 (fun e => hne (List.length_eq_zero_iff.1 e))
def othL (l:List Lb):List Lb:=if Base.nameB (u3j l) = true then l.filter (fun x => x.f0 ≠ metric) else l
def ownL (l:List Lb):B8:=if Base.nameB (u3j l) = true then (u3j l).data.toList else []
theorem row_is (r:Rw):rowL r = ownL r.f0 ++ (u3e (othL r.f0) ++ endL r):=by
 unfold rowL ownL othL
 split
 · rfl
 · rfl
theorem can_oth {l:List Lb} (h:canB l = true) (hne:othL l ≠ []):canB (othL l) = true:=by
 unfold othL at hne ⊢
 split
 · rename_i hn
   rw [if_pos hn] at hne
   exact can_filter _ l h hne
 · exact h
theorem b32:(⟨#[32]⟩:ByteArray) = Base.ofL [32]:=rfl
theorem b10:(⟨#[10]⟩:ByteArray) = Base.ofL [10]:=rfl
theorem b0:(⟨#[]⟩:ByteArray) = Base.ofL []:=rfl
theorem braces_le {l:List Lb} (h:l ≠ [] → canB l = true):(u3e l).length ≤ 1000:=by
 cases l with
 | nil => exact Nat.zero_le _
 | cons x r =>
   obtain ⟨g1,g2,g3⟩:=can_each (h (by simp))
   rw [← text_braces _ (by simp)]
   have hj:=Laws.join_le 107 ((x :: r).map pieceL) (by
    intro y hy
    obtain ⟨z,hz,rfl⟩:=List.mem_map.1 hy
    exact Laws.piece_le (g3 z hz).1 (g3 z hz).2)
   rw [List.length_map] at hj
   unfold textL
   simp only [List.length_cons,List.length_append,List.length_nil] at hj g2 ⊢
   omega
theorem rrow_j1 (acc:List Lb) (own:B8) (l:List Lb) (T:Int) (n:Nat) (hacc:acc ≠ [] → canB acc = true) (ho:own.length ≤ 100) (h0 : -9223372036854775808 ≤ T) (h1:T ≤ 9223372036854775807) (hn:n ≤ 18446744073709551615) :
 Ev (fun k => u1h.j1 k acc (Base.ofL own) l T (n:Int)) (Base.ofL (own ++ (u3e acc ++ (32 :: (decN n ++ 32 :: signL T))) ++ [10])):=by
 have hb:=braces_le hacc
 have hd:=(decN_len 19 n (by omega)).2
 have hs:=sign_len T h0 (by omega)
 by_cases hne:acc = []
 · subst hne
   refine Ev.step (f:=fun k => u1h.j1 (k + 1) [] (Base.ofL own) l T (n:Int)) (fun k => rfl) ?_
   simp only [u1h.j1,List.length_nil]
   simp only [b32,b10,app_of2,sz,if_neg (show ¬ (((0:Nat):Int) > 0) by omega)]
   simp (disch:=omega) only [if_pos]
   refine Ev.bind (rdec_ev n hn) ?_
   simp only [app_of2,sz,List.length_append,List.length_cons,List.length_nil]
   simp (disch:=omega) only [if_pos]
   refine Ev.bind (rsigned_ev T h0 h1) ?_
   simp only [app_of2,sz,List.length_append,List.length_cons,List.length_nil]
   simp (disch:=omega) only [if_pos]
   rw [show own ++ (u3e [] ++ (32 :: (decN n ++ 32 :: signL T))) ++ [10] = own ++ [32] ++ decN n ++ [32] ++ signL T ++ [10] by simp [u3e]]
   exact Ev.now _
 · have hlen:((acc.length:Nat):Int) > 0:=by
    have:=List.length_pos_iff.2 hne
    omega
   have hc:=hacc hne
   obtain ⟨g1,g2,g3⟩:=can_each hc
   have hT:=rtext_ev acc (fun y hy => by
    have a:=Laws.nameB_size (g3 y hy).1
    have b:=Laws.valueB_size (g3 y hy).2
    unfold maxLen
    omega)
   rw [if_pos hc,text_braces acc hne] at hT
   refine Ev.step (f:=fun k => u1h.j1 (k + 1) acc (Base.ofL own) l T (n:Int)) (fun k => rfl) ?_
   simp only [u1h.j1,if_pos hlen]
   refine Ev.bind hT ?_
   simp only [b32,b10,app_of2,sz,List.length_append,List.length_cons,List.length_nil]
   simp (disch:=omega) only [if_pos]
   refine Ev.bind (rdec_ev n hn) ?_
   simp only [app_of2,sz,List.length_append,List.length_cons,List.length_nil]
   simp (disch:=omega) only [if_pos]
   refine Ev.bind (rsigned_ev T h0 h1) ?_
   simp only [app_of2,sz,List.length_append,List.length_cons,List.length_nil]
   simp (disch:=omega) only [if_pos]
   rw [show own ++ (u3e acc ++ (32 :: (decN n ++ 32 :: signL T))) ++ [10] = own ++ u3e acc ++ [32] ++ decN n ++ [32] ++ signL T ++ [10] by simp]
   exact Ev.now _
theorem rrow_l0 (l:List Lb) (l9:List Lb) (T:Int) (n:Nat) (nm:ByteArray) (hnm:nm.size ≤ 9223372036854775807) (hl:l.length ≤ 1000) (out:ByteArray)
 (hend:Ev (fun k => u1h.j1 k (if Base.nameB nm = true then l.filter (fun x => x.f0 ≠ metric) else l) (if Base.nameB nm = true then nm else Base.ofL []) l9 T (n:Int)) out):∀ (r:List Lb) (i:Nat) (acc:List Lb),l.drop i = r → i ≤ l.length → acc = (if Base.nameB nm = true then (l.take i).filter (fun x => x.f0 ≠ metric) else l.take i) →
 Ev (fun k => u1h.l0 k nm acc l (l.length:Int) (i:Int) l9 T (n:Int)) out:=by
 intro r
 induction r with
 | nil =>
   intro i acc h hi ha
   have h2:=List.drop_eq_nil_iff.1 h
   rw [List.take_of_length_le h2] at ha
   rw [← ha] at hend
   refine Ev.step (f:=fun k => u1h.l0 (k + 1) nm acc l (l.length:Int) (i:Int) l9 T (n:Int)) (fun k => rfl) ?_
   simp only [u1h.l0]
   simp only [if_neg (show ¬ ((i:Int) < (l.length:Int)) by omega)]
   refine Ev.bind (rname_ev nm hnm) ?_
   cases hb:Base.nameB nm with
   | true =>
     rw [hb] at hend
     exact Ev.congr (fun k => if_pos rfl) hend
   | false =>
     rw [hb] at hend
     exact Ev.congr (fun k => if_neg Bool.false_ne_true) hend
 | cons x r ih =>
   intro i acc h hi ha
   obtain ⟨hx,hlt,hr⟩:=rd_drop l i x r h
   have hw:=wrap_up i (by omega)
   have hal:acc.length ≤ i:=by
    rw [ha]
    split
    · exact Nat.le_trans (List.length_filter_le _ _) (List.length_take_le _ _)
    · exact List.length_take_le _ _
   have ht:l.take (i + 1) = l.take i ++ [x]:=by
    rw [List.take_succ_eq_append_getElem hlt]
    rw [List.drop_eq_getElem_cons hlt] at h
    rw [(List.cons.inj h).1]
   refine Ev.step (f:=fun k => u1h.l0 (k + 1) nm acc l (l.length:Int) (i:Int) l9 T (n:Int)) (fun k => rfl) ?_
   simp only [u1h.l0]
   simp only [if_pos (show ((i:Int) < (l.length:Int)) by omega),if_pos (show ((0:Int) ≤ (i:Int)) by omega),hx,hw,if_pos (show acc.length < 4398046511104 by omega)]
   by_cases hm:x.f0 = metric
   · simp only [if_pos (show x.f0.toList = ([95,95,110,97,109,101,95,95]:List UInt8) from met_list ▸ text_is.2 hm)]
     refine Ev.bind (rname_ev nm hnm) ?_
     cases hb:Base.nameB nm with
     | true =>
       refine Ev.congr (fun k => if_pos rfl) (ih (i + 1) acc hr (by omega) ?_)
       rw [hb] at ha ⊢
       rw [ht,List.filter_append,List.filter_cons_of_neg (by simpa using hm),List.filter_nil,List.append_nil]
       exact ha
     | false =>
       refine Ev.congr (fun k => if_neg Bool.false_ne_true) (ih (i + 1) (acc ++ [x]) hr (by omega) ?_)
       rw [hb] at ha ⊢
       rw [ht,ha]
       rfl
   · simp only [if_neg (show ¬ x.f0.toList = ([95,95,110,97,109,101,95,95]:List UInt8) from fun h => hm (text_is.1 (met_list ▸ h)))]
     refine ih (i + 1) (acc ++ [x]) hr (by omega) ?_
     rw [ht]
     cases hb:Base.nameB nm with
     | true =>
       rw [hb] at ha
       rw [if_pos rfl,List.filter_append,List.filter_cons_of_pos (by simpa using hm),List.filter_nil,ha,if_pos rfl]
     | false =>
       rw [hb] at ha
       rw [if_neg Bool.false_ne_true,ha,if_neg Bool.false_ne_true]
theorem rrow_ev (r:Rw) (hc:canB r.f0 = true) (h0 : -9223372036854775808 ≤ r.f1) (h1:r.f1 ≤ 9223372036854775807) (h2:0 ≤ r.f2) (h3:r.f2 ≤ 18446744073709551615) :
 Ev (fun k => u1h.f k r.f0 r.f1 r.f2) (Base.ofL (rowL r ++ [10])):=by
 obtain ⟨g1,g2,g3⟩:=can_each hc
 have hv:(u3j r.f0).size ≤ 40:=by
  unfold u3j
  split
  · exact Nat.zero_le _
  · rename_i x hx
    exact (Laws.valueB_size (g3 x (List.mem_of_find?_eq_some hx)).2).2
 refine Ev.bind (rget_ev r.f0 (by omega) r.f0 0 rfl (by omega)) ?_
 obtain ⟨n,hn⟩:∃ n:Nat,r.f2 = (n:Int):=⟨r.f2.toNat,by omega⟩
 have hnn:r.f2.toNat = n:=by omega
 have hj:=rrow_j1 (othL r.f0) (ownL r.f0) r.f0 r.f1 n (fun h => can_oth hc h) (by
  unfold ownL
  split
  · rw [← Base.size_list]
    omega
  · exact Nat.zero_le _) h0 h1 (by omega)
 have e:ownL r.f0 ++ (u3e (othL r.f0) ++ (32 :: (decN n ++ 32 :: signL r.f1))) ++ [10] = rowL r ++ [10]:=by
  rw [row_is]
  unfold endL
  rw [hnn]
 rw [e] at hj
 rw [hn]
 refine rrow_l0 r.f0 r.f0 r.f1 n (u3j r.f0) (by omega) (by omega) _ ?_ r.f0 0 [] rfl (by omega) (by simp)
 have e2:(if Base.nameB (u3j r.f0) = true then u3j r.f0 else Base.ofL []) = Base.ofL (ownL r.f0):=by
  unfold ownL
  split
  · exact (Base.ofL_of _).symm
  · rfl
 rw [e2]
 exact hj
end Go.Proofs.YtmcpeifhapekoaaGreatDoor.Tx
namespace Go.Proofs.YtmcpeifhapekoaaGreatDoor.Tx
open Go.RowKit Go.Proofs.YtmcpeifhapekoaaGreatDoor.PAll Go.Proofs.YtmcpeifhapekoaaGreatDoorW.PrintWords Go.Proofs.YtmcpeifhapekoaaGreatDoorW.PrintLast
open Go.Proofs.YtmcpeifhapekoaaGreatDoor.Laws (okFrom canB wrap_up at_byte no_byte word_ev rcan_ev rname_ev)
set_option linter.unusedVariables false
set_option linter.unusedSimpArgs false
theorem plain9_l0 (s:B8) (hs:s.length ≤ 4611686018427387904):∀ (r:B8) (i:Nat),s.drop i = r → i ≤ s.length → Ev (fun k => u2d.l0 k (Base.ofL s) (i:Int)) (plainL r)
 | [],i,h,hi => by
   have h2:s.length ≤ i:=by
    have:=List.drop_eq_nil_iff.1 h
    omega
   refine Ev.step (f:=fun _ => some true) (fun k => ?_) (Ev.now _)
   simp only [u2d.l0]
   rw [if_neg (by rw [sz];omega)]
 | c :: r,i,h,hi => by
   obtain ⟨hlt,hbt,hr⟩:=at_byte (Base.ofL s) i c r (by rw [Base.ofL_data];exact h)
   rw [Base.ofL_data] at hr
   rw [sz] at hlt
   have hw:=wrap_up i (by omega)
   have ih:=plain9_l0 s hs r (i + 1) hr (by omega)
   have hstep:∀ k,u2d.l0 (k + 1) (Base.ofL s) (i:Int) = if (c.toNat:Int) < 32 then some false else u2d.l0 k (Base.ofL s) ((i + 1:Nat):Int):=fun k => by
    simp only [u2d.l0]
    rw [if_pos (by rw [sz];omega),if_pos (by omega),hbt,hw]
   refine Ev.step hstep ?_
   unfold plainL at ih ⊢
   rw [List.all_cons]
   by_cases hb:32 ≤ c.toNat
   · rw [decide_eq_true hb,Bool.true_and]
     exact Ev.congr (fun k => if_neg (by omega)) ih
   · rw [decide_eq_false hb,Bool.false_and]
     exact Ev.congr (f:=fun _ => some false) (fun k => if_pos (by omega)) (Ev.now _)
theorem plain9_ev (s:B8) (hs:s.length ≤ 4611686018427387904):Ev (fun k => u2d.f k (Base.ofL s)) (plainL s):=plain9_l0 s hs s 0 rfl (by omega)
theorem kind9_l0 (s:B8) (L:List B8) (hL:L.length ≤ 1000):∀ (r:List B8) (i:Nat),L.drop i = r → i ≤ L.length → Ev (fun k => u2g.l0 k (Base.ofL s) (L.map Base.ofL) (L.length:Int) (i:Int)) (r.contains s)
 | [],i,h,hi => by
   have h2:L.length ≤ i:=by
    have:=List.drop_eq_nil_iff.1 h
    omega
   refine Ev.step (f:=fun _ => some false) (fun k => ?_) (Ev.now _)
   simp only [u2g.l0]
   rw [if_neg (by omega)]
 | c :: r,i,h,hi => by
   have hlt:i < L.length:=by
    rcases Nat.lt_or_ge i L.length with h1 | h1
    · exact h1
    · rw [List.drop_eq_nil_of_le h1] at h
      cases h
   rw [List.drop_eq_getElem_cons hlt] at h
   obtain ⟨h1,h2⟩:=List.cons.inj h
   have hrd:(rdOf ByteArray.empty (L.map Base.ofL) (i:Int)).toList = c:=by
    unfold rdOf
    rw [Int.toNat_natCast,List.getD_eq_getElem?_getD,List.getElem?_map,List.getElem?_eq_getElem hlt,h1]
    exact tl_ofL c
   have hw:=wrap_up i (by omega)
   have ih:=kind9_l0 s L hL r (i + 1) h2 (by omega)
   have hstep:∀ k,u2g.l0 (k + 1) (Base.ofL s) (L.map Base.ofL) (L.length:Int) (i:Int) = if s = c then some true else u2g.l0 k (Base.ofL s) (L.map Base.ofL) (L.length:Int) ((i + 1:Nat):Int):=fun k => by
    simp only [u2g.l0]
    rw [if_pos (by omega),if_pos (by omega),if_pos (by rw [List.length_map];omega),hrd,tl_ofL,hw]
   refine Ev.step hstep ?_
   rw [List.contains_cons]
   by_cases hb:s = c
   · rw [beq_iff_eq.2 hb,Bool.true_or]
     exact Ev.congr (f:=fun _ => some true) (fun k => if_pos hb) (Ev.now _)
   · rw [beq_eq_false_iff_ne.2 hb,Bool.false_or]
     exact Ev.congr (fun k => if_neg hb) ih
theorem kind9_ev (s:B8):Ev (fun k => u2g.f k (Base.ofL s)) (knownL s):=kind9_l0 s kinds (by decide) kinds 0 rfl (by decide)
def metaS (m:Me):B8:=(metaLines m).flatMap fun s => s ++ [10]
theorem metaS_is (m:Me):metaS m = (if m.2.2 ≠ Base.ofL [] then helpW ++ (m.1.data.toList ++ 32 :: m.2.2.data.toList) ++ [10] else []) ++ (if m.2.1 ≠ Base.ofL [] then typeW ++ (m.1.data.toList ++ 32 :: m.2.1.data.toList) ++ [10] else []):=by
 unfold metaS metaLines helpLine typeLine
 split <;> split <;> simp
theorem printP_is (l:List Rw) (m:List Me):printP l m = m.flatMap metaS ++ l.flatMap (fun r => rowL r ++ [10]):=by
 unfold printP
 rw [List.flatMap_append,List.flatMap_assoc,List.flatMap_map]
 rfl
theorem metaS_len (m:Me) (h1:m.1.size ≤ 24) (h2:m.2.1.size ≤ 9) (h3:m.2.2.size ≤ 900):(metaS m).length ≤ 2000:=by
 rw [metaS_is]
 rw [Base.size_list] at h1 h2 h3
 have a:helpW.length = 7:=rfl
 have b:typeW.length = 7:=rfl
 split <;> split <;> simp only [List.length_append,List.length_cons,List.length_nil,a,b] <;> omega
theorem known_size {b:ByteArray} (h:knownL b.data.toList = true):b.size ≤ 9:=by
 have:=(known_fine h).2
 rw [Base.size_list]
 exact this
theorem flat_len {α:Type} (g:α → B8) (n:Nat):∀ (l:List α),(∀ x ∈ l,(g x).length ≤ n) → (l.flatMap g).length ≤ n * l.length
 | [],_ => by simp
 | x :: l,h => by
   have h1:=h x (by simp)
   have h2:=flat_len g n l (fun y hy => h y (by simp [hy]))
   rw [List.flatMap_cons,List.length_append,List.length_cons,Nat.mul_add]
   omega
end Go.Proofs.YtmcpeifhapekoaaGreatDoor.Tx
