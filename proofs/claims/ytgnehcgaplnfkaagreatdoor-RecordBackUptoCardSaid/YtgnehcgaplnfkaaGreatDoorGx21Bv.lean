/- A text of this seat. -/
import Derived.Test.YtgnehcgaplnfkaaGreatDoorBv1
import Derived.Test.YtgnehcgaplnfkaaGreatDoorBv2
namespace Go.Proofs.YtgnehcgaplnfkaaGreatDoor.PAll
open Go.RowKit Go.Proofs.YtgnehcgaplnfkaaGreatDoorW.PrintWords Go.Proofs.YtgnehcgaplnfkaaGreatDoorW.PrintLast Go.Proofs.YtgnehcgaplnfkaaGreatDoorW.PrintMore
attribute [local go_sem] u3o u3n u3x u3w u3j u3i u3p u3q   -- for this text's walks alone
set_option linter.unusedVariables false
set_option linter.unusedSimpArgs false
-- uses regex_coder_take regex_coder_next regex_coder_among regex_coder_member regex_coder_put regex_coder_part
abbrev uh.CS:=uf.CS
structure uh.Old (N base:Nat) (W:World) (g gp:Nat) (vc:Value) (code:List S164):Prop where
 row:Kd.R k164 164 W base (fun k => k < N ∧ k ≠ g) vc code
 gp:gp < N
 g:g < N
theorem uh.Old.start {w0 W:World} {g gp:Nat} {vc:Value} {s:uh.CS} (h:uf.St w0 W g gp vc s):uh.Old W.heap.size w0.heap.size W g gp vc s.code:=by
 obtain ⟨A,c,h1,h2,h3⟩:=h.cells
 obtain ⟨cz,hcz⟩:=h3.1
 refine ⟨Kd.R_mono (Kd.R_bound (Kd.R_types h.code h1 (by intro q hq;rw [u1n.E_inst] at hq;simp at hq;omega))) (fun k hk => ⟨hk.2.2.1,hk.1.2⟩),u2m hcz,u2m h1⟩
theorem uh.Old.keep {N base:Nat} {W W':World} {g gp:Nat} {vc:Value} {code:List S164} (h:uh.Old N base W g gp vc code) (hk:∀ k,k < N → k ≠ g → W'.heap[k]? = W.heap[k]?):uh.Old N base W' g gp vc code :=
 ⟨Kd.R_step h.row (fun k ho _ => hk k ho.1 ho.2),h.gp,h.g⟩
theorem uh.Old.st {N:Nat} {w0 W W':World} {g gp:Nat} {vc:Value} {s:uh.CS} (h:uh.Old N w0.heap.size W g gp vc s.code) (hs:uf.St w0 W g gp vc s) (hb:Below w0.heap.size w0 W') (hk:∀ k,k < N → W'.heap[k]? = W.heap[k]?):uf.St w0 W' g gp vc s where
 below:=hb
 base:=hs.base
 cells:=by
  obtain ⟨A,c,h1,h2,h3⟩:=hs.cells
  exact ⟨A,c,(hk g h.g).trans h1,h2,h3.move (hk gp h.gp)⟩
 code:=Kd.R_mono (h.keep (fun k hk' _ => hk k hk')).row (fun _ _ => trivial)
theorem uh.look3 {X:World} {g gi gs n c:Nat} {A:Option Addr} {vc vs:Value} {bad ng:Bool} {lo hi:Int} (hg:X.heap[g]? = some (.cells #[.slice A n c,vc,.bool bad] 159 (0,0))) (hgi:X.heap[gi]? = some (.cells #[.int .i64 1,vs,.bool ng,.int .i64 0,.int .i64 0] 164 (0,0))) (hgs:X.heap[gs]? = some (.cells #[.int .i32 lo,.int .i32 hi] 191 (0,0))) :
 (X.cell? ⟨g,2,none⟩ = some (.bool bad) ∧ X.frozen? ⟨g,2,none⟩ = false ∧ X.cell? ⟨gs,0,none⟩ = some (.int .i32 lo) ∧ X.cell? ⟨gs,1,none⟩ = some (.int .i32 hi) ∧ X.frozen? ⟨gs,1,none⟩ = false) ∧
 ∀ u,(X.setCell ⟨g,2,none⟩ u).cell? ⟨gi,1,none⟩ = some vs ∧ (X.setCell ⟨g,2,none⟩ u).cell? ⟨gs,0,none⟩ = some (.int .i32 lo) ∧ (X.setCell ⟨g,2,none⟩ u).cell? ⟨gs,1,none⟩ = some (.int .i32 hi):=by
 have e1:=uk hg 2
 have e2:=uk hgs 0
 have e3:=uk hgs 1
 have n1:gi ≠ g:=blk_ne hgi hg (by decide)
 have n2:gs ≠ g:=blk_ne hgs hg (by decide)
 simp only [List.size_toArray,List.length_cons,List.length_nil,List.getElem?_toArray,List.getElem?_cons_zero,List.getElem?_cons_succ] at e1 e2 e3
 refine ⟨⟨e1,uq hg 2,e2,e3,uq hgs 1⟩,fun u => ?_⟩
 have d1:=uk (blk_far hgi (p:=⟨g,2,none⟩) n1 u) 1
 have d2:=uk (blk_far hgs (p:=⟨g,2,none⟩) n2 u) 0
 have d3:=uk (blk_far hgs (p:=⟨g,2,none⟩) n2 u) 1
 simp only [List.size_toArray,List.length_cons,List.length_nil,List.getElem?_toArray,List.getElem?_cons_zero,List.getElem?_cons_succ] at d1 d2 d3
 exact ⟨d1,d2,d3⟩
theorem uh.infoSp:(Tryz.prog.info? 191).map (fun i => (i.zero,i.size,i.bytes)) = some (some (.agg #[.int .i32 0,.int .i32 0]),2,8):=by kernel_rfl
theorem uh.fini {w0 X W6:World} {N g gp:Nat} {vc vs v1:Value} {s:uh.CS} {ng b:Bool} {l:List S191} {sp:S191}
 (hN:w0.heap.size ≤ N) (hX:uf.St w0 X g gp vc s) (hO:uh.Old N w0.heap.size X g gp vc s.code) (hgi:X.heap[N]? = some (.cells #[.int .i64 1,vs,.bool ng,.int .i64 0,.int .i64 0] 164 (0,0))) (hR:Kd.R k191 191 X w0.heap.size (fun k => N ≤ k) vs l)
 (hR6:Kd.R k191 191 W6 w0.heap.size (fun k => N ≤ k) v1 (l ++ [sp])) (hB6:Below w0.heap.size w0 W6) (hg6:(X.setCell ⟨g,2,none⟩ (.bool b)).grownBy W6 vs.ownBlock) :
 (W6.cell? ⟨N,1,none⟩ = some vs ∧ W6.frozen? ⟨N,1,none⟩ = false) ∧ uf.St w0 (W6.setCell ⟨N,1,none⟩ v1) g gp vc { s with bad:=b } ∧ uh.Old N w0.heap.size (W6.setCell ⟨N,1,none⟩ v1) g gp vc s.code ∧ (W6.setCell ⟨N,1,none⟩ v1).heap[N]? = some (.cells #[.int .i64 1,v1,.bool ng,.int .i64 0,.int .i64 0] 164 (0,0)) ∧ Kd.R k191 191 (W6.setCell ⟨N,1,none⟩ v1) w0.heap.size (fun k => N ≤ k) v1 (l ++ [sp]):=by
 obtain ⟨A,c,h1,h2,h3⟩:=hX.cells
 have hne:N ≠ g:=blk_ne hgi h1 (by decide)
 have hS5:uf.St w0 (X.setCell ⟨g,2,none⟩ (.bool b)) g gp vc { s with bad:=b }:=hX.set (i:=2) h1 rfl h2 h3 rfl
 have hi5:=blk_far hgi (p:=⟨g,2,none⟩) hne (.bool b)
 have hR5:=Kd.R_set hR h1 (by intro q hq;simp [k191,Kd.iso,Kd.pair,Kd.int,Kd.scalar] at hq;omega) 2 (.bool b)
 have hrow:∀ k,vs.ownBlock = some k → N ≤ k:=fun k hk => hR.1 k hk
 have hi6:=blk_grown hi5 hg6 (Kd.R_ne hR5 hi5 (by decide))
 have c6:=uk hi6 1
 simp only [List.size_toArray,List.length_cons,List.length_nil,List.getElem?_toArray,List.getElem?_cons_zero,List.getElem?_cons_succ] at c6
 have hlt:N < X.heap.size:=u2m hgi
 have hsz:(X.setCell ⟨g,2,none⟩ (.bool b)).heap.size = X.heap.size:=by simp [World.setCell]
 have hO5:uh.Old N w0.heap.size (X.setCell ⟨g,2,none⟩ (.bool b)) g gp vc s.code:=hO.keep (fun k _ hk => Below.heap_setCell X ⟨g,2,none⟩ (.bool b) k hk)
 have hk6:∀ k,k < N → (W6.setCell ⟨N,1,none⟩ v1).heap[k]? = (X.setCell ⟨g,2,none⟩ (.bool b)).heap[k]? := fun k hk =>
  (Below.heap_setCell W6 ⟨N,1,none⟩ v1 k (by simp only;omega)).trans (hg6.block k (by omega) (fun he => by have:=hrow k he.symm;omega))
 have hO7:uh.Old N w0.heap.size (W6.setCell ⟨N,1,none⟩ v1) g gp vc s.code:=hO5.keep (fun k hk _ => hk6 k hk)
 refine ⟨⟨c6,uq hi6 1⟩,uh.Old.st (s:={ s with bad:=b }) hO5 hS5 (hB6.setCell hN _) hk6,hO7,?_,Kd.R_set hR6 hi6 (by intro q hq;simp [k191,Kd.iso,Kd.pair,Kd.int,Kd.scalar] at hq;omega) 1 v1⟩
 rw [u3v hi6 1 _]
 rfl
def uh.spanM (s:uh.CS):S191 × uh.CS :=
 let x:=u2h.mem s
 let y:=if x.2.bad = false ∧ uu.am ⟨#[45]⟩ x.2 = true then u2h.mem (uf.step x.2).2 else x
 (⟨x.1,y.1⟩,{ y.2 with bad:=y.2.bad || decide (y.1 < x.1) })
def uh.loopM:Nat → Bool → uh.CS → List S191 → List S191 × uh.CS
 | 0,_,s,l => (l,s)
 | k + 1,first,s,l => if s.bad = false ∧ (first = true ∨ uu.am ⟨#[93]⟩ s = false) then loopM k false (uh.spanM s).2 (l ++ [(uh.spanM s).1]) else (l,s)
def uh.neg (s:uh.CS):Bool:=match s.p with
 | [] => false
 | r :: _ => decide (r = 94)
def uh.cls (s:uh.CS):uh.CS :=
 let s0:=if uh.neg s then (uf.step s).2 else s
 let x:=uh.loopM (s0.p.length + 2) true s0 []
 let s2:=(uf.step x.2).2
 { s2 with code:=s2.code ++ [⟨1,x.1,uh.neg s,0,0⟩] }
theorem uh.step_code (s:uh.CS):(uf.step s).2.code = s.code:=by
 unfold uf.step
 split <;> rfl
theorem uh.step_dec (s:uh.CS):(uf.step s).2.p.length ≤ s.p.length ∧ ((uf.step s).2.bad = true ∨ (uf.step s).2.p.length + 1 ≤ s.p.length) ∧ (s.bad = true → (uf.step s).2.bad = true):=by
 obtain ⟨p,code,bad⟩:=s
 cases p with
 | nil => exact ⟨Nat.le_refl _,Or.inl rfl,fun _ => rfl⟩
 | cons r q => exact ⟨by simp [uf.step],Or.inr (by simp [uf.step]),fun h => h⟩
theorem uh.mem_code (s:uh.CS):(u2h.mem s).2.code = s.code:=by
 unfold u2h.mem
 dsimp only
 split
 · rw [uh.step_code,uh.step_code]
 · rw [uh.step_code]
theorem uh.mem_dec (s:uh.CS):(u2h.mem s).2.p.length ≤ s.p.length ∧ ((u2h.mem s).2.bad = true ∨ (u2h.mem s).2.p.length + 1 ≤ s.p.length) ∧ (s.bad = true → (u2h.mem s).2.bad = true):=by
 unfold u2h.mem
 dsimp only
 obtain ⟨a1,a2,a3⟩:=uh.step_dec { s with bad:=s.bad || uu.am ⟨#[93,45]⟩ s }
 split
 · obtain ⟨b1,b2,b3⟩:=uh.step_dec (uf.step { s with bad:=s.bad || uu.am ⟨#[93,45]⟩ s }).2
   simp only at a1 a2 a3
   refine ⟨by omega,?_,fun h => b3 (a3 (by simp [h]))⟩
   rcases b2 with h | h
   · exact Or.inl h
   · exact Or.inr (by omega)
 · exact ⟨a1,a2,fun h => a3 (by simp [h])⟩
theorem uh.spanM_code (s:uh.CS):(uh.spanM s).2.code = s.code:=by
 unfold uh.spanM
 dsimp only
 split
 · rw [uh.mem_code,uh.step_code,uh.mem_code]
 · rw [uh.mem_code]
theorem uh.spanM_dec (s:uh.CS):(uh.spanM s).2.p.length ≤ s.p.length ∧ ((uh.spanM s).2.bad = true ∨ (uh.spanM s).2.p.length + 1 ≤ s.p.length):=by
 unfold uh.spanM
 dsimp only
 obtain ⟨a1,a2,a3⟩:=uh.mem_dec s
 split
 · obtain ⟨b1,b2,b3⟩:=uh.step_dec (u2h.mem s).2
   obtain ⟨c1,c2,c3⟩:=uh.mem_dec (uf.step (u2h.mem s).2).2
   refine ⟨by omega,?_⟩
   rcases a2 with h | h
   · exact Or.inl (by rw [c3 (b3 h)];rfl)
   · exact Or.inr (by omega)
 · refine ⟨a1,?_⟩
   rcases a2 with h | h
   · exact Or.inl (by rw [h];rfl)
   · exact Or.inr h
theorem uh.loopM_code (k:Nat):∀ (first:Bool) (s:uh.CS) (l:List S191),(uh.loopM k first s l).2.code = s.code ∧ (uh.loopM k first s l).2.p.length ≤ s.p.length:=by
 induction k with
 | zero => exact fun _ _ _ => ⟨rfl,Nat.le_refl _⟩
 | succ k ih =>
   intro first s l
   unfold uh.loopM
   split
   · obtain ⟨h1,h2⟩:=ih false (uh.spanM s).2 (l ++ [(uh.spanM s).1])
     exact ⟨h1.trans (uh.spanM_code s),Nat.le_trans h2 (uh.spanM_dec s).1⟩
   · exact ⟨rfl,Nat.le_refl _⟩
set_option maxHeartbeats 4000000 in
set_option maxRecDepth 10000 in
theorem uh.calls (w0 W:World) (g gp:Nat) (vc:Value) (s:uh.CS) (h:uf.St w0 W g gp vc s) (hsz:s.code.length + s.p.length ≤ 1000) :
 Calls Tryz.prog 144 #[.pointer (some ⟨g,0,none⟩)] W fun e W' => e = .returned (.tuple #[]) ∧ ∃ vc',uf.St w0 W' g gp vc' (uh.cls s):=by
 obtain ⟨Wa,hWa⟩:∃ Wa,Aside0 (W.alloc (.cells #[.int .i64 1,.slice none 0 0,.bool false,.int .i64 0,.int .i64 0] 164) = Wa):=⟨_,⟨rfl⟩⟩
 have hbeWa:Below W.heap.size W Wa:=by rw [← hWa.out];exact uj (Below.refl _ _) _
 have hSa:=u3c.St_below h hbeWa
 have hBi:Aside0 (Wa.heap[W.heap.size]? = some (.cells #[.int .i64 1,.slice none 0 0,.bool false,.int .i64 0,.int .i64 0] 164 (0,0))):=⟨by rw [← hWa.out];exact u3d _ _⟩
 have HGI:Aside0 (w0.heap.size ≤ W.heap.size):=⟨h.below.size⟩
 obtain ⟨A,c,⟨h0,h1,h2⟩,⟨f0,f1,f2⟩,hl,hb,hr⟩:=hSa.look
 have HS:=Aside0.mk hSa
 have HS0:=Aside0.mk h
 have HO:=Aside0.mk (uh.Old.start h)
 clear hSa h hb hr hl hbeWa
 obtain ⟨nx,hnx⟩:∃ nx,Aside0 (u2r.nx s = nx ∧ (uh.neg s = (nx == 94)) ∧ (nx ≠ 0 → 0 < s.p.length)):=⟨_,⟨rfl,by
  unfold uh.neg u2r.nx
  cases s.p with
  | nil => rfl
  | cons r q => by_cases h9:r = 94 <;> simp [h9],by
  unfold u2r.nx
  cases s.p with
  | nil => simp
  | cons r q => simp⟩⟩
 have HNE:Aside0 (W.heap.size ≠ g):=⟨by
  obtain ⟨A9,c9,h9,_⟩:=HS0.out.cells
  have:=u2m h9
  omega⟩
 obtain ⟨ng,hng⟩:∃ ng,Aside0 (uh.neg s = ng):=⟨_,⟨rfl⟩⟩
 obtain ⟨s0,hs0⟩:∃ s0:uh.CS,Aside0 (s0 = if ng then (uf.step s).2 else s):=⟨_,⟨rfl⟩⟩
 obtain ⟨fin,hfin⟩:∃ fin,Aside0 (uh.loopM (s0.p.length + 2) true s0 [] = fin):=⟨_,⟨rfl⟩⟩
 have HCLS:Aside0 (uh.cls s = { (uf.step fin.2).2 with code:=(uf.step fin.2).2.code ++ [⟨1,fin.1,ng,0,0⟩] }):=⟨by
  unfold uh.cls
  dsimp only
  rw [hng.out]
  rw [← hs0.out,hfin.out]⟩
 have hs0l:s0.p.length ≤ s.p.length:=by
  rw [hs0.out]
  split
  · exact (uh.step_dec s).1
  · exact Nat.le_refl _
 have hs0c:Aside0 (s0.code = s.code):=⟨by
  rw [hs0.out]
  split
  · exact uh.step_code s
  · rfl⟩
 rw [hng.out] at hnx
 go_enter Tryz.func144,Tryz.ntmps144
 go_wp2_with (first
  | (go_at_call 120;rw [hWa.out];(with_reducible refine (u2r.calls w0 Wa g gp vc s HS.out).mono ?_);rintro e W1 ⟨rfl,hW1⟩;rw [hW1,hnx.out.1])
  | (go_at_call 121;(with_reducible refine (uf.calls w0 Wa g gp vc s HS.out).mono ?_);rintro e W2 ⟨rfl,hS2,hK2⟩
     have hb2:=(hK2.2 W.heap.size HNE.out).trans hBi.out
     have c2:=uk hb2 2
     have f22:=uq hb2 2
     have HS2:=Aside0.mk hS2
     have HB2:=Aside0.mk hb2
     have HK2:=Aside0.mk hK2
     simp only [List.size_toArray,List.length_cons,List.length_nil,List.getElem?_toArray,List.getElem?_cons_zero,List.getElem?_cons_succ] at c2
     clear hS2 hK2 hb2))
 all_goals try (exfalso;have:=hnx.out.2.2 (by omega);omega)
 all_goals
  go_loopg [3] (s0.p.length + 2) (fun kq v3 wr => ∃ (first:Bool) (sc:uh.CS) (l:List S191) (vs:Value),v3 = .bool first ∧ Aside0 (uf.St w0 wr g gp vc sc) ∧ Aside0 (uh.Old W.heap.size w0.heap.size wr g gp vc sc.code) ∧ Aside0 (wr.heap[W.heap.size]? = some (.cells #[.int .i64 1,vs,.bool ng,.int .i64 0,.int .i64 0] 164 (0,0))) ∧ Aside0 (Kd.R k191 191 wr w0.heap.size (fun k => W.heap.size ≤ k) vs l) ∧ Aside0 (uh.loopM kq first sc l = fin) ∧ Aside0 (sc.bad = true ∨ sc.p.length + 1 ≤ kq) ∧ Aside0 (sc.code = s.code ∧ l.length + kq ≤ 3000))
  case atStart =>
   first
    | (have hn1:ng = true:=by rw [hnx.out.2.1];simp;omega
       rw [hn1] at hs0 ⊢
       have e0:s0 = (uf.step s).2:=hs0.out
       have hO2:uh.Old W.heap.size w0.heap.size W2 g gp vc s0.code:=by rw [hs0c.out];exact HO.out.keep (fun k hk hne => (HK2.out.2 k hne).trans (by rw [← hWa.out];exact Below.heap_alloc _ _ _ hk))
       rw [← e0] at HS2
       have hfar:∀ k,k < W.heap.size → (W2.setCell ⟨W.heap.size,2,none⟩ (.bool true)).heap[k]? = W2.heap[k]? := fun k hk => Below.heap_setCell _ _ _ _ (by simp only;omega)
       refine ⟨true,s0,[],.slice none 0 0,rfl,⟨hO2.st HS2.out (HS2.out.below.setCell HGI.out _) hfar⟩,⟨hO2.keep (fun k hk _ => hfar k hk)⟩,⟨?_⟩,⟨Kd.R_nil _ _ _ _ _⟩,hfin,⟨Or.inr (by omega)⟩,⟨hs0c.out,by simp;omega⟩⟩
       rw [u3v HB2.out 2 _]
       rfl)
    | (have hn1:ng = false:=by rw [hnx.out.2.1];simp;omega
       rw [hn1] at hs0 ⊢
       have e0:s0 = s:=hs0.out
       refine ⟨true,s0,[],.slice none 0 0,rfl,⟨?_⟩,⟨?_⟩,⟨?_⟩,⟨Kd.R_nil _ _ _ _ _⟩,hfin,⟨Or.inr (by omega)⟩,⟨hs0c.out,by simp;omega⟩⟩
       · rw [e0]
         exact HS.out
       · rw [e0]
         exact HO.out.keep (fun k hk _ => by rw [← hWa.out];exact Below.heap_alloc _ _ _ hk)
       · exact hBi.out)
  case round =>
   obtain ⟨first,sc,l,vs,rfl,hSr,hOr,hBr,hRr,hfr,hkr,hcr⟩:=hrel
   clear h0 h1 h2 f0 f1 f2 HS HS0 HO hnx hs0 hfin hWa hBi hs0c
   try clear HS2 HB2 HK2 c2 f22
   obtain ⟨A1,c1,⟨h0r,h1r,h2r⟩,⟨f0r,f1r,f2r⟩,hlr,hbr,hrr⟩:=hSr.out.look
   clear hbr hrr
   by_cases hcond:sc.bad = false ∧ (first = true ∨ uu.am ⟨#[93]⟩ sc = false)
   · obtain ⟨hbad,hfa⟩:=hcond
     obtain ⟨x1,hx1⟩:∃ x1,Aside0 (u2h.mem sc = x1):=⟨_,⟨rfl⟩⟩
     obtain ⟨lo,s1⟩:=x1
     rw [hbad] at h2r
     have hfr2:∀ k,gk = k + 1 → uh.loopM k false (uh.spanM sc).2 (l ++ [(uh.spanM sc).1]) = fin:=fun k hk => by
      have h9:=hfr.out
      rw [hk] at h9
      unfold uh.loopM at h9
      rwa [if_pos ⟨hbad,hfa⟩] at h9
     have hsd:=uh.spanM_dec sc
     have hsc:=uh.spanM_code sc
     obtain ⟨g1,hg1⟩:∃ g1,gk = g1 + 1:=⟨gk - 1,by
      have:=hkr.out.resolve_left (by simp [hbad])
      omega⟩
     have hfr3:=Aside0.mk (hfr2 g1 hg1)
     have hkr3:Aside0 ((uh.spanM sc).2.bad = true ∨ (uh.spanM sc).2.p.length + 1 ≤ g1):=⟨by
      have h8:=hkr.out.resolve_left (by simp [hbad])
      rcases hsd.2 with h | h
      · exact Or.inl h
      · exact Or.inr (by omega)⟩
     have hcr3:Aside0 ((uh.spanM sc).2.code = s.code ∧ (l ++ [(uh.spanM sc).1]).length + g1 ≤ 3000):=⟨hsc.trans hcr.out.1,by have:=hcr.out.2;simp;omega⟩
     clear hfr2 hsd hsc
     by_cases hgo:s1.bad = false ∧ uu.am ⟨#[45]⟩ s1 = true
     · obtain ⟨x2,hx2⟩:∃ x2,Aside0 (uf.step s1 = x2):=⟨_,⟨rfl⟩⟩
       obtain ⟨rr,s2⟩:=x2
       obtain ⟨x3,hx3⟩:∃ x3,Aside0 (u2h.mem s2 = x3):=⟨_,⟨rfl⟩⟩
       obtain ⟨hi,s3⟩:=x3
       have hsp:Aside0 (uh.spanM sc = (⟨lo,hi⟩,{ s3 with bad:=s3.bad || decide (hi < lo) })):=⟨by
        unfold uh.spanM
        rw [hx1.out]
        dsimp only
        rw [if_pos hgo,hx2.out]
        dsimp only
        rw [hx3.out]⟩
       obtain ⟨hb1,ham1⟩:=hgo
       have HAM:=Aside0.mk ham1
       have hc3:Aside0 (s3.code = sc.code ∧ s2.code = sc.code ∧ s1.code = sc.code):=⟨by
        have q1:=uh.mem_code sc
        have q2:=uh.step_code s1
        have q3:=uh.mem_code s2
        rw [hx1.out] at q1
        rw [hx2.out] at q2
        rw [hx3.out] at q3
        exact ⟨q3.trans (q2.trans q1),q2.trans q1,q1⟩⟩
       clear ham1
       cases first
       all_goals
        go_wp2_with (first
         | (go_at_call 132;(with_reducible refine (uu.calls w0 wr g gp vc sc _ hSr.out).mono ?_);rintro e W1 ⟨rfl,hW1⟩;rw [hW1,show uu.am ⟨#[93]⟩ sc = false from hfa.resolve_left (by decide)])
         | (go_at_call 132;(with_reducible refine (uu.calls w0 _ g gp vc s1 _ HY.out).mono ?_);rintro e W1' ⟨rfl,hW1'⟩;rw [hW1',HAM.out])
         | (go_at_call 121;(with_reducible refine (uf.calls w0 _ g gp vc s1 HY.out).mono ?_);rintro e W3 ⟨rfl,hS3,hK3⟩
            rw [hx2.out] at hS3 ⊢
            have HS3:=Aside0.mk hS3
            have HK3:=Aside0.mk hK3
            clear hS3 hK3)
         | (go_at_call 150;(with_reducible refine (u2h.calls w0 wr g gp vc sc hSr.out).mono ?_);rintro e W1 ⟨rfl,hS1,hK1⟩
            rw [hx1.out] at hS1 ⊢
            obtain ⟨A2,cc2,hl2,hb2,hr2⟩:∃ A c,s1.p.length ≤ c ∧ W1.heap[g]? = some (.cells #[.slice A s1.p.length c,vc,.bool s1.bad] 159 (0,0)) ∧ uf.Runes W1 gp A s1.p:=by
             obtain ⟨A,c,h1,h2,h3⟩:=hS1.cells
             exact ⟨A,c,h2,h1,h3⟩
            have hbi1:=(hK1.2 W.heap.size HNE.out).trans hBr.out
            have k1:=uk (u1k hb2 (.cells #[.int .i32 lo,.int .i32 lo] 191)) 2
            simp only [List.size_toArray,List.length_cons,List.length_nil,List.getElem?_toArray,List.getElem?_cons_zero,List.getElem?_cons_succ] at k1
            rw [hb1] at k1
            have hal:Below W1.heap.size W1 (W1.alloc (.cells #[.int .i32 lo,.int .i32 lo] 191)):=uj (Below.refl _ _) _
            have hO1:uh.Old W.heap.size w0.heap.size W1 g gp vc sc.code:=hOr.out.keep (fun k _ hk => hK1.2 k hk)
            have HY:=Aside0.mk (u3c.St_below hS1 hal)
            have HOY:=Aside0.mk (hO1.keep (fun k hk _ => hal.block k (by have:=u2m hbi1;omega)))
            have HIY:=Aside0.mk (u1k hbi1 (.cells #[.int .i32 lo,.int .i32 lo] 191))
            have HGY:=Aside0.mk (u3d W1 (.cells #[.int .i32 lo,.int .i32 lo] 191))
            have HRY:Aside0 (Kd.R k191 191 (W1.alloc (.cells #[.int .i32 lo,.int .i32 lo] 191)) w0.heap.size (fun k => W.heap.size ≤ k ∧ k < W1.heap.size) vs l):=⟨Kd.R_below (Kd.R_mono (Kd.R_bound (Kd.R_step hRr.out (fun k hk _ => hK1.2 k (by have:=hOr.out.g;omega)))) (fun k hk => ⟨hk.1,hk.2.2.1⟩)) hal⟩
            clear hS1 hK1 hb2 hr2 hl2 hbi1 hO1 hal)
         | (go_at_call 150;(with_reducible refine (u2h.calls w0 W3 g gp vc s2 HS3.out).mono ?_);rintro e W4 ⟨rfl,hS4,hK4⟩
            rw [hx3.out] at hS4 ⊢
            obtain ⟨A2,cc2,hl2,hb2,hr2⟩:∃ A c,s3.p.length ≤ c ∧ W4.heap[g]? = some (.cells #[.slice A s3.p.length c,vc,.bool s3.bad] 159 (0,0)) ∧ uf.Runes W4 gp A s3.p:=by
             obtain ⟨A,c,h1,h2,h3⟩:=hS4.cells
             exact ⟨A,c,h2,h1,h3⟩
            have hKK:=HK3.out.trans hK4
            have hsg:W1.heap.size ≠ g:=by
             have h9:=HOY.out.g
             have h8:=u2m HIY.out
             simp at h8
             omega
            have hb4:=(hKK.2 W.heap.size HNE.out).trans HIY.out
            have hg4:=(hKK.2 W1.heap.size hsg).trans HGY.out
            have hlt:W.heap.size < W1.heap.size:=by
             have h8:=u2m HIY.out
             have h7:W.heap.size ≠ W1.heap.size:=blk_ne HIY.out HGY.out (by decide)
             simp at h8
             omega
            have m1:=uk hg4 1
            simp only [List.size_toArray,List.length_cons,List.length_nil,List.getElem?_toArray,List.getElem?_cons_zero,List.getElem?_cons_succ] at m1
            have m2:=uq hg4 1
            have HBG:=Aside0.mk (blk_far hb2 (p:=⟨W1.heap.size,1,none⟩) (Ne.symm hsg) (.int .i32 hi))
            have HIX:=Aside0.mk (blk_far hb4 (p:=⟨W1.heap.size,1,none⟩) (by simp only;omega) (.int .i32 hi))
            obtain ⟨⟨k1,k2,k3,k4,k5⟩,k6⟩:=uh.look3 (gs:=W1.heap.size) (lo:=lo) (hi:=hi) HBG.out HIX.out (by rw [u3v hg4 1 _];rfl)
            have hO4:uh.Old W.heap.size w0.heap.size W4 g gp vc s3.code:=by rw [hc3.out.1];exact HOY.out.keep (fun k _ hk => hKK.2 k hk)
            have hfar:∀ k,k < W.heap.size → (W4.setCell ⟨W1.heap.size,1,none⟩ (.int .i32 hi)).heap[k]? = W4.heap[k]? := fun k hk => Below.heap_setCell _ _ _ _ (by simp only;omega)
            have HX:=Aside0.mk (hO4.st hS4 (hS4.below.setCell (by have:=HGI.out;simp only;omega) (.int .i32 hi)) hfar)
            have HOX:=Aside0.mk (hO4.keep (fun k hk _ => hfar k hk))
            have HRX:Aside0 (Kd.R k191 191 (W4.setCell ⟨W1.heap.size,1,none⟩ (.int .i32 hi)) w0.heap.size (fun k => W.heap.size ≤ k) vs l):=⟨Kd.R_mono (Kd.R_far (Kd.R_step HRY.out (fun k hk _ => hKK.2 k (by have:=HOY.out.g;omega))) (fun k hk => by simp only;omega) _) (fun k hk => hk.1)⟩
            have HSZ:Aside0 (∀ u,((W4.setCell ⟨W1.heap.size,1,none⟩ (.int .i32 hi)).setCell ⟨g,2,none⟩ u).heap.size = W4.heap.size):=⟨fun u => by simp⟩
            clear hS4 hK4 hb2 hr2 hl2 hKK hb4 hg4 hO4 hfar)
         | ((with_reducible refine u2z (b:=.append) (xs:=#[.tmp 68,.tmp 70]) rfl ?_);at_builtin
            refine Kd.R_append k191 (w0:=w0) w0.heap.size rfl (.tmp 68) (.tmp 70) 162 191 (.agg #[.int .i32 0,.int .i32 0]) 8 rfl Tryz.underlying162 uh.infoSp rfl (by decide) (by decide) _ l (⟨lo,hi⟩:S191) [.int .i32 lo,.int .i32 hi] (fun k => W.heap.size ≤ k) (fun _ => False) rfl (by rw [HSZ.out];rfl) (k191_mkM _ _ _ (⟨lo,hi⟩:S191)) (fun _ hk => hk.elim) ?hfresh (Kd.R_set HRX.out HBG.out ?hty 2 _) ?hbel ?hbase ?hbig ?_
            (case hty => intro q hq;simp [k191,Kd.iso,Kd.pair,Kd.int,Kd.scalar] at hq;omega)
            (case hfresh => intro k hk;have h9:=u2m HIX.out;rw [HSZ.out] at hk;simp at h9;omega)
            (case hbel => exact HX.out.below.setCell HX.out.base _)
            (case hbase => exact (HX.out.below.setCell HX.out.base _).size)
            (case hbig => have:=hcr.out.2;omega)
            intro v6 W6 hR6 hB6 hg6 hat6
            obtain ⟨A6,c6,e6⟩:=Kd.R_slice hR6
            subst e6
            obtain ⟨⟨z1,z2⟩,z3,z4,z5,z6⟩:=uh.fini HGI.out HX.out HOX.out HIX.out HRX.out hR6 hB6 hg6
            simp only [List.length_append,List.length_cons,List.length_nil,Nat.zero_add] at z3 z4 z5 z6
            have Z3:=Aside0.mk z3
            have Z4:=Aside0.mk z4
            have Z5:=Aside0.mk z5
            have Z6:=Aside0.mk z6
            clear hR6 hB6 hg6 hat6 z3 z4 z5 z6))
        all_goals
         go_roundg g1
         case rel =>
          refine ⟨false,(uh.spanM sc).2,l ++ [(uh.spanM sc).1],_,rfl,⟨?_⟩,⟨?_⟩,Z5,⟨?_⟩,hfr3,hkr3,hcr3⟩
          · rw [hsp.out]
            first
             | (have h9:s3.bad = true:=by assumption
                rw [show (s3.bad || decide (hi < lo)) = true from by simp [h9]]
                exact Z3.out)
             | (have h9:¬ s3.bad = true:=by assumption
                rw [show (s3.bad || decide (hi < lo)) = decide (hi < lo) from by simp [h9]]
                exact Z3.out)
          · rw [hsp.out]
            exact Z4.out
          · rw [hsp.out]
            exact Z6.out
         case measure => omega
     · have hsp:Aside0 (uh.spanM sc = (⟨lo,lo⟩,{ s1 with bad:=s1.bad || decide (lo < lo) })):=⟨by
        unfold uh.spanM
        rw [hx1.out]
        dsimp only
        rw [if_neg hgo]⟩
       have HAM:Aside0 (¬ s1.bad = true → uu.am ⟨#[45]⟩ s1 = false):=⟨fun h9 => by
        cases h8:uu.am ⟨#[45]⟩ s1 with
        | false => rfl
        | true => exact absurd ⟨by simpa using h9,h8⟩ hgo⟩
       clear hgo
       cases first
       all_goals
        go_wp2_with (first
         | (go_at_call 132;(with_reducible refine (uu.calls w0 wr g gp vc sc _ hSr.out).mono ?_);rintro e W1 ⟨rfl,hW1⟩;rw [hW1,show uu.am ⟨#[93]⟩ sc = false from hfa.resolve_left (by decide)])
         | (go_at_call 132;(with_reducible refine (uu.calls w0 _ g gp vc s1 _ HX.out).mono ?_);rintro e W1' ⟨rfl,hW1'⟩;rw [hW1',HAM.out (by assumption)])
         | (go_at_call 150;(with_reducible refine (u2h.calls w0 wr g gp vc sc hSr.out).mono ?_);rintro e W1 ⟨rfl,hS1,hK1⟩
            rw [hx1.out] at hS1 ⊢
            obtain ⟨A2,cc2,hl2,hb2,hr2⟩:∃ A c,s1.p.length ≤ c ∧ W1.heap[g]? = some (.cells #[.slice A s1.p.length c,vc,.bool s1.bad] 159 (0,0)) ∧ uf.Runes W1 gp A s1.p:=by
             obtain ⟨A,c,h1,h2,h3⟩:=hS1.cells
             exact ⟨A,c,h2,h1,h3⟩
            have hbi1:=(hK1.2 W.heap.size HNE.out).trans hBr.out
            obtain ⟨⟨k1,k2,k3,k4,k5⟩,k6⟩:=uh.look3 (gs:=W1.heap.size) (lo:=lo) (hi:=lo) (u1k hb2 (.cells #[.int .i32 lo,.int .i32 lo] 191)) (u1k hbi1 (.cells #[.int .i32 lo,.int .i32 lo] 191)) (u3d W1 (.cells #[.int .i32 lo,.int .i32 lo] 191))
            have hc1:s1.code = sc.code:=by have:=uh.mem_code sc;rw [hx1.out] at this;exact this
            have hO1:uh.Old W.heap.size w0.heap.size W1 g gp vc s1.code:=by rw [hc1];exact hOr.out.keep (fun k _ hk => hK1.2 k hk)
            have hal:Below W1.heap.size W1 (W1.alloc (.cells #[.int .i32 lo,.int .i32 lo] 191)):=uj (Below.refl _ _) _
            have HBG:=Aside0.mk (u1k hb2 (.cells #[.int .i32 lo,.int .i32 lo] 191))
            have HX:=Aside0.mk (u3c.St_below hS1 hal)
            have HOX:=Aside0.mk (hO1.keep (fun k hk _ => hal.block k (by have:=u2m hbi1;omega)))
            have HIX:=Aside0.mk (u1k hbi1 (.cells #[.int .i32 lo,.int .i32 lo] 191))
            have HRX:=Aside0.mk (Kd.R_below (Kd.R_step hRr.out (fun k hk _ => hK1.2 k (by have:=hOr.out.g;omega))) hal)
            have HSZ:Aside0 (∀ u,((W1.alloc (.cells #[.int .i32 lo,.int .i32 lo] 191)).setCell ⟨g,2,none⟩ u).heap.size = W1.heap.size + 1):=⟨fun u => by simp⟩
            clear hS1 hK1 hb2 hr2 hl2 hbi1 hc1 hO1 hal)
         | ((with_reducible refine u2z (b:=.append) (xs:=#[.tmp 68,.tmp 70]) rfl ?_);at_builtin
            refine Kd.R_append k191 (w0:=w0) w0.heap.size rfl (.tmp 68) (.tmp 70) 162 191 (.agg #[.int .i32 0,.int .i32 0]) 8 rfl Tryz.underlying162 uh.infoSp rfl (by decide) (by decide) _ l (⟨lo,lo⟩:S191) [.int .i32 lo,.int .i32 lo] (fun k => W.heap.size ≤ k) (fun _ => False) rfl (by rw [HSZ.out];rfl) (k191_mkM _ _ _ (⟨lo,lo⟩:S191)) (fun _ hk => hk.elim) ?hfresh (Kd.R_set HRX.out HBG.out ?hty 2 _) ?hbel ?hbase ?hbig ?_
            (case hty => intro q hq;simp [k191,Kd.iso,Kd.pair,Kd.int,Kd.scalar] at hq;omega)
            (case hfresh => intro k hk;have h9:=u2m HIX.out;rw [HSZ.out] at hk;simp at h9;omega)
            (case hbel => exact HX.out.below.setCell HX.out.base _)
            (case hbase => exact (HX.out.below.setCell HX.out.base _).size)
            (case hbig => have:=hcr.out.2;omega)
            intro v6 W6 hR6 hB6 hg6 hat6
            obtain ⟨A6,c6,e6⟩:=Kd.R_slice hR6
            subst e6
            obtain ⟨⟨z1,z2⟩,z3,z4,z5,z6⟩:=uh.fini HGI.out HX.out HOX.out HIX.out HRX.out hR6 hB6 hg6
            simp only [List.length_append,List.length_cons,List.length_nil,Nat.zero_add] at z3 z4 z5 z6
            have Z3:=Aside0.mk z3
            have Z4:=Aside0.mk z4
            have Z5:=Aside0.mk z5
            have Z6:=Aside0.mk z6
            clear hR6 hB6 hg6 hat6 z3 z4 z5 z6))
        all_goals
         go_roundg g1
         case rel =>
          refine ⟨false,(uh.spanM sc).2,l ++ [(uh.spanM sc).1],_,rfl,⟨?_⟩,⟨?_⟩,Z5,⟨?_⟩,hfr3,hkr3,hcr3⟩
          · rw [hsp.out]
            first
             | (have h9:s1.bad = true:=by assumption
                rw [show (s1.bad || decide (lo < lo)) = true from by simp [h9]]
                exact Z3.out)
             | (have h9:¬ s1.bad = true:=by assumption
                rw [show (s1.bad || decide (lo < lo)) = false from by simp [h9]]
                exact Z3.out)
          · rw [hsp.out]
            exact Z4.out
          · rw [hsp.out]
            exact Z6.out
         case measure => omega
   · have hfe:fin = (l,sc):=by
      have h9:=hfr.out
      cases gk with
      | zero => exact h9.symm
      | succ k =>
        unfold uh.loopM at h9
        rw [if_neg hcond] at h9
        exact h9.symm
     obtain ⟨x2,hx2⟩:∃ x2,Aside0 (uf.step sc = x2):=⟨_,⟨rfl⟩⟩
     obtain ⟨r2,s2⟩:=x2
     have HC2:Aside0 (uh.cls s = ⟨s2.p,s2.code ++ [⟨1,l,ng,0,0⟩],s2.bad⟩):=⟨by
      rw [HCLS.out,hfe]
      dsimp only
      rw [hx2.out]⟩
     have hs2c:Aside0 (s2.code.length = s.code.length):=⟨by
      have h9:=uh.step_code sc
      rw [hx2.out] at h9
      exact congrArg List.length (h9.trans hcr.out.1)⟩
     obtain ⟨Av,cv,ev⟩:=Kd.R_slice hRr.out
     subst ev
     clear HCLS
     cases hbd:sc.bad with
     | true =>
       rw [hbd] at h2r
       clear hcond hbd
       go_wp2_with (first
        | (go_at_call 121;(with_reducible refine (uf.calls w0 wr g gp vc sc hSr.out).mono ?_);rintro e W1 ⟨rfl,hS1,hK1⟩
           rw [hx2.out] at hS1 ⊢
           have hb1:=(hK1.2 W.heap.size HNE.out).trans hBr.out
           have k0:=uk hb1 0
           have k1:=uk hb1 1
           have k2:=uk hb1 2
           have k3:=uk hb1 3
           have k4:=uk hb1 4
           simp only [List.size_toArray,List.length_cons,List.length_nil,List.getElem?_toArray,List.getElem?_cons_zero,List.getElem?_cons_succ] at k0 k1 k2 k3 k4
           have HS1:=Aside0.mk hS1
           have HR1:Aside0 (Kd.R k191 191 W1 w0.heap.size (fun _ => True) (.slice Av l.length cv) l):=⟨Kd.R_mono (Kd.R_step hRr.out (fun k hk _ => hK1.2 k (by have:=hOr.out.g;omega))) (fun _ _ => trivial)⟩
           clear hS1 hK1 hb1)
        | (go_at_call 103;(with_reducible refine (u1n.put1 HS1.out HR1.out (by have:=hs2c.out;omega)).mono ?_);rintro e W3 ⟨rfl,vc3,hS3,hF3⟩
           have HS3:=Aside0.mk hS3
           clear hS3 hF3))
       go_end0
       exact ⟨rfl,_,by rw [HC2.out];exact HS3.out⟩
     | false =>
       rw [hbd] at h2r
       have hff:first = false ∧ uu.am ⟨#[93]⟩ sc = true:=by
        cases first with
        | true => exact absurd ⟨hbd,Or.inl rfl⟩ hcond
        | false =>
          refine ⟨rfl,?_⟩
          cases h9:uu.am ⟨#[93]⟩ sc with
          | true => rfl
          | false => exact absurd ⟨hbd,Or.inr h9⟩ hcond
       obtain ⟨hff1,hff2⟩:=hff
       have HAM:=Aside0.mk hff2
       subst hff1
       clear hcond hbd hff2
       go_wp2_with (first
        | (go_at_call 132;(with_reducible refine (uu.calls w0 wr g gp vc sc _ hSr.out).mono ?_);rintro e W1 ⟨rfl,hW1⟩;rw [hW1,HAM.out])
        | (go_at_call 121;(with_reducible refine (uf.calls w0 wr g gp vc sc hSr.out).mono ?_);rintro e W2 ⟨rfl,hS1,hK1⟩
           rw [hx2.out] at hS1 ⊢
           have hb1:=(hK1.2 W.heap.size HNE.out).trans hBr.out
           have k0:=uk hb1 0
           have k1:=uk hb1 1
           have k2:=uk hb1 2
           have k3:=uk hb1 3
           have k4:=uk hb1 4
           simp only [List.size_toArray,List.length_cons,List.length_nil,List.getElem?_toArray,List.getElem?_cons_zero,List.getElem?_cons_succ] at k0 k1 k2 k3 k4
           have HS1:=Aside0.mk hS1
           have HR1:Aside0 (Kd.R k191 191 W2 w0.heap.size (fun _ => True) (.slice Av l.length cv) l):=⟨Kd.R_mono (Kd.R_step hRr.out (fun k hk _ => hK1.2 k (by have:=hOr.out.g;omega))) (fun _ _ => trivial)⟩
           clear hS1 hK1 hb1)
        | (go_at_call 103;(with_reducible refine (u1n.put1 HS1.out HR1.out (by have:=hs2c.out;omega)).mono ?_);rintro e W3 ⟨rfl,vc3,hS3,hF3⟩
           have HS3:=Aside0.mk hS3
           clear hS3 hF3))
       go_end0
       exact ⟨rfl,_,by rw [HC2.out];exact HS3.out⟩
end Go.Proofs.YtgnehcgaplnfkaaGreatDoor.PAll
