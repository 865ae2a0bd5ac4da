/- A text of this seat. -/
import Derived.Test.YtgnehcgaplnfkaaGreatDoorBt1
import Derived.Test.YtgnehcgaplnfkaaGreatDoorBt2
import Derived.Test.YtgnehcgaplnfkaaGreatDoorBt3
namespace Go.Proofs.YtgnehcgaplnfkaaGreatDoor.PAll
open Go.RowKit Go.Proofs.YtgnehcgaplnfkaaGreatDoorW.PrintWords Go.Proofs.YtgnehcgaplnfkaaGreatDoorW.PrintLast Go.Proofs.YtgnehcgaplnfkaaGreatDoorW.PrintMore
attribute [local go_sem] u3r u3t u4c u4b u3n u3o u3u u3s   -- for this text's walks alone
set_option linter.unusedVariables false
set_option linter.unusedSimpArgs false
-- uses regex_coder_take regex_coder_next regex_coder_among regex_coder_member regex_coder_put regex_coder_part
abbrev uf.CS:=ud.CS
structure uf.Old (N base:Nat) (W:World) (g gp:Nat) (vc:Value) (code:List S164):Prop where
 row:Kd.R k164 164 W base (fun k => k < N ∧ k ≠ g) vc code
 gp:gp < N
 g:g < N
theorem uf.Old.start {w0 W:World} {g gp:Nat} {vc:Value} {s:uf.CS} (h:ud.St w0 W g gp vc s):uf.Old W.heap.size w0.heap.size W g gp vc s.code:=by
 obtain ⟨A,c,h1,h2,h3⟩:=h.cells
 obtain ⟨cz,hcz⟩:=h3.1
 refine ⟨Kd.R_mono (Kd.R_bound (Kd.R_types h.code h1 (by intro q hq;rw [u1p.E_inst] at hq;simp at hq;omega))) (fun k hk => ⟨hk.2.2.1,hk.1.2⟩),u3c hcz,u3c h1⟩
theorem uf.Old.keep {N base:Nat} {W W':World} {g gp:Nat} {vc:Value} {code:List S164} (h:uf.Old N base W g gp vc code) (hk:∀ k,k < N → k ≠ g → W'.heap[k]? = W.heap[k]?):uf.Old N base W' g gp vc code :=
 ⟨Kd.R_step h.row (fun k ho _ => hk k ho.1 ho.2),h.gp,h.g⟩
theorem uf.Old.st {N:Nat} {w0 W W':World} {g gp:Nat} {vc:Value} {s:uf.CS} (h:uf.Old N w0.heap.size W g gp vc s.code) (hs:ud.St w0 W g gp vc s) (hb:Below w0.heap.size w0 W') (hk:∀ k,k < N → W'.heap[k]? = W.heap[k]?):ud.St w0 W' g gp vc s where
 below:=hb
 base:=hs.base
 cells:=by
  obtain ⟨A,c,h1,h2,h3⟩:=hs.cells
  exact ⟨A,c,(hk g h.g).trans h1,h2,h3.move (hk gp h.gp)⟩
 code:=Kd.R_mono (h.keep (fun k hk' _ => hk k hk')).row (fun _ _ => trivial)
theorem uf.look3 {X:World} {g gi gs n c:Nat} {A:Option Addr} {vc vs:Value} {bad ng:Bool} {lo hi:Int} (hg:X.heap[g]? = some (.cells #[.slice A n c,vc,.bool bad] 159 (0,0))) (hgi:X.heap[gi]? = some (.cells #[.int .i64 1,vs,.bool ng,.int .i64 0,.int .i64 0] 164 (0,0))) (hgs:X.heap[gs]? = some (.cells #[.int .i32 lo,.int .i32 hi] 191 (0,0))) :
 (X.cell? ⟨g,2,none⟩ = some (.bool bad) ∧ X.frozen? ⟨g,2,none⟩ = false ∧ X.cell? ⟨gs,0,none⟩ = some (.int .i32 lo) ∧ X.cell? ⟨gs,1,none⟩ = some (.int .i32 hi) ∧ X.frozen? ⟨gs,1,none⟩ = false) ∧
 ∀ u,(X.setCell ⟨g,2,none⟩ u).cell? ⟨gi,1,none⟩ = some vs ∧ (X.setCell ⟨g,2,none⟩ u).cell? ⟨gs,0,none⟩ = some (.int .i32 lo) ∧ (X.setCell ⟨g,2,none⟩ u).cell? ⟨gs,1,none⟩ = some (.int .i32 hi):=by
 have e1:=uk hg 2
 have e2:=uk hgs 0
 have e3:=uk hgs 1
 have n1:gi ≠ g:=blk_ne hgi hg (by decide)
 have n2:gs ≠ g:=blk_ne hgs hg (by decide)
 simp only [List.size_toArray,List.length_cons,List.length_nil,List.getElem?_toArray,List.getElem?_cons_zero,List.getElem?_cons_succ] at e1 e2 e3
 refine ⟨⟨e1,ut hg 2,e2,e3,ut hgs 1⟩,fun u => ?_⟩
 have d1:=uk (blk_far hgi (p:=⟨g,2,none⟩) n1 u) 1
 have d2:=uk (blk_far hgs (p:=⟨g,2,none⟩) n2 u) 0
 have d3:=uk (blk_far hgs (p:=⟨g,2,none⟩) n2 u) 1
 simp only [List.size_toArray,List.length_cons,List.length_nil,List.getElem?_toArray,List.getElem?_cons_zero,List.getElem?_cons_succ] at d1 d2 d3
 exact ⟨d1,d2,d3⟩
theorem uf.infoSp:(Tryz.prog.info? 191).map (fun i => (i.zero,i.size,i.bytes)) = some (some (.agg #[.int .i32 0,.int .i32 0]),2,8):=by kernel_rfl
theorem uf.fini {w0 X W6:World} {N g gp:Nat} {vc vs v1:Value} {s:uf.CS} {ng b:Bool} {l:List S191} {sp:S191}
 (hN:w0.heap.size ≤ N) (hX:ud.St w0 X g gp vc s) (hO:uf.Old N w0.heap.size X g gp vc s.code) (hgi:X.heap[N]? = some (.cells #[.int .i64 1,vs,.bool ng,.int .i64 0,.int .i64 0] 164 (0,0))) (hR:Kd.R k191 191 X w0.heap.size (fun k => N ≤ k) vs l)
 (hR6:Kd.R k191 191 W6 w0.heap.size (fun k => N ≤ k) v1 (l ++ [sp])) (hB6:Below w0.heap.size w0 W6) (hg6:(X.setCell ⟨g,2,none⟩ (.bool b)).grownBy W6 vs.ownBlock) :
 (W6.cell? ⟨N,1,none⟩ = some vs ∧ W6.frozen? ⟨N,1,none⟩ = false) ∧ ud.St w0 (W6.setCell ⟨N,1,none⟩ v1) g gp vc { s with bad:=b } ∧ uf.Old N w0.heap.size (W6.setCell ⟨N,1,none⟩ v1) g gp vc s.code ∧ (W6.setCell ⟨N,1,none⟩ v1).heap[N]? = some (.cells #[.int .i64 1,v1,.bool ng,.int .i64 0,.int .i64 0] 164 (0,0)) ∧ Kd.R k191 191 (W6.setCell ⟨N,1,none⟩ v1) w0.heap.size (fun k => N ≤ k) v1 (l ++ [sp]):=by
 obtain ⟨A,c,h1,h2,h3⟩:=hX.cells
 have hne:N ≠ g:=blk_ne hgi h1 (by decide)
 have hS5:ud.St w0 (X.setCell ⟨g,2,none⟩ (.bool b)) g gp vc { s with bad:=b }:=hX.set (i:=2) h1 rfl h2 h3 rfl
 have hi5:=blk_far hgi (p:=⟨g,2,none⟩) hne (.bool b)
 have hR5:=Kd.R_set hR h1 (by intro q hq;simp [k191,Kd.iso,Kd.pair,Kd.int,Kd.scalar] at hq;omega) 2 (.bool b)
 have hrow:∀ k,vs.ownBlock = some k → N ≤ k:=fun k hk => hR.1 k hk
 have hi6:=blk_grown hi5 hg6 (Kd.R_ne hR5 hi5 (by decide))
 have c6:=uk hi6 1
 simp only [List.size_toArray,List.length_cons,List.length_nil,List.getElem?_toArray,List.getElem?_cons_zero,List.getElem?_cons_succ] at c6
 have hlt:N < X.heap.size:=u3c hgi
 have hsz:(X.setCell ⟨g,2,none⟩ (.bool b)).heap.size = X.heap.size:=by simp [World.setCell]
 have hO5:uf.Old N w0.heap.size (X.setCell ⟨g,2,none⟩ (.bool b)) g gp vc s.code:=hO.keep (fun k _ hk => Below.heap_setCell X ⟨g,2,none⟩ (.bool b) k hk)
 have hk6:∀ k,k < N → (W6.setCell ⟨N,1,none⟩ v1).heap[k]? = (X.setCell ⟨g,2,none⟩ (.bool b)).heap[k]? := fun k hk =>
  (Below.heap_setCell W6 ⟨N,1,none⟩ v1 k (by simp only;omega)).trans (hg6.block k (by omega) (fun he => by have:=hrow k he.symm;omega))
 have hO7:uf.Old N w0.heap.size (W6.setCell ⟨N,1,none⟩ v1) g gp vc s.code:=hO5.keep (fun k hk _ => hk6 k hk)
 refine ⟨⟨c6,ut hi6 1⟩,uf.Old.st (s:={ s with bad:=b }) hO5 hS5 (hB6.setCell hN _) hk6,hO7,?_,Kd.R_set hR6 hi6 (by intro q hq;simp [k191,Kd.iso,Kd.pair,Kd.int,Kd.scalar] at hq;omega) 1 v1⟩
 rw [u4f hi6 1 _]
 rfl
def uf.spanM (s:uf.CS):S191 × uf.CS :=
 let x:=u2c.mem s
 let y:=if x.2.bad = false ∧ uw.am ⟨#[45]⟩ x.2 = true then u2c.mem (ud.step x.2).2 else x
 (⟨x.1,y.1⟩,{ y.2 with bad:=y.2.bad || decide (y.1 < x.1) })
def uf.loopM:Nat → Bool → uf.CS → List S191 → List S191 × uf.CS
 | 0,_,s,l => (l,s)
 | k + 1,first,s,l => if s.bad = false ∧ (first = true ∨ uw.am ⟨#[93]⟩ s = false) then loopM k false (uf.spanM s).2 (l ++ [(uf.spanM s).1]) else (l,s)
def uf.neg (s:uf.CS):Bool:=match s.p with
 | [] => false
 | r :: _ => decide (r = 94)
def uf.cls (s:uf.CS):uf.CS :=
 let s0:=if uf.neg s then (ud.step s).2 else s
 let x:=uf.loopM (s0.p.length + 2) true s0 []
 let s2:=(ud.step x.2).2
 { s2 with code:=s2.code ++ [⟨1,x.1,uf.neg s,0,0⟩] }
theorem uf.step_code (s:uf.CS):(ud.step s).2.code = s.code:=by
 unfold ud.step
 split <;> rfl
theorem uf.step_dec (s:uf.CS):(ud.step s).2.p.length ≤ s.p.length ∧ ((ud.step s).2.bad = true ∨ (ud.step s).2.p.length + 1 ≤ s.p.length) ∧ (s.bad = true → (ud.step s).2.bad = true):=by
 obtain ⟨p,code,bad⟩:=s
 cases p with
 | nil => exact ⟨Nat.le_refl _,Or.inl rfl,fun _ => rfl⟩
 | cons r q => exact ⟨by simp [ud.step],Or.inr (by simp [ud.step]),fun h => h⟩
theorem uf.mem_code (s:uf.CS):(u2c.mem s).2.code = s.code:=by
 unfold u2c.mem
 dsimp only
 split
 · rw [uf.step_code,uf.step_code]
 · rw [uf.step_code]
theorem uf.mem_dec (s:uf.CS):(u2c.mem s).2.p.length ≤ s.p.length ∧ ((u2c.mem s).2.bad = true ∨ (u2c.mem s).2.p.length + 1 ≤ s.p.length) ∧ (s.bad = true → (u2c.mem s).2.bad = true):=by
 unfold u2c.mem
 dsimp only
 obtain ⟨a1,a2,a3⟩:=uf.step_dec { s with bad:=s.bad || uw.am ⟨#[93,45]⟩ s }
 split
 · obtain ⟨b1,b2,b3⟩:=uf.step_dec (ud.step { s with bad:=s.bad || uw.am ⟨#[93,45]⟩ s }).2
   simp only at a1 a2 a3
   refine ⟨by omega,?_,fun h => b3 (a3 (by simp [h]))⟩
   rcases b2 with h | h
   · exact Or.inl h
   · exact Or.inr (by omega)
 · exact ⟨a1,a2,fun h => a3 (by simp [h])⟩
theorem uf.spanM_code (s:uf.CS):(uf.spanM s).2.code = s.code:=by
 unfold uf.spanM
 dsimp only
 split
 · rw [uf.mem_code,uf.step_code,uf.mem_code]
 · rw [uf.mem_code]
theorem uf.spanM_dec (s:uf.CS):(uf.spanM s).2.p.length ≤ s.p.length ∧ ((uf.spanM s).2.bad = true ∨ (uf.spanM s).2.p.length + 1 ≤ s.p.length):=by
 unfold uf.spanM
 dsimp only
 obtain ⟨a1,a2,a3⟩:=uf.mem_dec s
 split
 · obtain ⟨b1,b2,b3⟩:=uf.step_dec (u2c.mem s).2
   obtain ⟨c1,c2,c3⟩:=uf.mem_dec (ud.step (u2c.mem s).2).2
   refine ⟨by omega,?_⟩
   rcases a2 with h | h
   · exact Or.inl (by rw [c3 (b3 h)];rfl)
   · exact Or.inr (by omega)
 · refine ⟨a1,?_⟩
   rcases a2 with h | h
   · exact Or.inl (by rw [h];rfl)
   · exact Or.inr h
theorem uf.loopM_code (k:Nat):∀ (first:Bool) (s:uf.CS) (l:List S191),(uf.loopM k first s l).2.code = s.code ∧ (uf.loopM k first s l).2.p.length ≤ s.p.length:=by
 induction k with
 | zero => exact fun _ _ _ => ⟨rfl,Nat.le_refl _⟩
 | succ k ih =>
   intro first s l
   unfold uf.loopM
   split
   · obtain ⟨h1,h2⟩:=ih false (uf.spanM s).2 (l ++ [(uf.spanM s).1])
     exact ⟨h1.trans (uf.spanM_code s),Nat.le_trans h2 (uf.spanM_dec s).1⟩
   · exact ⟨rfl,Nat.le_refl _⟩
set_option maxHeartbeats 4000000 in
set_option maxRecDepth 10000 in
theorem uf.calls (w0 W:World) (g gp:Nat) (vc:Value) (s:uf.CS) (h:ud.St w0 W g gp vc s) (hsz:s.code.length + s.p.length ≤ 1000) :
 Calls Tryz.prog 144 #[.pointer (some ⟨g,0,none⟩)] W fun e W' => e = .returned (.tuple #[]) ∧ ∃ vc',ud.St w0 W' g gp vc' (uf.cls s):=by
 obtain ⟨Wa,hWa⟩:∃ Wa,Aside0 (W.alloc (.cells #[.int .i64 1,.slice none 0 0,.bool false,.int .i64 0,.int .i64 0] 164) = Wa):=⟨_,⟨rfl⟩⟩
 have hbeWa:Below W.heap.size W Wa:=by rw [← hWa.out];exact uj (Below.refl _ _) _
 have hSa:=u3f.St_below h hbeWa
 have hBi:Aside0 (Wa.heap[W.heap.size]? = some (.cells #[.int .i64 1,.slice none 0 0,.bool false,.int .i64 0,.int .i64 0] 164 (0,0))):=⟨by rw [← hWa.out];exact u3l _ _⟩
 have HGI:Aside0 (w0.heap.size ≤ W.heap.size):=⟨h.below.size⟩
 obtain ⟨A,c,⟨h0,h1,h2⟩,⟨f0,f1,f2⟩,hl,hb,hr⟩:=hSa.look
 have HS:=Aside0.mk hSa
 have HS0:=Aside0.mk h
 have HO:=Aside0.mk (uf.Old.start h)
 clear hSa h hb hr hl hbeWa
 obtain ⟨nx,hnx⟩:∃ nx,Aside0 (u2q.nx s = nx ∧ (uf.neg s = (nx == 94)) ∧ (nx ≠ 0 → 0 < s.p.length)):=⟨_,⟨rfl,by
  unfold uf.neg u2q.nx
  cases s.p with
  | nil => rfl
  | cons r q => by_cases h9:r = 94 <;> simp [h9],by
  unfold u2q.nx
  cases s.p with
  | nil => simp
  | cons r q => simp⟩⟩
 have HNE:Aside0 (W.heap.size ≠ g):=⟨by
  obtain ⟨A9,c9,h9,_⟩:=HS0.out.cells
  have:=u3c h9
  omega⟩
 obtain ⟨ng,hng⟩:∃ ng,Aside0 (uf.neg s = ng):=⟨_,⟨rfl⟩⟩
 obtain ⟨s0,hs0⟩:∃ s0:uf.CS,Aside0 (s0 = if ng then (ud.step s).2 else s):=⟨_,⟨rfl⟩⟩
 obtain ⟨fin,hfin⟩:∃ fin,Aside0 (uf.loopM (s0.p.length + 2) true s0 [] = fin):=⟨_,⟨rfl⟩⟩
 have HCLS:Aside0 (uf.cls s = { (ud.step fin.2).2 with code:=(ud.step fin.2).2.code ++ [⟨1,fin.1,ng,0,0⟩] }):=⟨by
  unfold uf.cls
  dsimp only
  rw [hng.out]
  rw [← hs0.out,hfin.out]⟩
 have hs0l:s0.p.length ≤ s.p.length:=by
  rw [hs0.out]
  split
  · exact (uf.step_dec s).1
  · exact Nat.le_refl _
 have hs0c:Aside0 (s0.code = s.code):=⟨by
  rw [hs0.out]
  split
  · exact uf.step_code s
  · rfl⟩
 rw [hng.out] at hnx
 go_enter Tryz.func144,Tryz.ntmps144
 go_wp2_with (first
  | (go_at_call 120;rw [hWa.out];(with_reducible refine (u2q.calls w0 Wa g gp vc s HS.out).mono ?_);rintro e W1 ⟨rfl,hW1⟩;rw [hW1,hnx.out.1])
  | (go_at_call 121;(with_reducible refine (ud.calls w0 Wa g gp vc s HS.out).mono ?_);rintro e W2 ⟨rfl,hS2,hK2⟩
     have hb2:=(hK2.2 W.heap.size HNE.out).trans hBi.out
     have c2:=uk hb2 2
     have f22:=ut hb2 2
     have HS2:=Aside0.mk hS2
     have HB2:=Aside0.mk hb2
     have HK2:=Aside0.mk hK2
     simp only [List.size_toArray,List.length_cons,List.length_nil,List.getElem?_toArray,List.getElem?_cons_zero,List.getElem?_cons_succ] at c2
     clear hS2 hK2 hb2))
 all_goals try (exfalso;have:=hnx.out.2.2 (by omega);omega)
 all_goals
  go_loopg [3] (s0.p.length + 2) (fun kq v3 wr => ∃ (first:Bool) (sc:uf.CS) (l:List S191) (vs:Value),v3 = .bool first ∧ Aside0 (ud.St w0 wr g gp vc sc) ∧ Aside0 (uf.Old W.heap.size w0.heap.size wr g gp vc sc.code) ∧ Aside0 (wr.heap[W.heap.size]? = some (.cells #[.int .i64 1,vs,.bool ng,.int .i64 0,.int .i64 0] 164 (0,0))) ∧ Aside0 (Kd.R k191 191 wr w0.heap.size (fun k => W.heap.size ≤ k) vs l) ∧ Aside0 (uf.loopM kq first sc l = fin) ∧ Aside0 (sc.bad = true ∨ sc.p.length + 1 ≤ kq) ∧ Aside0 (sc.code = s.code ∧ l.length + kq ≤ 3000))
  case atStart =>
   first
    | (have hn1:ng = true:=by rw [hnx.out.2.1];simp;omega
       rw [hn1] at hs0 ⊢
       have e0:s0 = (ud.step s).2:=hs0.out
       have hO2:uf.Old W.heap.size w0.heap.size W2 g gp vc s0.code:=by rw [hs0c.out];exact HO.out.keep (fun k hk hne => (HK2.out.2 k hne).trans (by rw [← hWa.out];exact Below.heap_alloc _ _ _ hk))
       rw [← e0] at HS2
       have hfar:∀ k,k < W.heap.size → (W2.setCell ⟨W.heap.size,2,none⟩ (.bool true)).heap[k]? = W2.heap[k]? := fun k hk => Below.heap_setCell _ _ _ _ (by simp only;omega)
       refine ⟨true,s0,[],.slice none 0 0,rfl,⟨hO2.st HS2.out (HS2.out.below.setCell HGI.out _) hfar⟩,⟨hO2.keep (fun k hk _ => hfar k hk)⟩,⟨?_⟩,⟨Kd.R_nil _ _ _ _ _⟩,hfin,⟨Or.inr (by omega)⟩,⟨hs0c.out,by simp;omega⟩⟩
       rw [u4f HB2.out 2 _]
       rfl)
    | (have hn1:ng = false:=by rw [hnx.out.2.1];simp;omega
       rw [hn1] at hs0 ⊢
       have e0:s0 = s:=hs0.out
       refine ⟨true,s0,[],.slice none 0 0,rfl,⟨?_⟩,⟨?_⟩,⟨?_⟩,⟨Kd.R_nil _ _ _ _ _⟩,hfin,⟨Or.inr (by omega)⟩,⟨hs0c.out,by simp;omega⟩⟩
       · rw [e0]
         exact HS.out
       · rw [e0]
         exact HO.out.keep (fun k hk _ => by rw [← hWa.out];exact Below.heap_alloc _ _ _ hk)
       · exact hBi.out)
  case round =>
   obtain ⟨first,sc,l,vs,rfl,hSr,hOr,hBr,hRr,hfr,hkr,hcr⟩:=hrel
   clear h0 h1 h2 f0 f1 f2 HS HS0 HO hnx hs0 hfin hWa hBi hs0c
   try clear HS2 HB2 HK2 c2 f22
   obtain ⟨A1,c1,⟨h0r,h1r,h2r⟩,⟨f0r,f1r,f2r⟩,hlr,hbr,hrr⟩:=hSr.out.look
   clear hbr hrr
   by_cases hcond:sc.bad = false ∧ (first = true ∨ uw.am ⟨#[93]⟩ sc = false)
   · obtain ⟨hbad,hfa⟩:=hcond
     obtain ⟨x1,hx1⟩:∃ x1,Aside0 (u2c.mem sc = x1):=⟨_,⟨rfl⟩⟩
     obtain ⟨lo,s1⟩:=x1
     rw [hbad] at h2r
     have hfr2:∀ k,gk = k + 1 → uf.loopM k false (uf.spanM sc).2 (l ++ [(uf.spanM sc).1]) = fin:=fun k hk => by
      have h9:=hfr.out
      rw [hk] at h9
      unfold uf.loopM at h9
      rwa [if_pos ⟨hbad,hfa⟩] at h9
     have hsd:=uf.spanM_dec sc
     have hsc:=uf.spanM_code sc
     obtain ⟨g1,hg1⟩:∃ g1,gk = g1 + 1:=⟨gk - 1,by
      have:=hkr.out.resolve_left (by simp [hbad])
      omega⟩
     have hfr3:=Aside0.mk (hfr2 g1 hg1)
     have hkr3:Aside0 ((uf.spanM sc).2.bad = true ∨ (uf.spanM sc).2.p.length + 1 ≤ g1):=⟨by
      have h8:=hkr.out.resolve_left (by simp [hbad])
      rcases hsd.2 with h | h
      · exact Or.inl h
      · exact Or.inr (by omega)⟩
     have hcr3:Aside0 ((uf.spanM sc).2.code = s.code ∧ (l ++ [(uf.spanM sc).1]).length + g1 ≤ 3000):=⟨hsc.trans hcr.out.1,by have:=hcr.out.2;simp;omega⟩
     clear hfr2 hsd hsc
     by_cases hgo:s1.bad = false ∧ uw.am ⟨#[45]⟩ s1 = true
     · obtain ⟨x2,hx2⟩:∃ x2,Aside0 (ud.step s1 = x2):=⟨_,⟨rfl⟩⟩
       obtain ⟨rr,s2⟩:=x2
       obtain ⟨x3,hx3⟩:∃ x3,Aside0 (u2c.mem s2 = x3):=⟨_,⟨rfl⟩⟩
       obtain ⟨hi,s3⟩:=x3
       have hsp:Aside0 (uf.spanM sc = (⟨lo,hi⟩,{ s3 with bad:=s3.bad || decide (hi < lo) })):=⟨by
        unfold uf.spanM
        rw [hx1.out]
        dsimp only
        rw [if_pos hgo,hx2.out]
        dsimp only
        rw [hx3.out]⟩
       obtain ⟨hb1,ham1⟩:=hgo
       have HAM:=Aside0.mk ham1
       have hc3:Aside0 (s3.code = sc.code ∧ s2.code = sc.code ∧ s1.code = sc.code):=⟨by
        have q1:=uf.mem_code sc
        have q2:=uf.step_code s1
        have q3:=uf.mem_code s2
        rw [hx1.out] at q1
        rw [hx2.out] at q2
        rw [hx3.out] at q3
        exact ⟨q3.trans (q2.trans q1),q2.trans q1,q1⟩⟩
       clear ham1
       cases first
       all_goals
        go_wp2_with (first
         | (go_at_call 132;(with_reducible refine (uw.calls w0 wr g gp vc sc _ hSr.out).mono ?_);rintro e W1 ⟨rfl,hW1⟩;rw [hW1,show uw.am ⟨#[93]⟩ sc = false from hfa.resolve_left (by decide)])
         | (go_at_call 132;(with_reducible refine (uw.calls w0 _ g gp vc s1 _ HY.out).mono ?_);rintro e W1' ⟨rfl,hW1'⟩;rw [hW1',HAM.out])
         | (go_at_call 121;(with_reducible refine (ud.calls w0 _ g gp vc s1 HY.out).mono ?_);rintro e W3 ⟨rfl,hS3,hK3⟩
            rw [hx2.out] at hS3 ⊢
            have HS3:=Aside0.mk hS3
            have HK3:=Aside0.mk hK3
            clear hS3 hK3)
         | (go_at_call 150;(with_reducible refine (u2c.calls w0 wr g gp vc sc hSr.out).mono ?_);rintro e W1 ⟨rfl,hS1,hK1⟩
            rw [hx1.out] at hS1 ⊢
            obtain ⟨A2,cc2,hl2,hb2,hr2⟩:∃ A c,s1.p.length ≤ c ∧ W1.heap[g]? = some (.cells #[.slice A s1.p.length c,vc,.bool s1.bad] 159 (0,0)) ∧ ud.Runes W1 gp A s1.p:=by
             obtain ⟨A,c,h1,h2,h3⟩:=hS1.cells
             exact ⟨A,c,h2,h1,h3⟩
            have hbi1:=(hK1.2 W.heap.size HNE.out).trans hBr.out
            have k1:=uk (uo hb2 (.cells #[.int .i32 lo,.int .i32 lo] 191)) 2
            simp only [List.size_toArray,List.length_cons,List.length_nil,List.getElem?_toArray,List.getElem?_cons_zero,List.getElem?_cons_succ] at k1
            rw [hb1] at k1
            have hal:Below W1.heap.size W1 (W1.alloc (.cells #[.int .i32 lo,.int .i32 lo] 191)):=uj (Below.refl _ _) _
            have hO1:uf.Old W.heap.size w0.heap.size W1 g gp vc sc.code:=hOr.out.keep (fun k _ hk => hK1.2 k hk)
            have HY:=Aside0.mk (u3f.St_below hS1 hal)
            have HOY:=Aside0.mk (hO1.keep (fun k hk _ => hal.block k (by have:=u3c hbi1;omega)))
            have HIY:=Aside0.mk (uo hbi1 (.cells #[.int .i32 lo,.int .i32 lo] 191))
            have HGY:=Aside0.mk (u3l W1 (.cells #[.int .i32 lo,.int .i32 lo] 191))
            have HRY:Aside0 (Kd.R k191 191 (W1.alloc (.cells #[.int .i32 lo,.int .i32 lo] 191)) w0.heap.size (fun k => W.heap.size ≤ k ∧ k < W1.heap.size) vs l):=⟨Kd.R_below (Kd.R_mono (Kd.R_bound (Kd.R_step hRr.out (fun k hk _ => hK1.2 k (by have:=hOr.out.g;omega)))) (fun k hk => ⟨hk.1,hk.2.2.1⟩)) hal⟩
            clear hS1 hK1 hb2 hr2 hl2 hbi1 hO1 hal)
         | (go_at_call 150;(with_reducible refine (u2c.calls w0 W3 g gp vc s2 HS3.out).mono ?_);rintro e W4 ⟨rfl,hS4,hK4⟩
            rw [hx3.out] at hS4 ⊢
            obtain ⟨A2,cc2,hl2,hb2,hr2⟩:∃ A c,s3.p.length ≤ c ∧ W4.heap[g]? = some (.cells #[.slice A s3.p.length c,vc,.bool s3.bad] 159 (0,0)) ∧ ud.Runes W4 gp A s3.p:=by
             obtain ⟨A,c,h1,h2,h3⟩:=hS4.cells
             exact ⟨A,c,h2,h1,h3⟩
            have hKK:=HK3.out.trans hK4
            have hsg:W1.heap.size ≠ g:=by
             have h9:=HOY.out.g
             have h8:=u3c HIY.out
             simp at h8
             omega
            have hb4:=(hKK.2 W.heap.size HNE.out).trans HIY.out
            have hg4:=(hKK.2 W1.heap.size hsg).trans HGY.out
            have hlt:W.heap.size < W1.heap.size:=by
             have h8:=u3c HIY.out
             have h7:W.heap.size ≠ W1.heap.size:=blk_ne HIY.out HGY.out (by decide)
             simp at h8
             omega
            have m1:=uk hg4 1
            simp only [List.size_toArray,List.length_cons,List.length_nil,List.getElem?_toArray,List.getElem?_cons_zero,List.getElem?_cons_succ] at m1
            have m2:=ut hg4 1
            have HBG:=Aside0.mk (blk_far hb2 (p:=⟨W1.heap.size,1,none⟩) (Ne.symm hsg) (.int .i32 hi))
            have HIX:=Aside0.mk (blk_far hb4 (p:=⟨W1.heap.size,1,none⟩) (by simp only;omega) (.int .i32 hi))
            obtain ⟨⟨k1,k2,k3,k4,k5⟩,k6⟩:=uf.look3 (gs:=W1.heap.size) (lo:=lo) (hi:=hi) HBG.out HIX.out (by rw [u4f hg4 1 _];rfl)
            have hO4:uf.Old W.heap.size w0.heap.size W4 g gp vc s3.code:=by rw [hc3.out.1];exact HOY.out.keep (fun k _ hk => hKK.2 k hk)
            have hfar:∀ k,k < W.heap.size → (W4.setCell ⟨W1.heap.size,1,none⟩ (.int .i32 hi)).heap[k]? = W4.heap[k]? := fun k hk => Below.heap_setCell _ _ _ _ (by simp only;omega)
            have HX:=Aside0.mk (hO4.st hS4 (hS4.below.setCell (by have:=HGI.out;simp only;omega) (.int .i32 hi)) hfar)
            have HOX:=Aside0.mk (hO4.keep (fun k hk _ => hfar k hk))
            have HRX:Aside0 (Kd.R k191 191 (W4.setCell ⟨W1.heap.size,1,none⟩ (.int .i32 hi)) w0.heap.size (fun k => W.heap.size ≤ k) vs l):=⟨Kd.R_mono (Kd.R_far (Kd.R_step HRY.out (fun k hk _ => hKK.2 k (by have:=HOY.out.g;omega))) (fun k hk => by simp only;omega) _) (fun k hk => hk.1)⟩
            have HSZ:Aside0 (∀ u,((W4.setCell ⟨W1.heap.size,1,none⟩ (.int .i32 hi)).setCell ⟨g,2,none⟩ u).heap.size = W4.heap.size):=⟨fun u => by simp⟩
            clear hS4 hK4 hb2 hr2 hl2 hKK hb4 hg4 hO4 hfar)
         | ((with_reducible refine u3b (b:=.append) (xs:=#[.tmp 68,.tmp 70]) rfl ?_);at_builtin
            refine Kd.R_append k191 (w0:=w0) w0.heap.size rfl (.tmp 68) (.tmp 70) 162 191 (.agg #[.int .i32 0,.int .i32 0]) 8 rfl Tryz.underlying162 uf.infoSp rfl (by decide) (by decide) _ l (⟨lo,hi⟩:S191) [.int .i32 lo,.int .i32 hi] (fun k => W.heap.size ≤ k) (fun _ => False) rfl (by rw [HSZ.out];rfl) (k191_mkM _ _ _ (⟨lo,hi⟩:S191)) (fun _ hk => hk.elim) ?hfresh (Kd.R_set HRX.out HBG.out ?hty 2 _) ?hbel ?hbase ?hbig ?_
            (case hty => intro q hq;simp [k191,Kd.iso,Kd.pair,Kd.int,Kd.scalar] at hq;omega)
            (case hfresh => intro k hk;have h9:=u3c HIX.out;rw [HSZ.out] at hk;simp at h9;omega)
            (case hbel => exact HX.out.below.setCell HX.out.base _)
            (case hbase => exact (HX.out.below.setCell HX.out.base _).size)
            (case hbig => have:=hcr.out.2;omega)
            intro v6 W6 hR6 hB6 hg6 hat6
            obtain ⟨A6,c6,e6⟩:=Kd.R_slice hR6
            subst e6
            obtain ⟨⟨z1,z2⟩,z3,z4,z5,z6⟩:=uf.fini HGI.out HX.out HOX.out HIX.out HRX.out hR6 hB6 hg6
            simp only [List.length_append,List.length_cons,List.length_nil,Nat.zero_add] at z3 z4 z5 z6
            have Z3:=Aside0.mk z3
            have Z4:=Aside0.mk z4
            have Z5:=Aside0.mk z5
            have Z6:=Aside0.mk z6
            clear hR6 hB6 hg6 hat6 z3 z4 z5 z6))
        all_goals
         go_roundg g1
         case rel =>
          refine ⟨false,(uf.spanM sc).2,l ++ [(uf.spanM sc).1],_,rfl,⟨?_⟩,⟨?_⟩,Z5,⟨?_⟩,hfr3,hkr3,hcr3⟩
          · rw [hsp.out]
            first
             | (have h9:s3.bad = true:=by assumption
                rw [show (s3.bad || decide (hi < lo)) = true from by simp [h9]]
                exact Z3.out)
             | (have h9:¬ s3.bad = true:=by assumption
                rw [show (s3.bad || decide (hi < lo)) = decide (hi < lo) from by simp [h9]]
                exact Z3.out)
          · rw [hsp.out]
            exact Z4.out
          · rw [hsp.out]
            exact Z6.out
         case measure => omega
     · have hsp:Aside0 (uf.spanM sc = (⟨lo,lo⟩,{ s1 with bad:=s1.bad || decide (lo < lo) })):=⟨by
        unfold uf.spanM
        rw [hx1.out]
        dsimp only
        rw [if_neg hgo]⟩
       have HAM:Aside0 (¬ s1.bad = true → uw.am ⟨#[45]⟩ s1 = false):=⟨fun h9 => by
        cases h8:uw.am ⟨#[45]⟩ s1 with
        | false => rfl
        | true => exact absurd ⟨by simpa using h9,h8⟩ hgo⟩
       clear hgo
       cases first
       all_goals
        go_wp2_with (first
         | (go_at_call 132;(with_reducible refine (uw.calls w0 wr g gp vc sc _ hSr.out).mono ?_);rintro e W1 ⟨rfl,hW1⟩;rw [hW1,show uw.am ⟨#[93]⟩ sc = false from hfa.resolve_left (by decide)])
         | (go_at_call 132;(with_reducible refine (uw.calls w0 _ g gp vc s1 _ HX.out).mono ?_);rintro e W1' ⟨rfl,hW1'⟩;rw [hW1',HAM.out (by assumption)])
         | (go_at_call 150;(with_reducible refine (u2c.calls w0 wr g gp vc sc hSr.out).mono ?_);rintro e W1 ⟨rfl,hS1,hK1⟩
            rw [hx1.out] at hS1 ⊢
            obtain ⟨A2,cc2,hl2,hb2,hr2⟩:∃ A c,s1.p.length ≤ c ∧ W1.heap[g]? = some (.cells #[.slice A s1.p.length c,vc,.bool s1.bad] 159 (0,0)) ∧ ud.Runes W1 gp A s1.p:=by
             obtain ⟨A,c,h1,h2,h3⟩:=hS1.cells
             exact ⟨A,c,h2,h1,h3⟩
            have hbi1:=(hK1.2 W.heap.size HNE.out).trans hBr.out
            obtain ⟨⟨k1,k2,k3,k4,k5⟩,k6⟩:=uf.look3 (gs:=W1.heap.size) (lo:=lo) (hi:=lo) (uo hb2 (.cells #[.int .i32 lo,.int .i32 lo] 191)) (uo hbi1 (.cells #[.int .i32 lo,.int .i32 lo] 191)) (u3l W1 (.cells #[.int .i32 lo,.int .i32 lo] 191))
            have hc1:s1.code = sc.code:=by have:=uf.mem_code sc;rw [hx1.out] at this;exact this
            have hO1:uf.Old W.heap.size w0.heap.size W1 g gp vc s1.code:=by rw [hc1];exact hOr.out.keep (fun k _ hk => hK1.2 k hk)
            have hal:Below W1.heap.size W1 (W1.alloc (.cells #[.int .i32 lo,.int .i32 lo] 191)):=uj (Below.refl _ _) _
            have HBG:=Aside0.mk (uo hb2 (.cells #[.int .i32 lo,.int .i32 lo] 191))
            have HX:=Aside0.mk (u3f.St_below hS1 hal)
            have HOX:=Aside0.mk (hO1.keep (fun k hk _ => hal.block k (by have:=u3c hbi1;omega)))
            have HIX:=Aside0.mk (uo hbi1 (.cells #[.int .i32 lo,.int .i32 lo] 191))
            have HRX:=Aside0.mk (Kd.R_below (Kd.R_step hRr.out (fun k hk _ => hK1.2 k (by have:=hOr.out.g;omega))) hal)
            have HSZ:Aside0 (∀ u,((W1.alloc (.cells #[.int .i32 lo,.int .i32 lo] 191)).setCell ⟨g,2,none⟩ u).heap.size = W1.heap.size + 1):=⟨fun u => by simp⟩
            clear hS1 hK1 hb2 hr2 hl2 hbi1 hc1 hO1 hal)
         | ((with_reducible refine u3b (b:=.append) (xs:=#[.tmp 68,.tmp 70]) rfl ?_);at_builtin
            refine Kd.R_append k191 (w0:=w0) w0.heap.size rfl (.tmp 68) (.tmp 70) 162 191 (.agg #[.int .i32 0,.int .i32 0]) 8 rfl Tryz.underlying162 uf.infoSp rfl (by decide) (by decide) _ l (⟨lo,lo⟩:S191) [.int .i32 lo,.int .i32 lo] (fun k => W.heap.size ≤ k) (fun _ => False) rfl (by rw [HSZ.out];rfl) (k191_mkM _ _ _ (⟨lo,lo⟩:S191)) (fun _ hk => hk.elim) ?hfresh (Kd.R_set HRX.out HBG.out ?hty 2 _) ?hbel ?hbase ?hbig ?_
            (case hty => intro q hq;simp [k191,Kd.iso,Kd.pair,Kd.int,Kd.scalar] at hq;omega)
            (case hfresh => intro k hk;have h9:=u3c HIX.out;rw [HSZ.out] at hk;simp at h9;omega)
            (case hbel => exact HX.out.below.setCell HX.out.base _)
            (case hbase => exact (HX.out.below.setCell HX.out.base _).size)
            (case hbig => have:=hcr.out.2;omega)
            intro v6 W6 hR6 hB6 hg6 hat6
            obtain ⟨A6,c6,e6⟩:=Kd.R_slice hR6
            subst e6
            obtain ⟨⟨z1,z2⟩,z3,z4,z5,z6⟩:=uf.fini HGI.out HX.out HOX.out HIX.out HRX.out hR6 hB6 hg6
            simp only [List.length_append,List.length_cons,List.length_nil,Nat.zero_add] at z3 z4 z5 z6
            have Z3:=Aside0.mk z3
            have Z4:=Aside0.mk z4
            have Z5:=Aside0.mk z5
            have Z6:=Aside0.mk z6
            clear hR6 hB6 hg6 hat6 z3 z4 z5 z6))
        all_goals
         go_roundg g1
         case rel =>
          refine ⟨false,(uf.spanM sc).2,l ++ [(uf.spanM sc).1],_,rfl,⟨?_⟩,⟨?_⟩,Z5,⟨?_⟩,hfr3,hkr3,hcr3⟩
          · rw [hsp.out]
            first
             | (have h9:s1.bad = true:=by assumption
                rw [show (s1.bad || decide (lo < lo)) = true from by simp [h9]]
                exact Z3.out)
             | (have h9:¬ s1.bad = true:=by assumption
                rw [show (s1.bad || decide (lo < lo)) = false from by simp [h9]]
                exact Z3.out)
          · rw [hsp.out]
            exact Z4.out
          · rw [hsp.out]
            exact Z6.out
         case measure => omega
   · have hfe:fin = (l,sc):=by
      have h9:=hfr.out
      cases gk with
      | zero => exact h9.symm
      | succ k =>
        unfold uf.loopM at h9
        rw [if_neg hcond] at h9
        exact h9.symm
     obtain ⟨x2,hx2⟩:∃ x2,Aside0 (ud.step sc = x2):=⟨_,⟨rfl⟩⟩
     obtain ⟨r2,s2⟩:=x2
     have HC2:Aside0 (uf.cls s = ⟨s2.p,s2.code ++ [⟨1,l,ng,0,0⟩],s2.bad⟩):=⟨by
      rw [HCLS.out,hfe]
      dsimp only
      rw [hx2.out]⟩
     have hs2c:Aside0 (s2.code.length = s.code.length):=⟨by
      have h9:=uf.step_code sc
      rw [hx2.out] at h9
      exact congrArg List.length (h9.trans hcr.out.1)⟩
     obtain ⟨Av,cv,ev⟩:=Kd.R_slice hRr.out
     subst ev
     clear HCLS
     cases hbd:sc.bad with
     | true =>
       rw [hbd] at h2r
       clear hcond hbd
       go_wp2_with (first
        | (go_at_call 121;(with_reducible refine (ud.calls w0 wr g gp vc sc hSr.out).mono ?_);rintro e W1 ⟨rfl,hS1,hK1⟩
           rw [hx2.out] at hS1 ⊢
           have hb1:=(hK1.2 W.heap.size HNE.out).trans hBr.out
           have k0:=uk hb1 0
           have k1:=uk hb1 1
           have k2:=uk hb1 2
           have k3:=uk hb1 3
           have k4:=uk hb1 4
           simp only [List.size_toArray,List.length_cons,List.length_nil,List.getElem?_toArray,List.getElem?_cons_zero,List.getElem?_cons_succ] at k0 k1 k2 k3 k4
           have HS1:=Aside0.mk hS1
           have HR1:Aside0 (Kd.R k191 191 W1 w0.heap.size (fun _ => True) (.slice Av l.length cv) l):=⟨Kd.R_mono (Kd.R_step hRr.out (fun k hk _ => hK1.2 k (by have:=hOr.out.g;omega))) (fun _ _ => trivial)⟩
           clear hS1 hK1 hb1)
        | (go_at_call 103;(with_reducible refine (u1p.put1 HS1.out HR1.out (by have:=hs2c.out;omega)).mono ?_);rintro e W3 ⟨rfl,vc3,hS3,hF3⟩
           have HS3:=Aside0.mk hS3
           clear hS3 hF3))
       go_end0
       exact ⟨rfl,_,by rw [HC2.out];exact HS3.out⟩
     | false =>
       rw [hbd] at h2r
       have hff:first = false ∧ uw.am ⟨#[93]⟩ sc = true:=by
        cases first with
        | true => exact absurd ⟨hbd,Or.inl rfl⟩ hcond
        | false =>
          refine ⟨rfl,?_⟩
          cases h9:uw.am ⟨#[93]⟩ sc with
          | true => rfl
          | false => exact absurd ⟨hbd,Or.inr h9⟩ hcond
       obtain ⟨hff1,hff2⟩:=hff
       have HAM:=Aside0.mk hff2
       subst hff1
       clear hcond hbd hff2
       go_wp2_with (first
        | (go_at_call 132;(with_reducible refine (uw.calls w0 wr g gp vc sc _ hSr.out).mono ?_);rintro e W1 ⟨rfl,hW1⟩;rw [hW1,HAM.out])
        | (go_at_call 121;(with_reducible refine (ud.calls w0 wr g gp vc sc hSr.out).mono ?_);rintro e W2 ⟨rfl,hS1,hK1⟩
           rw [hx2.out] at hS1 ⊢
           have hb1:=(hK1.2 W.heap.size HNE.out).trans hBr.out
           have k0:=uk hb1 0
           have k1:=uk hb1 1
           have k2:=uk hb1 2
           have k3:=uk hb1 3
           have k4:=uk hb1 4
           simp only [List.size_toArray,List.length_cons,List.length_nil,List.getElem?_toArray,List.getElem?_cons_zero,List.getElem?_cons_succ] at k0 k1 k2 k3 k4
           have HS1:=Aside0.mk hS1
           have HR1:Aside0 (Kd.R k191 191 W2 w0.heap.size (fun _ => True) (.slice Av l.length cv) l):=⟨Kd.R_mono (Kd.R_step hRr.out (fun k hk _ => hK1.2 k (by have:=hOr.out.g;omega))) (fun _ _ => trivial)⟩
           clear hS1 hK1 hb1)
        | (go_at_call 103;(with_reducible refine (u1p.put1 HS1.out HR1.out (by have:=hs2c.out;omega)).mono ?_);rintro e W3 ⟨rfl,vc3,hS3,hF3⟩
           have HS3:=Aside0.mk hS3
           clear hS3 hF3))
       go_end0
       exact ⟨rfl,_,by rw [HC2.out];exact HS3.out⟩
end Go.Proofs.YtgnehcgaplnfkaaGreatDoor.PAll
