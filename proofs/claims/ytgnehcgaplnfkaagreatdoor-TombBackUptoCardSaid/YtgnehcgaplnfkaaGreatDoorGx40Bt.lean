/- A text of this seat. -/
import Derived.Test.YtgnehcgaplnfkaaGreatDoorBt1
import Derived.Test.YtgnehcgaplnfkaaGreatDoorBt3
import Derived.Test.YtgnehcgaplnfkaaGreatDoorBt6
import Derived.Test.YtgnehcgaplnfkaaGreatDoorBt2
namespace Go.Proofs.YtgnehcgaplnfkaaGreatDoor.PAll
open Go.RowKit Go.Proofs.YtgnehcgaplnfkaaGreatDoorW.PrintWords Go.Proofs.YtgnehcgaplnfkaaGreatDoorW.PrintLast Go.Proofs.YtgnehcgaplnfkaaGreatDoorW.PrintMore
attribute [local go_sem] u3r u3t u4c u4b u3n u3o u3u u3s   -- for this text's walks alone
set_option linter.unusedVariables false
set_option linter.unusedSimpArgs false
-- uses record_source_number record_reader_row match_Decode record_Can
abbrev uq.SS:=ug.SS
abbrev uq.Rw:=S59
abbrev uq.Mt:=S79
structure uq.Ou where
 kd:Int
 rows:List uq.Rw
 ms:List uq.Mt
 fr:Int
 to_:Int
 kp:Int
def uq.zero:uq.Ou:=⟨0,[],[],0,0,0⟩
def uq.rowsM (k:Nat):Nat → uq.SS → List uq.Rw → Option (List uq.Rw × uq.SS)
 | 0,s,l => some (l,s)
 | n + 1,s,l => if s.bad = true then some (l,s) else (record_reader_row.rowM k s).bind fun z => uq.rowsM k n z.2 (l ++ [⟨z.1.1,z.1.2.1,z.1.2.2⟩])
def uq.mid (k:Nat) (x:Int) (s:uq.SS):Option (uq.Ou × uq.SS) :=
 if x = 1 then (uq.rowsM k (ug.num 2 s).1.toNat (ug.num 2 s).2 []).map fun z => (⟨1,z.1,[],0,0,0⟩,z.2)
 else if x = 2 then some (⟨2,[],(ux.dec s.b).1,wrap64 (ug.num 8 ⟨(ux.dec s.b).2.1,s.bad || (ux.dec s.b).2.2 != 0⟩).1,wrap64 (ug.num 8 (ug.num 8 ⟨(ux.dec s.b).2.1,s.bad || (ux.dec s.b).2.2 != 0⟩).2).1,0⟩,(ug.num 8 (ug.num 8 ⟨(ux.dec s.b).2.1,s.bad || (ux.dec s.b).2.2 != 0⟩).2).2)
 else if x = 3 then some (⟨3,[],[],0,0,wrap64 (ug.num 8 s).1⟩,(ug.num 8 s).2)
 else some (⟨x,[],[],0,0,0⟩,s)
def uq.canO (k:Nat) (o:uq.Ou):Option Bool:=u3w.f k o.kd o.rows o.ms o.fr o.to_ o.kp
def uq.out (k:Nat) (z:uq.Ou × uq.SS):Option (uq.Ou × Int) :=
 if z.2.bad = true then some (uq.zero,5) else if z.2.b ≠ [] then some (uq.zero,5) else (uq.canO k z.1).bind fun c => if c = true then some (z.1,0) else some (uq.zero,5)
def uq.dec (k:Nat) (l0:List Int):Option (uq.Ou × Int):=(uq.mid k (wrap64 (ug.num 1 ⟨l0,false⟩).1) (ug.num 1 ⟨l0,false⟩).2).bind (uq.out k)
structure uq.Inv (w W:World) (ob:Nat) (s:uq.SS) (o:uq.Ou) (vR vM:Value):Prop where
 src:∃ M:Nat → Prop,ug.St w W (w.heap.size + 1) M s ∧ ∀ k,M k → k ≠ w.heap.size ∧ k ≠ ob ∧ some k ≠ vR.ownBlock
 apart:w.heap.size + 1 < ob
 res:W.heap[w.heap.size]? = some (.cells #[.int .i64 0,.slice none 0 0,.slice none 0 0,.int .i64 0,.int .i64 0,.int .i64 0] 26 (0,0))
 cur:W.heap[ob]? = some (.cells #[.int .i64 o.kd,vR,vM,.int .i64 o.fr,.int .i64 o.to_,.int .i64 o.kp] 26 (0,0))
 rows:Kd.S k59 59 W w.heap.size (fun k => k ≠ w.heap.size ∧ k ≠ w.heap.size + 1 ∧ k ≠ ob) vR o.rows
 ms:Kd.R k79 79 W w.heap.size (fun k => k ≠ w.heap.size ∧ k ≠ w.heap.size + 1 ∧ k ≠ ob) vM o.ms
theorem uq.Inv.below {w W:World} {ob:Nat} {s:uq.SS} {o:uq.Ou} {vR vM:Value} (h:uq.Inv w W ob s o vR vM):Below w.heap.size w W:=by
 obtain ⟨M,hS,_⟩:=h.src
 exact hS.below
theorem uq.Inv.more {w W W':World} {ob:Nat} {s:uq.SS} {o:uq.Ou} {vR vM:Value} (h:uq.Inv w W ob s o vR vM) (hb:Below W.heap.size W W'):uq.Inv w W' ob s o vR vM:=by
 obtain ⟨M,hS,hM⟩:=h.src
 exact ⟨⟨M,hS.more hb,hM⟩,h.apart,u1h h.res hb,u1h h.cur hb,Kd.S_below h.rows hb,Kd.R_below h.ms hb⟩
theorem uq.Inv.keep {w W W':World} {ob:Nat} {s s':uq.SS} {o:uq.Ou} {vR vM:Value} (h:uq.Inv w W ob s o vR vM) (hs:∃ M:Nat → Prop,ug.St w W' (w.heap.size + 1) M s' ∧ ∀ k,M k → k ≠ w.heap.size ∧ k ≠ ob ∧ some k ≠ vR.ownBlock) (hk:u3e W W' (w.heap.size + 1) none):uq.Inv w W' ob s' o vR vM :=
 ⟨hs,h.apart,hk.blk h.res (by omega) (by simp),hk.blk h.cur (by have:=h.apart;omega) (by simp),Kd.S_keep h.rows hk (fun _ h9 => h9.2.1),Kd.R_keep h.ms hk (fun _ h9 => h9.2.1)⟩
theorem uq.Inv.store {w W:World} {ob:Nat} {s:uq.SS} {o o':uq.Ou} {vR vM vR' vM':Value} (h:uq.Inv w W ob s o vR vM) (i:Nat) (u:Value) (hc:(#[.int .i64 o.kd,vR,vM,.int .i64 o.fr,.int .i64 o.to_,.int .i64 o.kp]:Array Value).setIfInBounds i u = #[.int .i64 o'.kd,vR',vM',.int .i64 o'.fr,.int .i64 o'.to_,.int .i64 o'.kp])
 (hM:vR' = vR ∨ vR' = .slice none 0 0) (hR:Kd.S k59 59 W w.heap.size (fun k => k ≠ w.heap.size ∧ k ≠ w.heap.size + 1 ∧ k ≠ ob) vR' o'.rows) (hMs:Kd.R k79 79 W w.heap.size (fun k => k ≠ w.heap.size ∧ k ≠ w.heap.size + 1 ∧ k ≠ ob) vM' o'.ms):uq.Inv w (W.setCell ⟨ob,i,none⟩ u) ob s o' vR' vM':=by
 obtain ⟨M,hS,hM9⟩:=h.src
 have ha:=h.apart
 refine ⟨⟨M,hS.move (hS.below.setCell (p:=⟨ob,i,none⟩) (by simp;omega) _) (Below.heap_setCell _ _ _ _ (by simp;omega)) (fun k hk _ => Below.heap_setCell _ _ _ _ (hM9 k hk).2.1),fun k hk => ⟨(hM9 k hk).1,(hM9 k hk).2.1,?_⟩⟩,ha,blk_far h.res (by simp;omega) _,?_,Kd.S_far hR (fun _ h9 => h9.2.2) _,Kd.R_far hMs (fun _ h9 => h9.2.2) _⟩
 · rcases hM with h9 | h9
   · rw [h9]
     exact (hM9 k hk).2.2
   · rw [h9]
     simp [Value.ownBlock]
 · rw [u4f h.cur,hc]
theorem uq.Inv.grow {w W W1:World} {ob:Nat} {s:uq.SS} {o:uq.Ou} {vR v1:Value} {l1:List uq.Rw} (h:uq.Inv w W ob s o vR (.slice none 0 0)) (hms:o.ms = []) (hR:Kd.S k59 59 W1 w.heap.size (fun k => k ≠ w.heap.size ∧ k ≠ w.heap.size + 1 ∧ k ≠ ob) v1 l1) (hB:Below w.heap.size w W1) (hg:W.grownBy W1 vR.ownBlock) (hat:v1.ownBlock = vR.ownBlock ∨ ∃ b,v1.ownBlock = some b ∧ W.heap.size ≤ b):uq.Inv w (W1.setCell ⟨ob,1,none⟩ v1) ob s {o with rows:=l1} v1 (.slice none 0 0):=by
 obtain ⟨M,hS,hM9⟩:=h.src
 have ha:=h.apart
 have hob:=u3c h.cur
 have hrs:=u3c h.res
 have hgs:=hS.lt
 have hne:∀ k,k = w.heap.size ∨ k = w.heap.size + 1 ∨ k = ob → some k ≠ vR.ownBlock:=fun k hk he => by
  have h9:=(Kd.S_R h.rows).1 k he.symm
  omega
 have hkeep:∀ k,k < W.heap.size → some k ≠ vR.ownBlock → k ≠ ob → (W1.setCell ⟨ob,1,none⟩ v1).heap[k]? = W.heap[k]? := fun k hk h9 h8 => (Below.heap_setCell _ _ _ _ h8).trans (hg.block k hk h9)
 refine ⟨⟨fun k => M k ∧ k < W.heap.size,(hS.mono (M':=fun k => M k ∧ k < W.heap.size) (fun k h1 h2 => ⟨h2,h1⟩) (fun k h9 => hS.far k h9.1)).move (hB.setCell (p:=⟨ob,1,none⟩) (by simp;omega) _) (hkeep _ hgs (hne _ (by omega)) (by omega)) (fun k hk hlt => hkeep k hlt (hM9 k hk.1).2.2 (hM9 k hk.1).2.1),fun k hk => ⟨(hM9 k hk.1).1,(hM9 k hk.1).2.1,?_⟩⟩,ha,(hkeep _ hrs (hne _ (by omega)) (by omega)).trans h.res,?_,Kd.S_far hR (fun _ h9 => h9.2.2) _,by rw [show ({o with rows:=l1}:uq.Ou).ms = [] from hms];exact Kd.R_nil _ _ _ _ _⟩
 · intro he
   rcases hat with h9 | ⟨b,h9,h8⟩
   · exact (hM9 k hk.1).2.2 (by rw [← h9];exact he)
   · rw [h9] at he
     have:=Option.some.inj he
     have:=hk.2
     omega
 · have h1:W1.heap[ob]? = _:=(hg.block ob hob (hne _ (by omega))).trans h.cur
   rw [u4f h1]
   rfl
def uq.Ret (w w':World) (r:uq.Ou × Int) (e:Ending):Prop:=∃ v1 v2:Value,e = .returned (.tuple #[.agg #[.int .i64 r.1.kd,v1,v2,.int .i64 r.1.fr,.int .i64 r.1.to_,.int .i64 r.1.kp],.int .i64 r.2]) ∧ Kd.S k59 59 w' w.heap.size (fun _ => True) v1 r.1.rows ∧ Kd.R k79 79 w' w.heap.size (fun _ => True) v2 r.1.ms ∧ Below w.heap.size w w'
theorem uq.Ret.none {w w':World} {r:uq.Ou × Int} (hr:r = (uq.zero,5)) (hb:Below w.heap.size w w'):uq.Ret w w' r (.returned (.tuple #[.agg #[.int .i64 0,.slice none 0 0,.slice none 0 0,.int .i64 0,.int .i64 0,.int .i64 0],.int .i64 5])):=by
 subst hr
 exact ⟨_,_,rfl,Kd.S_nil _ _ _ _ _,Kd.R_nil _ _ _ _ _,hb⟩
theorem uq.Inv.fin {w W:World} {ob:Nat} {s:uq.SS} {o:uq.Ou} {vR vM:Value} (h:uq.Inv w W ob s o vR vM) (x0 x1 x2 x3 x4 x5:Value):uq.Ret w ((((((W.setCell ⟨w.heap.size,0,none⟩ x0).setCell ⟨w.heap.size,1,none⟩ x1).setCell ⟨w.heap.size,2,none⟩ x2).setCell ⟨w.heap.size,3,none⟩ x3).setCell ⟨w.heap.size,4,none⟩ x4).setCell ⟨w.heap.size,5,none⟩ x5) (o,0) (.returned (.tuple #[.agg #[.int .i64 o.kd,vR,vM,.int .i64 o.fr,.int .i64 o.to_,.int .i64 o.kp],.int .i64 0])):=by
 refine ⟨vR,vM,rfl,?_,?_,?_⟩
 · refine Kd.S_mono (ok:=fun k => k ≠ w.heap.size ∧ k ≠ w.heap.size + 1 ∧ k ≠ ob) ?_ (fun _ _ => trivial)
   exact (Kd.S_far (Kd.S_far (Kd.S_far (Kd.S_far (Kd.S_far (Kd.S_far h.rows (fun _ hk => hk.1) _) (fun _ hk => hk.1) _) (fun _ hk => hk.1) _) (fun _ hk => hk.1) _) (fun _ hk => hk.1) _) (fun _ hk => hk.1) _)
 · refine Kd.R_mono (ok:=fun k => k ≠ w.heap.size ∧ k ≠ w.heap.size + 1 ∧ k ≠ ob) ?_ (fun _ _ => trivial)
   exact (Kd.R_far (Kd.R_far (Kd.R_far (Kd.R_far (Kd.R_far (Kd.R_far h.ms (fun _ hk => hk.1) _) (fun _ hk => hk.1) _) (fun _ hk => hk.1) _) (fun _ hk => hk.1) _) (fun _ hk => hk.1) _) (fun _ hk => hk.1) _)
 · exact (Below.setCell (Below.setCell (Below.setCell (Below.setCell (Below.setCell (Below.setCell h.below (Nat.le_refl _) _) (Nat.le_refl _) _) (Nat.le_refl _) _) (Nat.le_refl _) _) (Nat.le_refl _) _) (Nat.le_refl _) _)
theorem uq.rowsM_succ (k n:Nat) (s:uq.SS) (l:List uq.Rw):uq.rowsM k (n + 1) s l = if s.bad = true then some (l,s) else (record_reader_row.rowM k s).bind fun z => uq.rowsM k n z.2 (l ++ [⟨z.1.1,z.1.2.1,z.1.2.2⟩]):=rfl
end Go.Proofs.YtgnehcgaplnfkaaGreatDoor.PAll
