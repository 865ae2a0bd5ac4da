/- A text of this seat. -/
import Derived.Test.YtgnehcgaplnfkaaGreatDoorBv1
import Derived.Test.YtgnehcgaplnfkaaGreatDoorBv2
import Derived.Test.YtgnehcgaplnfkaaGreatDoorBv6
import Derived.Test.YtgnehcgaplnfkaaGreatDoorBv5
namespace Go.Proofs.YtgnehcgaplnfkaaGreatDoor.PAll
open Go.RowKit Go.Proofs.YtgnehcgaplnfkaaGreatDoorW.PrintWords Go.Proofs.YtgnehcgaplnfkaaGreatDoorW.PrintLast Go.Proofs.YtgnehcgaplnfkaaGreatDoorW.PrintMore
attribute [local go_sem] u3o u3n u3x u3w u3j u3i u3p u3q   -- for this text's walks alone
set_option linter.unusedVariables false
set_option linter.unusedSimpArgs false
-- uses record_source_number record_reader_row match_Decode record_Can
def ud.f:Option Int:=none
abbrev ud.SS:=ue.SS
abbrev ud.Rw:=S59
abbrev ud.Mt:=S79
structure ud.Ou where
 kd:Int
 rows:List ud.Rw
 ms:List ud.Mt
 fr:Int
 to_:Int
 kp:Int
def ud.zero:ud.Ou:=⟨0,[],[],0,0,0⟩
def ud.rowsM (k:Nat):Nat → ud.SS → List ud.Rw → Option (List ud.Rw × ud.SS)
 | 0,s,l => some (l,s)
 | n + 1,s,l => if s.bad = true then some (l,s) else (u3k.rowM k s).bind fun z => ud.rowsM k n z.2 (l ++ [⟨z.1.1,z.1.2.1,z.1.2.2⟩])
def ud.mid (k:Nat) (x:Int) (s:ud.SS):Option (ud.Ou × ud.SS) :=
 if x = 1 then (ud.rowsM k (ue.num 2 s).1.toNat (ue.num 2 s).2 []).map fun z => (⟨1,z.1,[],0,0,0⟩,z.2)
 else if x = 2 then some (⟨2,[],(uy.dec s.b).1,wrap64 (ue.num 8 ⟨(uy.dec s.b).2.1,s.bad || (uy.dec s.b).2.2 != 0⟩).1,wrap64 (ue.num 8 (ue.num 8 ⟨(uy.dec s.b).2.1,s.bad || (uy.dec s.b).2.2 != 0⟩).2).1,0⟩,(ue.num 8 (ue.num 8 ⟨(uy.dec s.b).2.1,s.bad || (uy.dec s.b).2.2 != 0⟩).2).2)
 else if x = 3 then some (⟨3,[],[],0,0,wrap64 (ue.num 8 s).1⟩,(ue.num 8 s).2)
 else some (⟨x,[],[],0,0,0⟩,s)
def ud.canO (k:Nat) (o:ud.Ou):Option Bool:=u1t.f k o.kd o.rows o.ms o.fr o.to_ o.kp
def ud.out (k:Nat) (z:ud.Ou × ud.SS):Option (ud.Ou × Int) :=
 if z.2.bad = true then some (ud.zero,5) else if z.2.b ≠ [] then some (ud.zero,5) else (ud.canO k z.1).bind fun c => if c = true then some (z.1,0) else some (ud.zero,5)
def ud.dec (k:Nat) (l0:List Int):Option (ud.Ou × Int):=(ud.mid k (wrap64 (ue.num 1 ⟨l0,false⟩).1) (ue.num 1 ⟨l0,false⟩).2).bind (ud.out k)
structure ud.Inv (w W:World) (ob:Nat) (s:ud.SS) (o:ud.Ou) (vR vM:Value):Prop where
 src:∃ M:Nat → Prop,ue.St w W (w.heap.size + 1) M s ∧ ∀ k,M k → k ≠ w.heap.size ∧ k ≠ ob ∧ some k ≠ vR.ownBlock
 apart:w.heap.size + 1 < ob
 res:W.heap[w.heap.size]? = some (.cells #[.int .i64 0,.slice none 0 0,.slice none 0 0,.int .i64 0,.int .i64 0,.int .i64 0] 26 (0,0))
 cur:W.heap[ob]? = some (.cells #[.int .i64 o.kd,vR,vM,.int .i64 o.fr,.int .i64 o.to_,.int .i64 o.kp] 26 (0,0))
 rows:Kd.S k59 59 W w.heap.size (fun k => k ≠ w.heap.size ∧ k ≠ w.heap.size + 1 ∧ k ≠ ob) vR o.rows
 ms:Kd.R k79 79 W w.heap.size (fun k => k ≠ w.heap.size ∧ k ≠ w.heap.size + 1 ∧ k ≠ ob) vM o.ms
theorem ud.Inv.below {w W:World} {ob:Nat} {s:ud.SS} {o:ud.Ou} {vR vM:Value} (h:ud.Inv w W ob s o vR vM):Below w.heap.size w W:=by
 obtain ⟨M,hS,_⟩:=h.src
 exact hS.below
theorem ud.Inv.more {w W W':World} {ob:Nat} {s:ud.SS} {o:ud.Ou} {vR vM:Value} (h:ud.Inv w W ob s o vR vM) (hb:Below W.heap.size W W'):ud.Inv w W' ob s o vR vM:=by
 obtain ⟨M,hS,hM⟩:=h.src
 exact ⟨⟨M,hS.more hb,hM⟩,h.apart,u1a h.res hb,u1a h.cur hb,Kd.S_below h.rows hb,Kd.R_below h.ms hb⟩
theorem ud.Inv.keep {w W W':World} {ob:Nat} {s s':ud.SS} {o:ud.Ou} {vR vM:Value} (h:ud.Inv w W ob s o vR vM) (hs:∃ M:Nat → Prop,ue.St w W' (w.heap.size + 1) M s' ∧ ∀ k,M k → k ≠ w.heap.size ∧ k ≠ ob ∧ some k ≠ vR.ownBlock) (hk:u2s W W' (w.heap.size + 1) none):ud.Inv w W' ob s' o vR vM :=
 ⟨hs,h.apart,hk.blk h.res (by omega) (by simp),hk.blk h.cur (by have:=h.apart;omega) (by simp),Kd.S_keep h.rows hk (fun _ h9 => h9.2.1),Kd.R_keep h.ms hk (fun _ h9 => h9.2.1)⟩
theorem ud.Inv.store {w W:World} {ob:Nat} {s:ud.SS} {o o':ud.Ou} {vR vM vR' vM':Value} (h:ud.Inv w W ob s o vR vM) (i:Nat) (u:Value) (hc:(#[.int .i64 o.kd,vR,vM,.int .i64 o.fr,.int .i64 o.to_,.int .i64 o.kp]:Array Value).setIfInBounds i u = #[.int .i64 o'.kd,vR',vM',.int .i64 o'.fr,.int .i64 o'.to_,.int .i64 o'.kp])
 (hM:vR' = vR ∨ vR' = .slice none 0 0) (hR:Kd.S k59 59 W w.heap.size (fun k => k ≠ w.heap.size ∧ k ≠ w.heap.size + 1 ∧ k ≠ ob) vR' o'.rows) (hMs:Kd.R k79 79 W w.heap.size (fun k => k ≠ w.heap.size ∧ k ≠ w.heap.size + 1 ∧ k ≠ ob) vM' o'.ms):ud.Inv w (W.setCell ⟨ob,i,none⟩ u) ob s o' vR' vM':=by
 obtain ⟨M,hS,hM9⟩:=h.src
 have ha:=h.apart
 refine ⟨⟨M,hS.move (hS.below.setCell (p:=⟨ob,i,none⟩) (by simp;omega) _) (Below.heap_setCell _ _ _ _ (by simp;omega)) (fun k hk _ => Below.heap_setCell _ _ _ _ (hM9 k hk).2.1),fun k hk => ⟨(hM9 k hk).1,(hM9 k hk).2.1,?_⟩⟩,ha,blk_far h.res (by simp;omega) _,?_,Kd.S_far hR (fun _ h9 => h9.2.2) _,Kd.R_far hMs (fun _ h9 => h9.2.2) _⟩
 · rcases hM with h9 | h9
   · rw [h9]
     exact (hM9 k hk).2.2
   · rw [h9]
     simp [Value.ownBlock]
 · rw [u3v h.cur,hc]
theorem ud.Inv.grow {w W W1:World} {ob:Nat} {s:ud.SS} {o:ud.Ou} {vR v1:Value} {l1:List ud.Rw} (h:ud.Inv w W ob s o vR (.slice none 0 0)) (hms:o.ms = []) (hR:Kd.S k59 59 W1 w.heap.size (fun k => k ≠ w.heap.size ∧ k ≠ w.heap.size + 1 ∧ k ≠ ob) v1 l1) (hB:Below w.heap.size w W1) (hg:W.grownBy W1 vR.ownBlock) (hat:v1.ownBlock = vR.ownBlock ∨ ∃ b,v1.ownBlock = some b ∧ W.heap.size ≤ b):ud.Inv w (W1.setCell ⟨ob,1,none⟩ v1) ob s {o with rows:=l1} v1 (.slice none 0 0):=by
 obtain ⟨M,hS,hM9⟩:=h.src
 have ha:=h.apart
 have hob:=u2m h.cur
 have hrs:=u2m h.res
 have hgs:=hS.lt
 have hne:∀ k,k = w.heap.size ∨ k = w.heap.size + 1 ∨ k = ob → some k ≠ vR.ownBlock:=fun k hk he => by
  have h9:=(Kd.S_R h.rows).1 k he.symm
  omega
 have hkeep:∀ k,k < W.heap.size → some k ≠ vR.ownBlock → k ≠ ob → (W1.setCell ⟨ob,1,none⟩ v1).heap[k]? = W.heap[k]? := fun k hk h9 h8 => (Below.heap_setCell _ _ _ _ h8).trans (hg.block k hk h9)
 refine ⟨⟨fun k => M k ∧ k < W.heap.size,(hS.mono (M':=fun k => M k ∧ k < W.heap.size) (fun k h1 h2 => ⟨h2,h1⟩) (fun k h9 => hS.far k h9.1)).move (hB.setCell (p:=⟨ob,1,none⟩) (by simp;omega) _) (hkeep _ hgs (hne _ (by omega)) (by omega)) (fun k hk hlt => hkeep k hlt (hM9 k hk.1).2.2 (hM9 k hk.1).2.1),fun k hk => ⟨(hM9 k hk.1).1,(hM9 k hk.1).2.1,?_⟩⟩,ha,(hkeep _ hrs (hne _ (by omega)) (by omega)).trans h.res,?_,Kd.S_far hR (fun _ h9 => h9.2.2) _,by rw [show ({o with rows:=l1}:ud.Ou).ms = [] from hms];exact Kd.R_nil _ _ _ _ _⟩
 · intro he
   rcases hat with h9 | ⟨b,h9,h8⟩
   · exact (hM9 k hk.1).2.2 (by rw [← h9];exact he)
   · rw [h9] at he
     have:=Option.some.inj he
     have:=hk.2
     omega
 · have h1:W1.heap[ob]? = _:=(hg.block ob hob (hne _ (by omega))).trans h.cur
   rw [u3v h1]
   rfl
theorem ud.cells {w:World} {g:Nat} {a b c d e f:Value} {t:TypeId} (h:w.heap[g]? = some (.cells #[a,b,c,d,e,f] t (0,0))):(w.cell? ⟨g,0,none⟩ = some a ∧ w.cell? ⟨g,1,none⟩ = some b ∧ w.cell? ⟨g,2,none⟩ = some c ∧ w.cell? ⟨g,3,none⟩ = some d ∧ w.cell? ⟨g,4,none⟩ = some e ∧ w.cell? ⟨g,5,none⟩ = some f) ∧ (w.frozen? ⟨g,0,none⟩ = false ∧ w.frozen? ⟨g,1,none⟩ = false ∧ w.frozen? ⟨g,2,none⟩ = false ∧ w.frozen? ⟨g,3,none⟩ = false ∧ w.frozen? ⟨g,4,none⟩ = false ∧ w.frozen? ⟨g,5,none⟩ = false):=by
 have h0:=uk h 0
 have h1:=uk h 1
 have h2:=uk h 2
 have h3:=uk h 3
 have h4:=uk h 4
 have h5:=uk h 5
 simp only [List.size_toArray,List.length_cons,List.length_nil,List.getElem?_toArray,List.getElem?_cons_zero,List.getElem?_cons_succ] at h0 h1 h2 h3 h4 h5
 exact ⟨⟨h0,h1,h2,h3,h4,h5⟩,uq h 0,uq h 1,uq h 2,uq h 3,uq h 4,uq h 5⟩
def ud.Ret (w w':World) (r:ud.Ou × Int) (e:Ending):Prop:=∃ v1 v2:Value,e = .returned (.tuple #[.agg #[.int .i64 r.1.kd,v1,v2,.int .i64 r.1.fr,.int .i64 r.1.to_,.int .i64 r.1.kp],.int .i64 r.2]) ∧ Kd.S k59 59 w' w.heap.size (fun _ => True) v1 r.1.rows ∧ Kd.R k79 79 w' w.heap.size (fun _ => True) v2 r.1.ms ∧ Below w.heap.size w w'
theorem ud.Ret.none {w w':World} {r:ud.Ou × Int} (hr:r = (ud.zero,5)) (hb:Below w.heap.size w w'):ud.Ret w w' r (.returned (.tuple #[.agg #[.int .i64 0,.slice none 0 0,.slice none 0 0,.int .i64 0,.int .i64 0,.int .i64 0],.int .i64 5])):=by
 subst hr
 exact ⟨_,_,rfl,Kd.S_nil _ _ _ _ _,Kd.R_nil _ _ _ _ _,hb⟩
theorem ud.Inv.init {w W1:World} {s:ud.SS} (x:Int) (hS:ue.St w W1 (w.heap.size + 1) (fun k => k < w.heap.size) s) (hx:W1.heap[w.heap.size]? = some (.cells #[.int .i64 0,.slice none 0 0,.slice none 0 0,.int .i64 0,.int .i64 0,.int .i64 0] 26 (0,0))):ud.Inv w (W1.alloc (.cells #[.int .i64 x,.slice none 0 0,.slice none 0 0,.int .i64 0,.int .i64 0,.int .i64 0] 26)) W1.heap.size s ⟨x,[],[],0,0,0⟩ (.slice none 0 0) (.slice none 0 0):=by
 have h1:=hS.lt
 have hb:=uj (Below.refl W1.heap.size W1) (.cells #[.int .i64 x,.slice none 0 0,.slice none 0 0,.int .i64 0,.int .i64 0,.int .i64 0] 26)
 exact ⟨⟨_,hS.more hb,fun k hk => ⟨by omega,by omega,by simp [Value.ownBlock]⟩⟩,h1,u1a hx hb,u3d _ _,Kd.S_nil _ _ _ _ _,Kd.R_nil _ _ _ _ _⟩
theorem ud.can_at (k:Nat) (o:ud.Ou) (vR vM:Value) (c:Bool) (W:World) (b:Nat) (ok:Nat → Prop) (hR:Kd.S k59 59 W b ok vR o.rows) (hM:Kd.R k79 79 W b ok vM o.ms) (hG:strings_ToValidUTF8.Gd W) (h:ud.canO k o = some c) :
 Calls Tryz.prog 11 #[.agg #[.int .i64 o.kd,vR,vM,.int .i64 o.fr,.int .i64 o.to_,.int .i64 o.kp]] W fun e W' => e = .returned (.bool c) ∧ Below W.heap.size W W':=by
 obtain ⟨AR,cR,rfl⟩:=Kd.S_slice hR
 obtain ⟨AM,cM,rfl⟩:=Kd.R_slice hM
 exact u1t.callsP k o.kd AR cR o.rows AM cM o.ms o.fr o.to_ o.kp c W (Kd.S_reads' hR).2.2 (Kd.S_reads' hR).2.1 (Kd.R_reads' hM).2.2 (Kd.R_reads' hM).2.1 hG h
theorem ud.Inv.fin {w W:World} {ob:Nat} {s:ud.SS} {o:ud.Ou} {vR vM:Value} (h:ud.Inv w W ob s o vR vM) (x0 x1 x2 x3 x4 x5:Value):ud.Ret w ((((((W.setCell ⟨w.heap.size,0,none⟩ x0).setCell ⟨w.heap.size,1,none⟩ x1).setCell ⟨w.heap.size,2,none⟩ x2).setCell ⟨w.heap.size,3,none⟩ x3).setCell ⟨w.heap.size,4,none⟩ x4).setCell ⟨w.heap.size,5,none⟩ x5) (o,0) (.returned (.tuple #[.agg #[.int .i64 o.kd,vR,vM,.int .i64 o.fr,.int .i64 o.to_,.int .i64 o.kp],.int .i64 0])):=by
 refine ⟨vR,vM,rfl,?_,?_,?_⟩
 · refine Kd.S_mono (ok:=fun k => k ≠ w.heap.size ∧ k ≠ w.heap.size + 1 ∧ k ≠ ob) ?_ (fun _ _ => trivial)
   exact (Kd.S_far (Kd.S_far (Kd.S_far (Kd.S_far (Kd.S_far (Kd.S_far h.rows (fun _ hk => hk.1) _) (fun _ hk => hk.1) _) (fun _ hk => hk.1) _) (fun _ hk => hk.1) _) (fun _ hk => hk.1) _) (fun _ hk => hk.1) _)
 · refine Kd.R_mono (ok:=fun k => k ≠ w.heap.size ∧ k ≠ w.heap.size + 1 ∧ k ≠ ob) ?_ (fun _ _ => trivial)
   exact (Kd.R_far (Kd.R_far (Kd.R_far (Kd.R_far (Kd.R_far (Kd.R_far h.ms (fun _ hk => hk.1) _) (fun _ hk => hk.1) _) (fun _ hk => hk.1) _) (fun _ hk => hk.1) _) (fun _ hk => hk.1) _) (fun _ hk => hk.1) _)
 · exact (Below.setCell (Below.setCell (Below.setCell (Below.setCell (Below.setCell (Below.setCell h.below (Nat.le_refl _) _) (Nat.le_refl _) _) (Nat.le_refl _) _) (Nat.le_refl _) _) (Nat.le_refl _) _) (Nat.le_refl _) _)
theorem ud.below6 {w W:World} (h:Below w.heap.size w W) (x0 x1 x2 x3 x4 x5:Value):Below w.heap.size w ((((((W.setCell ⟨w.heap.size,0,none⟩ x0).setCell ⟨w.heap.size,1,none⟩ x1).setCell ⟨w.heap.size,2,none⟩ x2).setCell ⟨w.heap.size,3,none⟩ x3).setCell ⟨w.heap.size,4,none⟩ x4).setCell ⟨w.heap.size,5,none⟩ x5):=by
 exact (Below.setCell (Below.setCell (Below.setCell (Below.setCell (Below.setCell (Below.setCell h (Nat.le_refl _) _) (Nat.le_refl _) _) (Nat.le_refl _) _) (Nat.le_refl _) _) (Nat.le_refl _) _) (Nat.le_refl _) _)
theorem ud.range {s:ud.SS} {n:Nat} (h:∀ y ∈ s.b,0 ≤ y ∧ y < 256):∀ y ∈ (ue.num n s).2.b,0 ≤ y ∧ y < 256:=by
 unfold ue.num
 split
 · exact h
 · exact fun y hy => h y (List.mem_of_mem_drop hy)
theorem ud.val2 (l:List Int) (hl:l.length = 2) (h256:∀ y ∈ l,0 ≤ y ∧ y < 256):0 ≤ ue.val l ∧ ue.val l < 65536:=by
 match l,hl with
 | [a,b],_ =>
   have h1:=h256 a (by simp)
   have h2:=h256 b (by simp)
   have hw:∀ x:Int,0 ≤ x → x < 18446744073709551616 → IntKind.u64.wrap x = x:=fun x h3 h4 => by
    show x % _ = x
    exact Int.emod_eq_of_lt h3 h4
   have hs:∀ x c:Int,0 ≤ x → x < 65536 → 0 ≤ c ∧ c < 256 → ue.step x c = x * 256 + c:=fun x c h3 h4 h5 => by
    unfold ue.step
    rw [hw (x * 256) (by omega) (by omega),hw c h5.1 (by omega)]
    exact bits_join .u64 64 (by decide) (fun n h6 h7 => hw n h6 (by simpa using h7)) 8 (x * 256) c (by omega) (by omega) (by omega) h5.1 (by omega) (by omega)
   have e:ue.val [a,b] = a * 256 + b:=by
    show ue.step (ue.step 0 a) b = _
    rw [hs 0 a (by omega) (by omega) h1,hs _ b (by omega) (by omega) h2]
    omega
   rw [e]
   omega
theorem ud.num2 (s:ud.SS) (h:∀ y ∈ s.b,0 ≤ y ∧ y < 256):∃ n:Nat,(ue.num 2 s).1 = (n:Int) ∧ n < 65536:=by
 unfold ue.num
 split
 · exact ⟨0,rfl,by omega⟩
 · rename_i h9
   have h1:=ud.val2 (s.b.take 2) (by rw [List.length_take];omega) (fun y hy => h y (List.mem_of_mem_take hy))
   exact ⟨(ue.val (s.b.take 2)).toNat,by omega,by omega⟩
theorem ud.rowsM_succ (k n:Nat) (s:ud.SS) (l:List ud.Rw):ud.rowsM k (n + 1) s l = if s.bad = true then some (l,s) else (u3k.rowM k s).bind fun z => ud.rowsM k n z.2 (l ++ [⟨z.1.1,z.1.2.1,z.1.2.2⟩]):=rfl
theorem ud.wrap_u64 (i n:Nat) (h:i < n) (hn:n < 65536):IntKind.u64.wrap ((i:Int) + 1) = (i:Int) + 1:=by
 show ((i:Int) + 1) % 18446744073709551616 = _
 exact Int.emod_eq_of_lt (by omega) (by omega)
theorem ud.num_bad (n:Nat) (b:List Int):ue.num n ⟨b,true⟩ = (0,⟨b,true⟩):=if_pos (Or.inl rfl)
theorem ud.num_bad' {n:Nat} {b b':List Int} {x:Int} {bad:Bool} (h:ue.num n ⟨b,true⟩ = (x,⟨b',bad⟩)):bad = true:=by
 rw [ud.num_bad] at h
 have h2:=(Prod.mk.inj h).2
 injection h2 with _ h3
 exact h3.symm
theorem ud.k_step {n g x:Nat} (h:n ≤ g + 1 + x):n ≤ g + (x + 1):=by omega
theorem ud.infoR:(Tryz.prog.info? 59).map (fun i => (i.zero,i.size,i.bytes)) = some (some (.agg #[.slice none 0 0,.int .i64 0,.int .u64 0]),3,40):=by kernel_rfl
set_option maxHeartbeats 8000000 in
set_option maxRecDepth 10000 in
theorem ud.callsD (k:Nat) (A0:Option Addr) (c0:Nat) (l0:List Int) (r:ud.Ou × Int) (w:World) (hr0:Kd.C (Kd.int .u8) w A0 l0.length l0) (hc0:l0.length ≤ c0) (hl:l0.length ≤ 140737488355328) (h256:∀ y ∈ l0,0 ≤ y ∧ y < 256) (hG:strings_ToValidUTF8.Gd w) (h:ud.dec k l0 = some r) :
 Calls Tryz.prog 6 #[.slice A0 l0.length c0] w fun e w' => ud.Ret w w' r e:=by
 obtain ⟨x,b1,bad1,hn1⟩:∃ x b1 bad1,ue.num 1 ⟨l0,false⟩ = (x,⟨b1,bad1⟩):=⟨_,_,_,rfl⟩
 unfold ud.dec at h
 rw [hn1] at h
 have HF:=Aside0.mk h
 have HN1:=Aside0.mk hn1
 obtain ⟨W2,hW2⟩:∃ W2,Aside0 ((w.alloc (.cells #[.int .i64 0,.slice none 0 0,.slice none 0 0,.int .i64 0,.int .i64 0,.int .i64 0] 26)).alloc (.cells #[.slice A0 l0.length c0,.bool false] 54) = W2):=⟨_,⟨rfl⟩⟩
 have hbl:Below w.heap.size w W2:=by rw [← hW2.out];exact uj (uj (Below.refl _ _) _) _
 have hx:W2.heap[w.heap.size]? = some (.cells #[.int .i64 0,.slice none 0 0,.slice none 0 0,.int .i64 0,.int .i64 0,.int .i64 0] 26 (0,0)):=by
  rw [← hW2.out]
  exact u1a (u3d w _) (uj (Below.refl _ _) _)
 have hy:W2.heap[w.heap.size + 1]? = some (.cells #[.slice A0 l0.length c0,.bool false] 54 (0,0)):=by
  have h9:=u3d (w.alloc (.cells #[.int .i64 0,.slice none 0 0,.slice none 0 0,.int .i64 0,.int .i64 0,.int .i64 0] 26)) (.cells #[.slice A0 l0.length c0,.bool false] 54)
  simp only [World.size_alloc] at h9
  rw [← hW2.out]
  exact h9
 have HS:Aside0 (ue.St w W2 (w.heap.size + 1) (fun k => k < w.heap.size) ⟨l0,false⟩):=⟨⟨hbl,Nat.le_succ _,fun k hk => by omega,A0,c0,hy,hc0,Kd.F_below (Kd.C_F (Kd.heap_int .u8) hr0) hbl⟩⟩
 have HX:=Aside0.mk hx
 have HG0:=Aside0.mk hG
 have HB1:Aside0 ((∀ y ∈ b1,0 ≤ y ∧ y < 256) ∧ b1.length ≤ 140737488355328):=⟨by
  have h8:=ud.range (s:=⟨l0,false⟩) (n:=1) h256
  rw [hn1] at h8
  refine ⟨h8,?_⟩
  unfold ue.num at hn1
  split at hn1
  · have h9:=(Prod.mk.inj hn1).2
    injection h9 with h9 _
    rw [← h9]
    exact hl
  · have h9:=(Prod.mk.inj hn1).2
    injection h9 with h9 _
    rw [← h9]
    exact Nat.le_trans (show (l0.drop 1).length ≤ l0.length by rw [List.length_drop];omega) hl⟩
 clear hr0 hc0 hl h256 hG h hn1 hbl hx hy
 by_cases hk1:wrap64 x = 1
 · skip
   have t1:(wrap64 x == 1) = true:=beq_iff_eq.2 hk1
   have HK1:=Aside0.mk hk1
   obtain ⟨x2,b2,bad2,hn2⟩:∃ x2 b2 bad2,ue.num 2 ⟨b1,bad1⟩ = (x2,⟨b2,bad2⟩):=⟨_,_,_,rfl⟩
   obtain ⟨n,hx2,hn⟩:∃ n:Nat,x2 = (n:Int) ∧ n < 65536:=by
    have h9:=ud.num2 ⟨b1,bad1⟩ HB1.out.1
    rw [hn2] at h9
    exact h9
   subst hx2
   have HN2:=Aside0.mk hn2
   have HNN:=Aside0.mk hn
   have HR0:Aside0 ((ud.rowsM k n ⟨b2,bad2⟩ []).bind (fun z => ud.out k (⟨1,z.1,[],0,0,0⟩,z.2)) = some r):=⟨by
    have h9:=HF.out
    unfold ud.mid at h9
    rw [hk1,if_pos rfl,hn2] at h9
    have hmb:∀ (o:Option (List ud.Rw × ud.SS)),(o.map fun z => ((⟨1,z.1,[],0,0,0⟩:ud.Ou),z.2)).bind (ud.out k) = o.bind (fun z => ud.out k (⟨1,z.1,[],0,0,0⟩,z.2)):=fun o => by cases o <;> rfl
    rw [hmb] at h9
    simpa using h9⟩
   clear hn2 hk1 hn
   go_enter Tryz.func6,Tryz.ntmps6
   go_wp2_with (first | (go_at_call 22;rw [hW2.out];(with_reducible refine (ue.calls1 w W2 (w.heap.size + 1) (fun k => k < w.heap.size) ⟨l0,false⟩ HS.out).mono ?_);rintro e W1 ⟨rfl,hS1,hK1⟩;rw [HN1.out] at hS1 ⊢;obtain ⟨W3,hW3⟩:∃ W3,Aside0 (W1.alloc (.cells #[.int .i64 (wrap64 x),.slice none 0 0,.slice none 0 0,.int .i64 0,.int .i64 0,.int .i64 0] 26) = W3):=⟨_,⟨rfl⟩⟩;have hI3:=ud.Inv.init (wrap64 x) hS1 (hK1.blk HX.out (by omega) (by simp));rw [hW3.out] at hI3;obtain ⟨M3,hS3,hM3⟩:=hI3.src;have HS3:=Aside0.mk hS3;have HM3:=Aside0.mk hM3;have HI3:=Aside0.mk hI3;have ng1:w.heap.size ≠ W1.heap.size:=(by have h9:=hI3.apart;omega);have ng2:=ng1.symm;have ng3:w.heap.size + 1 ≠ W1.heap.size:=(by have h9:=hI3.apart;omega);have ng4:=ng3.symm;clear hS1 hK1 hI3 hS3 hM3) | (go_at_call 22;rw [hW3.out];(with_reducible refine (ue.calls2 w W3 (w.heap.size + 1) M3 ⟨b1,bad1⟩ HS3.out).mono ?_);rintro e W4 ⟨rfl,hS4,hK4⟩;rw [HN2.out] at hS4 ⊢;have HI4:=Aside0.mk (HI3.out.keep ⟨M3,hS4,HM3.out⟩ hK4);clear hS4 hK4))
   rw [HK1.out] at HI4
   clear t1
   go_loopg [27] n (fun kq v27 wr => ∃ (i:Nat) (b:List Int) (bad:Bool) (l:List ud.Rw) (vR:Value),i ≤ n ∧ v27 = .int .u64 i ∧ Aside0 (ud.Inv w wr W1.heap.size ⟨b,bad⟩ ⟨1,l,[],0,0,0⟩ vR (.slice none 0 0)) ∧ Aside0 ((ud.rowsM k (n - i) ⟨b,bad⟩ l).bind (fun z => ud.out k (⟨1,z.1,[],0,0,0⟩,z.2)) = some r) ∧ Aside0 (l.length = i) ∧ n ≤ kq + i)
   case atStart => exact ⟨0,b2,bad2,[],_,Nat.zero_le _,rfl,HI4,HR0,⟨rfl⟩,by omega⟩
   case round =>
    clear HI4 HR0
    obtain ⟨i,b,bad,l,vR,hin,rfl,HI,HN,HLN,hk⟩:=hrel
    obtain ⟨AR,cR,eR⟩:=Kd.S_slice HI.out.rows
    subst eR
    by_cases hlt:i < n
    · cases bad with
      | true =>
        have HF1:Aside0 (ud.out k (⟨1,l,[],0,0,0⟩,⟨b,true⟩) = some r):=⟨by
         have h9:=HN.out
         rw [show n - i = (n - (i + 1)) + 1 by omega,ud.rowsM_succ,if_pos rfl,Option.bind_some] at h9
         exact h9⟩
        obtain ⟨M9,hS9,_⟩:=HI.out.src
        obtain ⟨A9,c9,⟨k0,k1⟩,⟨f0,f1⟩,hl9,hb9,hF9⟩:=hS9.look
        simp only at k0 k1
        clear hl9 hb9 hF9 hS9
        obtain ⟨⟨e0,e1,e2,e3,e4,e5⟩,⟨z0,z1,z2,z3,z4,z5⟩⟩:=ud.cells HI.out.res
        obtain ⟨⟨p0,p1,p2,p3,p4,p5⟩,⟨y0,y1,y2,y3,y4,y5⟩⟩:=ud.cells HI.out.cur
        have HE:Aside0 (r = (ud.zero,5)):=⟨by have h9:=HF1.out;unfold ud.out at h9;rw [if_pos rfl] at h9;exact (Option.some.inj h9).symm⟩
        go_wp2
        refine bodyPost_ret (v:=.tuple #[.agg #[.int .i64 0,.slice none 0 0,.slice none 0 0,.int .i64 0,.int .i64 0,.int .i64 0],.int .i64 5]) (by simp [results,Tryz.results6,go_sem,e0,e1,e2,e3,e4,e5,z0,z1,z2,z3,z4,z5]) rfl ?_
        exact ud.Ret.none HE.out (ud.below6 HI.out.below _ _ _ _ _ _)
      | false =>
        obtain ⟨⟨⟨zl,zt,zv⟩,zs⟩,HZ,HN2⟩:∃ z,Aside0 (u3k.rowM k ⟨b,false⟩ = some z) ∧ Aside0 ((ud.rowsM k (n - (i + 1)) z.2 (l ++ [⟨z.1.1,z.1.2.1,z.1.2.2⟩])).bind (fun z => ud.out k (⟨1,z.1,[],0,0,0⟩,z.2)) = some r):=by
         have h9:=HN.out
         rw [show n - i = (n - (i + 1)) + 1 by omega,ud.rowsM_succ,if_neg (by intro h8;cases h8)] at h9
         obtain ⟨y,hy,hG⟩:=Option.bind_eq_some_iff.1 h9
         obtain ⟨z,hz,hF⟩:=Option.bind_eq_some_iff.1 hy
         exact ⟨z,⟨hz⟩,⟨by rw [hF];exact hG⟩⟩
        obtain ⟨bz,badz⟩:=zs
        simp only at HN2
        obtain ⟨g1,rfl⟩:∃ g1,gk = g1 + 1:=⟨gk - 1,by omega⟩
        have hw:=ud.wrap_u64 i n hlt HNN.out
        clear HN
        obtain ⟨M9,hS9,_⟩:=HI.out.src;obtain ⟨A9,c9,⟨k0,k1⟩,⟨f0,f1⟩,hl9,hb9,hF9⟩:=hS9.look;simp only at k0 k1;clear hl9 hb9 hF9 hS9;obtain ⟨⟨e0,e1,e2,e3,e4,e5⟩,⟨z0,z1,z2,z3,z4,z5⟩⟩:=ud.cells HI.out.res;obtain ⟨⟨p0,p1,p2,p3,p4,p5⟩,⟨y0,y1,y2,y3,y4,y5⟩⟩:=ud.cells HI.out.cur
        have HI2:=Aside0.mk (HI.out.more (ur (Below.refl _ _)))
        obtain ⟨M2,hS2,hM2⟩:=HI2.out.src
        have HS2:=Aside0.mk hS2
        have HM2:=Aside0.mk hM2
        clear hS2 hM2
        go_wp2
        clear k0 k1 f0 f1 e0 e1 e2 e3 e4 e5 z0 z1 z2 z3 z4 z5 p0 p1 p2 p3 p4 p5 y0 y1 y2 y3 y4 y5
        refine startO_ (n:=8) (S:=fun w' => w'.cell? ⟨W1.heap.size,1,none⟩ = some (.slice AR l.length cR)) (ds:=[7]) [(0,34),(1,35),(2,36),(3,0),(4,0),(5,0),(6,40),(7,0)] (by kernel_rfl) rfl (ud.cells HI2.out.cur).1.2.1 (fun hHeld => ?_)
        (refine hd_ (v:=?_) (a':=?_) rfl rfl (by kernel_rfl) (Or.inl ⟨by kernel_rfl,?_⟩) ?_ ?_;rotate_left;(intro w';go_simp;with_reducible rfl);rotate_left;(simp only [Act.put,List.setIfInBounds_toArray,List.set_cons_zero,List.set_cons_succ,i64_w,i32_w];rfl))
        (refine hdS_ (v:=?_) (a':=?_) rfl rfl (by kernel_rfl) (Or.inl ⟨by kernel_rfl,?_⟩) hHeld ?_ ?_;rotate_left;(rintro w' hS';go_simp;(try with_reducible rfl));rotate_left;(simp only [Act.put,List.setIfInBounds_toArray,List.set_cons_zero,List.set_cons_succ,i64_w,i32_w];rfl))
        (refine hd_ (v:=?_) (a':=?_) rfl rfl (by kernel_rfl) (Or.inl ⟨by kernel_rfl,?_⟩) ?_ ?_;rotate_left;(intro w';go_simp;with_reducible rfl);rotate_left;(simp only [Act.put,List.setIfInBounds_toArray,List.set_cons_zero,List.set_cons_succ,i64_w,i32_w];rfl))
        refine oneO_ (N:=some 37) rfl rfl (by kernel_rfl) (by decide) (fun K hK => ?_)
        refine goes_ Tryz.func23 (by kernel_rfl) rfl #[.pointer (some ⟨w.heap.size + 1,0,none⟩)] (by rfl) rfl rfl (by (try simp only [List.map_toArray,List.map_cons,List.map_nil]);first | done | rfl) ?_
        refine (u3k.calls k w _ (w.heap.size + 1) M2 ⟨b,false⟩ ⟨bz,badz⟩ zl zt zv HS2.out HZ.out).mono ?_
        rintro e W5 ⟨vl,rfl,hRl,hS5,hK5⟩
        refine ⟨_,rfl,?_⟩
        have hI5:=HI2.out.keep ⟨_,hS5,fun k9 hk9 => by
         have h1:=u2m HI2.out.res
         have h2:=u2m HI2.out.cur
         rcases hk9 with h8 | h8
         · exact HM2.out k9 h8.1
         · exact ⟨by omega,by omega,fun he => by have h3:=Kd.S_lt HI2.out.rows k9 he.symm;omega⟩⟩ hK5
        have HI5:=Aside0.mk hI5
        have HO5:Aside0 (Kd.S k59 59 W5 w.heap.size (fun k9 => (k9 ≠ w.heap.size ∧ k9 ≠ w.heap.size + 1 ∧ k9 ≠ W1.heap.size) ∧ ¬ wr.drew.heap.size ≤ k9) (.slice AR l.length cR) l):=⟨Kd.S_keep (Kd.S_mono (Kd.S_bound HI2.out.rows) (fun k9 hk9 => ⟨hk9.1,Nat.not_le.2 hk9.2.2.1⟩)) hK5 (fun k9 hk9 => hk9.1.2.1)⟩
        have HP5:Aside0 (k59.M W5 w.heap.size (fun k9 => wr.drew.heap.size ≤ k9) (⟨zl,zt,zv⟩:ud.Rw) [vl,.int .i64 zt,.int .u64 zv]):=⟨k59_mkM _ _ _ (⟨zl,zt,zv⟩:ud.Rw) (Kd.R_lower (Kd.R_mono (Kd.R_bound hRl) (fun k9 hk9 => hk9.2.1)) HI2.out.below.size)⟩
        have HK5:=Aside0.mk hK5
        clear hI5 hS5 hK5 hRl
        refine hK.out (Act.put _ (some 37) (.agg #[vl,.int .i64 zt,.int .u64 zv])) _ (ud.cells HI5.out.cur).1.2.1 (fun hNext => ?_)
        simp only [Act.put,List.setIfInBounds_toArray,List.set_cons_zero,List.set_cons_succ,i64_w,i32_w]
        clear hK hHeld K
        have hHeld:=hNext
        clear hNext
        refine oneO_ (N:=some 38) rfl rfl (by kernel_rfl) (by decide) (fun K hK => ?_)
        refine value_ (w1:=W5.alloc (.cells #[vl,.int .i64 zt,.int .u64 zv] 59)) (v:=.slice (some ⟨W5.heap.size,0,none⟩) 1 1) (by rfl) rfl ?_ ?_
        · go_simp
        refine hK.out (Act.put _ (some 38) (.slice (some ⟨W5.heap.size,0,none⟩) 1 1)) _ (ud.cells (HI5.out.more (uj (Below.refl _ _) _)).cur).1.2.1 (fun hNext => ?_)
        simp only [Act.put,List.setIfInBounds_toArray,List.set_cons_zero,List.set_cons_succ,i64_w,i32_w]
        clear hK hHeld K
        have hHeld:=hNext
        clear hNext
        refine oneO_ (N:=some 39) rfl rfl (by kernel_rfl) (by decide) (fun K hK => ?_)
        refine Kd.S_append_step k59 (w0:=w) (W:=W5) w.heap.size (by rfl) (.tmp 35) (.tmp 38) 23 59 (.agg #[.slice none 0 0,.int .i64 0,.int .u64 0]) 40 rfl Tryz.underlying23 ud.infoR rfl (by decide) (by decide) (.slice AR l.length cR) l (⟨zl,zt,zv⟩:ud.Rw) [vl,.int .i64 zt,.int .u64 zv] (fun k9 => k9 ≠ w.heap.size ∧ k9 ≠ w.heap.size + 1 ∧ k9 ≠ W1.heap.size) (fun k9 => wr.drew.heap.size ≤ k9) (by rfl) (by rfl) HP5.out ?hokp ?hfr HO5.out HI5.out.below HI5.out.below.size ?hbig ?_
        case hokp =>
         intro k9 hk9
         have h1:=u2m HI2.out.res
         have h2:=u2m HI2.out.cur
         have h3:=HI2.out.apart
         exact ⟨⟨by omega,by omega,by omega⟩,fun he => by have h4:=Kd.S_lt HI2.out.rows k9 he.symm;omega⟩
        case hfr =>
         intro k9 hk9
         have h1:=u2m HI5.out.res
         have h2:=u2m HI5.out.cur
         have h3:=HI5.out.apart
         exact ⟨by omega,by omega,by omega⟩
        case hbig =>
         have h1:=HLN.out
         have h2:=HNN.out
         omega
        intro v6 W6 hR6 hB6 hg6 hat6
        obtain ⟨A6,c6,e6⟩:=Kd.S_slice hR6
        rw [List.length_append] at e6
        have e6:v6 = .slice A6 (l.length + 1) c6:=e6
        subst e6
        have HI6:=Aside0.mk (HI5.out.grow rfl hR6 hB6 hg6 hat6)
        have hc6:W6.heap[W1.heap.size]? = _:=(hg6.block W1.heap.size (u2m HI5.out.cur) (fun he => (Kd.S_R HI5.out.rows).1 _ he.symm |>.2.2 rfl)).trans HI5.out.cur
        have HC6:=Aside0.mk hc6
        clear hR6 hB6 hg6 hat6 hc6
        refine hK.out (Act.put _ (some 39) (.slice A6 (l.length + 1) c6)) _ (ud.cells HC6.out).1.2.1 (fun hNext => ?_)
        simp only [Act.put,List.setIfInBounds_toArray,List.set_cons_zero,List.set_cons_succ,i64_w,i32_w]
        clear hK hHeld K
        have hHeld:=hNext
        clear hNext
        (refine hd_ (v:=?_) (a':=?_) rfl rfl (by kernel_rfl) (Or.inl ⟨by kernel_rfl,?_⟩) ?_ ?_;rotate_left;(intro w';go_simp;with_reducible rfl);rotate_left;(simp only [Act.put,List.setIfInBounds_toArray,List.set_cons_zero,List.set_cons_succ,i64_w,i32_w];rfl))
        obtain ⟨⟨p0,p1,p2,p3,p4,p5⟩,⟨y0,y1,y2,y3,y4,y5⟩⟩:=ud.cells HC6.out
        refine lastO_ (N:=none) rfl rfl (by kernel_rfl) (by decide) (fun K hK => ?_)
        refine skip_ (w1:=W6.setCell ⟨W1.heap.size,1,none⟩ (.slice A6 (l.length + 1) c6)) (by rfl) rfl ?_ ?_
        · go_simp
          (try rfl)
        refine hK.out _ _ ?_
        clear hK K p0 p1 p2 p3 p4 p5 y0 y1 y2 y3 y4 y5
        refine doneO_ (by kernel_rfl) ?_
        try go_wp2
        go_roundg g1
        case rel => exact ⟨i + 1,bz,badz,_,_,hlt,by go_num,HI6,HN2,⟨by rw [List.length_append,HLN.out];rfl⟩,ud.k_step hk⟩
        case measure => omega
    · have hie:i = n:=by omega
      have HF1:Aside0 (ud.out k (⟨1,l,[],0,0,0⟩,⟨b,bad⟩) = some r):=⟨by
       have h9:=HN.out
       rw [hie,Nat.sub_self] at h9
       exact h9⟩
      clear HN hie
      cases bad with
      | true =>
        obtain ⟨M9,hS9,_⟩:=HI.out.src
        obtain ⟨A9,c9,⟨k0,k1⟩,⟨f0,f1⟩,hl9,hb9,hF9⟩:=hS9.look
        simp only at k0 k1
        clear hl9 hb9 hF9 hS9
        obtain ⟨⟨e0,e1,e2,e3,e4,e5⟩,⟨z0,z1,z2,z3,z4,z5⟩⟩:=ud.cells HI.out.res
        obtain ⟨⟨p0,p1,p2,p3,p4,p5⟩,⟨y0,y1,y2,y3,y4,y5⟩⟩:=ud.cells HI.out.cur
        have HE:Aside0 (r = (ud.zero,5)):=⟨by have h9:=HF1.out;unfold ud.out at h9;rw [if_pos rfl] at h9;exact (Option.some.inj h9).symm⟩
        go_wp2
        refine bodyPost_ret (v:=.tuple #[.agg #[.int .i64 0,.slice none 0 0,.slice none 0 0,.int .i64 0,.int .i64 0,.int .i64 0],.int .i64 5]) (by simp [results,Tryz.results6,go_sem,e0,e1,e2,e3,e4,e5,z0,z1,z2,z3,z4,z5]) rfl ?_
        exact ud.Ret.none HE.out (ud.below6 HI.out.below _ _ _ _ _ _)
      | false =>
        cases b with
        | cons z9 q9 =>
          obtain ⟨M9,hS9,_⟩:=HI.out.src
          obtain ⟨A9,c9,⟨k0,k1⟩,⟨f0,f1⟩,hl9,hb9,hF9⟩:=hS9.look
          simp only at k0 k1
          clear hl9 hb9 hF9 hS9
          obtain ⟨⟨e0,e1,e2,e3,e4,e5⟩,⟨z0,z1,z2,z3,z4,z5⟩⟩:=ud.cells HI.out.res
          obtain ⟨⟨p0,p1,p2,p3,p4,p5⟩,⟨y0,y1,y2,y3,y4,y5⟩⟩:=ud.cells HI.out.cur
          have d1:decide ((q9.length:Int) + 1 > 0) = true:=decide_eq_true (by omega)
          have d2:decide (0 < (q9.length:Int) + 1) = true:=decide_eq_true (by omega)
          have d3:decide (0 < q9.length + 1) = true:=decide_eq_true (by omega)
          have HE:Aside0 (r = (ud.zero,5)):=⟨by have h9:=HF1.out;unfold ud.out at h9;rw [if_neg (by intro h8;cases h8),if_pos (by intro h8;cases h8)] at h9;exact (Option.some.inj h9).symm⟩
          go_wp2
          refine bodyPost_ret (v:=.tuple #[.agg #[.int .i64 0,.slice none 0 0,.slice none 0 0,.int .i64 0,.int .i64 0,.int .i64 0],.int .i64 5]) (by simp [results,Tryz.results6,go_sem,e0,e1,e2,e3,e4,e5,z0,z1,z2,z3,z4,z5]) rfl ?_
          exact ud.Ret.none HE.out (ud.below6 HI.out.below _ _ _ _ _ _)
        | nil =>
          obtain ⟨c,HC,h8⟩:∃ c,Aside0 (ud.canO k (⟨1,l,[],0,0,0⟩) = some c) ∧ (if c = true then some ((⟨1,l,[],0,0,0⟩:ud.Ou),(0:Int)) else some (ud.zero,5)) = some r:=by
           have h9:=HF1.out
           unfold ud.out at h9
           rw [if_neg (by intro h8;cases h8),if_neg (by intro h8;exact h8 rfl)] at h9
           obtain ⟨c,hc,h8⟩:=Option.bind_eq_some_iff.1 h9
           exact ⟨c,⟨hc⟩,h8⟩
          cases c with
          | true =>
            have HE:Aside0 ((⟨1,l,[],0,0,0⟩,0) = r):=⟨Option.some.inj (by rw [if_pos rfl] at h8;exact h8)⟩
            clear h8
            obtain ⟨M9,hS9,_⟩:=HI.out.src
            obtain ⟨A9,c9,⟨k0,k1⟩,⟨f0,f1⟩,hl9,hb9,hF9⟩:=hS9.look
            simp only at k0 k1
            clear hl9 hb9 hF9 hS9
            obtain ⟨⟨e0,e1,e2,e3,e4,e5⟩,⟨z0,z1,z2,z3,z4,z5⟩⟩:=ud.cells HI.out.res
            obtain ⟨⟨p0,p1,p2,p3,p4,p5⟩,⟨y0,y1,y2,y3,y4,y5⟩⟩:=ud.cells HI.out.cur
            go_wp2_with (first | (go_at_call 11;(with_reducible refine (ud.can_at k (⟨1,l,[],0,0,0⟩) _ _ true _ _ _ HI.out.rows HI.out.ms (HG0.out.below HI.out.below) HC.out).mono ?_);rintro e W9 ⟨rfl,hB9⟩;have hI9:=HI.out.more hB9;(try clear k0 k1 f0 f1 e0 e1 e2 e3 e4 e5 z0 z1 z2 z3 z4 z5 p0 p1 p2 p3 p4 p5 y0 y1 y2 y3 y4 y5);obtain ⟨⟨e0,e1,e2,e3,e4,e5⟩,⟨z0,z1,z2,z3,z4,z5⟩⟩:=ud.cells hI9.res;obtain ⟨⟨p0,p1,p2,p3,p4,p5⟩,_⟩:=ud.cells hI9.cur;have HI9:=Aside0.mk hI9;clear hI9 hB9))
            refine bodyPost_ret (v:=.tuple #[.agg #[.int .i64 1,.slice AR l.length cR,.slice none 0 0,.int .i64 0,.int .i64 0,.int .i64 0],.int .i64 0]) (by simp [results,Tryz.results6,go_sem,e0,e1,e2,e3,e4,e5,z0,z1,z2,z3,z4,z5]) rfl ?_
            rw [← HE.out]
            exact HI9.out.fin _ _ _ _ _ _
          | false =>
            have HE:Aside0 (r = (ud.zero,5)):=⟨(Option.some.inj (by rw [if_neg (by intro h7;cases h7)] at h8;exact h8)).symm⟩
            clear h8
            obtain ⟨M9,hS9,_⟩:=HI.out.src
            obtain ⟨A9,c9,⟨k0,k1⟩,⟨f0,f1⟩,hl9,hb9,hF9⟩:=hS9.look
            simp only at k0 k1
            clear hl9 hb9 hF9 hS9
            obtain ⟨⟨e0,e1,e2,e3,e4,e5⟩,⟨z0,z1,z2,z3,z4,z5⟩⟩:=ud.cells HI.out.res
            obtain ⟨⟨p0,p1,p2,p3,p4,p5⟩,⟨y0,y1,y2,y3,y4,y5⟩⟩:=ud.cells HI.out.cur
            go_wp2_with (first | (go_at_call 11;(with_reducible refine (ud.can_at k (⟨1,l,[],0,0,0⟩) _ _ false _ _ _ HI.out.rows HI.out.ms (HG0.out.below HI.out.below) HC.out).mono ?_);rintro e W9 ⟨rfl,hB9⟩;have hI9:=HI.out.more hB9;(try clear k0 k1 f0 f1 e0 e1 e2 e3 e4 e5 z0 z1 z2 z3 z4 z5 p0 p1 p2 p3 p4 p5 y0 y1 y2 y3 y4 y5);obtain ⟨⟨e0,e1,e2,e3,e4,e5⟩,⟨z0,z1,z2,z3,z4,z5⟩⟩:=ud.cells hI9.res;obtain ⟨⟨p0,p1,p2,p3,p4,p5⟩,_⟩:=ud.cells hI9.cur;have HI9:=Aside0.mk hI9;clear hI9 hB9))
            refine bodyPost_ret (v:=.tuple #[.agg #[.int .i64 0,.slice none 0 0,.slice none 0 0,.int .i64 0,.int .i64 0,.int .i64 0],.int .i64 5]) (by simp [results,Tryz.results6,go_sem,e0,e1,e2,e3,e4,e5,z0,z1,z2,z3,z4,z5]) rfl ?_
            exact ud.Ret.none HE.out (ud.below6 HI9.out.below _ _ _ _ _ _)
 · by_cases hk2:wrap64 x = 2
   · skip
     have t1:(wrap64 x == 1) = false:=beq_eq_false_iff_ne.2 (by omega)
     have t2:(wrap64 x == 2) = true:=beq_iff_eq.2 hk2
     have HK2:=Aside0.mk hk2
     obtain ⟨m1,q1,e9,hdc⟩:∃ m1 q1 e9,uy.dec b1 = (m1,q1,e9):=⟨_,_,_,rfl⟩
     have HDC:=Aside0.mk hdc
     obtain ⟨B,hBB⟩:∃ B,(bad1 || e9 != 0) = B:=⟨_,rfl⟩
     obtain ⟨x3,b3,bad3,hn3⟩:∃ x3 b3 bad3,ue.num 8 ⟨q1,B⟩ = (x3,⟨b3,bad3⟩):=⟨_,_,_,rfl⟩
     obtain ⟨x4,b4,bad4,hn4⟩:∃ x4 b4 bad4,ue.num 8 ⟨b3,bad3⟩ = (x4,⟨b4,bad4⟩):=⟨_,_,_,rfl⟩
     have HN3:=Aside0.mk hn3
     have HN4:=Aside0.mk hn4
     have HF1:Aside0 (ud.out k (⟨2,[],m1,wrap64 x3,wrap64 x4,0⟩,⟨b4,bad4⟩) = some r):=⟨by
      have h9:=HF.out
      unfold ud.mid at h9
      rw [if_neg hk1,if_pos hk2] at h9
      simp only [hdc,hBB,hn3,hn4] at h9
      exact h9⟩
     clear hn3 hn4 hk1 hk2 HF hdc
     cases bad1 with
     | true =>
       have hBt:B = true:=hBB.symm.trans rfl
       subst hBt
       clear hBB
       have hb3:=ud.num_bad' HN3.out
       subst hb3
       have hb4:=ud.num_bad' HN4.out
       subst hb4
       go_enter Tryz.func6,Tryz.ntmps6
       go_wp2_with (first | (go_at_call 22;rw [hW2.out];(with_reducible refine (ue.calls1 w W2 (w.heap.size + 1) (fun k => k < w.heap.size) ⟨l0,false⟩ HS.out).mono ?_);rintro e W1 ⟨rfl,hS1,hK1⟩;rw [HN1.out] at hS1 ⊢;obtain ⟨W3,hW3⟩:∃ W3,Aside0 (W1.alloc (.cells #[.int .i64 (wrap64 x),.slice none 0 0,.slice none 0 0,.int .i64 0,.int .i64 0,.int .i64 0] 26) = W3):=⟨_,⟨rfl⟩⟩;have hI3:=ud.Inv.init (wrap64 x) hS1 (hK1.blk HX.out (by omega) (by simp));rw [hW3.out] at hI3;obtain ⟨M3,hS3,hM3⟩:=hI3.src;have HS3:=Aside0.mk hS3;have HM3:=Aside0.mk hM3;have HI3:=Aside0.mk hI3;have ng1:w.heap.size ≠ W1.heap.size:=(by have h9:=hI3.apart;omega);have ng2:=ng1.symm;have ng3:w.heap.size + 1 ≠ W1.heap.size:=(by have h9:=hI3.apart;omega);have ng4:=ng3.symm;clear hS1 hK1 hI3 hS3 hM3;obtain ⟨A1,c1,⟨k0,k1⟩,⟨f0,f1⟩,hl9,hb9,hF9⟩:=HS3.out.look;simp only at k0 k1 hl9 hF9;rw [← hW3.out] at k0 k1 f0 f1;have HF3:=Aside0.mk hF9;have HC3:=Aside0.mk hl9;clear hl9 hb9 hF9) | (go_at_call 24;rw [hW3.out];(with_reducible refine (uy.calls A1 c1 b1 W3 (Kd.F_now HF3.out) HC3.out HB1.out.2 HB1.out.1 (HG0.out.below HI3.out.below)).mono ?_);rintro e W4 ⟨v0,v1,rfl,hRm,hRq,hB4⟩;rw [HDC.out] at hRm hRq ⊢;obtain ⟨Aq,cq,eq⟩:=Kd.R_slice hRq;subst eq;obtain ⟨Am,cm,em⟩:=Kd.R_slice hRm;subst em;have hI4:=HI3.out.more hB4;have HS4:=Aside0.mk ((HS3.out.more hB4).mono (M':=fun k9 => M3 k9 ∨ W3.heap.size ≤ k9) (fun k9 _ h9 => Or.inl h9) (fun k9 hk9 => by rcases hk9 with h9 | h9;exact HS3.out.far k9 h9;have:=HS3.out.lt;omega));have HRM:Aside0 (Kd.R k79 79 W4 w.heap.size (fun k9 => k9 ≠ w.heap.size ∧ k9 ≠ w.heap.size + 1 ∧ k9 ≠ W1.heap.size) (.slice Am m1.length cm) m1):=⟨Kd.R_lower (Kd.R_mono (Kd.R_bound hRm) (fun k9 hk9 => by have h1:=hk9.2.1;have h2:=u2m HI3.out.cur;have h3:=HI3.out.apart;exact ⟨by omega,by omega,by omega⟩)) HI3.out.below.size⟩;have HRQ:=Aside0.mk hRq;have HI4:=Aside0.mk hI4;obtain ⟨M9,hS9,_⟩:=hI4.src;obtain ⟨A9,c9,⟨k0,k1⟩,⟨f0,f1⟩,hl9,hb9,hF9⟩:=hS9.look;simp only at k0 k1;clear hl9 hb9 hF9 hS9;obtain ⟨⟨e0,e1,e2,e3,e4,e5⟩,⟨z0,z1,z2,z3,z4,z5⟩⟩:=ud.cells hI4.res;obtain ⟨⟨p0,p1,p2,p3,p4,p5⟩,⟨y0,y1,y2,y3,y4,y5⟩⟩:=ud.cells hI4.cur;clear hRm hRq hB4 hI4))
       clear k0 k1 f0 f1 e0 e1 e2 e3 e4 e5 z0 z1 z2 z3 z4 z5 p0 p1 p2 p3 p4 p5 y0 y1 y2 y3 y4 y5
       rw [HK2.out] at HI4
       have hF4:Kd.F (Kd.int .u8) W4 (fun k9 => M3 k9 ∨ W3.heap.size ≤ k9) Aq q1.length q1:=Kd.F_mono (Kd.R_F (Kd.R_bound HRQ.out)) (fun k9 hk9 => Or.inr hk9.2.1)
       have hl4:q1.length ≤ cq:=(Kd.R_reads' HRQ.out).2.1
       have hS5:=(HS4.out.setBad true).setB Aq cq q1 hl4 (Kd.F_far (p:=⟨w.heap.size + 1,1,none⟩) hF4 HS4.out.far _)
       have hK5:u2s W4 ((W4.setCell ⟨w.heap.size + 1,1,none⟩ (.bool true)).setCell ⟨w.heap.size + 1,0,none⟩ (.slice Aq q1.length cq)) (w.heap.size + 1) none:=((u2s.refl _ _ _).set_ 1 _).set_ 0 _
       have HFA:Aside0 (∀ k9,M3 k9 ∨ W3.heap.size ≤ k9 → k9 ≠ w.heap.size ∧ k9 ≠ W1.heap.size ∧ some k9 ≠ (Value.slice none 0 0).ownBlock):=⟨fun k9 hk9 => by
        rcases hk9 with h9 | h9
        · exact HM3.out k9 h9
        · have h2:=u2m HI3.out.cur
          have h3:=HI3.out.apart
          exact ⟨by omega,by omega,by simp [Value.ownBlock]⟩⟩
       have hI5:=HI4.out.keep ⟨_,hS5,HFA.out⟩ hK5
       obtain ⟨W5,hW5⟩:∃ W5,Aside0 ((W4.setCell ⟨w.heap.size + 1,1,none⟩ (.bool true)).setCell ⟨w.heap.size + 1,0,none⟩ (.slice Aq q1.length cq) = W5):=⟨_,⟨rfl⟩⟩
       rw [hW5.out] at hS5 hK5 hI5
       rw [hW5.out]
       have HS5:=Aside0.mk (hS5.more (ur (Below.refl _ _)))
       have HI5:=Aside0.mk (hI5.more (ur (Below.refl _ _)))
       have HK5:Aside0 (u2s W4 W5.drew (w.heap.size + 1) none):=⟨hK5.trans (u2s.of_below (ur (Below.refl _ _)) _ none) (Or.inl rfl)⟩
       clear hF4 hl4 hS5 hK5 hI5
       refine startO_ (n:=17) (S:=fun _ => True) (ds:=[16]) [(0,72),(1,73),(2,74),(3,75),(6,78),(7,79),(8,80),(11,83),(4,0),(5,77),(9,0),(10,82),(12,0),(13,84),(14,0),(15,85),(16,0)] (by kernel_rfl) rfl trivial (fun hHeld => ?_)
       iterate 8 (refine hd_ (v:=?_) (a':=?_) rfl rfl (by kernel_rfl) (Or.inl ⟨by kernel_rfl,?_⟩) ?_ ?_;rotate_left;(intro w';go_simp;with_reducible rfl);rotate_left;(simp only [Act.put,List.setIfInBounds_toArray,List.set_cons_zero,List.set_cons_succ,i64_w,i32_w];rfl))
       refine oneO_ (N:=some 76) rfl rfl (by kernel_rfl) (by decide) (fun K hK => ?_)
       refine goes_ Tryz.func22 (by kernel_rfl) rfl #[.pointer (some ⟨w.heap.size + 1,0,none⟩),.int .i64 8] (by rfl) rfl rfl (by (try simp only [List.map_toArray,List.map_cons,List.map_nil]);first | done | rfl) ?_
       refine (ue.calls8 w _ (w.heap.size + 1) (fun k9 => M3 k9 ∨ W3.heap.size ≤ k9) _ HS5.out).mono ?_
       rintro e W6 ⟨rfl,hS6,hK6⟩
       rw [HN3.out] at hS6 ⊢
       refine ⟨_,rfl,?_⟩
       have HI6:=Aside0.mk (HI5.out.keep ⟨_,hS6,HFA.out⟩ hK6)
       have HS6:=Aside0.mk hS6
       have HK6:=Aside0.mk (HK5.out.trans hK6 (Or.inl rfl))
       clear hS6 hK6
       refine hK.out (Act.put _ (some 76) (.int .u64 x3)) _ trivial (fun hNext => ?_)
       simp only [Act.put,List.setIfInBounds_toArray,List.set_cons_zero,List.set_cons_succ,i64_w,i32_w]
       clear hK hHeld K
       have hHeld:=hNext
       clear hNext
       (refine hd_ (v:=?_) (a':=?_) rfl rfl (by kernel_rfl) (Or.inl ⟨by kernel_rfl,?_⟩) ?_ ?_;rotate_left;(intro w';go_simp;with_reducible rfl);rotate_left;(simp only [Act.put,List.setIfInBounds_toArray,List.set_cons_zero,List.set_cons_succ,i64_w,i32_w];rfl))
       refine oneO_ (N:=some 81) rfl rfl (by kernel_rfl) (by decide) (fun K hK => ?_)
       refine goes_ Tryz.func22 (by kernel_rfl) rfl #[.pointer (some ⟨w.heap.size + 1,0,none⟩),.int .i64 8] (by rfl) rfl rfl (by (try simp only [List.map_toArray,List.map_cons,List.map_nil]);first | done | rfl) ?_
       refine (ue.calls8 w _ (w.heap.size + 1) (fun k9 => M3 k9 ∨ W3.heap.size ≤ k9) _ HS6.out).mono ?_
       rintro e W7 ⟨rfl,hS7,hK7⟩
       rw [HN4.out] at hS7 ⊢
       refine ⟨_,rfl,?_⟩
       have HI7:=Aside0.mk (HI6.out.keep ⟨_,hS7,HFA.out⟩ hK7)
       have HS7:=Aside0.mk hS7
       have HK7:=Aside0.mk (HK6.out.trans hK7 (Or.inl rfl))
       clear hS7 hK7
       refine hK.out (Act.put _ (some 81) (.int .u64 x4)) _ trivial (fun hNext => ?_)
       simp only [Act.put,List.setIfInBounds_toArray,List.set_cons_zero,List.set_cons_succ,i64_w,i32_w]
       clear hK hHeld K
       have hHeld:=hNext
       clear hNext
       (refine hd_ (v:=?_) (a':=?_) rfl rfl (by kernel_rfl) (Or.inl ⟨by kernel_rfl,?_⟩) ?_ ?_;rotate_left;(intro w';go_simp;with_reducible rfl);rotate_left;(simp only [Act.put,List.setIfInBounds_toArray,List.set_cons_zero,List.set_cons_succ,i64_w,i32_w];rfl))
       obtain ⟨⟨p0,p1,p2,p3,p4,p5⟩,⟨y0,y1,y2,y3,y4,y5⟩⟩:=ud.cells HI7.out.cur
       refine oneO_ (N:=none) rfl rfl (by kernel_rfl) (by decide) (fun K hK => ?_)
       refine skip_ (w1:=W7.setCell ⟨W1.heap.size,2,none⟩ (.slice Am m1.length cm)) (by rfl) rfl ?_ ?_
       · go_simp
         (try rfl)
       refine hK.out _ _ trivial (fun hNext => ?_)
       clear hK hHeld K
       have hHeld:=hNext
       clear hNext
       (refine hd_ (v:=?_) (a':=?_) rfl rfl (by kernel_rfl) (Or.inl ⟨by kernel_rfl,?_⟩) ?_ ?_;rotate_left;(intro w';go_simp;with_reducible rfl);rotate_left;(simp only [Act.put,List.setIfInBounds_toArray,List.set_cons_zero,List.set_cons_succ,i64_w,i32_w];rfl))
       refine oneO_ (N:=none) rfl rfl (by kernel_rfl) (by decide) (fun K hK => ?_)
       refine skip_ (w1:=((W7.setCell ⟨W1.heap.size,2,none⟩ (.slice Am m1.length cm)).setCell ⟨W1.heap.size,3,none⟩ (.int .i64 (wrap64 x3)))) (by rfl) rfl ?_ ?_
       · go_simp
         (try rfl)
       refine hK.out _ _ trivial (fun hNext => ?_)
       clear hK hHeld K
       have hHeld:=hNext
       clear hNext
       (refine hd_ (v:=?_) (a':=?_) rfl rfl (by kernel_rfl) (Or.inl ⟨by kernel_rfl,?_⟩) ?_ ?_;rotate_left;(intro w';go_simp;with_reducible rfl);rotate_left;(simp only [Act.put,List.setIfInBounds_toArray,List.set_cons_zero,List.set_cons_succ,i64_w,i32_w];rfl))
       refine lastO_ (N:=none) rfl rfl (by kernel_rfl) (by decide) (fun K hK => ?_)
       refine skip_ (w1:=(((W7.setCell ⟨W1.heap.size,2,none⟩ (.slice Am m1.length cm)).setCell ⟨W1.heap.size,3,none⟩ (.int .i64 (wrap64 x3))).setCell ⟨W1.heap.size,4,none⟩ (.int .i64 (wrap64 x4)))) (by rfl) rfl ?_ ?_
       · go_simp
         (try rfl)
       refine hK.out _ _ ?_
       clear hK K
       refine doneO_ (by kernel_rfl) ?_
       clear p0 p1 p2 p3 p4 p5 y0 y1 y2 y3 y4 y5
       have h8a:=HI7.out.store (o':=⟨2,[],m1,0,0,0⟩) 2 (.slice Am m1.length cm) rfl (Or.inl rfl) (Kd.S_nil _ _ _ _ _) (Kd.R_keep HRM.out HK7.out (fun _ hk9 => hk9.2.1))
       have h8b:=h8a.store (o':=⟨2,[],m1,wrap64 x3,0,0⟩) 3 (.int .i64 (wrap64 x3)) rfl (Or.inl rfl) (Kd.S_nil _ _ _ _ _) h8a.ms
       have h8c:=h8b.store (o':=⟨2,[],m1,wrap64 x3,wrap64 x4,0⟩) 4 (.int .i64 (wrap64 x4)) rfl (Or.inl rfl) (Kd.S_nil _ _ _ _ _) h8b.ms
       obtain ⟨W8,hW8⟩:∃ W8,Aside0 (((W7.setCell ⟨W1.heap.size,2,none⟩ (.slice Am m1.length cm)).setCell ⟨W1.heap.size,3,none⟩ (.int .i64 (wrap64 x3))).setCell ⟨W1.heap.size,4,none⟩ (.int .i64 (wrap64 x4)) = W8):=⟨_,⟨rfl⟩⟩
       rw [hW8.out] at h8c
       rw [hW8.out]
       have HI8:=Aside0.mk h8c
       clear h8a h8b h8c
       obtain ⟨M9,hS9,_⟩:=HI8.out.src
       obtain ⟨A9,c9,⟨k0,k1⟩,⟨f0,f1⟩,hl9,hb9,hF9⟩:=hS9.look
       simp only at k0 k1
       clear hl9 hb9 hF9 hS9
       obtain ⟨⟨e0,e1,e2,e3,e4,e5⟩,⟨z0,z1,z2,z3,z4,z5⟩⟩:=ud.cells HI8.out.res
       obtain ⟨⟨p0,p1,p2,p3,p4,p5⟩,⟨y0,y1,y2,y3,y4,y5⟩⟩:=ud.cells HI8.out.cur
       have HE:Aside0 (r = (ud.zero,5)):=⟨by have h9:=HF1.out;unfold ud.out at h9;rw [if_pos rfl] at h9;exact (Option.some.inj h9).symm⟩
       go_wp2
       refine bodyPost_ret (v:=.tuple #[.agg #[.int .i64 0,.slice none 0 0,.slice none 0 0,.int .i64 0,.int .i64 0,.int .i64 0],.int .i64 5]) (by simp [results,Tryz.results6,go_sem,e0,e1,e2,e3,e4,e5,z0,z1,z2,z3,z4,z5]) rfl ?_
       exact ud.Ret.none HE.out (ud.below6 HI8.out.below _ _ _ _ _ _)
     | false =>
       by_cases he9:e9 = 0
       rotate_left
       · have he1:(e9 == 0) = false:=beq_eq_false_iff_ne.2 he9
         have he2:(e9 != 0) = true:=by simp [he9]
         have hBt:B = true:=hBB.symm.trans he2
         subst hBt
         clear he9
         clear hBB
         have hb3:=ud.num_bad' HN3.out
         subst hb3
         have hb4:=ud.num_bad' HN4.out
         subst hb4
         go_enter Tryz.func6,Tryz.ntmps6
         go_wp2_with (first | (go_at_call 22;rw [hW2.out];(with_reducible refine (ue.calls1 w W2 (w.heap.size + 1) (fun k => k < w.heap.size) ⟨l0,false⟩ HS.out).mono ?_);rintro e W1 ⟨rfl,hS1,hK1⟩;rw [HN1.out] at hS1 ⊢;obtain ⟨W3,hW3⟩:∃ W3,Aside0 (W1.alloc (.cells #[.int .i64 (wrap64 x),.slice none 0 0,.slice none 0 0,.int .i64 0,.int .i64 0,.int .i64 0] 26) = W3):=⟨_,⟨rfl⟩⟩;have hI3:=ud.Inv.init (wrap64 x) hS1 (hK1.blk HX.out (by omega) (by simp));rw [hW3.out] at hI3;obtain ⟨M3,hS3,hM3⟩:=hI3.src;have HS3:=Aside0.mk hS3;have HM3:=Aside0.mk hM3;have HI3:=Aside0.mk hI3;have ng1:w.heap.size ≠ W1.heap.size:=(by have h9:=hI3.apart;omega);have ng2:=ng1.symm;have ng3:w.heap.size + 1 ≠ W1.heap.size:=(by have h9:=hI3.apart;omega);have ng4:=ng3.symm;clear hS1 hK1 hI3 hS3 hM3;obtain ⟨A1,c1,⟨k0,k1⟩,⟨f0,f1⟩,hl9,hb9,hF9⟩:=HS3.out.look;simp only at k0 k1 hl9 hF9;rw [← hW3.out] at k0 k1 f0 f1;have HF3:=Aside0.mk hF9;have HC3:=Aside0.mk hl9;clear hl9 hb9 hF9) | (go_at_call 24;rw [hW3.out];(with_reducible refine (uy.calls A1 c1 b1 W3 (Kd.F_now HF3.out) HC3.out HB1.out.2 HB1.out.1 (HG0.out.below HI3.out.below)).mono ?_);rintro e W4 ⟨v0,v1,rfl,hRm,hRq,hB4⟩;rw [HDC.out] at hRm hRq ⊢;obtain ⟨Aq,cq,eq⟩:=Kd.R_slice hRq;subst eq;obtain ⟨Am,cm,em⟩:=Kd.R_slice hRm;subst em;have hI4:=HI3.out.more hB4;have HS4:=Aside0.mk ((HS3.out.more hB4).mono (M':=fun k9 => M3 k9 ∨ W3.heap.size ≤ k9) (fun k9 _ h9 => Or.inl h9) (fun k9 hk9 => by rcases hk9 with h9 | h9;exact HS3.out.far k9 h9;have:=HS3.out.lt;omega));have HRM:Aside0 (Kd.R k79 79 W4 w.heap.size (fun k9 => k9 ≠ w.heap.size ∧ k9 ≠ w.heap.size + 1 ∧ k9 ≠ W1.heap.size) (.slice Am m1.length cm) m1):=⟨Kd.R_lower (Kd.R_mono (Kd.R_bound hRm) (fun k9 hk9 => by have h1:=hk9.2.1;have h2:=u2m HI3.out.cur;have h3:=HI3.out.apart;exact ⟨by omega,by omega,by omega⟩)) HI3.out.below.size⟩;have HRQ:=Aside0.mk hRq;have HI4:=Aside0.mk hI4;obtain ⟨M9,hS9,_⟩:=hI4.src;obtain ⟨A9,c9,⟨k0,k1⟩,⟨f0,f1⟩,hl9,hb9,hF9⟩:=hS9.look;simp only at k0 k1;clear hl9 hb9 hF9 hS9;obtain ⟨⟨e0,e1,e2,e3,e4,e5⟩,⟨z0,z1,z2,z3,z4,z5⟩⟩:=ud.cells hI4.res;obtain ⟨⟨p0,p1,p2,p3,p4,p5⟩,⟨y0,y1,y2,y3,y4,y5⟩⟩:=ud.cells hI4.cur;clear hRm hRq hB4 hI4))
         clear k0 k1 f0 f1 e0 e1 e2 e3 e4 e5 z0 z1 z2 z3 z4 z5 p0 p1 p2 p3 p4 p5 y0 y1 y2 y3 y4 y5
         rw [HK2.out] at HI4
         have hF4:Kd.F (Kd.int .u8) W4 (fun k9 => M3 k9 ∨ W3.heap.size ≤ k9) Aq q1.length q1:=Kd.F_mono (Kd.R_F (Kd.R_bound HRQ.out)) (fun k9 hk9 => Or.inr hk9.2.1)
         have hl4:q1.length ≤ cq:=(Kd.R_reads' HRQ.out).2.1
         have hS5:=(HS4.out.setBad true).setB Aq cq q1 hl4 (Kd.F_far (p:=⟨w.heap.size + 1,1,none⟩) hF4 HS4.out.far _)
         have hK5:u2s W4 ((W4.setCell ⟨w.heap.size + 1,1,none⟩ (.bool true)).setCell ⟨w.heap.size + 1,0,none⟩ (.slice Aq q1.length cq)) (w.heap.size + 1) none:=((u2s.refl _ _ _).set_ 1 _).set_ 0 _
         have HFA:Aside0 (∀ k9,M3 k9 ∨ W3.heap.size ≤ k9 → k9 ≠ w.heap.size ∧ k9 ≠ W1.heap.size ∧ some k9 ≠ (Value.slice none 0 0).ownBlock):=⟨fun k9 hk9 => by
          rcases hk9 with h9 | h9
          · exact HM3.out k9 h9
          · have h2:=u2m HI3.out.cur
            have h3:=HI3.out.apart
            exact ⟨by omega,by omega,by simp [Value.ownBlock]⟩⟩
         have hI5:=HI4.out.keep ⟨_,hS5,HFA.out⟩ hK5
         obtain ⟨W5,hW5⟩:∃ W5,Aside0 ((W4.setCell ⟨w.heap.size + 1,1,none⟩ (.bool true)).setCell ⟨w.heap.size + 1,0,none⟩ (.slice Aq q1.length cq) = W5):=⟨_,⟨rfl⟩⟩
         rw [hW5.out] at hS5 hK5 hI5
         rw [hW5.out]
         have HS5:=Aside0.mk (hS5.more (ur (Below.refl _ _)))
         have HI5:=Aside0.mk (hI5.more (ur (Below.refl _ _)))
         have HK5:Aside0 (u2s W4 W5.drew (w.heap.size + 1) none):=⟨hK5.trans (u2s.of_below (ur (Below.refl _ _)) _ none) (Or.inl rfl)⟩
         clear hF4 hl4 hS5 hK5 hI5
         refine startO_ (n:=17) (S:=fun _ => True) (ds:=[16]) [(0,72),(1,73),(2,74),(3,75),(6,78),(7,79),(8,80),(11,83),(4,0),(5,77),(9,0),(10,82),(12,0),(13,84),(14,0),(15,85),(16,0)] (by kernel_rfl) rfl trivial (fun hHeld => ?_)
         iterate 8 (refine hd_ (v:=?_) (a':=?_) rfl rfl (by kernel_rfl) (Or.inl ⟨by kernel_rfl,?_⟩) ?_ ?_;rotate_left;(intro w';go_simp;with_reducible rfl);rotate_left;(simp only [Act.put,List.setIfInBounds_toArray,List.set_cons_zero,List.set_cons_succ,i64_w,i32_w];rfl))
         refine oneO_ (N:=some 76) rfl rfl (by kernel_rfl) (by decide) (fun K hK => ?_)
         refine goes_ Tryz.func22 (by kernel_rfl) rfl #[.pointer (some ⟨w.heap.size + 1,0,none⟩),.int .i64 8] (by rfl) rfl rfl (by (try simp only [List.map_toArray,List.map_cons,List.map_nil]);first | done | rfl) ?_
         refine (ue.calls8 w _ (w.heap.size + 1) (fun k9 => M3 k9 ∨ W3.heap.size ≤ k9) _ HS5.out).mono ?_
         rintro e W6 ⟨rfl,hS6,hK6⟩
         rw [HN3.out] at hS6 ⊢
         refine ⟨_,rfl,?_⟩
         have HI6:=Aside0.mk (HI5.out.keep ⟨_,hS6,HFA.out⟩ hK6)
         have HS6:=Aside0.mk hS6
         have HK6:=Aside0.mk (HK5.out.trans hK6 (Or.inl rfl))
         clear hS6 hK6
         refine hK.out (Act.put _ (some 76) (.int .u64 x3)) _ trivial (fun hNext => ?_)
         simp only [Act.put,List.setIfInBounds_toArray,List.set_cons_zero,List.set_cons_succ,i64_w,i32_w]
         clear hK hHeld K
         have hHeld:=hNext
         clear hNext
         (refine hd_ (v:=?_) (a':=?_) rfl rfl (by kernel_rfl) (Or.inl ⟨by kernel_rfl,?_⟩) ?_ ?_;rotate_left;(intro w';go_simp;with_reducible rfl);rotate_left;(simp only [Act.put,List.setIfInBounds_toArray,List.set_cons_zero,List.set_cons_succ,i64_w,i32_w];rfl))
         refine oneO_ (N:=some 81) rfl rfl (by kernel_rfl) (by decide) (fun K hK => ?_)
         refine goes_ Tryz.func22 (by kernel_rfl) rfl #[.pointer (some ⟨w.heap.size + 1,0,none⟩),.int .i64 8] (by rfl) rfl rfl (by (try simp only [List.map_toArray,List.map_cons,List.map_nil]);first | done | rfl) ?_
         refine (ue.calls8 w _ (w.heap.size + 1) (fun k9 => M3 k9 ∨ W3.heap.size ≤ k9) _ HS6.out).mono ?_
         rintro e W7 ⟨rfl,hS7,hK7⟩
         rw [HN4.out] at hS7 ⊢
         refine ⟨_,rfl,?_⟩
         have HI7:=Aside0.mk (HI6.out.keep ⟨_,hS7,HFA.out⟩ hK7)
         have HS7:=Aside0.mk hS7
         have HK7:=Aside0.mk (HK6.out.trans hK7 (Or.inl rfl))
         clear hS7 hK7
         refine hK.out (Act.put _ (some 81) (.int .u64 x4)) _ trivial (fun hNext => ?_)
         simp only [Act.put,List.setIfInBounds_toArray,List.set_cons_zero,List.set_cons_succ,i64_w,i32_w]
         clear hK hHeld K
         have hHeld:=hNext
         clear hNext
         (refine hd_ (v:=?_) (a':=?_) rfl rfl (by kernel_rfl) (Or.inl ⟨by kernel_rfl,?_⟩) ?_ ?_;rotate_left;(intro w';go_simp;with_reducible rfl);rotate_left;(simp only [Act.put,List.setIfInBounds_toArray,List.set_cons_zero,List.set_cons_succ,i64_w,i32_w];rfl))
         obtain ⟨⟨p0,p1,p2,p3,p4,p5⟩,⟨y0,y1,y2,y3,y4,y5⟩⟩:=ud.cells HI7.out.cur
         refine oneO_ (N:=none) rfl rfl (by kernel_rfl) (by decide) (fun K hK => ?_)
         refine skip_ (w1:=W7.setCell ⟨W1.heap.size,2,none⟩ (.slice Am m1.length cm)) (by rfl) rfl ?_ ?_
         · go_simp
           (try rfl)
         refine hK.out _ _ trivial (fun hNext => ?_)
         clear hK hHeld K
         have hHeld:=hNext
         clear hNext
         (refine hd_ (v:=?_) (a':=?_) rfl rfl (by kernel_rfl) (Or.inl ⟨by kernel_rfl,?_⟩) ?_ ?_;rotate_left;(intro w';go_simp;with_reducible rfl);rotate_left;(simp only [Act.put,List.setIfInBounds_toArray,List.set_cons_zero,List.set_cons_succ,i64_w,i32_w];rfl))
         refine oneO_ (N:=none) rfl rfl (by kernel_rfl) (by decide) (fun K hK => ?_)
         refine skip_ (w1:=((W7.setCell ⟨W1.heap.size,2,none⟩ (.slice Am m1.length cm)).setCell ⟨W1.heap.size,3,none⟩ (.int .i64 (wrap64 x3)))) (by rfl) rfl ?_ ?_
         · go_simp
           (try rfl)
         refine hK.out _ _ trivial (fun hNext => ?_)
         clear hK hHeld K
         have hHeld:=hNext
         clear hNext
         (refine hd_ (v:=?_) (a':=?_) rfl rfl (by kernel_rfl) (Or.inl ⟨by kernel_rfl,?_⟩) ?_ ?_;rotate_left;(intro w';go_simp;with_reducible rfl);rotate_left;(simp only [Act.put,List.setIfInBounds_toArray,List.set_cons_zero,List.set_cons_succ,i64_w,i32_w];rfl))
         refine lastO_ (N:=none) rfl rfl (by kernel_rfl) (by decide) (fun K hK => ?_)
         refine skip_ (w1:=(((W7.setCell ⟨W1.heap.size,2,none⟩ (.slice Am m1.length cm)).setCell ⟨W1.heap.size,3,none⟩ (.int .i64 (wrap64 x3))).setCell ⟨W1.heap.size,4,none⟩ (.int .i64 (wrap64 x4)))) (by rfl) rfl ?_ ?_
         · go_simp
           (try rfl)
         refine hK.out _ _ ?_
         clear hK K
         refine doneO_ (by kernel_rfl) ?_
         clear p0 p1 p2 p3 p4 p5 y0 y1 y2 y3 y4 y5
         have h8a:=HI7.out.store (o':=⟨2,[],m1,0,0,0⟩) 2 (.slice Am m1.length cm) rfl (Or.inl rfl) (Kd.S_nil _ _ _ _ _) (Kd.R_keep HRM.out HK7.out (fun _ hk9 => hk9.2.1))
         have h8b:=h8a.store (o':=⟨2,[],m1,wrap64 x3,0,0⟩) 3 (.int .i64 (wrap64 x3)) rfl (Or.inl rfl) (Kd.S_nil _ _ _ _ _) h8a.ms
         have h8c:=h8b.store (o':=⟨2,[],m1,wrap64 x3,wrap64 x4,0⟩) 4 (.int .i64 (wrap64 x4)) rfl (Or.inl rfl) (Kd.S_nil _ _ _ _ _) h8b.ms
         obtain ⟨W8,hW8⟩:∃ W8,Aside0 (((W7.setCell ⟨W1.heap.size,2,none⟩ (.slice Am m1.length cm)).setCell ⟨W1.heap.size,3,none⟩ (.int .i64 (wrap64 x3))).setCell ⟨W1.heap.size,4,none⟩ (.int .i64 (wrap64 x4)) = W8):=⟨_,⟨rfl⟩⟩
         rw [hW8.out] at h8c
         rw [hW8.out]
         have HI8:=Aside0.mk h8c
         clear h8a h8b h8c
         obtain ⟨M9,hS9,_⟩:=HI8.out.src
         obtain ⟨A9,c9,⟨k0,k1⟩,⟨f0,f1⟩,hl9,hb9,hF9⟩:=hS9.look
         simp only at k0 k1
         clear hl9 hb9 hF9 hS9
         obtain ⟨⟨e0,e1,e2,e3,e4,e5⟩,⟨z0,z1,z2,z3,z4,z5⟩⟩:=ud.cells HI8.out.res
         obtain ⟨⟨p0,p1,p2,p3,p4,p5⟩,⟨y0,y1,y2,y3,y4,y5⟩⟩:=ud.cells HI8.out.cur
         have HE:Aside0 (r = (ud.zero,5)):=⟨by have h9:=HF1.out;unfold ud.out at h9;rw [if_pos rfl] at h9;exact (Option.some.inj h9).symm⟩
         go_wp2
         refine bodyPost_ret (v:=.tuple #[.agg #[.int .i64 0,.slice none 0 0,.slice none 0 0,.int .i64 0,.int .i64 0,.int .i64 0],.int .i64 5]) (by simp [results,Tryz.results6,go_sem,e0,e1,e2,e3,e4,e5,z0,z1,z2,z3,z4,z5]) rfl ?_
         exact ud.Ret.none HE.out (ud.below6 HI8.out.below _ _ _ _ _ _)
       · subst he9
         have hBt:B = false:=hBB.symm.trans rfl
         subst hBt
         clear hBB
         go_enter Tryz.func6,Tryz.ntmps6
         go_wp2_with (first | (go_at_call 22;rw [hW2.out];(with_reducible refine (ue.calls1 w W2 (w.heap.size + 1) (fun k => k < w.heap.size) ⟨l0,false⟩ HS.out).mono ?_);rintro e W1 ⟨rfl,hS1,hK1⟩;rw [HN1.out] at hS1 ⊢;obtain ⟨W3,hW3⟩:∃ W3,Aside0 (W1.alloc (.cells #[.int .i64 (wrap64 x),.slice none 0 0,.slice none 0 0,.int .i64 0,.int .i64 0,.int .i64 0] 26) = W3):=⟨_,⟨rfl⟩⟩;have hI3:=ud.Inv.init (wrap64 x) hS1 (hK1.blk HX.out (by omega) (by simp));rw [hW3.out] at hI3;obtain ⟨M3,hS3,hM3⟩:=hI3.src;have HS3:=Aside0.mk hS3;have HM3:=Aside0.mk hM3;have HI3:=Aside0.mk hI3;have ng1:w.heap.size ≠ W1.heap.size:=(by have h9:=hI3.apart;omega);have ng2:=ng1.symm;have ng3:w.heap.size + 1 ≠ W1.heap.size:=(by have h9:=hI3.apart;omega);have ng4:=ng3.symm;clear hS1 hK1 hI3 hS3 hM3;obtain ⟨A1,c1,⟨k0,k1⟩,⟨f0,f1⟩,hl9,hb9,hF9⟩:=HS3.out.look;simp only at k0 k1 hl9 hF9;rw [← hW3.out] at k0 k1 f0 f1;have HF3:=Aside0.mk hF9;have HC3:=Aside0.mk hl9;clear hl9 hb9 hF9) | (go_at_call 24;rw [hW3.out];(with_reducible refine (uy.calls A1 c1 b1 W3 (Kd.F_now HF3.out) HC3.out HB1.out.2 HB1.out.1 (HG0.out.below HI3.out.below)).mono ?_);rintro e W4 ⟨v0,v1,rfl,hRm,hRq,hB4⟩;rw [HDC.out] at hRm hRq ⊢;obtain ⟨Aq,cq,eq⟩:=Kd.R_slice hRq;subst eq;obtain ⟨Am,cm,em⟩:=Kd.R_slice hRm;subst em;have hI4:=HI3.out.more hB4;have HS4:=Aside0.mk ((HS3.out.more hB4).mono (M':=fun k9 => M3 k9 ∨ W3.heap.size ≤ k9) (fun k9 _ h9 => Or.inl h9) (fun k9 hk9 => by rcases hk9 with h9 | h9;exact HS3.out.far k9 h9;have:=HS3.out.lt;omega));have HRM:Aside0 (Kd.R k79 79 W4 w.heap.size (fun k9 => k9 ≠ w.heap.size ∧ k9 ≠ w.heap.size + 1 ∧ k9 ≠ W1.heap.size) (.slice Am m1.length cm) m1):=⟨Kd.R_lower (Kd.R_mono (Kd.R_bound hRm) (fun k9 hk9 => by have h1:=hk9.2.1;have h2:=u2m HI3.out.cur;have h3:=HI3.out.apart;exact ⟨by omega,by omega,by omega⟩)) HI3.out.below.size⟩;have HRQ:=Aside0.mk hRq;have HI4:=Aside0.mk hI4;obtain ⟨M9,hS9,_⟩:=hI4.src;obtain ⟨A9,c9,⟨k0,k1⟩,⟨f0,f1⟩,hl9,hb9,hF9⟩:=hS9.look;simp only at k0 k1;clear hl9 hb9 hF9 hS9;obtain ⟨⟨e0,e1,e2,e3,e4,e5⟩,⟨z0,z1,z2,z3,z4,z5⟩⟩:=ud.cells hI4.res;obtain ⟨⟨p0,p1,p2,p3,p4,p5⟩,⟨y0,y1,y2,y3,y4,y5⟩⟩:=ud.cells hI4.cur;clear hRm hRq hB4 hI4))
         clear k0 k1 f0 f1 e0 e1 e2 e3 e4 e5 z0 z1 z2 z3 z4 z5 p0 p1 p2 p3 p4 p5 y0 y1 y2 y3 y4 y5
         rw [HK2.out] at HI4
         have hF4:Kd.F (Kd.int .u8) W4 (fun k9 => M3 k9 ∨ W3.heap.size ≤ k9) Aq q1.length q1:=Kd.F_mono (Kd.R_F (Kd.R_bound HRQ.out)) (fun k9 hk9 => Or.inr hk9.2.1)
         have hl4:q1.length ≤ cq:=(Kd.R_reads' HRQ.out).2.1
         have hS5:=(HS4.out.setBad false).setB Aq cq q1 hl4 (Kd.F_far (p:=⟨w.heap.size + 1,1,none⟩) hF4 HS4.out.far _)
         have hK5:u2s W4 ((W4.setCell ⟨w.heap.size + 1,1,none⟩ (.bool false)).setCell ⟨w.heap.size + 1,0,none⟩ (.slice Aq q1.length cq)) (w.heap.size + 1) none:=((u2s.refl _ _ _).set_ 1 _).set_ 0 _
         have HFA:Aside0 (∀ k9,M3 k9 ∨ W3.heap.size ≤ k9 → k9 ≠ w.heap.size ∧ k9 ≠ W1.heap.size ∧ some k9 ≠ (Value.slice none 0 0).ownBlock):=⟨fun k9 hk9 => by
          rcases hk9 with h9 | h9
          · exact HM3.out k9 h9
          · have h2:=u2m HI3.out.cur
            have h3:=HI3.out.apart
            exact ⟨by omega,by omega,by simp [Value.ownBlock]⟩⟩
         have hI5:=HI4.out.keep ⟨_,hS5,HFA.out⟩ hK5
         obtain ⟨W5,hW5⟩:∃ W5,Aside0 ((W4.setCell ⟨w.heap.size + 1,1,none⟩ (.bool false)).setCell ⟨w.heap.size + 1,0,none⟩ (.slice Aq q1.length cq) = W5):=⟨_,⟨rfl⟩⟩
         rw [hW5.out] at hS5 hK5 hI5
         rw [hW5.out]
         have HS5:=Aside0.mk (hS5.more (ur (Below.refl _ _)))
         have HI5:=Aside0.mk (hI5.more (ur (Below.refl _ _)))
         have HK5:Aside0 (u2s W4 W5.drew (w.heap.size + 1) none):=⟨hK5.trans (u2s.of_below (ur (Below.refl _ _)) _ none) (Or.inl rfl)⟩
         clear hF4 hl4 hS5 hK5 hI5
         refine startO_ (n:=17) (S:=fun _ => True) (ds:=[16]) [(0,72),(1,73),(2,74),(3,75),(6,78),(7,79),(8,80),(11,83),(4,0),(5,77),(9,0),(10,82),(12,0),(13,84),(14,0),(15,85),(16,0)] (by kernel_rfl) rfl trivial (fun hHeld => ?_)
         iterate 8 (refine hd_ (v:=?_) (a':=?_) rfl rfl (by kernel_rfl) (Or.inl ⟨by kernel_rfl,?_⟩) ?_ ?_;rotate_left;(intro w';go_simp;with_reducible rfl);rotate_left;(simp only [Act.put,List.setIfInBounds_toArray,List.set_cons_zero,List.set_cons_succ,i64_w,i32_w];rfl))
         refine oneO_ (N:=some 76) rfl rfl (by kernel_rfl) (by decide) (fun K hK => ?_)
         refine goes_ Tryz.func22 (by kernel_rfl) rfl #[.pointer (some ⟨w.heap.size + 1,0,none⟩),.int .i64 8] (by rfl) rfl rfl (by (try simp only [List.map_toArray,List.map_cons,List.map_nil]);first | done | rfl) ?_
         refine (ue.calls8 w _ (w.heap.size + 1) (fun k9 => M3 k9 ∨ W3.heap.size ≤ k9) _ HS5.out).mono ?_
         rintro e W6 ⟨rfl,hS6,hK6⟩
         rw [HN3.out] at hS6 ⊢
         refine ⟨_,rfl,?_⟩
         have HI6:=Aside0.mk (HI5.out.keep ⟨_,hS6,HFA.out⟩ hK6)
         have HS6:=Aside0.mk hS6
         have HK6:=Aside0.mk (HK5.out.trans hK6 (Or.inl rfl))
         clear hS6 hK6
         refine hK.out (Act.put _ (some 76) (.int .u64 x3)) _ trivial (fun hNext => ?_)
         simp only [Act.put,List.setIfInBounds_toArray,List.set_cons_zero,List.set_cons_succ,i64_w,i32_w]
         clear hK hHeld K
         have hHeld:=hNext
         clear hNext
         (refine hd_ (v:=?_) (a':=?_) rfl rfl (by kernel_rfl) (Or.inl ⟨by kernel_rfl,?_⟩) ?_ ?_;rotate_left;(intro w';go_simp;with_reducible rfl);rotate_left;(simp only [Act.put,List.setIfInBounds_toArray,List.set_cons_zero,List.set_cons_succ,i64_w,i32_w];rfl))
         refine oneO_ (N:=some 81) rfl rfl (by kernel_rfl) (by decide) (fun K hK => ?_)
         refine goes_ Tryz.func22 (by kernel_rfl) rfl #[.pointer (some ⟨w.heap.size + 1,0,none⟩),.int .i64 8] (by rfl) rfl rfl (by (try simp only [List.map_toArray,List.map_cons,List.map_nil]);first | done | rfl) ?_
         refine (ue.calls8 w _ (w.heap.size + 1) (fun k9 => M3 k9 ∨ W3.heap.size ≤ k9) _ HS6.out).mono ?_
         rintro e W7 ⟨rfl,hS7,hK7⟩
         rw [HN4.out] at hS7 ⊢
         refine ⟨_,rfl,?_⟩
         have HI7:=Aside0.mk (HI6.out.keep ⟨_,hS7,HFA.out⟩ hK7)
         have HS7:=Aside0.mk hS7
         have HK7:=Aside0.mk (HK6.out.trans hK7 (Or.inl rfl))
         clear hS7 hK7
         refine hK.out (Act.put _ (some 81) (.int .u64 x4)) _ trivial (fun hNext => ?_)
         simp only [Act.put,List.setIfInBounds_toArray,List.set_cons_zero,List.set_cons_succ,i64_w,i32_w]
         clear hK hHeld K
         have hHeld:=hNext
         clear hNext
         (refine hd_ (v:=?_) (a':=?_) rfl rfl (by kernel_rfl) (Or.inl ⟨by kernel_rfl,?_⟩) ?_ ?_;rotate_left;(intro w';go_simp;with_reducible rfl);rotate_left;(simp only [Act.put,List.setIfInBounds_toArray,List.set_cons_zero,List.set_cons_succ,i64_w,i32_w];rfl))
         obtain ⟨⟨p0,p1,p2,p3,p4,p5⟩,⟨y0,y1,y2,y3,y4,y5⟩⟩:=ud.cells HI7.out.cur
         refine oneO_ (N:=none) rfl rfl (by kernel_rfl) (by decide) (fun K hK => ?_)
         refine skip_ (w1:=W7.setCell ⟨W1.heap.size,2,none⟩ (.slice Am m1.length cm)) (by rfl) rfl ?_ ?_
         · go_simp
           (try rfl)
         refine hK.out _ _ trivial (fun hNext => ?_)
         clear hK hHeld K
         have hHeld:=hNext
         clear hNext
         (refine hd_ (v:=?_) (a':=?_) rfl rfl (by kernel_rfl) (Or.inl ⟨by kernel_rfl,?_⟩) ?_ ?_;rotate_left;(intro w';go_simp;with_reducible rfl);rotate_left;(simp only [Act.put,List.setIfInBounds_toArray,List.set_cons_zero,List.set_cons_succ,i64_w,i32_w];rfl))
         refine oneO_ (N:=none) rfl rfl (by kernel_rfl) (by decide) (fun K hK => ?_)
         refine skip_ (w1:=((W7.setCell ⟨W1.heap.size,2,none⟩ (.slice Am m1.length cm)).setCell ⟨W1.heap.size,3,none⟩ (.int .i64 (wrap64 x3)))) (by rfl) rfl ?_ ?_
         · go_simp
           (try rfl)
         refine hK.out _ _ trivial (fun hNext => ?_)
         clear hK hHeld K
         have hHeld:=hNext
         clear hNext
         (refine hd_ (v:=?_) (a':=?_) rfl rfl (by kernel_rfl) (Or.inl ⟨by kernel_rfl,?_⟩) ?_ ?_;rotate_left;(intro w';go_simp;with_reducible rfl);rotate_left;(simp only [Act.put,List.setIfInBounds_toArray,List.set_cons_zero,List.set_cons_succ,i64_w,i32_w];rfl))
         refine lastO_ (N:=none) rfl rfl (by kernel_rfl) (by decide) (fun K hK => ?_)
         refine skip_ (w1:=(((W7.setCell ⟨W1.heap.size,2,none⟩ (.slice Am m1.length cm)).setCell ⟨W1.heap.size,3,none⟩ (.int .i64 (wrap64 x3))).setCell ⟨W1.heap.size,4,none⟩ (.int .i64 (wrap64 x4)))) (by rfl) rfl ?_ ?_
         · go_simp
           (try rfl)
         refine hK.out _ _ ?_
         clear hK K
         refine doneO_ (by kernel_rfl) ?_
         clear p0 p1 p2 p3 p4 p5 y0 y1 y2 y3 y4 y5
         have h8a:=HI7.out.store (o':=⟨2,[],m1,0,0,0⟩) 2 (.slice Am m1.length cm) rfl (Or.inl rfl) (Kd.S_nil _ _ _ _ _) (Kd.R_keep HRM.out HK7.out (fun _ hk9 => hk9.2.1))
         have h8b:=h8a.store (o':=⟨2,[],m1,wrap64 x3,0,0⟩) 3 (.int .i64 (wrap64 x3)) rfl (Or.inl rfl) (Kd.S_nil _ _ _ _ _) h8a.ms
         have h8c:=h8b.store (o':=⟨2,[],m1,wrap64 x3,wrap64 x4,0⟩) 4 (.int .i64 (wrap64 x4)) rfl (Or.inl rfl) (Kd.S_nil _ _ _ _ _) h8b.ms
         obtain ⟨W8,hW8⟩:∃ W8,Aside0 (((W7.setCell ⟨W1.heap.size,2,none⟩ (.slice Am m1.length cm)).setCell ⟨W1.heap.size,3,none⟩ (.int .i64 (wrap64 x3))).setCell ⟨W1.heap.size,4,none⟩ (.int .i64 (wrap64 x4)) = W8):=⟨_,⟨rfl⟩⟩
         rw [hW8.out] at h8c
         rw [hW8.out]
         have HI8:=Aside0.mk h8c
         clear h8a h8b h8c
         cases bad4 with
         | true =>
           obtain ⟨M9,hS9,_⟩:=HI8.out.src
           obtain ⟨A9,c9,⟨k0,k1⟩,⟨f0,f1⟩,hl9,hb9,hF9⟩:=hS9.look
           simp only at k0 k1
           clear hl9 hb9 hF9 hS9
           obtain ⟨⟨e0,e1,e2,e3,e4,e5⟩,⟨z0,z1,z2,z3,z4,z5⟩⟩:=ud.cells HI8.out.res
           obtain ⟨⟨p0,p1,p2,p3,p4,p5⟩,⟨y0,y1,y2,y3,y4,y5⟩⟩:=ud.cells HI8.out.cur
           have HE:Aside0 (r = (ud.zero,5)):=⟨by have h9:=HF1.out;unfold ud.out at h9;rw [if_pos rfl] at h9;exact (Option.some.inj h9).symm⟩
           go_wp2
           refine bodyPost_ret (v:=.tuple #[.agg #[.int .i64 0,.slice none 0 0,.slice none 0 0,.int .i64 0,.int .i64 0,.int .i64 0],.int .i64 5]) (by simp [results,Tryz.results6,go_sem,e0,e1,e2,e3,e4,e5,z0,z1,z2,z3,z4,z5]) rfl ?_
           exact ud.Ret.none HE.out (ud.below6 HI8.out.below _ _ _ _ _ _)
         | false =>
           cases b4 with
           | cons z9 q9 =>
             obtain ⟨M9,hS9,_⟩:=HI8.out.src
             obtain ⟨A9,c9,⟨k0,k1⟩,⟨f0,f1⟩,hl9,hb9,hF9⟩:=hS9.look
             simp only at k0 k1
             clear hl9 hb9 hF9 hS9
             obtain ⟨⟨e0,e1,e2,e3,e4,e5⟩,⟨z0,z1,z2,z3,z4,z5⟩⟩:=ud.cells HI8.out.res
             obtain ⟨⟨p0,p1,p2,p3,p4,p5⟩,⟨y0,y1,y2,y3,y4,y5⟩⟩:=ud.cells HI8.out.cur
             have d1:decide ((q9.length:Int) + 1 > 0) = true:=decide_eq_true (by omega)
             have d2:decide (0 < (q9.length:Int) + 1) = true:=decide_eq_true (by omega)
             have d3:decide (0 < q9.length + 1) = true:=decide_eq_true (by omega)
             have HE:Aside0 (r = (ud.zero,5)):=⟨by have h9:=HF1.out;unfold ud.out at h9;rw [if_neg (by intro h8;cases h8),if_pos (by intro h8;cases h8)] at h9;exact (Option.some.inj h9).symm⟩
             go_wp2
             refine bodyPost_ret (v:=.tuple #[.agg #[.int .i64 0,.slice none 0 0,.slice none 0 0,.int .i64 0,.int .i64 0,.int .i64 0],.int .i64 5]) (by simp [results,Tryz.results6,go_sem,e0,e1,e2,e3,e4,e5,z0,z1,z2,z3,z4,z5]) rfl ?_
             exact ud.Ret.none HE.out (ud.below6 HI8.out.below _ _ _ _ _ _)
           | nil =>
             obtain ⟨c,HC,h8⟩:∃ c,Aside0 (ud.canO k (⟨2,[],m1,wrap64 x3,wrap64 x4,0⟩) = some c) ∧ (if c = true then some ((⟨2,[],m1,wrap64 x3,wrap64 x4,0⟩:ud.Ou),(0:Int)) else some (ud.zero,5)) = some r:=by
              have h9:=HF1.out
              unfold ud.out at h9
              rw [if_neg (by intro h8;cases h8),if_neg (by intro h8;exact h8 rfl)] at h9
              obtain ⟨c,hc,h8⟩:=Option.bind_eq_some_iff.1 h9
              exact ⟨c,⟨hc⟩,h8⟩
             cases c with
             | true =>
               have HE:Aside0 ((⟨2,[],m1,wrap64 x3,wrap64 x4,0⟩,0) = r):=⟨Option.some.inj (by rw [if_pos rfl] at h8;exact h8)⟩
               clear h8
               obtain ⟨M9,hS9,_⟩:=HI8.out.src
               obtain ⟨A9,c9,⟨k0,k1⟩,⟨f0,f1⟩,hl9,hb9,hF9⟩:=hS9.look
               simp only at k0 k1
               clear hl9 hb9 hF9 hS9
               obtain ⟨⟨e0,e1,e2,e3,e4,e5⟩,⟨z0,z1,z2,z3,z4,z5⟩⟩:=ud.cells HI8.out.res
               obtain ⟨⟨p0,p1,p2,p3,p4,p5⟩,⟨y0,y1,y2,y3,y4,y5⟩⟩:=ud.cells HI8.out.cur
               go_wp2_with (first | (go_at_call 11;(with_reducible refine (ud.can_at k (⟨2,[],m1,wrap64 x3,wrap64 x4,0⟩) _ _ true _ _ _ HI8.out.rows HI8.out.ms (HG0.out.below HI8.out.below) HC.out).mono ?_);rintro e W9 ⟨rfl,hB9⟩;have hI9:=HI8.out.more hB9;(try clear k0 k1 f0 f1 e0 e1 e2 e3 e4 e5 z0 z1 z2 z3 z4 z5 p0 p1 p2 p3 p4 p5 y0 y1 y2 y3 y4 y5);obtain ⟨⟨e0,e1,e2,e3,e4,e5⟩,⟨z0,z1,z2,z3,z4,z5⟩⟩:=ud.cells hI9.res;obtain ⟨⟨p0,p1,p2,p3,p4,p5⟩,_⟩:=ud.cells hI9.cur;have HI9:=Aside0.mk hI9;clear hI9 hB9))
               refine bodyPost_ret (v:=.tuple #[.agg #[.int .i64 2,.slice none 0 0,.slice Am m1.length cm,.int .i64 (wrap64 x3),.int .i64 (wrap64 x4),.int .i64 0],.int .i64 0]) (by simp [results,Tryz.results6,go_sem,e0,e1,e2,e3,e4,e5,z0,z1,z2,z3,z4,z5]) rfl ?_
               rw [← HE.out]
               exact HI9.out.fin _ _ _ _ _ _
             | false =>
               have HE:Aside0 (r = (ud.zero,5)):=⟨(Option.some.inj (by rw [if_neg (by intro h7;cases h7)] at h8;exact h8)).symm⟩
               clear h8
               obtain ⟨M9,hS9,_⟩:=HI8.out.src
               obtain ⟨A9,c9,⟨k0,k1⟩,⟨f0,f1⟩,hl9,hb9,hF9⟩:=hS9.look
               simp only at k0 k1
               clear hl9 hb9 hF9 hS9
               obtain ⟨⟨e0,e1,e2,e3,e4,e5⟩,⟨z0,z1,z2,z3,z4,z5⟩⟩:=ud.cells HI8.out.res
               obtain ⟨⟨p0,p1,p2,p3,p4,p5⟩,⟨y0,y1,y2,y3,y4,y5⟩⟩:=ud.cells HI8.out.cur
               go_wp2_with (first | (go_at_call 11;(with_reducible refine (ud.can_at k (⟨2,[],m1,wrap64 x3,wrap64 x4,0⟩) _ _ false _ _ _ HI8.out.rows HI8.out.ms (HG0.out.below HI8.out.below) HC.out).mono ?_);rintro e W9 ⟨rfl,hB9⟩;have hI9:=HI8.out.more hB9;(try clear k0 k1 f0 f1 e0 e1 e2 e3 e4 e5 z0 z1 z2 z3 z4 z5 p0 p1 p2 p3 p4 p5 y0 y1 y2 y3 y4 y5);obtain ⟨⟨e0,e1,e2,e3,e4,e5⟩,⟨z0,z1,z2,z3,z4,z5⟩⟩:=ud.cells hI9.res;obtain ⟨⟨p0,p1,p2,p3,p4,p5⟩,_⟩:=ud.cells hI9.cur;have HI9:=Aside0.mk hI9;clear hI9 hB9))
               refine bodyPost_ret (v:=.tuple #[.agg #[.int .i64 0,.slice none 0 0,.slice none 0 0,.int .i64 0,.int .i64 0,.int .i64 0],.int .i64 5]) (by simp [results,Tryz.results6,go_sem,e0,e1,e2,e3,e4,e5,z0,z1,z2,z3,z4,z5]) rfl ?_
               exact ud.Ret.none HE.out (ud.below6 HI9.out.below _ _ _ _ _ _)
   · by_cases hk3:wrap64 x = 3
     · skip
       have t1:(wrap64 x == 1) = false:=beq_eq_false_iff_ne.2 (by omega)
       have t2:(wrap64 x == 2) = false:=beq_eq_false_iff_ne.2 (by omega)
       have t3:(wrap64 x == 3) = true:=beq_iff_eq.2 hk3
       have HK3:=Aside0.mk hk3
       obtain ⟨x2,b2,bad2,hn2⟩:∃ x2 b2 bad2,ue.num 8 ⟨b1,bad1⟩ = (x2,⟨b2,bad2⟩):=⟨_,_,_,rfl⟩
       have HN2:=Aside0.mk hn2
       have HF1:Aside0 (ud.out k (⟨3,[],[],0,0,wrap64 x2⟩,⟨b2,bad2⟩) = some r):=⟨by
        have h9:=HF.out
        unfold ud.mid at h9
        rw [if_neg hk1,if_neg hk2,if_pos hk3,hn2] at h9
        exact h9⟩
       clear hn2 hk1 hk2 hk3 HF
       go_enter Tryz.func6,Tryz.ntmps6
       cases bad2 with
       | true =>
         have HE:Aside0 (r = (ud.zero,5)):=⟨by have h9:=HF1.out;unfold ud.out at h9;rw [if_pos rfl] at h9;exact (Option.some.inj h9).symm⟩
         go_wp2_with (first | (go_at_call 22;rw [hW2.out];(with_reducible refine (ue.calls1 w W2 (w.heap.size + 1) (fun k => k < w.heap.size) ⟨l0,false⟩ HS.out).mono ?_);rintro e W1 ⟨rfl,hS1,hK1⟩;rw [HN1.out] at hS1 ⊢;obtain ⟨W3,hW3⟩:∃ W3,Aside0 (W1.alloc (.cells #[.int .i64 (wrap64 x),.slice none 0 0,.slice none 0 0,.int .i64 0,.int .i64 0,.int .i64 0] 26) = W3):=⟨_,⟨rfl⟩⟩;have hI3:=ud.Inv.init (wrap64 x) hS1 (hK1.blk HX.out (by omega) (by simp));rw [hW3.out] at hI3;obtain ⟨M3,hS3,hM3⟩:=hI3.src;have HS3:=Aside0.mk hS3;have HM3:=Aside0.mk hM3;have HI3:=Aside0.mk hI3;have ng1:w.heap.size ≠ W1.heap.size:=(by have h9:=hI3.apart;omega);have ng2:=ng1.symm;have ng3:w.heap.size + 1 ≠ W1.heap.size:=(by have h9:=hI3.apart;omega);have ng4:=ng3.symm;clear hS1 hK1 hI3 hS3 hM3) | (go_at_call 22;rw [hW3.out];(with_reducible refine (ue.calls8 w W3 (w.heap.size + 1) M3 ⟨b1,bad1⟩ HS3.out).mono ?_);rintro e W4 ⟨rfl,hS4,hK4⟩;rw [HN2.out] at hS4 ⊢;rw [HK3.out] at HI3;have hI4:=HI3.out.keep ⟨M3,hS4,HM3.out⟩ hK4;obtain ⟨M9,hS9,_⟩:=hI4.src;obtain ⟨A9,c9,⟨k0,k1⟩,⟨f0,f1⟩,hl9,hb9,hF9⟩:=hS9.look;simp only at k0 k1;clear hl9 hb9 hF9 hS9;obtain ⟨⟨e0,e1,e2,e3,e4,e5⟩,⟨z0,z1,z2,z3,z4,z5⟩⟩:=ud.cells hI4.res;obtain ⟨⟨p0,p1,p2,p3,p4,p5⟩,⟨y0,y1,y2,y3,y4,y5⟩⟩:=ud.cells hI4.cur;have HI5:Aside0 (ud.Inv w (W4.setCell ⟨W1.heap.size,5,none⟩ (.int .i64 (wrap64 x2))) W1.heap.size _ ⟨3,[],[],0,0,wrap64 x2⟩ (.slice none 0 0) (.slice none 0 0)):=⟨hI4.store (o':=⟨3,[],[],0,0,wrap64 x2⟩) 5 _ rfl (Or.inl rfl) (Kd.S_nil _ _ _ _ _) (Kd.R_nil _ _ _ _ _)⟩;clear hS4 hK4 hI4))
         refine bodyPost_ret (v:=.tuple #[.agg #[.int .i64 0,.slice none 0 0,.slice none 0 0,.int .i64 0,.int .i64 0,.int .i64 0],.int .i64 5]) (by simp [results,Tryz.results6,go_sem,e0,e1,e2,e3,e4,e5,z0,z1,z2,z3,z4,z5]) rfl ?_
         exact ud.Ret.none HE.out (ud.below6 HI5.out.below _ _ _ _ _ _)
       | false =>
         cases b2 with
         | cons z9 q9 =>
           have d1:decide ((q9.length:Int) + 1 > 0) = true:=decide_eq_true (by omega)
           have d2:decide (0 < (q9.length:Int) + 1) = true:=decide_eq_true (by omega)
           have d3:decide (0 < q9.length + 1) = true:=decide_eq_true (by omega)
           have HE:Aside0 (r = (ud.zero,5)):=⟨by have h9:=HF1.out;unfold ud.out at h9;rw [if_neg (by intro h8;cases h8),if_pos (by intro h8;cases h8)] at h9;exact (Option.some.inj h9).symm⟩
           go_wp2_with (first | (go_at_call 22;rw [hW2.out];(with_reducible refine (ue.calls1 w W2 (w.heap.size + 1) (fun k => k < w.heap.size) ⟨l0,false⟩ HS.out).mono ?_);rintro e W1 ⟨rfl,hS1,hK1⟩;rw [HN1.out] at hS1 ⊢;obtain ⟨W3,hW3⟩:∃ W3,Aside0 (W1.alloc (.cells #[.int .i64 (wrap64 x),.slice none 0 0,.slice none 0 0,.int .i64 0,.int .i64 0,.int .i64 0] 26) = W3):=⟨_,⟨rfl⟩⟩;have hI3:=ud.Inv.init (wrap64 x) hS1 (hK1.blk HX.out (by omega) (by simp));rw [hW3.out] at hI3;obtain ⟨M3,hS3,hM3⟩:=hI3.src;have HS3:=Aside0.mk hS3;have HM3:=Aside0.mk hM3;have HI3:=Aside0.mk hI3;have ng1:w.heap.size ≠ W1.heap.size:=(by have h9:=hI3.apart;omega);have ng2:=ng1.symm;have ng3:w.heap.size + 1 ≠ W1.heap.size:=(by have h9:=hI3.apart;omega);have ng4:=ng3.symm;clear hS1 hK1 hI3 hS3 hM3) | (go_at_call 22;rw [hW3.out];(with_reducible refine (ue.calls8 w W3 (w.heap.size + 1) M3 ⟨b1,bad1⟩ HS3.out).mono ?_);rintro e W4 ⟨rfl,hS4,hK4⟩;rw [HN2.out] at hS4 ⊢;rw [HK3.out] at HI3;have hI4:=HI3.out.keep ⟨M3,hS4,HM3.out⟩ hK4;obtain ⟨M9,hS9,_⟩:=hI4.src;obtain ⟨A9,c9,⟨k0,k1⟩,⟨f0,f1⟩,hl9,hb9,hF9⟩:=hS9.look;simp only at k0 k1;clear hl9 hb9 hF9 hS9;obtain ⟨⟨e0,e1,e2,e3,e4,e5⟩,⟨z0,z1,z2,z3,z4,z5⟩⟩:=ud.cells hI4.res;obtain ⟨⟨p0,p1,p2,p3,p4,p5⟩,⟨y0,y1,y2,y3,y4,y5⟩⟩:=ud.cells hI4.cur;have HI5:Aside0 (ud.Inv w (W4.setCell ⟨W1.heap.size,5,none⟩ (.int .i64 (wrap64 x2))) W1.heap.size _ ⟨3,[],[],0,0,wrap64 x2⟩ (.slice none 0 0) (.slice none 0 0)):=⟨hI4.store (o':=⟨3,[],[],0,0,wrap64 x2⟩) 5 _ rfl (Or.inl rfl) (Kd.S_nil _ _ _ _ _) (Kd.R_nil _ _ _ _ _)⟩;clear hS4 hK4 hI4))
           refine bodyPost_ret (v:=.tuple #[.agg #[.int .i64 0,.slice none 0 0,.slice none 0 0,.int .i64 0,.int .i64 0,.int .i64 0],.int .i64 5]) (by simp [results,Tryz.results6,go_sem,e0,e1,e2,e3,e4,e5,z0,z1,z2,z3,z4,z5]) rfl ?_
           exact ud.Ret.none HE.out (ud.below6 HI5.out.below _ _ _ _ _ _)
         | nil =>
           obtain ⟨c,HC,h8⟩:∃ c,Aside0 (ud.canO k (⟨3,[],[],0,0,wrap64 x2⟩) = some c) ∧ (if c = true then some ((⟨3,[],[],0,0,wrap64 x2⟩:ud.Ou),(0:Int)) else some (ud.zero,5)) = some r:=by
            have h9:=HF1.out
            unfold ud.out at h9
            rw [if_neg (by intro h8;cases h8),if_neg (by intro h8;exact h8 rfl)] at h9
            obtain ⟨c,hc,h8⟩:=Option.bind_eq_some_iff.1 h9
            exact ⟨c,⟨hc⟩,h8⟩
           cases c with
           | true =>
             have HE:Aside0 ((⟨3,[],[],0,0,wrap64 x2⟩,0) = r):=⟨Option.some.inj (by rw [if_pos rfl] at h8;exact h8)⟩
             clear h8
             go_wp2_with (first | (go_at_call 22;rw [hW2.out];(with_reducible refine (ue.calls1 w W2 (w.heap.size + 1) (fun k => k < w.heap.size) ⟨l0,false⟩ HS.out).mono ?_);rintro e W1 ⟨rfl,hS1,hK1⟩;rw [HN1.out] at hS1 ⊢;obtain ⟨W3,hW3⟩:∃ W3,Aside0 (W1.alloc (.cells #[.int .i64 (wrap64 x),.slice none 0 0,.slice none 0 0,.int .i64 0,.int .i64 0,.int .i64 0] 26) = W3):=⟨_,⟨rfl⟩⟩;have hI3:=ud.Inv.init (wrap64 x) hS1 (hK1.blk HX.out (by omega) (by simp));rw [hW3.out] at hI3;obtain ⟨M3,hS3,hM3⟩:=hI3.src;have HS3:=Aside0.mk hS3;have HM3:=Aside0.mk hM3;have HI3:=Aside0.mk hI3;have ng1:w.heap.size ≠ W1.heap.size:=(by have h9:=hI3.apart;omega);have ng2:=ng1.symm;have ng3:w.heap.size + 1 ≠ W1.heap.size:=(by have h9:=hI3.apart;omega);have ng4:=ng3.symm;clear hS1 hK1 hI3 hS3 hM3) | (go_at_call 22;rw [hW3.out];(with_reducible refine (ue.calls8 w W3 (w.heap.size + 1) M3 ⟨b1,bad1⟩ HS3.out).mono ?_);rintro e W4 ⟨rfl,hS4,hK4⟩;rw [HN2.out] at hS4 ⊢;rw [HK3.out] at HI3;have hI4:=HI3.out.keep ⟨M3,hS4,HM3.out⟩ hK4;obtain ⟨M9,hS9,_⟩:=hI4.src;obtain ⟨A9,c9,⟨k0,k1⟩,⟨f0,f1⟩,hl9,hb9,hF9⟩:=hS9.look;simp only at k0 k1;clear hl9 hb9 hF9 hS9;obtain ⟨⟨e0,e1,e2,e3,e4,e5⟩,⟨z0,z1,z2,z3,z4,z5⟩⟩:=ud.cells hI4.res;obtain ⟨⟨p0,p1,p2,p3,p4,p5⟩,⟨y0,y1,y2,y3,y4,y5⟩⟩:=ud.cells hI4.cur;have HI5:Aside0 (ud.Inv w (W4.setCell ⟨W1.heap.size,5,none⟩ (.int .i64 (wrap64 x2))) W1.heap.size _ ⟨3,[],[],0,0,wrap64 x2⟩ (.slice none 0 0) (.slice none 0 0)):=⟨hI4.store (o':=⟨3,[],[],0,0,wrap64 x2⟩) 5 _ rfl (Or.inl rfl) (Kd.S_nil _ _ _ _ _) (Kd.R_nil _ _ _ _ _)⟩;clear hS4 hK4 hI4) | (go_at_call 11;(with_reducible refine (ud.can_at k (⟨3,[],[],0,0,wrap64 x2⟩) _ _ true _ _ _ HI5.out.rows HI5.out.ms (HG0.out.below HI5.out.below) HC.out).mono ?_);rintro e W9 ⟨rfl,hB9⟩;have hI9:=HI5.out.more hB9;(try clear k0 k1 f0 f1 e0 e1 e2 e3 e4 e5 z0 z1 z2 z3 z4 z5 p0 p1 p2 p3 p4 p5 y0 y1 y2 y3 y4 y5);obtain ⟨⟨e0,e1,e2,e3,e4,e5⟩,⟨z0,z1,z2,z3,z4,z5⟩⟩:=ud.cells hI9.res;obtain ⟨⟨p0,p1,p2,p3,p4,p5⟩,_⟩:=ud.cells hI9.cur;have HI9:=Aside0.mk hI9;clear hI9 hB9))
             refine bodyPost_ret (v:=.tuple #[.agg #[.int .i64 3,.slice none 0 0,.slice none 0 0,.int .i64 0,.int .i64 0,.int .i64 (wrap64 x2)],.int .i64 0]) (by simp [results,Tryz.results6,go_sem,e0,e1,e2,e3,e4,e5,z0,z1,z2,z3,z4,z5]) rfl ?_
             rw [← HE.out]
             exact HI9.out.fin _ _ _ _ _ _
           | false =>
             have HE:Aside0 (r = (ud.zero,5)):=⟨(Option.some.inj (by rw [if_neg (by intro h7;cases h7)] at h8;exact h8)).symm⟩
             clear h8
             go_wp2_with (first | (go_at_call 22;rw [hW2.out];(with_reducible refine (ue.calls1 w W2 (w.heap.size + 1) (fun k => k < w.heap.size) ⟨l0,false⟩ HS.out).mono ?_);rintro e W1 ⟨rfl,hS1,hK1⟩;rw [HN1.out] at hS1 ⊢;obtain ⟨W3,hW3⟩:∃ W3,Aside0 (W1.alloc (.cells #[.int .i64 (wrap64 x),.slice none 0 0,.slice none 0 0,.int .i64 0,.int .i64 0,.int .i64 0] 26) = W3):=⟨_,⟨rfl⟩⟩;have hI3:=ud.Inv.init (wrap64 x) hS1 (hK1.blk HX.out (by omega) (by simp));rw [hW3.out] at hI3;obtain ⟨M3,hS3,hM3⟩:=hI3.src;have HS3:=Aside0.mk hS3;have HM3:=Aside0.mk hM3;have HI3:=Aside0.mk hI3;have ng1:w.heap.size ≠ W1.heap.size:=(by have h9:=hI3.apart;omega);have ng2:=ng1.symm;have ng3:w.heap.size + 1 ≠ W1.heap.size:=(by have h9:=hI3.apart;omega);have ng4:=ng3.symm;clear hS1 hK1 hI3 hS3 hM3) | (go_at_call 22;rw [hW3.out];(with_reducible refine (ue.calls8 w W3 (w.heap.size + 1) M3 ⟨b1,bad1⟩ HS3.out).mono ?_);rintro e W4 ⟨rfl,hS4,hK4⟩;rw [HN2.out] at hS4 ⊢;rw [HK3.out] at HI3;have hI4:=HI3.out.keep ⟨M3,hS4,HM3.out⟩ hK4;obtain ⟨M9,hS9,_⟩:=hI4.src;obtain ⟨A9,c9,⟨k0,k1⟩,⟨f0,f1⟩,hl9,hb9,hF9⟩:=hS9.look;simp only at k0 k1;clear hl9 hb9 hF9 hS9;obtain ⟨⟨e0,e1,e2,e3,e4,e5⟩,⟨z0,z1,z2,z3,z4,z5⟩⟩:=ud.cells hI4.res;obtain ⟨⟨p0,p1,p2,p3,p4,p5⟩,⟨y0,y1,y2,y3,y4,y5⟩⟩:=ud.cells hI4.cur;have HI5:Aside0 (ud.Inv w (W4.setCell ⟨W1.heap.size,5,none⟩ (.int .i64 (wrap64 x2))) W1.heap.size _ ⟨3,[],[],0,0,wrap64 x2⟩ (.slice none 0 0) (.slice none 0 0)):=⟨hI4.store (o':=⟨3,[],[],0,0,wrap64 x2⟩) 5 _ rfl (Or.inl rfl) (Kd.S_nil _ _ _ _ _) (Kd.R_nil _ _ _ _ _)⟩;clear hS4 hK4 hI4) | (go_at_call 11;(with_reducible refine (ud.can_at k (⟨3,[],[],0,0,wrap64 x2⟩) _ _ false _ _ _ HI5.out.rows HI5.out.ms (HG0.out.below HI5.out.below) HC.out).mono ?_);rintro e W9 ⟨rfl,hB9⟩;have hI9:=HI5.out.more hB9;(try clear k0 k1 f0 f1 e0 e1 e2 e3 e4 e5 z0 z1 z2 z3 z4 z5 p0 p1 p2 p3 p4 p5 y0 y1 y2 y3 y4 y5);obtain ⟨⟨e0,e1,e2,e3,e4,e5⟩,⟨z0,z1,z2,z3,z4,z5⟩⟩:=ud.cells hI9.res;obtain ⟨⟨p0,p1,p2,p3,p4,p5⟩,_⟩:=ud.cells hI9.cur;have HI9:=Aside0.mk hI9;clear hI9 hB9))
             refine bodyPost_ret (v:=.tuple #[.agg #[.int .i64 0,.slice none 0 0,.slice none 0 0,.int .i64 0,.int .i64 0,.int .i64 0],.int .i64 5]) (by simp [results,Tryz.results6,go_sem,e0,e1,e2,e3,e4,e5,z0,z1,z2,z3,z4,z5]) rfl ?_
             exact ud.Ret.none HE.out (ud.below6 HI9.out.below _ _ _ _ _ _)
     · skip
       have t1:(wrap64 x == 1) = false:=beq_eq_false_iff_ne.2 (by omega)
       have t2:(wrap64 x == 2) = false:=beq_eq_false_iff_ne.2 (by omega)
       have t3:(wrap64 x == 3) = false:=beq_eq_false_iff_ne.2 (by omega)
       have HF1:Aside0 (ud.out k (⟨wrap64 x,[],[],0,0,0⟩,⟨b1,bad1⟩) = some r):=⟨by
        have h9:=HF.out
        unfold ud.mid at h9
        rw [if_neg hk1,if_neg hk2,if_neg hk3] at h9
        exact h9⟩
       clear hk1 hk2 hk3 HF
       go_enter Tryz.func6,Tryz.ntmps6
       cases bad1 with
       | true =>
         have HE:Aside0 (r = (ud.zero,5)):=⟨by have h9:=HF1.out;unfold ud.out at h9;rw [if_pos rfl] at h9;exact (Option.some.inj h9).symm⟩
         go_wp2_with (first | (go_at_call 22;rw [hW2.out];(with_reducible refine (ue.calls1 w W2 (w.heap.size + 1) (fun k => k < w.heap.size) ⟨l0,false⟩ HS.out).mono ?_);rintro e W1 ⟨rfl,hS1,hK1⟩;rw [HN1.out] at hS1 ⊢;obtain ⟨W3,hW3⟩:∃ W3,Aside0 (W1.alloc (.cells #[.int .i64 (wrap64 x),.slice none 0 0,.slice none 0 0,.int .i64 0,.int .i64 0,.int .i64 0] 26) = W3):=⟨_,⟨rfl⟩⟩;have hI3:=ud.Inv.init (wrap64 x) hS1 (hK1.blk HX.out (by omega) (by simp));rw [hW3.out] at hI3;obtain ⟨M3,hS3,hM3⟩:=hI3.src;have HS3:=Aside0.mk hS3;have HM3:=Aside0.mk hM3;have HI3:=Aside0.mk hI3;have ng1:w.heap.size ≠ W1.heap.size:=(by have h9:=hI3.apart;omega);have ng2:=ng1.symm;have ng3:w.heap.size + 1 ≠ W1.heap.size:=(by have h9:=hI3.apart;omega);have ng4:=ng3.symm;clear hS1 hK1 hI3 hS3 hM3;obtain ⟨M9,hS9,_⟩:=HI3.out.src;obtain ⟨A9,c9,⟨k0,k1⟩,⟨f0,f1⟩,hl9,hb9,hF9⟩:=hS9.look;simp only at k0 k1;clear hl9 hb9 hF9 hS9;obtain ⟨⟨e0,e1,e2,e3,e4,e5⟩,⟨z0,z1,z2,z3,z4,z5⟩⟩:=ud.cells HI3.out.res;obtain ⟨⟨p0,p1,p2,p3,p4,p5⟩,⟨y0,y1,y2,y3,y4,y5⟩⟩:=ud.cells HI3.out.cur;rw [← hW3.out] at k0 k1 f0 f1 e0 e1 e2 e3 e4 e5 z0 z1 z2 z3 z4 z5 p0 p1 p2 p3 p4 p5 y0 y1 y2 y3 y4 y5 HI3))
         refine bodyPost_ret (v:=.tuple #[.agg #[.int .i64 0,.slice none 0 0,.slice none 0 0,.int .i64 0,.int .i64 0,.int .i64 0],.int .i64 5]) (by simp [results,Tryz.results6,go_sem,e0,e1,e2,e3,e4,e5,z0,z1,z2,z3,z4,z5]) rfl ?_
         exact ud.Ret.none HE.out (ud.below6 HI3.out.below _ _ _ _ _ _)
       | false =>
         cases b1 with
         | cons z9 q9 =>
           have d1:decide ((q9.length:Int) + 1 > 0) = true:=decide_eq_true (by omega)
           have d2:decide (0 < (q9.length:Int) + 1) = true:=decide_eq_true (by omega)
           have d3:decide (0 < q9.length + 1) = true:=decide_eq_true (by omega)
           have HE:Aside0 (r = (ud.zero,5)):=⟨by have h9:=HF1.out;unfold ud.out at h9;rw [if_neg (by intro h8;cases h8),if_pos (by intro h8;cases h8)] at h9;exact (Option.some.inj h9).symm⟩
           go_wp2_with (first | (go_at_call 22;rw [hW2.out];(with_reducible refine (ue.calls1 w W2 (w.heap.size + 1) (fun k => k < w.heap.size) ⟨l0,false⟩ HS.out).mono ?_);rintro e W1 ⟨rfl,hS1,hK1⟩;rw [HN1.out] at hS1 ⊢;obtain ⟨W3,hW3⟩:∃ W3,Aside0 (W1.alloc (.cells #[.int .i64 (wrap64 x),.slice none 0 0,.slice none 0 0,.int .i64 0,.int .i64 0,.int .i64 0] 26) = W3):=⟨_,⟨rfl⟩⟩;have hI3:=ud.Inv.init (wrap64 x) hS1 (hK1.blk HX.out (by omega) (by simp));rw [hW3.out] at hI3;obtain ⟨M3,hS3,hM3⟩:=hI3.src;have HS3:=Aside0.mk hS3;have HM3:=Aside0.mk hM3;have HI3:=Aside0.mk hI3;have ng1:w.heap.size ≠ W1.heap.size:=(by have h9:=hI3.apart;omega);have ng2:=ng1.symm;have ng3:w.heap.size + 1 ≠ W1.heap.size:=(by have h9:=hI3.apart;omega);have ng4:=ng3.symm;clear hS1 hK1 hI3 hS3 hM3;obtain ⟨M9,hS9,_⟩:=HI3.out.src;obtain ⟨A9,c9,⟨k0,k1⟩,⟨f0,f1⟩,hl9,hb9,hF9⟩:=hS9.look;simp only at k0 k1;clear hl9 hb9 hF9 hS9;obtain ⟨⟨e0,e1,e2,e3,e4,e5⟩,⟨z0,z1,z2,z3,z4,z5⟩⟩:=ud.cells HI3.out.res;obtain ⟨⟨p0,p1,p2,p3,p4,p5⟩,⟨y0,y1,y2,y3,y4,y5⟩⟩:=ud.cells HI3.out.cur;rw [← hW3.out] at k0 k1 f0 f1 e0 e1 e2 e3 e4 e5 z0 z1 z2 z3 z4 z5 p0 p1 p2 p3 p4 p5 y0 y1 y2 y3 y4 y5 HI3))
           refine bodyPost_ret (v:=.tuple #[.agg #[.int .i64 0,.slice none 0 0,.slice none 0 0,.int .i64 0,.int .i64 0,.int .i64 0],.int .i64 5]) (by simp [results,Tryz.results6,go_sem,e0,e1,e2,e3,e4,e5,z0,z1,z2,z3,z4,z5]) rfl ?_
           exact ud.Ret.none HE.out (ud.below6 HI3.out.below _ _ _ _ _ _)
         | nil =>
           obtain ⟨c,HC,h8⟩:∃ c,Aside0 (ud.canO k (⟨wrap64 x,[],[],0,0,0⟩) = some c) ∧ (if c = true then some ((⟨wrap64 x,[],[],0,0,0⟩:ud.Ou),(0:Int)) else some (ud.zero,5)) = some r:=by
            have h9:=HF1.out
            unfold ud.out at h9
            rw [if_neg (by intro h8;cases h8),if_neg (by intro h8;exact h8 rfl)] at h9
            obtain ⟨c,hc,h8⟩:=Option.bind_eq_some_iff.1 h9
            exact ⟨c,⟨hc⟩,h8⟩
           cases c with
           | true =>
             have HE:Aside0 ((⟨wrap64 x,[],[],0,0,0⟩,0) = r):=⟨Option.some.inj (by rw [if_pos rfl] at h8;exact h8)⟩
             clear h8
             go_wp2_with (first | (go_at_call 22;rw [hW2.out];(with_reducible refine (ue.calls1 w W2 (w.heap.size + 1) (fun k => k < w.heap.size) ⟨l0,false⟩ HS.out).mono ?_);rintro e W1 ⟨rfl,hS1,hK1⟩;rw [HN1.out] at hS1 ⊢;obtain ⟨W3,hW3⟩:∃ W3,Aside0 (W1.alloc (.cells #[.int .i64 (wrap64 x),.slice none 0 0,.slice none 0 0,.int .i64 0,.int .i64 0,.int .i64 0] 26) = W3):=⟨_,⟨rfl⟩⟩;have hI3:=ud.Inv.init (wrap64 x) hS1 (hK1.blk HX.out (by omega) (by simp));rw [hW3.out] at hI3;obtain ⟨M3,hS3,hM3⟩:=hI3.src;have HS3:=Aside0.mk hS3;have HM3:=Aside0.mk hM3;have HI3:=Aside0.mk hI3;have ng1:w.heap.size ≠ W1.heap.size:=(by have h9:=hI3.apart;omega);have ng2:=ng1.symm;have ng3:w.heap.size + 1 ≠ W1.heap.size:=(by have h9:=hI3.apart;omega);have ng4:=ng3.symm;clear hS1 hK1 hI3 hS3 hM3;obtain ⟨M9,hS9,_⟩:=HI3.out.src;obtain ⟨A9,c9,⟨k0,k1⟩,⟨f0,f1⟩,hl9,hb9,hF9⟩:=hS9.look;simp only at k0 k1;clear hl9 hb9 hF9 hS9;obtain ⟨⟨e0,e1,e2,e3,e4,e5⟩,⟨z0,z1,z2,z3,z4,z5⟩⟩:=ud.cells HI3.out.res;obtain ⟨⟨p0,p1,p2,p3,p4,p5⟩,⟨y0,y1,y2,y3,y4,y5⟩⟩:=ud.cells HI3.out.cur;rw [← hW3.out] at k0 k1 f0 f1 e0 e1 e2 e3 e4 e5 z0 z1 z2 z3 z4 z5 p0 p1 p2 p3 p4 p5 y0 y1 y2 y3 y4 y5 HI3) | (go_at_call 11;(with_reducible refine (ud.can_at k (⟨wrap64 x,[],[],0,0,0⟩) _ _ true _ _ _ HI3.out.rows HI3.out.ms (HG0.out.below HI3.out.below) HC.out).mono ?_);rintro e W9 ⟨rfl,hB9⟩;have hI9:=HI3.out.more hB9;(try clear k0 k1 f0 f1 e0 e1 e2 e3 e4 e5 z0 z1 z2 z3 z4 z5 p0 p1 p2 p3 p4 p5 y0 y1 y2 y3 y4 y5);obtain ⟨⟨e0,e1,e2,e3,e4,e5⟩,⟨z0,z1,z2,z3,z4,z5⟩⟩:=ud.cells hI9.res;obtain ⟨⟨p0,p1,p2,p3,p4,p5⟩,_⟩:=ud.cells hI9.cur;have HI9:=Aside0.mk hI9;clear hI9 hB9))
             refine bodyPost_ret (v:=.tuple #[.agg #[.int .i64 (wrap64 x),.slice none 0 0,.slice none 0 0,.int .i64 0,.int .i64 0,.int .i64 0],.int .i64 0]) (by simp [results,Tryz.results6,go_sem,e0,e1,e2,e3,e4,e5,z0,z1,z2,z3,z4,z5]) rfl ?_
             rw [← HE.out]
             exact HI9.out.fin _ _ _ _ _ _
           | false =>
             have HE:Aside0 (r = (ud.zero,5)):=⟨(Option.some.inj (by rw [if_neg (by intro h7;cases h7)] at h8;exact h8)).symm⟩
             clear h8
             go_wp2_with (first | (go_at_call 22;rw [hW2.out];(with_reducible refine (ue.calls1 w W2 (w.heap.size + 1) (fun k => k < w.heap.size) ⟨l0,false⟩ HS.out).mono ?_);rintro e W1 ⟨rfl,hS1,hK1⟩;rw [HN1.out] at hS1 ⊢;obtain ⟨W3,hW3⟩:∃ W3,Aside0 (W1.alloc (.cells #[.int .i64 (wrap64 x),.slice none 0 0,.slice none 0 0,.int .i64 0,.int .i64 0,.int .i64 0] 26) = W3):=⟨_,⟨rfl⟩⟩;have hI3:=ud.Inv.init (wrap64 x) hS1 (hK1.blk HX.out (by omega) (by simp));rw [hW3.out] at hI3;obtain ⟨M3,hS3,hM3⟩:=hI3.src;have HS3:=Aside0.mk hS3;have HM3:=Aside0.mk hM3;have HI3:=Aside0.mk hI3;have ng1:w.heap.size ≠ W1.heap.size:=(by have h9:=hI3.apart;omega);have ng2:=ng1.symm;have ng3:w.heap.size + 1 ≠ W1.heap.size:=(by have h9:=hI3.apart;omega);have ng4:=ng3.symm;clear hS1 hK1 hI3 hS3 hM3;obtain ⟨M9,hS9,_⟩:=HI3.out.src;obtain ⟨A9,c9,⟨k0,k1⟩,⟨f0,f1⟩,hl9,hb9,hF9⟩:=hS9.look;simp only at k0 k1;clear hl9 hb9 hF9 hS9;obtain ⟨⟨e0,e1,e2,e3,e4,e5⟩,⟨z0,z1,z2,z3,z4,z5⟩⟩:=ud.cells HI3.out.res;obtain ⟨⟨p0,p1,p2,p3,p4,p5⟩,⟨y0,y1,y2,y3,y4,y5⟩⟩:=ud.cells HI3.out.cur;rw [← hW3.out] at k0 k1 f0 f1 e0 e1 e2 e3 e4 e5 z0 z1 z2 z3 z4 z5 p0 p1 p2 p3 p4 p5 y0 y1 y2 y3 y4 y5 HI3) | (go_at_call 11;(with_reducible refine (ud.can_at k (⟨wrap64 x,[],[],0,0,0⟩) _ _ false _ _ _ HI3.out.rows HI3.out.ms (HG0.out.below HI3.out.below) HC.out).mono ?_);rintro e W9 ⟨rfl,hB9⟩;have hI9:=HI3.out.more hB9;(try clear k0 k1 f0 f1 e0 e1 e2 e3 e4 e5 z0 z1 z2 z3 z4 z5 p0 p1 p2 p3 p4 p5 y0 y1 y2 y3 y4 y5);obtain ⟨⟨e0,e1,e2,e3,e4,e5⟩,⟨z0,z1,z2,z3,z4,z5⟩⟩:=ud.cells hI9.res;obtain ⟨⟨p0,p1,p2,p3,p4,p5⟩,_⟩:=ud.cells hI9.cur;have HI9:=Aside0.mk hI9;clear hI9 hB9))
             refine bodyPost_ret (v:=.tuple #[.agg #[.int .i64 0,.slice none 0 0,.slice none 0 0,.int .i64 0,.int .i64 0,.int .i64 0],.int .i64 5]) (by simp [results,Tryz.results6,go_sem,e0,e1,e2,e3,e4,e5,z0,z1,z2,z3,z4,z5]) rfl ?_
             exact ud.Ret.none HE.out (ud.below6 HI9.out.below _ _ _ _ _ _)
end Go.Proofs.YtgnehcgaplnfkaaGreatDoor.PAll
