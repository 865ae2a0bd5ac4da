/- A text of this seat. -/
import Derived.Test.YtgnehcgaplnfkaaGreatDoorBt1
import Derived.Test.YtgnehcgaplnfkaaGreatDoorBt2
import Derived.Test.YtgnehcgaplnfkaaGreatDoorBt3
namespace Go.Proofs.YtgnehcgaplnfkaaGreatDoor.PAll
open Go.RowKit Go.Proofs.YtgnehcgaplnfkaaGreatDoorW.PrintWords Go.Proofs.YtgnehcgaplnfkaaGreatDoorW.PrintLast Go.Proofs.YtgnehcgaplnfkaaGreatDoorW.PrintMore
attribute [local go_sem] u3r u3t u4c u4b u3n u3o u3u u3s   -- for this text's walks alone
set_option linter.unusedVariables false
set_option linter.unusedSimpArgs false
-- uses dryrotref08_reader_peek dryrotref08_reader_member dryrotref08_reader_escaped
abbrev ub.RS:=ua.RS
def ub.NodeV (v:Value):Prop:=∃ (k:Int) (A:Option Addr) (n c:Nat) (b:Bool) (o:Int) (A2:Option Addr) (n2 c2:Nat),v = .agg #[.int .i64 k,.slice A n c,.bool b,.int .i32 o,.slice A2 n2 c2]
def ub.zc:Array Value:=#[.int .i64 0,.slice none 0 0,.bool false,.int .i32 0,.slice none 0 0]
def ub.hi (l:List Int) (x:Int) (s1:ub.RS):Int × ub.RS:=if s1.bad = false ∧ ua.pk l s1 = 45 then ue.mem l ⟨s1.at_ + 1,s1.bad⟩ else (x,s1)
def ub.span (l:List Int) (s:ub.RS):ub.RS:=⟨(ub.hi l (ue.mem l s).1 (ue.mem l s).2).2.at_,(ub.hi l (ue.mem l s).1 (ue.mem l s).2).2.bad || decide ((ub.hi l (ue.mem l s).1 (ue.mem l s).2).1 < (ue.mem l s).1)⟩
def ub.loopM (l:List Int):Nat → Bool → ub.RS → ub.RS
 | 0,_,s => s
 | k + 1,first,s => if s.bad = false ∧ (ua.pk l s ≠ 93 ∨ first = true) then ub.loopM l k false (ub.span l s) else s
def ub.neg (l:List Int) (s:ub.RS):Bool:=decide (ua.pk l s = 94)
def ub.in0 (l:List Int) (s:ub.RS):ub.RS:=if ub.neg l s = true then ⟨s.at_ + 1,s.bad⟩ else s
def ub.cls (l:List Int) (s:ub.RS):ub.RS:=⟨(ub.loopM l (l.length + 2) true (ub.in0 l s)).at_ + 1,(ub.loopM l (l.length + 2) true (ub.in0 l s)).bad⟩
theorem ub.pk_lt {l:List Int} {s:ub.RS} (h:¬ ua.pk l s < 0):s.at_ < l.length:=by
 rcases Nat.lt_or_ge s.at_ l.length with h1 | h1
 · exact h1
 · exfalso
   apply h
   unfold ua.pk
   rw [List.getElem?_eq_none h1]
   decide
theorem ub.mem_prog (l:List Int) (s:ub.RS) (h:s.at_ ≤ l.length):(ue.mem l s).2.at_ ≤ l.length + 1 ∧ s.at_ ≤ (ue.mem l s).2.at_ ∧ ((ue.mem l s).2.bad = false → s.bad = false ∧ s.at_ < (ue.mem l s).2.at_ ∧ (ue.mem l s).2.at_ ≤ l.length):=by
 unfold ue.mem
 split
 · exact ⟨by simp only;omega,by simp only;omega,fun h9 => by cases h9⟩
 · rename_i h1
   have hlt:=ub.pk_lt (fun h9 => h1 (Or.inl h9))
   split
   · unfold u1j.esc
     refine ⟨by simp only;omega,by simp only;omega,fun h9 => ?_⟩
     simp only [Bool.or_eq_false_iff,decide_eq_false_iff_not] at h9
     have h8:=ub.pk_lt h9.2
     simp only at h8
     exact ⟨h9.1,by simp only;omega,by simp only;omega⟩
   · exact ⟨by simp only;omega,by simp only;omega,fun h9 => ⟨h9,by simp only;omega,by simp only;omega⟩⟩
theorem ub.hi_prog (l:List Int) (x:Int) (s1:ub.RS) (h:s1.at_ ≤ l.length ∨ (s1.bad = true ∧ s1.at_ ≤ l.length + 1)):(ub.hi l x s1).2.at_ ≤ l.length + 1 ∧ s1.at_ ≤ (ub.hi l x s1).2.at_ ∧ ((ub.hi l x s1).2.bad = false → s1.bad = false ∧ (ub.hi l x s1).2.at_ ≤ l.length):=by
 unfold ub.hi
 split
 · rename_i h1
   have hlt:=ub.pk_lt (l:=l) (s:=s1) (by rw [h1.2];decide)
   obtain ⟨a,b,c⟩:=ub.mem_prog l ⟨s1.at_ + 1,s1.bad⟩ (by simp only;omega)
   exact ⟨a,by simp only at b;omega,fun h9 => ⟨(c h9).1,(c h9).2.2⟩⟩
 · rcases h with h | ⟨h,h2⟩
   · exact ⟨by simp only;omega,Nat.le_refl _,fun h9 => ⟨h9,h⟩⟩
   · exact ⟨h2,Nat.le_refl _,fun h9 => by simp only at h9;rw [h] at h9;cases h9⟩
def ub.Pg (l:List Int) (a:Nat) (r:ub.RS):Prop:=r.at_ ≤ l.length + 1 ∧ (r.bad = false → a < r.at_ ∧ r.at_ ≤ l.length)
theorem ub.span_prog (l:List Int) (s:ub.RS) (h:s.at_ ≤ l.length):ub.Pg l s.at_ (ub.span l s):=by
 obtain ⟨a,b,c⟩:=ub.mem_prog l s h
 have h2:(ue.mem l s).2.at_ ≤ l.length ∨ ((ue.mem l s).2.bad = true ∧ (ue.mem l s).2.at_ ≤ l.length + 1):=by
  cases hb:(ue.mem l s).2.bad with
  | true => exact Or.inr ⟨rfl,a⟩
  | false => exact Or.inl (c hb).2.2
 obtain ⟨a2,b2,c2⟩:=ub.hi_prog l (ue.mem l s).1 (ue.mem l s).2 h2
 refine ⟨a2,fun h9 => ?_⟩
 unfold ub.span at h9 ⊢
 simp only [Bool.or_eq_false_iff] at h9 ⊢
 obtain ⟨d1,d2⟩:=c2 h9.1
 have d3:=c d1
 omega
structure ub.Cl (w0 W wr:World) (g gp gn gr:Nat) (l:List Int) (s:ub.RS) (neg:Bool) (vl:Value) (rows:List (List Value)):Prop where
 st:ua.St w0 wr g gp l s
 kq:ua.Kq W wr g
 old:g < W.heap.size
 new:W.heap.size ≤ gn ∧ W.heap.size ≤ gr ∧ gn ≠ gr
 low:w0.heap.size ≤ W.heap.size
 node:wr.heap[gn]? = some (.cells #[.int .i64 2,vl,.bool neg,.int .i32 0,.slice none 0 0] 148 (0,0))
 res:wr.heap[gr]? = some (.cells ub.zc 148 (0,0))
 row:Kd.R (Kd.raw 2) 205 wr w0.heap.size (fun k => W.heap.size ≤ k) vl rows
theorem ub.Cl.move {w0 W wr wr':World} {g gp gn gr:Nat} {l:List Int} {s s':ub.RS} {neg:Bool} {vl:Value} {rows:List (List Value)} (h:ub.Cl w0 W wr g gp gn gr l s neg vl rows) (hS:ua.St w0 wr' g gp l s') (hK:ua.Kq wr wr' g):ub.Cl w0 W wr' g gp gn gr l s' neg vl rows where
 st:=hS
 kq:=h.kq.trans hK
 old:=h.old
 new:=h.new
 low:=h.low
 node:=(hK.2 gn (u3c h.node) (by have:=h.old;have:=h.new;omega)).trans h.node
 res:=(hK.2 gr (u3c h.res) (by have:=h.old;have:=h.new;omega)).trans h.res
 row:=Kd.R_step h.row (fun k hk hlt => hK.2 k hlt (by have:=h.old;omega))
theorem ub.Cl.look {w0 W wr:World} {g gp gn gr:Nat} {l:List Int} {s:ub.RS} {neg:Bool} {vl:Value} {rows:List (List Value)} (h:ub.Cl w0 W wr g gp gn gr l s neg vl rows) :
 (wr.cell? ⟨g,1,none⟩ = some (.int .i64 (s.at_:Int)) ∧ wr.cell? ⟨g,2,none⟩ = some (.bool s.bad) ∧ wr.frozen? ⟨g,1,none⟩ = false ∧ wr.frozen? ⟨g,2,none⟩ = false) ∧ (wr.cell? ⟨gn,1,none⟩ = some vl ∧ wr.frozen? ⟨gn,1,none⟩ = false) ∧ (wr.cell? ⟨gn,0,none⟩ = some (.int .i64 2) ∧ wr.cell? ⟨gn,2,none⟩ = some (.bool neg) ∧ wr.cell? ⟨gn,3,none⟩ = some (.int .i32 0) ∧ wr.cell? ⟨gn,4,none⟩ = some (.slice none 0 0)) ∧ (∀ i,wr.frozen? ⟨gr,i,none⟩ = false) ∧ (wr.cell? ⟨gr,0,none⟩ = some (.int .i64 0) ∧ wr.cell? ⟨gr,1,none⟩ = some (.slice none 0 0) ∧ wr.cell? ⟨gr,2,none⟩ = some (.bool false) ∧ wr.cell? ⟨gr,3,none⟩ = some (.int .i32 0) ∧ wr.cell? ⟨gr,4,none⟩ = some (.slice none 0 0)):=by
 obtain ⟨A,c,⟨k0,k1,k2⟩,⟨q0,q1,q2⟩,_⟩:=h.st.look
 exact ⟨⟨k1,k2,q1,q2⟩,⟨(uk h.node 1).trans rfl,ut h.node 1⟩,⟨(uk h.node 0).trans rfl,(uk h.node 2).trans rfl,(uk h.node 3).trans rfl,(uk h.node 4).trans rfl⟩,fun i => ut h.res i,⟨(uk h.res 0).trans rfl,(uk h.res 1).trans rfl,(uk h.res 2).trans rfl,(uk h.res 3).trans rfl,(uk h.res 4).trans rfl⟩⟩
theorem ub.Cl.put {w0 W wr w1:World} {g gp gn gr:Nat} {l:List Int} {s:ub.RS} {neg:Bool} {vl v1:Value} {rows:List (List Value)} {cs:List Value} (h:ub.Cl w0 W wr g gp gn gr l s neg vl rows) (hR:Kd.R (Kd.raw 2) 205 w1 w0.heap.size (fun k => W.heap.size ≤ k) v1 (rows ++ [cs])) (hB:Below w0.heap.size w0 w1) (hg:wr.grownBy w1 vl.ownBlock):ub.Cl w0 W (w1.setCell ⟨gn,1,none⟩ v1) g gp gn gr l s neg v1 (rows ++ [cs]):=by
 have e:∀ k,k < wr.heap.size → some k ≠ vl.ownBlock → k ≠ gn → (w1.setCell ⟨gn,1,none⟩ v1).heap[k]? = wr.heap[k]? := fun k hk hne hgn => (Below.heap_setCell w1 ⟨gn,1,none⟩ v1 k hgn).trans (hg.block k hk hne)
 have hold:∀ k,k < W.heap.size → some k ≠ vl.ownBlock:=fun k hk he => by
  have:=h.row.1 k he.symm
  omega
 have hn:w1.heap[gn]? = some (.cells #[.int .i64 2,vl,.bool neg,.int .i32 0,.slice none 0 0] 148 (0,0)):=(hg.block gn (u3c h.node) (Kd.R_ne h.row h.node (by decide))).trans h.node
 have hgg:=h.new
 have hgo:=h.old
 have hgp:gp < W.heap.size ∨ W.heap.size ≤ gp:=by omega
 have hpb:some gp ≠ vl.ownBlock:=by
  obtain ⟨A,c,hb,_,hr⟩:=h.st.cells
  exact hr.ne_row h.row (by decide)
 have hpn:gp ≠ gn:=by
  obtain ⟨A,c,hb,_,hr⟩:=h.st.cells
  exact hr.ne h.node (by decide)
 have hbl:Below w0.heap.size w0 (w1.setCell ⟨gn,1,none⟩ v1):=hB.setCell (by have:=h.low;simp only;omega) _
 exact {
  st:=h.st.keep hbl (fun k hk hor => by
   rcases hor with rfl | rfl
   · exact e _ hk (hold _ hgo) (by omega)
   · exact e _ hk hpb hpn)
  kq:=⟨Nat.le_trans h.kq.1 (by have:=hg.size;simpa [World.setCell] using this),fun k hk hne => (e k (Nat.lt_of_lt_of_le hk h.kq.1) (hold k hk) (by omega)).trans (h.kq.2 k hk hne)⟩
  old:=h.old
  new:=h.new
  low:=h.low
  node:=by rw [u4f hn];rfl
  res:=(e gr (u3c h.res) (Kd.R_ne h.row h.res (by decide)) (by omega)).trans h.res
  row:=Kd.R_set hR hn (by decide) 1 v1 }
theorem ub.Cl.not {w0 W wr:World} {g gp gn gr:Nat} {l:List Int} {s:ub.RS} {neg:Bool} {vl:Value} {rows:List (List Value)} (h:ub.Cl w0 W wr g gp gn gr l s neg vl rows):ub.Cl w0 W (wr.setCell ⟨gn,2,none⟩ (.bool true)) g gp gn gr l s true vl rows:=by
 have hgg:=h.new
 have hgo:=h.old
 have e:∀ k,k ≠ gn → (wr.setCell ⟨gn,2,none⟩ (.bool true)).heap[k]? = wr.heap[k]? := fun k hgn => Below.heap_setCell wr ⟨gn,2,none⟩ (.bool true) k hgn
 have hpn:gp ≠ gn:=by
  obtain ⟨A,c,hb,_,hr⟩:=h.st.cells
  exact hr.ne h.node (by decide)
 exact {
  st:=h.st.keep (h.st.below.setCell (by have:=h.low;simp only;omega) _) (fun k hk hor => by
   rcases hor with rfl | rfl
   · exact e _ (by omega)
   · exact e _ hpn)
  kq:=⟨by have:=h.kq.1;simpa [World.setCell] using this,fun k hk hne => (e k (by omega)).trans (h.kq.2 k hk hne)⟩
  old:=h.old
  new:=h.new
  low:=h.low
  node:=by rw [u4f h.node];rfl
  res:=(e gr (by omega)).trans h.res
  row:=Kd.R_set h.row h.node (by decide) 2 _ }
theorem ub.Cl.fini {w0 W wr:World} {g gp gn gr:Nat} {l:List Int} {s:ub.RS} {neg:Bool} {vl:Value} {rows:List (List Value)} (h:ub.Cl w0 W wr g gp gn gr l s neg vl rows) (a b c d e:Value) :
 ua.St w0 (((((wr.setCell ⟨gr,0,none⟩ a).setCell ⟨gr,1,none⟩ b).setCell ⟨gr,2,none⟩ c).setCell ⟨gr,3,none⟩ d).setCell ⟨gr,4,none⟩ e) g gp l s ∧ ua.Kq W (((((wr.setCell ⟨gr,0,none⟩ a).setCell ⟨gr,1,none⟩ b).setCell ⟨gr,2,none⟩ c).setCell ⟨gr,3,none⟩ d).setCell ⟨gr,4,none⟩ e) g:=by
 have hgg:=h.new
 have hgo:=h.old
 have hlo:=h.low
 have hpn:gp ≠ gr:=by
  obtain ⟨A,c,hb,_,hr⟩:=h.st.cells
  exact hr.ne h.res (by decide)
 have ee:∀ k,k ≠ gr → (((((wr.setCell ⟨gr,0,none⟩ a).setCell ⟨gr,1,none⟩ b).setCell ⟨gr,2,none⟩ c).setCell ⟨gr,3,none⟩ d).setCell ⟨gr,4,none⟩ e).heap[k]? = wr.heap[k]? := fun k hk => by
  rw [Below.heap_setCell _ _ _ _ hk,Below.heap_setCell _ _ _ _ hk,Below.heap_setCell _ _ _ _ hk,Below.heap_setCell _ _ _ _ hk,Below.heap_setCell _ _ _ _ hk]
 refine ⟨h.st.keep (((((h.st.below.setCell (p:=⟨gr,0,none⟩) (by simp only;omega) _).setCell (p:=⟨gr,1,none⟩) (by simp only;omega) _).setCell (p:=⟨gr,2,none⟩) (by simp only;omega) _).setCell (p:=⟨gr,3,none⟩) (by simp only;omega) _).setCell (p:=⟨gr,4,none⟩) (by simp only;omega) _) (fun k hk hor => ?_),⟨by have:=h.kq.1;simpa [World.setCell] using this,fun k hk hne => (ee k (by omega)).trans (h.kq.2 k hk hne)⟩⟩
 rcases hor with rfl | rfl
 · exact ee _ (by omega)
 · exact ee _ hpn
theorem ub.Cl.put0 {w0 W wr w1:World} {g gp gn gr:Nat} {l:List Int} {s:ub.RS} {neg:Bool} {vl:Value} {rows:List (List Value)} (h:ub.Cl w0 W wr g gp gn gr l s neg vl rows) (hg:wr.grownBy w1 vl.ownBlock):w1.cell? ⟨gn,1,none⟩ = some vl ∧ w1.frozen? ⟨gn,1,none⟩ = false:=by
 have hn:=(hg.block gn (u3c h.node) (Kd.R_ne h.row h.node (by decide))).trans h.node
 exact ⟨(uk hn 1).trans rfl,ut hn 1⟩
theorem ub.infoSp:(Tryz.prog.info? 205).map (fun i => (i.zero,i.size,i.bytes)) = some (some (.agg #[.int .i32 0,.int .i32 0]),2,8):=by kernel_rfl
theorem ub.size_set (w:World) (a:Addr) (u:Value):(w.setCell a u).heap.size = w.heap.size:=by simp [World.setCell]
theorem ub.stop {l:List Int} {k:Nat} {first:Bool} {s:ub.RS} (h:¬ (s.bad = false ∧ (ua.pk l s ≠ 93 ∨ first = true))):ub.loopM l k first s = s:=by
 cases k with
 | zero => rfl
 | succ k =>
   unfold ub.loopM
   rw [if_neg h]
theorem ub.goes {l:List Int} {k:Nat} {first:Bool} {s:ub.RS} (h:s.bad = false ∧ (ua.pk l s ≠ 93 ∨ first = true)):ub.loopM l (k + 1) first s = ub.loopM l k false (ub.span l s):=by
 refine Eq.trans (b:=if s.bad = false ∧ (ua.pk l s ≠ 93 ∨ first = true) then ub.loopM l k false (ub.span l s) else s) rfl ?_
 rw [if_pos h]
set_option maxHeartbeats 8000000 in
set_option maxRecDepth 20000 in
theorem ub.calls (w0 W:World) (g gp:Nat) (l:List Int) (s:ub.RS) (h:ua.St w0 W g gp l s) (hl:l.length ≤ 10000) (ha:s.at_ ≤ l.length) :
 Calls Tryz.prog 146 #[.pointer (some ⟨g,0,none⟩)] W fun e W' => (∃ v,e = .returned v ∧ ub.NodeV v) ∧ ua.St w0 W' g gp l (ub.cls l s) ∧ ua.Kq W W' g:=by
 obtain ⟨p0,hp0⟩:∃ p,Aside0 (ua.pk l s = p):=⟨_,⟨rfl⟩⟩
 obtain ⟨R,hR⟩:∃ R,Aside0 (ub.loopM l (l.length + 2) true (ub.in0 l s) = R):=⟨_,⟨rfl⟩⟩
 have HC:Aside0 (ub.cls l s = ⟨R.at_ + 1,R.bad⟩):=⟨by unfold ub.cls;rw [hR.out]⟩
 rw [HC.out]
 have HLO:=h.below.size
 have hgl:=h.gp_lt.2
 obtain ⟨Wa,hWa⟩:∃ Wa,Aside0 (W.alloc (.cells #[.int .i64 0,.slice none 0 0,.bool false,.int .i32 0,.slice none 0 0] 148) = Wa):=⟨_,⟨rfl⟩⟩
 have ba:Below W.heap.size W Wa:=by rw [← hWa.out];exact uj (Below.refl _ _) _
 have na:Wa.heap[W.heap.size]? = some (.cells ub.zc 148 (0,0)):=by rw [← hWa.out];exact u3l _ _
 have sa:Wa.heap.size = W.heap.size + 1:=by rw [← hWa.out];simp
 obtain ⟨Wb,hWb⟩:∃ Wb,Aside0 (Wa.alloc (.cells #[.int .i64 2,.slice none 0 0,.bool false,.int .i32 0,.slice none 0 0] 148) = Wb):=⟨_,⟨rfl⟩⟩
 have bb:Below Wa.heap.size Wa Wb:=by rw [← hWb.out];exact uj (Below.refl _ _) _
 have nb:Wb.heap[W.heap.size + 1]? = some (.cells #[.int .i64 2,.slice none 0 0,.bool false,.int .i32 0,.slice none 0 0] 148 (0,0)):=by rw [← sa,← hWb.out];exact u3l _ _
 have bab:Below W.heap.size W Wb:=u1c ba ba.size bb
 have CL0:Aside0 (ub.Cl w0 W Wb g gp (W.heap.size + 1) W.heap.size l s false (.slice none 0 0) []):=⟨{
  st:=h.more bab
  kq:=ua.Kq.below bab g
  old:=hgl
  new:=⟨Nat.le_succ _,Nat.le_refl _,by omega⟩
  low:=HLO
  node:=nb
  res:=(bb.block _ (by omega)).trans na
  row:=Kd.R_nil _ _ _ _ _ }⟩
 have HNE:Aside0 (W.heap.size + 1 ≠ g ∧ W.heap.size ≠ g):=⟨by omega,by omega⟩
 have ng1:=HNE.out.1
 have ng2:=HNE.out.2
 have ng3:=ng1.symm
 have ng4:=ng2.symm
 clear ba na sa bb nb bab h
 cases hneg:decide (p0 = 94) with
 | true =>
   have hb0:(p0 == 94) = true:=by simpa using hneg
   have HI:Aside0 (ub.in0 l s = ⟨s.at_ + 1,s.bad⟩):=⟨by unfold ub.in0 ub.neg;rw [hp0.out,hneg];rfl⟩
   have HLT:Aside0 (s.at_ < l.length):=⟨ub.pk_lt (by rw [hp0.out,of_decide_eq_true hneg];decide)⟩
   have HRS:Aside0 (ub.loopM l (l.length + 2) true ⟨s.at_ + 1,s.bad⟩ = R):=⟨by rw [← hR.out,HI.out]⟩
   have HAT:Aside0 (s.at_ + 1 ≤ l.length + 1 ∧ (s.bad = false → s.at_ + 1 ≤ l.length ∧ l.length + 1 ≤ l.length + 2 + (s.at_ + 1))):=⟨by omega,fun _ => by have:=HLT.out;omega⟩
   obtain ⟨⟨g1,g2,g3,g4⟩,⟨g5,g6⟩,⟨g7,g8,g9,g10⟩,_⟩:=CL0.out.look
   have g11:=ut CL0.out.node 2
   have hsa:s.at_ ≤ 10000:=by omega
   clear hneg
   go_enter Tryz.func146,Tryz.ntmps146
   go_wp2_with (go_at_call 125;rw [hWa.out,hWb.out];(with_reducible refine (ua.calls w0 Wb g gp l s CL0.out.st).mono ?_);rintro e w' ⟨rfl,nq,rfl⟩;rw [hp0.out];have hcl0:=((CL0.out.move (CL0.out.st.drew nq) (ua.Kq.below (uh (Below.refl _ _) nq) g)).not);have CLS:=Aside0.mk (hcl0.move hcl0.st.up (ua.Kq.set _ _ _ _));clear hcl0)
   go_loopg [] (l.length + 2) (fun kq wr => ∃ (cur:ub.RS) (vl:Value) (rows:List (List Value)),Aside0 (ub.Cl w0 W wr g gp (W.heap.size + 1) W.heap.size l cur true vl rows) ∧ Aside0 (ub.loopM l kq (decide (rows.length = 0)) cur = R) ∧ Aside0 (cur.at_ ≤ l.length + 1 ∧ (cur.bad = false → cur.at_ ≤ l.length ∧ l.length + 1 ≤ kq + cur.at_)) ∧ rows.length + kq ≤ l.length + 2)
   case atStart => exact ⟨_,_,[],CLS,⟨HRS.out⟩,HAT,by simp⟩
   case round =>
    obtain ⟨cur,vl,rows,HCL,HRM,HAT2,hrk⟩:=hrel
    obtain ⟨⟨k1,k2,q1,q2⟩,⟨n1,m1⟩,⟨n0,n2,n3,n4⟩,fr,⟨r0,r1,r2,r3,r4⟩⟩:=HCL.out.look
    have fr0:=fr 0
    have fr1:=fr 1
    have fr2:=fr 2
    have fr3:=fr 3
    have fr4:=fr 4
    clear fr
    obtain ⟨Av,cv,ev⟩:=Kd.R_slice HCL.out.row
    subst ev
    obtain ⟨p,hp⟩:∃ p,Aside0 (ua.pk l cur = p):=⟨_,⟨rfl⟩⟩
    obtain ⟨ca,cb⟩:=cur
    simp only at k1 k2
    have hca:ca ≤ 10001:=by have:=HAT2.out.1;simp only at this;omega
    cases cb with
    | true =>
      clear HAT2
      have HFIN:Aside0 (R = ⟨ca,true⟩):=⟨by rw [← HRM.out];exact ub.stop (by rintro ⟨h9,_⟩;cases h9)⟩
      go_wp2
      refine bodyPost_ret (v:=.agg #[.int .i64 2,.slice Av rows.length cv,.bool true,.int .i32 0,.slice none 0 0]) (by simp [results,Tryz.results146,go_sem,r0,r1,r2,r3,r4,ng2,ng4]) rfl ⟨⟨_,rfl,_,_,_,_,_,_,_,_,_,rfl⟩,?_⟩
      rw [HFIN.out]
      exact (HCL.out.move HCL.out.st.up (ua.Kq.set _ _ _ _)).fini _ _ _ _ _
    | false =>
      by_cases hgo:p = 93 ∧ ¬ rows.length = 0
      · obtain ⟨rfl,h0⟩:=hgo
        have hn0:((rows.length:Int) == 0) = false:=beq_eq_false_iff_ne.2 (by omega)
        have hn1:(rows.length == 0) = false:=beq_eq_false_iff_ne.2 (by omega)
        have HFIN:Aside0 (R = ⟨ca,false⟩):=⟨by rw [← HRM.out];exact ub.stop (by rintro ⟨_,h9 | h9⟩;exact h9 hp.out;simp only [decide_eq_true_eq] at h9;exact h0 h9)⟩
        go_wp2_with (go_at_call 125;(with_reducible refine (ua.calls w0 _ g gp l _ HCL.out.st).mono ?_);rintro e w' ⟨rfl,nq,rfl⟩;rw [hp.out])
        refine bodyPost_ret (v:=.agg #[.int .i64 2,.slice Av rows.length cv,.bool true,.int .i32 0,.slice none 0 0]) (by simp [results,Tryz.results146,go_sem,r0,r1,r2,r3,r4,ng2,ng4]) rfl ⟨⟨_,rfl,_,_,_,_,_,_,_,_,_,rfl⟩,?_⟩
        rw [HFIN.out]
        exact (HCL.out.move (HCL.out.st.drew nq).up ((ua.Kq.below (uh (Below.refl _ _) nq) g).trans (ua.Kq.set _ _ _ _))).fini _ _ _ _ _
      · have HGO:Aside0 (p ≠ 93 ∨ decide (rows.length = 0) = true):=⟨by
         rcases Classical.em (p = 93) with h9 | h9
         · right
           refine decide_eq_true (Classical.byContradiction fun h8 => hgo ⟨h9,h8⟩)
         · exact Or.inl h9⟩
        obtain ⟨x,hx⟩:∃ x,Aside0 ((ue.mem l ⟨ca,false⟩).1 = x):=⟨_,⟨rfl⟩⟩
        obtain ⟨a1,b1,hs1⟩:∃ a1 b1,Aside0 ((ue.mem l ⟨ca,false⟩).2 = ⟨a1,b1⟩):=⟨_,_,⟨rfl⟩⟩
        have H205:=Aside0.mk (ub.span_prog l ⟨ca,false⟩ (HAT2.out.2 rfl).1)
        have HM1:=Aside0.mk (ub.mem_prog l ⟨ca,false⟩ (HAT2.out.2 rfl).1)
        rw [hs1.out] at HM1
        have ha1:a1 ≤ 10001:=by have:=HM1.out.1;simp only at this;omega
        have hsp:Aside0 (ub.span l ⟨ca,false⟩ = ⟨(ub.hi l x ⟨a1,b1⟩).2.at_,(ub.hi l x ⟨a1,b1⟩).2.bad || decide ((ub.hi l x ⟨a1,b1⟩).1 < x)⟩):=⟨by unfold ub.span;rw [hx.out,hs1.out]⟩
        obtain ⟨g1,rfl⟩:∃ g1,gk = g1 + 1:=⟨gk - 1,by have:=HAT2.out.2 rfl;simp only at this;omega⟩
        have HRM1:Aside0 (ub.loopM l g1 false (ub.span l ⟨ca,false⟩) = R):=⟨by rw [← HRM.out];exact (ub.goes ⟨rfl,by rw [hp.out];exact HGO.out⟩).symm⟩
        have HAT3:Aside0 (ca ≤ l.length ∧ l.length + 1 ≤ g1 + 1 + ca):=⟨HAT2.out.2 rfl⟩
        clear HRM
        by_cases h93:p = 93
        · have hz0:rows.length = 0:=Classical.byContradiction fun h8 => hgo ⟨h93,h8⟩
          have hz1:((rows.length:Int) == 0) = true:=beq_iff_eq.2 (by omega)
          have hz2:(rows.length == 0) = true:=beq_iff_eq.2 hz0
          have hz3:(p == 93) = true:=beq_iff_eq.2 h93
          have hz4:(p != 93) = false:=bne_eq_false_iff_eq.2 h93
          have HZ0:=Aside0.mk hz0
          have hrl:rows.length ≤ l.length + 2:=by omega
          clear hgo h93 hz0
          cases b1 with
          | true =>
            have HSZ:Aside0 (ub.span l ⟨ca,false⟩ = ⟨a1,true⟩):=⟨by rw [hsp.out];unfold ub.hi;rw [if_neg (by rintro ⟨h9,_⟩;cases h9)];rfl⟩
            rw [HSZ.out] at HRM1 H205
            go_wp2_with (first
             | (go_at_call 125;(with_reducible refine (ua.calls w0 _ g gp l _ HCL.out.st).mono ?_);rintro e w' ⟨rfl,nq,rfl⟩;rw [hp.out];have HCq:=Aside0.mk (HCL.out.move (HCL.out.st.drew nq) (ua.Kq.below (uh (Below.refl _ _) nq) g)))
             | (go_at_call 151;(with_reducible refine (ue.calls w0 _ g gp l _ HCq.out.st (by simp only;omega)).mono ?_);rintro e w2 ⟨rfl,hS2,hK2⟩;rw [hx.out];rw [hs1.out] at hS2;have hC2:=HCq.out.move hS2 hK2;clear k1 k2 q1 q2 n0 n1 n2 n3 n4 m1 r0 r1 r2 r3 r4 fr0 fr1 fr2 fr3 fr4;obtain ⟨⟨k1,k2,q1,q2⟩,⟨n1,m1⟩,⟨n0,n2,n3,n4⟩,fr,⟨r0,r1,r2,r3,r4⟩⟩:=hC2.look;have fr0:=fr 0;have fr1:=fr 1;have fr2:=fr 2;have fr3:=fr 3;have fr4:=fr 4;clear fr;simp only at k1 k2;have HC2:=Aside0.mk hC2;clear hS2 hK2 hC2)
             | ((with_reducible refine u3b (b:=.append) (xs:=#[.tmp 69,.tmp 73]) rfl ?_);at_builtin;have hCz:=HC2.out.move (HC2.out.st.setBad true) (ua.Kq.set _ _ _ _);refine Kd.R_append (Kd.raw 2) (w0:=w0) w0.heap.size rfl (.tmp 69) (.tmp 73) 145 205 (.agg #[.int .i32 0,.int .i32 0]) 8 rfl Tryz.underlying145 ub.infoSp rfl (by decide) (by decide) _ rows [.int .i32 x,.int .i32 x] [.int .i32 x,.int .i32 x] (fun k => W.heap.size ≤ k) (fun _ => False) rfl (by rw [ub.size_set];rfl) ⟨rfl,rfl,by simp [Value.oneCell']⟩ (fun _ hk => hk.elim) (fun k hk => Nat.le_trans hCz.kq.1 hk) hCz.row hCz.st.below hCz.st.below.size (by omega) ?_;intro v6 W6 hR6 hB6 hg6 hat6;have hp6:=hCz.put0 hg6;have z1:=hp6.1;have z2:=hp6.2;have hc6:=hCz.put hR6 hB6 hg6;obtain ⟨A6,c6,e6⟩:=Kd.R_slice hR6;subst e6;simp only [List.length_append,List.length_cons,List.length_nil,Nat.zero_add] at hc6;have HC6:=Aside0.mk hc6;clear hc6;clear hR6 hB6 hg6 hat6 hCz hp6))
            go_roundg g1
            case rel => exact ⟨⟨a1,true⟩,_,rows ++ [[.int .i32 x,.int .i32 x]],HC6,⟨by rw [show decide ((rows ++ [[Value.int .i32 x,Value.int .i32 x]]).length = 0) = false by simp];exact HRM1.out⟩,⟨H205.out.1,fun h9 => ⟨(H205.out.2 h9).2,by have h8:=(H205.out.2 h9).1;have h7:=HAT3.out.2;(try simp only at h8);show l.length + 1 ≤ g1 + a1;omega⟩⟩,by rw [List.length_append,List.length_singleton];omega⟩
            case measure => omega
          | false =>
            obtain ⟨p1,hp1⟩:∃ p1,Aside0 (ua.pk l ⟨a1,false⟩ = p1):=⟨_,⟨rfl⟩⟩
            by_cases h45:p1 = 45
            · have hb45:(p1 == 45) = true:=beq_iff_eq.2 h45
              have HHI:Aside0 (ub.hi l x ⟨a1,false⟩ = ue.mem l ⟨a1 + 1,false⟩):=⟨by unfold ub.hi;rw [if_pos ⟨rfl,by rw [hp1.out];exact h45⟩]⟩
              obtain ⟨y,hy⟩:∃ y,Aside0 ((ue.mem l ⟨a1 + 1,false⟩).1 = y):=⟨_,⟨rfl⟩⟩
              obtain ⟨a2,b2,hs2⟩:∃ a2 b2,Aside0 ((ue.mem l ⟨a1 + 1,false⟩).2 = ⟨a2,b2⟩):=⟨_,_,⟨rfl⟩⟩
              obtain ⟨lt,hlt⟩:∃ lt,decide (y < x) = lt:=⟨_,rfl⟩
              have HLT:=Aside0.mk hlt
              clear h45
              cases b2 with
              | true =>
                have HSZ:Aside0 (ub.span l ⟨ca,false⟩ = ⟨a2,true⟩):=⟨by rw [hsp.out,HHI.out,hs2.out];rfl⟩
                rw [HSZ.out] at HRM1 H205
                go_wp2_with (first
                 | (go_at_call 125;(with_reducible refine (ua.calls w0 _ g gp l _ HCL.out.st).mono ?_);rintro e w' ⟨rfl,nq,rfl⟩;rw [hp.out];have HCq:=Aside0.mk (HCL.out.move (HCL.out.st.drew nq) (ua.Kq.below (uh (Below.refl _ _) nq) g)))
                 | (go_at_call 151;(with_reducible refine (ue.calls w0 _ g gp l _ HCq.out.st (by simp only;omega)).mono ?_);rintro e w2 ⟨rfl,hS2,hK2⟩;rw [hx.out];rw [hs1.out] at hS2;have hC2:=HCq.out.move hS2 hK2;clear k1 k2 q1 q2 n0 n1 n2 n3 n4 m1 r0 r1 r2 r3 r4 fr0 fr1 fr2 fr3 fr4;obtain ⟨⟨k1,k2,q1,q2⟩,⟨n1,m1⟩,⟨n0,n2,n3,n4⟩,fr,⟨r0,r1,r2,r3,r4⟩⟩:=hC2.look;have fr0:=fr 0;have fr1:=fr 1;have fr2:=fr 2;have fr3:=fr 3;have fr4:=fr 4;clear fr;simp only at k1 k2;have HC2:=Aside0.mk hC2;clear hS2 hK2 hC2)
                 | (go_at_call 125;(with_reducible refine (ua.calls w0 _ g gp l _ HC2.out.st).mono ?_);rintro e w' ⟨rfl,nq2,rfl⟩;rw [hp1.out];have HC3:=Aside0.mk (HC2.out.move (HC2.out.st.drew nq2) (ua.Kq.below (uh (Below.refl _ _) nq2) g)))
                 | (go_at_call 151;(with_reducible refine (ue.calls w0 _ g gp l ⟨a1 + 1,false⟩ HC3.out.st.up (by simp only;omega)).mono ?_);rintro e w4 ⟨rfl,hS4,hK4⟩;rw [hy.out];rw [hs2.out] at hS4;have hC4:=HC3.out.move hS4 ((ua.Kq.set _ _ _ _).trans hK4);clear k1 k2 q1 q2 n0 n1 n2 n3 n4 m1 r0 r1 r2 r3 r4 fr0 fr1 fr2 fr3 fr4;obtain ⟨⟨k1,k2,q1,q2⟩,⟨n1,m1⟩,⟨n0,n2,n3,n4⟩,fr,⟨r0,r1,r2,r3,r4⟩⟩:=hC4.look;have fr0:=fr 0;have fr1:=fr 1;have fr2:=fr 2;have fr3:=fr 3;have fr4:=fr 4;clear fr;simp only at k1 k2;have HC4:=Aside0.mk hC4;clear hS4 hK4 hC4)
                 | ((with_reducible refine u3b (b:=.append) (xs:=#[.tmp 69,.tmp 73]) rfl ?_);at_builtin;have hCz:=HC4.out.move (HC4.out.st.setBad true) (ua.Kq.set _ _ _ _);refine Kd.R_append (Kd.raw 2) (w0:=w0) w0.heap.size rfl (.tmp 69) (.tmp 73) 145 205 (.agg #[.int .i32 0,.int .i32 0]) 8 rfl Tryz.underlying145 ub.infoSp rfl (by decide) (by decide) _ rows [.int .i32 x,.int .i32 y] [.int .i32 x,.int .i32 y] (fun k => W.heap.size ≤ k) (fun _ => False) rfl (by rw [ub.size_set];rfl) ⟨rfl,rfl,by simp [Value.oneCell']⟩ (fun _ hk => hk.elim) (fun k hk => Nat.le_trans hCz.kq.1 hk) hCz.row hCz.st.below hCz.st.below.size (by omega) ?_;intro v6 W6 hR6 hB6 hg6 hat6;have hp6:=hCz.put0 hg6;have z1:=hp6.1;have z2:=hp6.2;have hc6:=hCz.put hR6 hB6 hg6;obtain ⟨A6,c6,e6⟩:=Kd.R_slice hR6;subst e6;simp only [List.length_append,List.length_cons,List.length_nil,Nat.zero_add] at hc6;have HC6:=Aside0.mk hc6;clear hc6;clear hR6 hB6 hg6 hat6 hCz hp6))
                go_roundg g1
                case rel => exact ⟨⟨a2,true⟩,_,rows ++ [[.int .i32 x,.int .i32 y]],HC6,⟨by rw [show decide ((rows ++ [[Value.int .i32 x,Value.int .i32 y]]).length = 0) = false by simp];exact HRM1.out⟩,⟨H205.out.1,fun h9 => ⟨(H205.out.2 h9).2,by have h8:=(H205.out.2 h9).1;have h7:=HAT3.out.2;(try simp only at h8);show l.length + 1 ≤ g1 + a2;omega⟩⟩,by rw [List.length_append,List.length_singleton];omega⟩
                case measure => omega
              | false =>
                have HSZ:Aside0 (ub.span l ⟨ca,false⟩ = ⟨a2,lt⟩):=⟨by rw [hsp.out,HHI.out,hs2.out,hy.out,HLT.out];rfl⟩
                rw [HSZ.out] at HRM1 H205
                go_wp2_with (first
                 | (go_at_call 125;(with_reducible refine (ua.calls w0 _ g gp l _ HCL.out.st).mono ?_);rintro e w' ⟨rfl,nq,rfl⟩;rw [hp.out];have HCq:=Aside0.mk (HCL.out.move (HCL.out.st.drew nq) (ua.Kq.below (uh (Below.refl _ _) nq) g)))
                 | (go_at_call 151;(with_reducible refine (ue.calls w0 _ g gp l _ HCq.out.st (by simp only;omega)).mono ?_);rintro e w2 ⟨rfl,hS2,hK2⟩;rw [hx.out];rw [hs1.out] at hS2;have hC2:=HCq.out.move hS2 hK2;clear k1 k2 q1 q2 n0 n1 n2 n3 n4 m1 r0 r1 r2 r3 r4 fr0 fr1 fr2 fr3 fr4;obtain ⟨⟨k1,k2,q1,q2⟩,⟨n1,m1⟩,⟨n0,n2,n3,n4⟩,fr,⟨r0,r1,r2,r3,r4⟩⟩:=hC2.look;have fr0:=fr 0;have fr1:=fr 1;have fr2:=fr 2;have fr3:=fr 3;have fr4:=fr 4;clear fr;simp only at k1 k2;have HC2:=Aside0.mk hC2;clear hS2 hK2 hC2)
                 | (go_at_call 125;(with_reducible refine (ua.calls w0 _ g gp l _ HC2.out.st).mono ?_);rintro e w' ⟨rfl,nq2,rfl⟩;rw [hp1.out];have HC3:=Aside0.mk (HC2.out.move (HC2.out.st.drew nq2) (ua.Kq.below (uh (Below.refl _ _) nq2) g)))
                 | (go_at_call 151;(with_reducible refine (ue.calls w0 _ g gp l ⟨a1 + 1,false⟩ HC3.out.st.up (by simp only;omega)).mono ?_);rintro e w4 ⟨rfl,hS4,hK4⟩;rw [hy.out];rw [hs2.out] at hS4;have hC4:=HC3.out.move hS4 ((ua.Kq.set _ _ _ _).trans hK4);clear k1 k2 q1 q2 n0 n1 n2 n3 n4 m1 r0 r1 r2 r3 r4 fr0 fr1 fr2 fr3 fr4;obtain ⟨⟨k1,k2,q1,q2⟩,⟨n1,m1⟩,⟨n0,n2,n3,n4⟩,fr,⟨r0,r1,r2,r3,r4⟩⟩:=hC4.look;have fr0:=fr 0;have fr1:=fr 1;have fr2:=fr 2;have fr3:=fr 3;have fr4:=fr 4;clear fr;simp only at k1 k2;have HC4:=Aside0.mk hC4;clear hS4 hK4 hC4)
                 | ((with_reducible refine u3b (b:=.append) (xs:=#[.tmp 69,.tmp 73]) rfl ?_);at_builtin;have hCz:=HC4.out.move (HC4.out.st.setBad lt) (ua.Kq.set _ _ _ _);refine Kd.R_append (Kd.raw 2) (w0:=w0) w0.heap.size rfl (.tmp 69) (.tmp 73) 145 205 (.agg #[.int .i32 0,.int .i32 0]) 8 rfl Tryz.underlying145 ub.infoSp rfl (by decide) (by decide) _ rows [.int .i32 x,.int .i32 y] [.int .i32 x,.int .i32 y] (fun k => W.heap.size ≤ k) (fun _ => False) rfl (by rw [ub.size_set];rfl) ⟨rfl,rfl,by simp [Value.oneCell']⟩ (fun _ hk => hk.elim) (fun k hk => Nat.le_trans hCz.kq.1 hk) hCz.row hCz.st.below hCz.st.below.size (by omega) ?_;intro v6 W6 hR6 hB6 hg6 hat6;have hp6:=hCz.put0 hg6;have z1:=hp6.1;have z2:=hp6.2;have hc6:=hCz.put hR6 hB6 hg6;obtain ⟨A6,c6,e6⟩:=Kd.R_slice hR6;subst e6;simp only [List.length_append,List.length_cons,List.length_nil,Nat.zero_add] at hc6;have HC6:=Aside0.mk hc6;clear hc6;clear hR6 hB6 hg6 hat6 hCz hp6))
                go_roundg g1
                case rel => exact ⟨⟨a2,lt⟩,_,rows ++ [[.int .i32 x,.int .i32 y]],HC6,⟨by rw [show decide ((rows ++ [[Value.int .i32 x,Value.int .i32 y]]).length = 0) = false by simp];exact HRM1.out⟩,⟨H205.out.1,fun h9 => ⟨(H205.out.2 h9).2,by have h8:=(H205.out.2 h9).1;have h7:=HAT3.out.2;(try simp only at h8);show l.length + 1 ≤ g1 + a2;omega⟩⟩,by rw [List.length_append,List.length_singleton];omega⟩
                case measure => omega
            · have hb45:(p1 == 45) = false:=beq_eq_false_iff_ne.2 h45
              have HHI:Aside0 (ub.hi l x ⟨a1,false⟩ = (x,⟨a1,false⟩)):=⟨by unfold ub.hi;rw [if_neg (by rintro ⟨_,h9⟩;rw [hp1.out] at h9;exact h45 h9)]⟩
              clear h45
              have HSZ:Aside0 (ub.span l ⟨ca,false⟩ = ⟨a1,false⟩):=⟨by rw [hsp.out,HHI.out];simp⟩
              rw [HSZ.out] at HRM1 H205
              go_wp2_with (first
               | (go_at_call 125;(with_reducible refine (ua.calls w0 _ g gp l _ HCL.out.st).mono ?_);rintro e w' ⟨rfl,nq,rfl⟩;rw [hp.out];have HCq:=Aside0.mk (HCL.out.move (HCL.out.st.drew nq) (ua.Kq.below (uh (Below.refl _ _) nq) g)))
               | (go_at_call 151;(with_reducible refine (ue.calls w0 _ g gp l _ HCq.out.st (by simp only;omega)).mono ?_);rintro e w2 ⟨rfl,hS2,hK2⟩;rw [hx.out];rw [hs1.out] at hS2;have hC2:=HCq.out.move hS2 hK2;clear k1 k2 q1 q2 n0 n1 n2 n3 n4 m1 r0 r1 r2 r3 r4 fr0 fr1 fr2 fr3 fr4;obtain ⟨⟨k1,k2,q1,q2⟩,⟨n1,m1⟩,⟨n0,n2,n3,n4⟩,fr,⟨r0,r1,r2,r3,r4⟩⟩:=hC2.look;have fr0:=fr 0;have fr1:=fr 1;have fr2:=fr 2;have fr3:=fr 3;have fr4:=fr 4;clear fr;simp only at k1 k2;have HC2:=Aside0.mk hC2;clear hS2 hK2 hC2)
               | (go_at_call 125;(with_reducible refine (ua.calls w0 _ g gp l _ HC2.out.st).mono ?_);rintro e w' ⟨rfl,nq2,rfl⟩;rw [hp1.out];have HC3:=Aside0.mk (HC2.out.move (HC2.out.st.drew nq2) (ua.Kq.below (uh (Below.refl _ _) nq2) g)))
               | ((with_reducible refine u3b (b:=.append) (xs:=#[.tmp 69,.tmp 73]) rfl ?_);at_builtin;have hCz:=HC3.out.move (HC3.out.st.setBad false) (ua.Kq.set _ _ _ _);refine Kd.R_append (Kd.raw 2) (w0:=w0) w0.heap.size rfl (.tmp 69) (.tmp 73) 145 205 (.agg #[.int .i32 0,.int .i32 0]) 8 rfl Tryz.underlying145 ub.infoSp rfl (by decide) (by decide) _ rows [.int .i32 x,.int .i32 x] [.int .i32 x,.int .i32 x] (fun k => W.heap.size ≤ k) (fun _ => False) rfl (by rw [ub.size_set];rfl) ⟨rfl,rfl,by simp [Value.oneCell']⟩ (fun _ hk => hk.elim) (fun k hk => Nat.le_trans hCz.kq.1 hk) hCz.row hCz.st.below hCz.st.below.size (by omega) ?_;intro v6 W6 hR6 hB6 hg6 hat6;have hp6:=hCz.put0 hg6;have z1:=hp6.1;have z2:=hp6.2;have hc6:=hCz.put hR6 hB6 hg6;obtain ⟨A6,c6,e6⟩:=Kd.R_slice hR6;subst e6;simp only [List.length_append,List.length_cons,List.length_nil,Nat.zero_add] at hc6;have HC6:=Aside0.mk hc6;clear hc6;clear hR6 hB6 hg6 hat6 hCz hp6))
              go_roundg g1
              case rel => exact ⟨⟨a1,false⟩,_,rows ++ [[.int .i32 x,.int .i32 x]],HC6,⟨by rw [show decide ((rows ++ [[Value.int .i32 x,Value.int .i32 x]]).length = 0) = false by simp];exact HRM1.out⟩,⟨H205.out.1,fun h9 => ⟨(H205.out.2 h9).2,by have h8:=(H205.out.2 h9).1;have h7:=HAT3.out.2;(try simp only at h8);show l.length + 1 ≤ g1 + a1;omega⟩⟩,by rw [List.length_append,List.length_singleton];omega⟩
              case measure => omega
        · have hz3:(p == 93) = false:=beq_eq_false_iff_ne.2 h93
          have hz4:(p != 93) = true:=bne_iff_ne.2 h93
          clear hgo h93
          cases b1 with
          | true =>
            have HSZ:Aside0 (ub.span l ⟨ca,false⟩ = ⟨a1,true⟩):=⟨by rw [hsp.out];unfold ub.hi;rw [if_neg (by rintro ⟨h9,_⟩;cases h9)];rfl⟩
            rw [HSZ.out] at HRM1 H205
            go_wp2_with (first
             | (go_at_call 125;(with_reducible refine (ua.calls w0 _ g gp l _ HCL.out.st).mono ?_);rintro e w' ⟨rfl,nq,rfl⟩;rw [hp.out];have HCq:=Aside0.mk (HCL.out.move (HCL.out.st.drew nq) (ua.Kq.below (uh (Below.refl _ _) nq) g)))
             | (go_at_call 151;(with_reducible refine (ue.calls w0 _ g gp l _ HCq.out.st (by simp only;omega)).mono ?_);rintro e w2 ⟨rfl,hS2,hK2⟩;rw [hx.out];rw [hs1.out] at hS2;have hC2:=HCq.out.move hS2 hK2;clear k1 k2 q1 q2 n0 n1 n2 n3 n4 m1 r0 r1 r2 r3 r4 fr0 fr1 fr2 fr3 fr4;obtain ⟨⟨k1,k2,q1,q2⟩,⟨n1,m1⟩,⟨n0,n2,n3,n4⟩,fr,⟨r0,r1,r2,r3,r4⟩⟩:=hC2.look;have fr0:=fr 0;have fr1:=fr 1;have fr2:=fr 2;have fr3:=fr 3;have fr4:=fr 4;clear fr;simp only at k1 k2;have HC2:=Aside0.mk hC2;clear hS2 hK2 hC2)
             | ((with_reducible refine u3b (b:=.append) (xs:=#[.tmp 69,.tmp 73]) rfl ?_);at_builtin;have hCz:=HC2.out.move (HC2.out.st.setBad true) (ua.Kq.set _ _ _ _);refine Kd.R_append (Kd.raw 2) (w0:=w0) w0.heap.size rfl (.tmp 69) (.tmp 73) 145 205 (.agg #[.int .i32 0,.int .i32 0]) 8 rfl Tryz.underlying145 ub.infoSp rfl (by decide) (by decide) _ rows [.int .i32 x,.int .i32 x] [.int .i32 x,.int .i32 x] (fun k => W.heap.size ≤ k) (fun _ => False) rfl (by rw [ub.size_set];rfl) ⟨rfl,rfl,by simp [Value.oneCell']⟩ (fun _ hk => hk.elim) (fun k hk => Nat.le_trans hCz.kq.1 hk) hCz.row hCz.st.below hCz.st.below.size (by omega) ?_;intro v6 W6 hR6 hB6 hg6 hat6;have hp6:=hCz.put0 hg6;have z1:=hp6.1;have z2:=hp6.2;have hc6:=hCz.put hR6 hB6 hg6;obtain ⟨A6,c6,e6⟩:=Kd.R_slice hR6;subst e6;simp only [List.length_append,List.length_cons,List.length_nil,Nat.zero_add] at hc6;have HC6:=Aside0.mk hc6;clear hc6;clear hR6 hB6 hg6 hat6 hCz hp6))
            go_roundg g1
            case rel => exact ⟨⟨a1,true⟩,_,rows ++ [[.int .i32 x,.int .i32 x]],HC6,⟨by rw [show decide ((rows ++ [[Value.int .i32 x,Value.int .i32 x]]).length = 0) = false by simp];exact HRM1.out⟩,⟨H205.out.1,fun h9 => ⟨(H205.out.2 h9).2,by have h8:=(H205.out.2 h9).1;have h7:=HAT3.out.2;(try simp only at h8);show l.length + 1 ≤ g1 + a1;omega⟩⟩,by rw [List.length_append,List.length_singleton];omega⟩
            case measure => omega
          | false =>
            obtain ⟨p1,hp1⟩:∃ p1,Aside0 (ua.pk l ⟨a1,false⟩ = p1):=⟨_,⟨rfl⟩⟩
            by_cases h45:p1 = 45
            · have hb45:(p1 == 45) = true:=beq_iff_eq.2 h45
              have HHI:Aside0 (ub.hi l x ⟨a1,false⟩ = ue.mem l ⟨a1 + 1,false⟩):=⟨by unfold ub.hi;rw [if_pos ⟨rfl,by rw [hp1.out];exact h45⟩]⟩
              obtain ⟨y,hy⟩:∃ y,Aside0 ((ue.mem l ⟨a1 + 1,false⟩).1 = y):=⟨_,⟨rfl⟩⟩
              obtain ⟨a2,b2,hs2⟩:∃ a2 b2,Aside0 ((ue.mem l ⟨a1 + 1,false⟩).2 = ⟨a2,b2⟩):=⟨_,_,⟨rfl⟩⟩
              obtain ⟨lt,hlt⟩:∃ lt,decide (y < x) = lt:=⟨_,rfl⟩
              have HLT:=Aside0.mk hlt
              clear h45
              cases b2 with
              | true =>
                have HSZ:Aside0 (ub.span l ⟨ca,false⟩ = ⟨a2,true⟩):=⟨by rw [hsp.out,HHI.out,hs2.out];rfl⟩
                rw [HSZ.out] at HRM1 H205
                go_wp2_with (first
                 | (go_at_call 125;(with_reducible refine (ua.calls w0 _ g gp l _ HCL.out.st).mono ?_);rintro e w' ⟨rfl,nq,rfl⟩;rw [hp.out];have HCq:=Aside0.mk (HCL.out.move (HCL.out.st.drew nq) (ua.Kq.below (uh (Below.refl _ _) nq) g)))
                 | (go_at_call 151;(with_reducible refine (ue.calls w0 _ g gp l _ HCq.out.st (by simp only;omega)).mono ?_);rintro e w2 ⟨rfl,hS2,hK2⟩;rw [hx.out];rw [hs1.out] at hS2;have hC2:=HCq.out.move hS2 hK2;clear k1 k2 q1 q2 n0 n1 n2 n3 n4 m1 r0 r1 r2 r3 r4 fr0 fr1 fr2 fr3 fr4;obtain ⟨⟨k1,k2,q1,q2⟩,⟨n1,m1⟩,⟨n0,n2,n3,n4⟩,fr,⟨r0,r1,r2,r3,r4⟩⟩:=hC2.look;have fr0:=fr 0;have fr1:=fr 1;have fr2:=fr 2;have fr3:=fr 3;have fr4:=fr 4;clear fr;simp only at k1 k2;have HC2:=Aside0.mk hC2;clear hS2 hK2 hC2)
                 | (go_at_call 125;(with_reducible refine (ua.calls w0 _ g gp l _ HC2.out.st).mono ?_);rintro e w' ⟨rfl,nq2,rfl⟩;rw [hp1.out];have HC3:=Aside0.mk (HC2.out.move (HC2.out.st.drew nq2) (ua.Kq.below (uh (Below.refl _ _) nq2) g)))
                 | (go_at_call 151;(with_reducible refine (ue.calls w0 _ g gp l ⟨a1 + 1,false⟩ HC3.out.st.up (by simp only;omega)).mono ?_);rintro e w4 ⟨rfl,hS4,hK4⟩;rw [hy.out];rw [hs2.out] at hS4;have hC4:=HC3.out.move hS4 ((ua.Kq.set _ _ _ _).trans hK4);clear k1 k2 q1 q2 n0 n1 n2 n3 n4 m1 r0 r1 r2 r3 r4 fr0 fr1 fr2 fr3 fr4;obtain ⟨⟨k1,k2,q1,q2⟩,⟨n1,m1⟩,⟨n0,n2,n3,n4⟩,fr,⟨r0,r1,r2,r3,r4⟩⟩:=hC4.look;have fr0:=fr 0;have fr1:=fr 1;have fr2:=fr 2;have fr3:=fr 3;have fr4:=fr 4;clear fr;simp only at k1 k2;have HC4:=Aside0.mk hC4;clear hS4 hK4 hC4)
                 | ((with_reducible refine u3b (b:=.append) (xs:=#[.tmp 69,.tmp 73]) rfl ?_);at_builtin;have hCz:=HC4.out.move (HC4.out.st.setBad true) (ua.Kq.set _ _ _ _);refine Kd.R_append (Kd.raw 2) (w0:=w0) w0.heap.size rfl (.tmp 69) (.tmp 73) 145 205 (.agg #[.int .i32 0,.int .i32 0]) 8 rfl Tryz.underlying145 ub.infoSp rfl (by decide) (by decide) _ rows [.int .i32 x,.int .i32 y] [.int .i32 x,.int .i32 y] (fun k => W.heap.size ≤ k) (fun _ => False) rfl (by rw [ub.size_set];rfl) ⟨rfl,rfl,by simp [Value.oneCell']⟩ (fun _ hk => hk.elim) (fun k hk => Nat.le_trans hCz.kq.1 hk) hCz.row hCz.st.below hCz.st.below.size (by omega) ?_;intro v6 W6 hR6 hB6 hg6 hat6;have hp6:=hCz.put0 hg6;have z1:=hp6.1;have z2:=hp6.2;have hc6:=hCz.put hR6 hB6 hg6;obtain ⟨A6,c6,e6⟩:=Kd.R_slice hR6;subst e6;simp only [List.length_append,List.length_cons,List.length_nil,Nat.zero_add] at hc6;have HC6:=Aside0.mk hc6;clear hc6;clear hR6 hB6 hg6 hat6 hCz hp6))
                go_roundg g1
                case rel => exact ⟨⟨a2,true⟩,_,rows ++ [[.int .i32 x,.int .i32 y]],HC6,⟨by rw [show decide ((rows ++ [[Value.int .i32 x,Value.int .i32 y]]).length = 0) = false by simp];exact HRM1.out⟩,⟨H205.out.1,fun h9 => ⟨(H205.out.2 h9).2,by have h8:=(H205.out.2 h9).1;have h7:=HAT3.out.2;(try simp only at h8);show l.length + 1 ≤ g1 + a2;omega⟩⟩,by rw [List.length_append,List.length_singleton];omega⟩
                case measure => omega
              | false =>
                have HSZ:Aside0 (ub.span l ⟨ca,false⟩ = ⟨a2,lt⟩):=⟨by rw [hsp.out,HHI.out,hs2.out,hy.out,HLT.out];rfl⟩
                rw [HSZ.out] at HRM1 H205
                go_wp2_with (first
                 | (go_at_call 125;(with_reducible refine (ua.calls w0 _ g gp l _ HCL.out.st).mono ?_);rintro e w' ⟨rfl,nq,rfl⟩;rw [hp.out];have HCq:=Aside0.mk (HCL.out.move (HCL.out.st.drew nq) (ua.Kq.below (uh (Below.refl _ _) nq) g)))
                 | (go_at_call 151;(with_reducible refine (ue.calls w0 _ g gp l _ HCq.out.st (by simp only;omega)).mono ?_);rintro e w2 ⟨rfl,hS2,hK2⟩;rw [hx.out];rw [hs1.out] at hS2;have hC2:=HCq.out.move hS2 hK2;clear k1 k2 q1 q2 n0 n1 n2 n3 n4 m1 r0 r1 r2 r3 r4 fr0 fr1 fr2 fr3 fr4;obtain ⟨⟨k1,k2,q1,q2⟩,⟨n1,m1⟩,⟨n0,n2,n3,n4⟩,fr,⟨r0,r1,r2,r3,r4⟩⟩:=hC2.look;have fr0:=fr 0;have fr1:=fr 1;have fr2:=fr 2;have fr3:=fr 3;have fr4:=fr 4;clear fr;simp only at k1 k2;have HC2:=Aside0.mk hC2;clear hS2 hK2 hC2)
                 | (go_at_call 125;(with_reducible refine (ua.calls w0 _ g gp l _ HC2.out.st).mono ?_);rintro e w' ⟨rfl,nq2,rfl⟩;rw [hp1.out];have HC3:=Aside0.mk (HC2.out.move (HC2.out.st.drew nq2) (ua.Kq.below (uh (Below.refl _ _) nq2) g)))
                 | (go_at_call 151;(with_reducible refine (ue.calls w0 _ g gp l ⟨a1 + 1,false⟩ HC3.out.st.up (by simp only;omega)).mono ?_);rintro e w4 ⟨rfl,hS4,hK4⟩;rw [hy.out];rw [hs2.out] at hS4;have hC4:=HC3.out.move hS4 ((ua.Kq.set _ _ _ _).trans hK4);clear k1 k2 q1 q2 n0 n1 n2 n3 n4 m1 r0 r1 r2 r3 r4 fr0 fr1 fr2 fr3 fr4;obtain ⟨⟨k1,k2,q1,q2⟩,⟨n1,m1⟩,⟨n0,n2,n3,n4⟩,fr,⟨r0,r1,r2,r3,r4⟩⟩:=hC4.look;have fr0:=fr 0;have fr1:=fr 1;have fr2:=fr 2;have fr3:=fr 3;have fr4:=fr 4;clear fr;simp only at k1 k2;have HC4:=Aside0.mk hC4;clear hS4 hK4 hC4)
                 | ((with_reducible refine u3b (b:=.append) (xs:=#[.tmp 69,.tmp 73]) rfl ?_);at_builtin;have hCz:=HC4.out.move (HC4.out.st.setBad lt) (ua.Kq.set _ _ _ _);refine Kd.R_append (Kd.raw 2) (w0:=w0) w0.heap.size rfl (.tmp 69) (.tmp 73) 145 205 (.agg #[.int .i32 0,.int .i32 0]) 8 rfl Tryz.underlying145 ub.infoSp rfl (by decide) (by decide) _ rows [.int .i32 x,.int .i32 y] [.int .i32 x,.int .i32 y] (fun k => W.heap.size ≤ k) (fun _ => False) rfl (by rw [ub.size_set];rfl) ⟨rfl,rfl,by simp [Value.oneCell']⟩ (fun _ hk => hk.elim) (fun k hk => Nat.le_trans hCz.kq.1 hk) hCz.row hCz.st.below hCz.st.below.size (by omega) ?_;intro v6 W6 hR6 hB6 hg6 hat6;have hp6:=hCz.put0 hg6;have z1:=hp6.1;have z2:=hp6.2;have hc6:=hCz.put hR6 hB6 hg6;obtain ⟨A6,c6,e6⟩:=Kd.R_slice hR6;subst e6;simp only [List.length_append,List.length_cons,List.length_nil,Nat.zero_add] at hc6;have HC6:=Aside0.mk hc6;clear hc6;clear hR6 hB6 hg6 hat6 hCz hp6))
                go_roundg g1
                case rel => exact ⟨⟨a2,lt⟩,_,rows ++ [[.int .i32 x,.int .i32 y]],HC6,⟨by rw [show decide ((rows ++ [[Value.int .i32 x,Value.int .i32 y]]).length = 0) = false by simp];exact HRM1.out⟩,⟨H205.out.1,fun h9 => ⟨(H205.out.2 h9).2,by have h8:=(H205.out.2 h9).1;have h7:=HAT3.out.2;(try simp only at h8);show l.length + 1 ≤ g1 + a2;omega⟩⟩,by rw [List.length_append,List.length_singleton];omega⟩
                case measure => omega
            · have hb45:(p1 == 45) = false:=beq_eq_false_iff_ne.2 h45
              have HHI:Aside0 (ub.hi l x ⟨a1,false⟩ = (x,⟨a1,false⟩)):=⟨by unfold ub.hi;rw [if_neg (by rintro ⟨_,h9⟩;rw [hp1.out] at h9;exact h45 h9)]⟩
              clear h45
              have HSZ:Aside0 (ub.span l ⟨ca,false⟩ = ⟨a1,false⟩):=⟨by rw [hsp.out,HHI.out];simp⟩
              rw [HSZ.out] at HRM1 H205
              go_wp2_with (first
               | (go_at_call 125;(with_reducible refine (ua.calls w0 _ g gp l _ HCL.out.st).mono ?_);rintro e w' ⟨rfl,nq,rfl⟩;rw [hp.out];have HCq:=Aside0.mk (HCL.out.move (HCL.out.st.drew nq) (ua.Kq.below (uh (Below.refl _ _) nq) g)))
               | (go_at_call 151;(with_reducible refine (ue.calls w0 _ g gp l _ HCq.out.st (by simp only;omega)).mono ?_);rintro e w2 ⟨rfl,hS2,hK2⟩;rw [hx.out];rw [hs1.out] at hS2;have hC2:=HCq.out.move hS2 hK2;clear k1 k2 q1 q2 n0 n1 n2 n3 n4 m1 r0 r1 r2 r3 r4 fr0 fr1 fr2 fr3 fr4;obtain ⟨⟨k1,k2,q1,q2⟩,⟨n1,m1⟩,⟨n0,n2,n3,n4⟩,fr,⟨r0,r1,r2,r3,r4⟩⟩:=hC2.look;have fr0:=fr 0;have fr1:=fr 1;have fr2:=fr 2;have fr3:=fr 3;have fr4:=fr 4;clear fr;simp only at k1 k2;have HC2:=Aside0.mk hC2;clear hS2 hK2 hC2)
               | (go_at_call 125;(with_reducible refine (ua.calls w0 _ g gp l _ HC2.out.st).mono ?_);rintro e w' ⟨rfl,nq2,rfl⟩;rw [hp1.out];have HC3:=Aside0.mk (HC2.out.move (HC2.out.st.drew nq2) (ua.Kq.below (uh (Below.refl _ _) nq2) g)))
               | ((with_reducible refine u3b (b:=.append) (xs:=#[.tmp 69,.tmp 73]) rfl ?_);at_builtin;have hCz:=HC3.out.move (HC3.out.st.setBad false) (ua.Kq.set _ _ _ _);refine Kd.R_append (Kd.raw 2) (w0:=w0) w0.heap.size rfl (.tmp 69) (.tmp 73) 145 205 (.agg #[.int .i32 0,.int .i32 0]) 8 rfl Tryz.underlying145 ub.infoSp rfl (by decide) (by decide) _ rows [.int .i32 x,.int .i32 x] [.int .i32 x,.int .i32 x] (fun k => W.heap.size ≤ k) (fun _ => False) rfl (by rw [ub.size_set];rfl) ⟨rfl,rfl,by simp [Value.oneCell']⟩ (fun _ hk => hk.elim) (fun k hk => Nat.le_trans hCz.kq.1 hk) hCz.row hCz.st.below hCz.st.below.size (by omega) ?_;intro v6 W6 hR6 hB6 hg6 hat6;have hp6:=hCz.put0 hg6;have z1:=hp6.1;have z2:=hp6.2;have hc6:=hCz.put hR6 hB6 hg6;obtain ⟨A6,c6,e6⟩:=Kd.R_slice hR6;subst e6;simp only [List.length_append,List.length_cons,List.length_nil,Nat.zero_add] at hc6;have HC6:=Aside0.mk hc6;clear hc6;clear hR6 hB6 hg6 hat6 hCz hp6))
              go_roundg g1
              case rel => exact ⟨⟨a1,false⟩,_,rows ++ [[.int .i32 x,.int .i32 x]],HC6,⟨by rw [show decide ((rows ++ [[Value.int .i32 x,Value.int .i32 x]]).length = 0) = false by simp];exact HRM1.out⟩,⟨H205.out.1,fun h9 => ⟨(H205.out.2 h9).2,by have h8:=(H205.out.2 h9).1;have h7:=HAT3.out.2;(try simp only at h8);show l.length + 1 ≤ g1 + a1;omega⟩⟩,by rw [List.length_append,List.length_singleton];omega⟩
              case measure => omega
 | false =>
   have hb0:(p0 == 94) = false:=by simpa using hneg
   have HI:Aside0 (ub.in0 l s = s):=⟨by unfold ub.in0 ub.neg;rw [hp0.out,hneg];rfl⟩
   have HRS:Aside0 (ub.loopM l (l.length + 2) true s = R):=⟨by rw [← hR.out,HI.out]⟩
   have HAT:Aside0 (s.at_ ≤ l.length + 1 ∧ (s.bad = false → s.at_ ≤ l.length ∧ l.length + 1 ≤ l.length + 2 + s.at_)):=⟨by omega,fun _ => by omega⟩
   clear hneg
   go_enter Tryz.func146,Tryz.ntmps146
   go_wp2_with (go_at_call 125;rw [hWa.out,hWb.out];(with_reducible refine (ua.calls w0 Wb g gp l s CL0.out.st).mono ?_);rintro e w' ⟨rfl,nq,rfl⟩;rw [hp0.out];have CLS:=Aside0.mk (CL0.out.move (CL0.out.st.drew nq) (ua.Kq.below (uh (Below.refl _ _) nq) g)))
   skip
   go_loopg [] (l.length + 2) (fun kq wr => ∃ (cur:ub.RS) (vl:Value) (rows:List (List Value)),Aside0 (ub.Cl w0 W wr g gp (W.heap.size + 1) W.heap.size l cur false vl rows) ∧ Aside0 (ub.loopM l kq (decide (rows.length = 0)) cur = R) ∧ Aside0 (cur.at_ ≤ l.length + 1 ∧ (cur.bad = false → cur.at_ ≤ l.length ∧ l.length + 1 ≤ kq + cur.at_)) ∧ rows.length + kq ≤ l.length + 2)
   case atStart => exact ⟨_,_,[],CLS,⟨HRS.out⟩,HAT,by simp⟩
   case round =>
    obtain ⟨cur,vl,rows,HCL,HRM,HAT2,hrk⟩:=hrel
    obtain ⟨⟨k1,k2,q1,q2⟩,⟨n1,m1⟩,⟨n0,n2,n3,n4⟩,fr,⟨r0,r1,r2,r3,r4⟩⟩:=HCL.out.look
    have fr0:=fr 0
    have fr1:=fr 1
    have fr2:=fr 2
    have fr3:=fr 3
    have fr4:=fr 4
    clear fr
    obtain ⟨Av,cv,ev⟩:=Kd.R_slice HCL.out.row
    subst ev
    obtain ⟨p,hp⟩:∃ p,Aside0 (ua.pk l cur = p):=⟨_,⟨rfl⟩⟩
    obtain ⟨ca,cb⟩:=cur
    simp only at k1 k2
    have hca:ca ≤ 10001:=by have:=HAT2.out.1;simp only at this;omega
    cases cb with
    | true =>
      clear HAT2
      have HFIN:Aside0 (R = ⟨ca,true⟩):=⟨by rw [← HRM.out];exact ub.stop (by rintro ⟨h9,_⟩;cases h9)⟩
      go_wp2
      refine bodyPost_ret (v:=.agg #[.int .i64 2,.slice Av rows.length cv,.bool false,.int .i32 0,.slice none 0 0]) (by simp [results,Tryz.results146,go_sem,r0,r1,r2,r3,r4,ng2,ng4]) rfl ⟨⟨_,rfl,_,_,_,_,_,_,_,_,_,rfl⟩,?_⟩
      rw [HFIN.out]
      exact (HCL.out.move HCL.out.st.up (ua.Kq.set _ _ _ _)).fini _ _ _ _ _
    | false =>
      by_cases hgo:p = 93 ∧ ¬ rows.length = 0
      · obtain ⟨rfl,h0⟩:=hgo
        have hn0:((rows.length:Int) == 0) = false:=beq_eq_false_iff_ne.2 (by omega)
        have hn1:(rows.length == 0) = false:=beq_eq_false_iff_ne.2 (by omega)
        have HFIN:Aside0 (R = ⟨ca,false⟩):=⟨by rw [← HRM.out];exact ub.stop (by rintro ⟨_,h9 | h9⟩;exact h9 hp.out;simp only [decide_eq_true_eq] at h9;exact h0 h9)⟩
        go_wp2_with (go_at_call 125;(with_reducible refine (ua.calls w0 _ g gp l _ HCL.out.st).mono ?_);rintro e w' ⟨rfl,nq,rfl⟩;rw [hp.out])
        refine bodyPost_ret (v:=.agg #[.int .i64 2,.slice Av rows.length cv,.bool false,.int .i32 0,.slice none 0 0]) (by simp [results,Tryz.results146,go_sem,r0,r1,r2,r3,r4,ng2,ng4]) rfl ⟨⟨_,rfl,_,_,_,_,_,_,_,_,_,rfl⟩,?_⟩
        rw [HFIN.out]
        exact (HCL.out.move (HCL.out.st.drew nq).up ((ua.Kq.below (uh (Below.refl _ _) nq) g).trans (ua.Kq.set _ _ _ _))).fini _ _ _ _ _
      · have HGO:Aside0 (p ≠ 93 ∨ decide (rows.length = 0) = true):=⟨by
         rcases Classical.em (p = 93) with h9 | h9
         · right
           refine decide_eq_true (Classical.byContradiction fun h8 => hgo ⟨h9,h8⟩)
         · exact Or.inl h9⟩
        obtain ⟨x,hx⟩:∃ x,Aside0 ((ue.mem l ⟨ca,false⟩).1 = x):=⟨_,⟨rfl⟩⟩
        obtain ⟨a1,b1,hs1⟩:∃ a1 b1,Aside0 ((ue.mem l ⟨ca,false⟩).2 = ⟨a1,b1⟩):=⟨_,_,⟨rfl⟩⟩
        have H205:=Aside0.mk (ub.span_prog l ⟨ca,false⟩ (HAT2.out.2 rfl).1)
        have HM1:=Aside0.mk (ub.mem_prog l ⟨ca,false⟩ (HAT2.out.2 rfl).1)
        rw [hs1.out] at HM1
        have ha1:a1 ≤ 10001:=by have:=HM1.out.1;simp only at this;omega
        have hsp:Aside0 (ub.span l ⟨ca,false⟩ = ⟨(ub.hi l x ⟨a1,b1⟩).2.at_,(ub.hi l x ⟨a1,b1⟩).2.bad || decide ((ub.hi l x ⟨a1,b1⟩).1 < x)⟩):=⟨by unfold ub.span;rw [hx.out,hs1.out]⟩
        obtain ⟨g1,rfl⟩:∃ g1,gk = g1 + 1:=⟨gk - 1,by have:=HAT2.out.2 rfl;simp only at this;omega⟩
        have HRM1:Aside0 (ub.loopM l g1 false (ub.span l ⟨ca,false⟩) = R):=⟨by rw [← HRM.out];exact (ub.goes ⟨rfl,by rw [hp.out];exact HGO.out⟩).symm⟩
        have HAT3:Aside0 (ca ≤ l.length ∧ l.length + 1 ≤ g1 + 1 + ca):=⟨HAT2.out.2 rfl⟩
        clear HRM
        by_cases h93:p = 93
        · have hz0:rows.length = 0:=Classical.byContradiction fun h8 => hgo ⟨h93,h8⟩
          have hz1:((rows.length:Int) == 0) = true:=beq_iff_eq.2 (by omega)
          have hz2:(rows.length == 0) = true:=beq_iff_eq.2 hz0
          have hz3:(p == 93) = true:=beq_iff_eq.2 h93
          have hz4:(p != 93) = false:=bne_eq_false_iff_eq.2 h93
          have HZ0:=Aside0.mk hz0
          have hrl:rows.length ≤ l.length + 2:=by omega
          clear hgo h93 hz0
          cases b1 with
          | true =>
            have HSZ:Aside0 (ub.span l ⟨ca,false⟩ = ⟨a1,true⟩):=⟨by rw [hsp.out];unfold ub.hi;rw [if_neg (by rintro ⟨h9,_⟩;cases h9)];rfl⟩
            rw [HSZ.out] at HRM1 H205
            go_wp2_with (first
             | (go_at_call 125;(with_reducible refine (ua.calls w0 _ g gp l _ HCL.out.st).mono ?_);rintro e w' ⟨rfl,nq,rfl⟩;rw [hp.out];have HCq:=Aside0.mk (HCL.out.move (HCL.out.st.drew nq) (ua.Kq.below (uh (Below.refl _ _) nq) g)))
             | (go_at_call 151;(with_reducible refine (ue.calls w0 _ g gp l _ HCq.out.st (by simp only;omega)).mono ?_);rintro e w2 ⟨rfl,hS2,hK2⟩;rw [hx.out];rw [hs1.out] at hS2;have hC2:=HCq.out.move hS2 hK2;clear k1 k2 q1 q2 n0 n1 n2 n3 n4 m1 r0 r1 r2 r3 r4 fr0 fr1 fr2 fr3 fr4;obtain ⟨⟨k1,k2,q1,q2⟩,⟨n1,m1⟩,⟨n0,n2,n3,n4⟩,fr,⟨r0,r1,r2,r3,r4⟩⟩:=hC2.look;have fr0:=fr 0;have fr1:=fr 1;have fr2:=fr 2;have fr3:=fr 3;have fr4:=fr 4;clear fr;simp only at k1 k2;have HC2:=Aside0.mk hC2;clear hS2 hK2 hC2)
             | ((with_reducible refine u3b (b:=.append) (xs:=#[.tmp 69,.tmp 73]) rfl ?_);at_builtin;have hCz:=HC2.out.move (HC2.out.st.setBad true) (ua.Kq.set _ _ _ _);refine Kd.R_append (Kd.raw 2) (w0:=w0) w0.heap.size rfl (.tmp 69) (.tmp 73) 145 205 (.agg #[.int .i32 0,.int .i32 0]) 8 rfl Tryz.underlying145 ub.infoSp rfl (by decide) (by decide) _ rows [.int .i32 x,.int .i32 x] [.int .i32 x,.int .i32 x] (fun k => W.heap.size ≤ k) (fun _ => False) rfl (by rw [ub.size_set];rfl) ⟨rfl,rfl,by simp [Value.oneCell']⟩ (fun _ hk => hk.elim) (fun k hk => Nat.le_trans hCz.kq.1 hk) hCz.row hCz.st.below hCz.st.below.size (by omega) ?_;intro v6 W6 hR6 hB6 hg6 hat6;have hp6:=hCz.put0 hg6;have z1:=hp6.1;have z2:=hp6.2;have hc6:=hCz.put hR6 hB6 hg6;obtain ⟨A6,c6,e6⟩:=Kd.R_slice hR6;subst e6;simp only [List.length_append,List.length_cons,List.length_nil,Nat.zero_add] at hc6;have HC6:=Aside0.mk hc6;clear hc6;clear hR6 hB6 hg6 hat6 hCz hp6))
            go_roundg g1
            case rel => exact ⟨⟨a1,true⟩,_,rows ++ [[.int .i32 x,.int .i32 x]],HC6,⟨by rw [show decide ((rows ++ [[Value.int .i32 x,Value.int .i32 x]]).length = 0) = false by simp];exact HRM1.out⟩,⟨H205.out.1,fun h9 => ⟨(H205.out.2 h9).2,by have h8:=(H205.out.2 h9).1;have h7:=HAT3.out.2;(try simp only at h8);show l.length + 1 ≤ g1 + a1;omega⟩⟩,by rw [List.length_append,List.length_singleton];omega⟩
            case measure => omega
          | false =>
            obtain ⟨p1,hp1⟩:∃ p1,Aside0 (ua.pk l ⟨a1,false⟩ = p1):=⟨_,⟨rfl⟩⟩
            by_cases h45:p1 = 45
            · have hb45:(p1 == 45) = true:=beq_iff_eq.2 h45
              have HHI:Aside0 (ub.hi l x ⟨a1,false⟩ = ue.mem l ⟨a1 + 1,false⟩):=⟨by unfold ub.hi;rw [if_pos ⟨rfl,by rw [hp1.out];exact h45⟩]⟩
              obtain ⟨y,hy⟩:∃ y,Aside0 ((ue.mem l ⟨a1 + 1,false⟩).1 = y):=⟨_,⟨rfl⟩⟩
              obtain ⟨a2,b2,hs2⟩:∃ a2 b2,Aside0 ((ue.mem l ⟨a1 + 1,false⟩).2 = ⟨a2,b2⟩):=⟨_,_,⟨rfl⟩⟩
              obtain ⟨lt,hlt⟩:∃ lt,decide (y < x) = lt:=⟨_,rfl⟩
              have HLT:=Aside0.mk hlt
              clear h45
              cases b2 with
              | true =>
                have HSZ:Aside0 (ub.span l ⟨ca,false⟩ = ⟨a2,true⟩):=⟨by rw [hsp.out,HHI.out,hs2.out];rfl⟩
                rw [HSZ.out] at HRM1 H205
                go_wp2_with (first
                 | (go_at_call 125;(with_reducible refine (ua.calls w0 _ g gp l _ HCL.out.st).mono ?_);rintro e w' ⟨rfl,nq,rfl⟩;rw [hp.out];have HCq:=Aside0.mk (HCL.out.move (HCL.out.st.drew nq) (ua.Kq.below (uh (Below.refl _ _) nq) g)))
                 | (go_at_call 151;(with_reducible refine (ue.calls w0 _ g gp l _ HCq.out.st (by simp only;omega)).mono ?_);rintro e w2 ⟨rfl,hS2,hK2⟩;rw [hx.out];rw [hs1.out] at hS2;have hC2:=HCq.out.move hS2 hK2;clear k1 k2 q1 q2 n0 n1 n2 n3 n4 m1 r0 r1 r2 r3 r4 fr0 fr1 fr2 fr3 fr4;obtain ⟨⟨k1,k2,q1,q2⟩,⟨n1,m1⟩,⟨n0,n2,n3,n4⟩,fr,⟨r0,r1,r2,r3,r4⟩⟩:=hC2.look;have fr0:=fr 0;have fr1:=fr 1;have fr2:=fr 2;have fr3:=fr 3;have fr4:=fr 4;clear fr;simp only at k1 k2;have HC2:=Aside0.mk hC2;clear hS2 hK2 hC2)
                 | (go_at_call 125;(with_reducible refine (ua.calls w0 _ g gp l _ HC2.out.st).mono ?_);rintro e w' ⟨rfl,nq2,rfl⟩;rw [hp1.out];have HC3:=Aside0.mk (HC2.out.move (HC2.out.st.drew nq2) (ua.Kq.below (uh (Below.refl _ _) nq2) g)))
                 | (go_at_call 151;(with_reducible refine (ue.calls w0 _ g gp l ⟨a1 + 1,false⟩ HC3.out.st.up (by simp only;omega)).mono ?_);rintro e w4 ⟨rfl,hS4,hK4⟩;rw [hy.out];rw [hs2.out] at hS4;have hC4:=HC3.out.move hS4 ((ua.Kq.set _ _ _ _).trans hK4);clear k1 k2 q1 q2 n0 n1 n2 n3 n4 m1 r0 r1 r2 r3 r4 fr0 fr1 fr2 fr3 fr4;obtain ⟨⟨k1,k2,q1,q2⟩,⟨n1,m1⟩,⟨n0,n2,n3,n4⟩,fr,⟨r0,r1,r2,r3,r4⟩⟩:=hC4.look;have fr0:=fr 0;have fr1:=fr 1;have fr2:=fr 2;have fr3:=fr 3;have fr4:=fr 4;clear fr;simp only at k1 k2;have HC4:=Aside0.mk hC4;clear hS4 hK4 hC4)
                 | ((with_reducible refine u3b (b:=.append) (xs:=#[.tmp 69,.tmp 73]) rfl ?_);at_builtin;have hCz:=HC4.out.move (HC4.out.st.setBad true) (ua.Kq.set _ _ _ _);refine Kd.R_append (Kd.raw 2) (w0:=w0) w0.heap.size rfl (.tmp 69) (.tmp 73) 145 205 (.agg #[.int .i32 0,.int .i32 0]) 8 rfl Tryz.underlying145 ub.infoSp rfl (by decide) (by decide) _ rows [.int .i32 x,.int .i32 y] [.int .i32 x,.int .i32 y] (fun k => W.heap.size ≤ k) (fun _ => False) rfl (by rw [ub.size_set];rfl) ⟨rfl,rfl,by simp [Value.oneCell']⟩ (fun _ hk => hk.elim) (fun k hk => Nat.le_trans hCz.kq.1 hk) hCz.row hCz.st.below hCz.st.below.size (by omega) ?_;intro v6 W6 hR6 hB6 hg6 hat6;have hp6:=hCz.put0 hg6;have z1:=hp6.1;have z2:=hp6.2;have hc6:=hCz.put hR6 hB6 hg6;obtain ⟨A6,c6,e6⟩:=Kd.R_slice hR6;subst e6;simp only [List.length_append,List.length_cons,List.length_nil,Nat.zero_add] at hc6;have HC6:=Aside0.mk hc6;clear hc6;clear hR6 hB6 hg6 hat6 hCz hp6))
                go_roundg g1
                case rel => exact ⟨⟨a2,true⟩,_,rows ++ [[.int .i32 x,.int .i32 y]],HC6,⟨by rw [show decide ((rows ++ [[Value.int .i32 x,Value.int .i32 y]]).length = 0) = false by simp];exact HRM1.out⟩,⟨H205.out.1,fun h9 => ⟨(H205.out.2 h9).2,by have h8:=(H205.out.2 h9).1;have h7:=HAT3.out.2;(try simp only at h8);show l.length + 1 ≤ g1 + a2;omega⟩⟩,by rw [List.length_append,List.length_singleton];omega⟩
                case measure => omega
              | false =>
                have HSZ:Aside0 (ub.span l ⟨ca,false⟩ = ⟨a2,lt⟩):=⟨by rw [hsp.out,HHI.out,hs2.out,hy.out,HLT.out];rfl⟩
                rw [HSZ.out] at HRM1 H205
                go_wp2_with (first
                 | (go_at_call 125;(with_reducible refine (ua.calls w0 _ g gp l _ HCL.out.st).mono ?_);rintro e w' ⟨rfl,nq,rfl⟩;rw [hp.out];have HCq:=Aside0.mk (HCL.out.move (HCL.out.st.drew nq) (ua.Kq.below (uh (Below.refl _ _) nq) g)))
                 | (go_at_call 151;(with_reducible refine (ue.calls w0 _ g gp l _ HCq.out.st (by simp only;omega)).mono ?_);rintro e w2 ⟨rfl,hS2,hK2⟩;rw [hx.out];rw [hs1.out] at hS2;have hC2:=HCq.out.move hS2 hK2;clear k1 k2 q1 q2 n0 n1 n2 n3 n4 m1 r0 r1 r2 r3 r4 fr0 fr1 fr2 fr3 fr4;obtain ⟨⟨k1,k2,q1,q2⟩,⟨n1,m1⟩,⟨n0,n2,n3,n4⟩,fr,⟨r0,r1,r2,r3,r4⟩⟩:=hC2.look;have fr0:=fr 0;have fr1:=fr 1;have fr2:=fr 2;have fr3:=fr 3;have fr4:=fr 4;clear fr;simp only at k1 k2;have HC2:=Aside0.mk hC2;clear hS2 hK2 hC2)
                 | (go_at_call 125;(with_reducible refine (ua.calls w0 _ g gp l _ HC2.out.st).mono ?_);rintro e w' ⟨rfl,nq2,rfl⟩;rw [hp1.out];have HC3:=Aside0.mk (HC2.out.move (HC2.out.st.drew nq2) (ua.Kq.below (uh (Below.refl _ _) nq2) g)))
                 | (go_at_call 151;(with_reducible refine (ue.calls w0 _ g gp l ⟨a1 + 1,false⟩ HC3.out.st.up (by simp only;omega)).mono ?_);rintro e w4 ⟨rfl,hS4,hK4⟩;rw [hy.out];rw [hs2.out] at hS4;have hC4:=HC3.out.move hS4 ((ua.Kq.set _ _ _ _).trans hK4);clear k1 k2 q1 q2 n0 n1 n2 n3 n4 m1 r0 r1 r2 r3 r4 fr0 fr1 fr2 fr3 fr4;obtain ⟨⟨k1,k2,q1,q2⟩,⟨n1,m1⟩,⟨n0,n2,n3,n4⟩,fr,⟨r0,r1,r2,r3,r4⟩⟩:=hC4.look;have fr0:=fr 0;have fr1:=fr 1;have fr2:=fr 2;have fr3:=fr 3;have fr4:=fr 4;clear fr;simp only at k1 k2;have HC4:=Aside0.mk hC4;clear hS4 hK4 hC4)
                 | ((with_reducible refine u3b (b:=.append) (xs:=#[.tmp 69,.tmp 73]) rfl ?_);at_builtin;have hCz:=HC4.out.move (HC4.out.st.setBad lt) (ua.Kq.set _ _ _ _);refine Kd.R_append (Kd.raw 2) (w0:=w0) w0.heap.size rfl (.tmp 69) (.tmp 73) 145 205 (.agg #[.int .i32 0,.int .i32 0]) 8 rfl Tryz.underlying145 ub.infoSp rfl (by decide) (by decide) _ rows [.int .i32 x,.int .i32 y] [.int .i32 x,.int .i32 y] (fun k => W.heap.size ≤ k) (fun _ => False) rfl (by rw [ub.size_set];rfl) ⟨rfl,rfl,by simp [Value.oneCell']⟩ (fun _ hk => hk.elim) (fun k hk => Nat.le_trans hCz.kq.1 hk) hCz.row hCz.st.below hCz.st.below.size (by omega) ?_;intro v6 W6 hR6 hB6 hg6 hat6;have hp6:=hCz.put0 hg6;have z1:=hp6.1;have z2:=hp6.2;have hc6:=hCz.put hR6 hB6 hg6;obtain ⟨A6,c6,e6⟩:=Kd.R_slice hR6;subst e6;simp only [List.length_append,List.length_cons,List.length_nil,Nat.zero_add] at hc6;have HC6:=Aside0.mk hc6;clear hc6;clear hR6 hB6 hg6 hat6 hCz hp6))
                go_roundg g1
                case rel => exact ⟨⟨a2,lt⟩,_,rows ++ [[.int .i32 x,.int .i32 y]],HC6,⟨by rw [show decide ((rows ++ [[Value.int .i32 x,Value.int .i32 y]]).length = 0) = false by simp];exact HRM1.out⟩,⟨H205.out.1,fun h9 => ⟨(H205.out.2 h9).2,by have h8:=(H205.out.2 h9).1;have h7:=HAT3.out.2;(try simp only at h8);show l.length + 1 ≤ g1 + a2;omega⟩⟩,by rw [List.length_append,List.length_singleton];omega⟩
                case measure => omega
            · have hb45:(p1 == 45) = false:=beq_eq_false_iff_ne.2 h45
              have HHI:Aside0 (ub.hi l x ⟨a1,false⟩ = (x,⟨a1,false⟩)):=⟨by unfold ub.hi;rw [if_neg (by rintro ⟨_,h9⟩;rw [hp1.out] at h9;exact h45 h9)]⟩
              clear h45
              have HSZ:Aside0 (ub.span l ⟨ca,false⟩ = ⟨a1,false⟩):=⟨by rw [hsp.out,HHI.out];simp⟩
              rw [HSZ.out] at HRM1 H205
              go_wp2_with (first
               | (go_at_call 125;(with_reducible refine (ua.calls w0 _ g gp l _ HCL.out.st).mono ?_);rintro e w' ⟨rfl,nq,rfl⟩;rw [hp.out];have HCq:=Aside0.mk (HCL.out.move (HCL.out.st.drew nq) (ua.Kq.below (uh (Below.refl _ _) nq) g)))
               | (go_at_call 151;(with_reducible refine (ue.calls w0 _ g gp l _ HCq.out.st (by simp only;omega)).mono ?_);rintro e w2 ⟨rfl,hS2,hK2⟩;rw [hx.out];rw [hs1.out] at hS2;have hC2:=HCq.out.move hS2 hK2;clear k1 k2 q1 q2 n0 n1 n2 n3 n4 m1 r0 r1 r2 r3 r4 fr0 fr1 fr2 fr3 fr4;obtain ⟨⟨k1,k2,q1,q2⟩,⟨n1,m1⟩,⟨n0,n2,n3,n4⟩,fr,⟨r0,r1,r2,r3,r4⟩⟩:=hC2.look;have fr0:=fr 0;have fr1:=fr 1;have fr2:=fr 2;have fr3:=fr 3;have fr4:=fr 4;clear fr;simp only at k1 k2;have HC2:=Aside0.mk hC2;clear hS2 hK2 hC2)
               | (go_at_call 125;(with_reducible refine (ua.calls w0 _ g gp l _ HC2.out.st).mono ?_);rintro e w' ⟨rfl,nq2,rfl⟩;rw [hp1.out];have HC3:=Aside0.mk (HC2.out.move (HC2.out.st.drew nq2) (ua.Kq.below (uh (Below.refl _ _) nq2) g)))
               | ((with_reducible refine u3b (b:=.append) (xs:=#[.tmp 69,.tmp 73]) rfl ?_);at_builtin;have hCz:=HC3.out.move (HC3.out.st.setBad false) (ua.Kq.set _ _ _ _);refine Kd.R_append (Kd.raw 2) (w0:=w0) w0.heap.size rfl (.tmp 69) (.tmp 73) 145 205 (.agg #[.int .i32 0,.int .i32 0]) 8 rfl Tryz.underlying145 ub.infoSp rfl (by decide) (by decide) _ rows [.int .i32 x,.int .i32 x] [.int .i32 x,.int .i32 x] (fun k => W.heap.size ≤ k) (fun _ => False) rfl (by rw [ub.size_set];rfl) ⟨rfl,rfl,by simp [Value.oneCell']⟩ (fun _ hk => hk.elim) (fun k hk => Nat.le_trans hCz.kq.1 hk) hCz.row hCz.st.below hCz.st.below.size (by omega) ?_;intro v6 W6 hR6 hB6 hg6 hat6;have hp6:=hCz.put0 hg6;have z1:=hp6.1;have z2:=hp6.2;have hc6:=hCz.put hR6 hB6 hg6;obtain ⟨A6,c6,e6⟩:=Kd.R_slice hR6;subst e6;simp only [List.length_append,List.length_cons,List.length_nil,Nat.zero_add] at hc6;have HC6:=Aside0.mk hc6;clear hc6;clear hR6 hB6 hg6 hat6 hCz hp6))
              go_roundg g1
              case rel => exact ⟨⟨a1,false⟩,_,rows ++ [[.int .i32 x,.int .i32 x]],HC6,⟨by rw [show decide ((rows ++ [[Value.int .i32 x,Value.int .i32 x]]).length = 0) = false by simp];exact HRM1.out⟩,⟨H205.out.1,fun h9 => ⟨(H205.out.2 h9).2,by have h8:=(H205.out.2 h9).1;have h7:=HAT3.out.2;(try simp only at h8);show l.length + 1 ≤ g1 + a1;omega⟩⟩,by rw [List.length_append,List.length_singleton];omega⟩
              case measure => omega
        · have hz3:(p == 93) = false:=beq_eq_false_iff_ne.2 h93
          have hz4:(p != 93) = true:=bne_iff_ne.2 h93
          clear hgo h93
          cases b1 with
          | true =>
            have HSZ:Aside0 (ub.span l ⟨ca,false⟩ = ⟨a1,true⟩):=⟨by rw [hsp.out];unfold ub.hi;rw [if_neg (by rintro ⟨h9,_⟩;cases h9)];rfl⟩
            rw [HSZ.out] at HRM1 H205
            go_wp2_with (first
             | (go_at_call 125;(with_reducible refine (ua.calls w0 _ g gp l _ HCL.out.st).mono ?_);rintro e w' ⟨rfl,nq,rfl⟩;rw [hp.out];have HCq:=Aside0.mk (HCL.out.move (HCL.out.st.drew nq) (ua.Kq.below (uh (Below.refl _ _) nq) g)))
             | (go_at_call 151;(with_reducible refine (ue.calls w0 _ g gp l _ HCq.out.st (by simp only;omega)).mono ?_);rintro e w2 ⟨rfl,hS2,hK2⟩;rw [hx.out];rw [hs1.out] at hS2;have hC2:=HCq.out.move hS2 hK2;clear k1 k2 q1 q2 n0 n1 n2 n3 n4 m1 r0 r1 r2 r3 r4 fr0 fr1 fr2 fr3 fr4;obtain ⟨⟨k1,k2,q1,q2⟩,⟨n1,m1⟩,⟨n0,n2,n3,n4⟩,fr,⟨r0,r1,r2,r3,r4⟩⟩:=hC2.look;have fr0:=fr 0;have fr1:=fr 1;have fr2:=fr 2;have fr3:=fr 3;have fr4:=fr 4;clear fr;simp only at k1 k2;have HC2:=Aside0.mk hC2;clear hS2 hK2 hC2)
             | ((with_reducible refine u3b (b:=.append) (xs:=#[.tmp 69,.tmp 73]) rfl ?_);at_builtin;have hCz:=HC2.out.move (HC2.out.st.setBad true) (ua.Kq.set _ _ _ _);refine Kd.R_append (Kd.raw 2) (w0:=w0) w0.heap.size rfl (.tmp 69) (.tmp 73) 145 205 (.agg #[.int .i32 0,.int .i32 0]) 8 rfl Tryz.underlying145 ub.infoSp rfl (by decide) (by decide) _ rows [.int .i32 x,.int .i32 x] [.int .i32 x,.int .i32 x] (fun k => W.heap.size ≤ k) (fun _ => False) rfl (by rw [ub.size_set];rfl) ⟨rfl,rfl,by simp [Value.oneCell']⟩ (fun _ hk => hk.elim) (fun k hk => Nat.le_trans hCz.kq.1 hk) hCz.row hCz.st.below hCz.st.below.size (by omega) ?_;intro v6 W6 hR6 hB6 hg6 hat6;have hp6:=hCz.put0 hg6;have z1:=hp6.1;have z2:=hp6.2;have hc6:=hCz.put hR6 hB6 hg6;obtain ⟨A6,c6,e6⟩:=Kd.R_slice hR6;subst e6;simp only [List.length_append,List.length_cons,List.length_nil,Nat.zero_add] at hc6;have HC6:=Aside0.mk hc6;clear hc6;clear hR6 hB6 hg6 hat6 hCz hp6))
            go_roundg g1
            case rel => exact ⟨⟨a1,true⟩,_,rows ++ [[.int .i32 x,.int .i32 x]],HC6,⟨by rw [show decide ((rows ++ [[Value.int .i32 x,Value.int .i32 x]]).length = 0) = false by simp];exact HRM1.out⟩,⟨H205.out.1,fun h9 => ⟨(H205.out.2 h9).2,by have h8:=(H205.out.2 h9).1;have h7:=HAT3.out.2;(try simp only at h8);show l.length + 1 ≤ g1 + a1;omega⟩⟩,by rw [List.length_append,List.length_singleton];omega⟩
            case measure => omega
          | false =>
            obtain ⟨p1,hp1⟩:∃ p1,Aside0 (ua.pk l ⟨a1,false⟩ = p1):=⟨_,⟨rfl⟩⟩
            by_cases h45:p1 = 45
            · have hb45:(p1 == 45) = true:=beq_iff_eq.2 h45
              have HHI:Aside0 (ub.hi l x ⟨a1,false⟩ = ue.mem l ⟨a1 + 1,false⟩):=⟨by unfold ub.hi;rw [if_pos ⟨rfl,by rw [hp1.out];exact h45⟩]⟩
              obtain ⟨y,hy⟩:∃ y,Aside0 ((ue.mem l ⟨a1 + 1,false⟩).1 = y):=⟨_,⟨rfl⟩⟩
              obtain ⟨a2,b2,hs2⟩:∃ a2 b2,Aside0 ((ue.mem l ⟨a1 + 1,false⟩).2 = ⟨a2,b2⟩):=⟨_,_,⟨rfl⟩⟩
              obtain ⟨lt,hlt⟩:∃ lt,decide (y < x) = lt:=⟨_,rfl⟩
              have HLT:=Aside0.mk hlt
              clear h45
              cases b2 with
              | true =>
                have HSZ:Aside0 (ub.span l ⟨ca,false⟩ = ⟨a2,true⟩):=⟨by rw [hsp.out,HHI.out,hs2.out];rfl⟩
                rw [HSZ.out] at HRM1 H205
                go_wp2_with (first
                 | (go_at_call 125;(with_reducible refine (ua.calls w0 _ g gp l _ HCL.out.st).mono ?_);rintro e w' ⟨rfl,nq,rfl⟩;rw [hp.out];have HCq:=Aside0.mk (HCL.out.move (HCL.out.st.drew nq) (ua.Kq.below (uh (Below.refl _ _) nq) g)))
                 | (go_at_call 151;(with_reducible refine (ue.calls w0 _ g gp l _ HCq.out.st (by simp only;omega)).mono ?_);rintro e w2 ⟨rfl,hS2,hK2⟩;rw [hx.out];rw [hs1.out] at hS2;have hC2:=HCq.out.move hS2 hK2;clear k1 k2 q1 q2 n0 n1 n2 n3 n4 m1 r0 r1 r2 r3 r4 fr0 fr1 fr2 fr3 fr4;obtain ⟨⟨k1,k2,q1,q2⟩,⟨n1,m1⟩,⟨n0,n2,n3,n4⟩,fr,⟨r0,r1,r2,r3,r4⟩⟩:=hC2.look;have fr0:=fr 0;have fr1:=fr 1;have fr2:=fr 2;have fr3:=fr 3;have fr4:=fr 4;clear fr;simp only at k1 k2;have HC2:=Aside0.mk hC2;clear hS2 hK2 hC2)
                 | (go_at_call 125;(with_reducible refine (ua.calls w0 _ g gp l _ HC2.out.st).mono ?_);rintro e w' ⟨rfl,nq2,rfl⟩;rw [hp1.out];have HC3:=Aside0.mk (HC2.out.move (HC2.out.st.drew nq2) (ua.Kq.below (uh (Below.refl _ _) nq2) g)))
                 | (go_at_call 151;(with_reducible refine (ue.calls w0 _ g gp l ⟨a1 + 1,false⟩ HC3.out.st.up (by simp only;omega)).mono ?_);rintro e w4 ⟨rfl,hS4,hK4⟩;rw [hy.out];rw [hs2.out] at hS4;have hC4:=HC3.out.move hS4 ((ua.Kq.set _ _ _ _).trans hK4);clear k1 k2 q1 q2 n0 n1 n2 n3 n4 m1 r0 r1 r2 r3 r4 fr0 fr1 fr2 fr3 fr4;obtain ⟨⟨k1,k2,q1,q2⟩,⟨n1,m1⟩,⟨n0,n2,n3,n4⟩,fr,⟨r0,r1,r2,r3,r4⟩⟩:=hC4.look;have fr0:=fr 0;have fr1:=fr 1;have fr2:=fr 2;have fr3:=fr 3;have fr4:=fr 4;clear fr;simp only at k1 k2;have HC4:=Aside0.mk hC4;clear hS4 hK4 hC4)
                 | ((with_reducible refine u3b (b:=.append) (xs:=#[.tmp 69,.tmp 73]) rfl ?_);at_builtin;have hCz:=HC4.out.move (HC4.out.st.setBad true) (ua.Kq.set _ _ _ _);refine Kd.R_append (Kd.raw 2) (w0:=w0) w0.heap.size rfl (.tmp 69) (.tmp 73) 145 205 (.agg #[.int .i32 0,.int .i32 0]) 8 rfl Tryz.underlying145 ub.infoSp rfl (by decide) (by decide) _ rows [.int .i32 x,.int .i32 y] [.int .i32 x,.int .i32 y] (fun k => W.heap.size ≤ k) (fun _ => False) rfl (by rw [ub.size_set];rfl) ⟨rfl,rfl,by simp [Value.oneCell']⟩ (fun _ hk => hk.elim) (fun k hk => Nat.le_trans hCz.kq.1 hk) hCz.row hCz.st.below hCz.st.below.size (by omega) ?_;intro v6 W6 hR6 hB6 hg6 hat6;have hp6:=hCz.put0 hg6;have z1:=hp6.1;have z2:=hp6.2;have hc6:=hCz.put hR6 hB6 hg6;obtain ⟨A6,c6,e6⟩:=Kd.R_slice hR6;subst e6;simp only [List.length_append,List.length_cons,List.length_nil,Nat.zero_add] at hc6;have HC6:=Aside0.mk hc6;clear hc6;clear hR6 hB6 hg6 hat6 hCz hp6))
                go_roundg g1
                case rel => exact ⟨⟨a2,true⟩,_,rows ++ [[.int .i32 x,.int .i32 y]],HC6,⟨by rw [show decide ((rows ++ [[Value.int .i32 x,Value.int .i32 y]]).length = 0) = false by simp];exact HRM1.out⟩,⟨H205.out.1,fun h9 => ⟨(H205.out.2 h9).2,by have h8:=(H205.out.2 h9).1;have h7:=HAT3.out.2;(try simp only at h8);show l.length + 1 ≤ g1 + a2;omega⟩⟩,by rw [List.length_append,List.length_singleton];omega⟩
                case measure => omega
              | false =>
                have HSZ:Aside0 (ub.span l ⟨ca,false⟩ = ⟨a2,lt⟩):=⟨by rw [hsp.out,HHI.out,hs2.out,hy.out,HLT.out];rfl⟩
                rw [HSZ.out] at HRM1 H205
                go_wp2_with (first
                 | (go_at_call 125;(with_reducible refine (ua.calls w0 _ g gp l _ HCL.out.st).mono ?_);rintro e w' ⟨rfl,nq,rfl⟩;rw [hp.out];have HCq:=Aside0.mk (HCL.out.move (HCL.out.st.drew nq) (ua.Kq.below (uh (Below.refl _ _) nq) g)))
                 | (go_at_call 151;(with_reducible refine (ue.calls w0 _ g gp l _ HCq.out.st (by simp only;omega)).mono ?_);rintro e w2 ⟨rfl,hS2,hK2⟩;rw [hx.out];rw [hs1.out] at hS2;have hC2:=HCq.out.move hS2 hK2;clear k1 k2 q1 q2 n0 n1 n2 n3 n4 m1 r0 r1 r2 r3 r4 fr0 fr1 fr2 fr3 fr4;obtain ⟨⟨k1,k2,q1,q2⟩,⟨n1,m1⟩,⟨n0,n2,n3,n4⟩,fr,⟨r0,r1,r2,r3,r4⟩⟩:=hC2.look;have fr0:=fr 0;have fr1:=fr 1;have fr2:=fr 2;have fr3:=fr 3;have fr4:=fr 4;clear fr;simp only at k1 k2;have HC2:=Aside0.mk hC2;clear hS2 hK2 hC2)
                 | (go_at_call 125;(with_reducible refine (ua.calls w0 _ g gp l _ HC2.out.st).mono ?_);rintro e w' ⟨rfl,nq2,rfl⟩;rw [hp1.out];have HC3:=Aside0.mk (HC2.out.move (HC2.out.st.drew nq2) (ua.Kq.below (uh (Below.refl _ _) nq2) g)))
                 | (go_at_call 151;(with_reducible refine (ue.calls w0 _ g gp l ⟨a1 + 1,false⟩ HC3.out.st.up (by simp only;omega)).mono ?_);rintro e w4 ⟨rfl,hS4,hK4⟩;rw [hy.out];rw [hs2.out] at hS4;have hC4:=HC3.out.move hS4 ((ua.Kq.set _ _ _ _).trans hK4);clear k1 k2 q1 q2 n0 n1 n2 n3 n4 m1 r0 r1 r2 r3 r4 fr0 fr1 fr2 fr3 fr4;obtain ⟨⟨k1,k2,q1,q2⟩,⟨n1,m1⟩,⟨n0,n2,n3,n4⟩,fr,⟨r0,r1,r2,r3,r4⟩⟩:=hC4.look;have fr0:=fr 0;have fr1:=fr 1;have fr2:=fr 2;have fr3:=fr 3;have fr4:=fr 4;clear fr;simp only at k1 k2;have HC4:=Aside0.mk hC4;clear hS4 hK4 hC4)
                 | ((with_reducible refine u3b (b:=.append) (xs:=#[.tmp 69,.tmp 73]) rfl ?_);at_builtin;have hCz:=HC4.out.move (HC4.out.st.setBad lt) (ua.Kq.set _ _ _ _);refine Kd.R_append (Kd.raw 2) (w0:=w0) w0.heap.size rfl (.tmp 69) (.tmp 73) 145 205 (.agg #[.int .i32 0,.int .i32 0]) 8 rfl Tryz.underlying145 ub.infoSp rfl (by decide) (by decide) _ rows [.int .i32 x,.int .i32 y] [.int .i32 x,.int .i32 y] (fun k => W.heap.size ≤ k) (fun _ => False) rfl (by rw [ub.size_set];rfl) ⟨rfl,rfl,by simp [Value.oneCell']⟩ (fun _ hk => hk.elim) (fun k hk => Nat.le_trans hCz.kq.1 hk) hCz.row hCz.st.below hCz.st.below.size (by omega) ?_;intro v6 W6 hR6 hB6 hg6 hat6;have hp6:=hCz.put0 hg6;have z1:=hp6.1;have z2:=hp6.2;have hc6:=hCz.put hR6 hB6 hg6;obtain ⟨A6,c6,e6⟩:=Kd.R_slice hR6;subst e6;simp only [List.length_append,List.length_cons,List.length_nil,Nat.zero_add] at hc6;have HC6:=Aside0.mk hc6;clear hc6;clear hR6 hB6 hg6 hat6 hCz hp6))
                go_roundg g1
                case rel => exact ⟨⟨a2,lt⟩,_,rows ++ [[.int .i32 x,.int .i32 y]],HC6,⟨by rw [show decide ((rows ++ [[Value.int .i32 x,Value.int .i32 y]]).length = 0) = false by simp];exact HRM1.out⟩,⟨H205.out.1,fun h9 => ⟨(H205.out.2 h9).2,by have h8:=(H205.out.2 h9).1;have h7:=HAT3.out.2;(try simp only at h8);show l.length + 1 ≤ g1 + a2;omega⟩⟩,by rw [List.length_append,List.length_singleton];omega⟩
                case measure => omega
            · have hb45:(p1 == 45) = false:=beq_eq_false_iff_ne.2 h45
              have HHI:Aside0 (ub.hi l x ⟨a1,false⟩ = (x,⟨a1,false⟩)):=⟨by unfold ub.hi;rw [if_neg (by rintro ⟨_,h9⟩;rw [hp1.out] at h9;exact h45 h9)]⟩
              clear h45
              have HSZ:Aside0 (ub.span l ⟨ca,false⟩ = ⟨a1,false⟩):=⟨by rw [hsp.out,HHI.out];simp⟩
              rw [HSZ.out] at HRM1 H205
              go_wp2_with (first
               | (go_at_call 125;(with_reducible refine (ua.calls w0 _ g gp l _ HCL.out.st).mono ?_);rintro e w' ⟨rfl,nq,rfl⟩;rw [hp.out];have HCq:=Aside0.mk (HCL.out.move (HCL.out.st.drew nq) (ua.Kq.below (uh (Below.refl _ _) nq) g)))
               | (go_at_call 151;(with_reducible refine (ue.calls w0 _ g gp l _ HCq.out.st (by simp only;omega)).mono ?_);rintro e w2 ⟨rfl,hS2,hK2⟩;rw [hx.out];rw [hs1.out] at hS2;have hC2:=HCq.out.move hS2 hK2;clear k1 k2 q1 q2 n0 n1 n2 n3 n4 m1 r0 r1 r2 r3 r4 fr0 fr1 fr2 fr3 fr4;obtain ⟨⟨k1,k2,q1,q2⟩,⟨n1,m1⟩,⟨n0,n2,n3,n4⟩,fr,⟨r0,r1,r2,r3,r4⟩⟩:=hC2.look;have fr0:=fr 0;have fr1:=fr 1;have fr2:=fr 2;have fr3:=fr 3;have fr4:=fr 4;clear fr;simp only at k1 k2;have HC2:=Aside0.mk hC2;clear hS2 hK2 hC2)
               | (go_at_call 125;(with_reducible refine (ua.calls w0 _ g gp l _ HC2.out.st).mono ?_);rintro e w' ⟨rfl,nq2,rfl⟩;rw [hp1.out];have HC3:=Aside0.mk (HC2.out.move (HC2.out.st.drew nq2) (ua.Kq.below (uh (Below.refl _ _) nq2) g)))
               | ((with_reducible refine u3b (b:=.append) (xs:=#[.tmp 69,.tmp 73]) rfl ?_);at_builtin;have hCz:=HC3.out.move (HC3.out.st.setBad false) (ua.Kq.set _ _ _ _);refine Kd.R_append (Kd.raw 2) (w0:=w0) w0.heap.size rfl (.tmp 69) (.tmp 73) 145 205 (.agg #[.int .i32 0,.int .i32 0]) 8 rfl Tryz.underlying145 ub.infoSp rfl (by decide) (by decide) _ rows [.int .i32 x,.int .i32 x] [.int .i32 x,.int .i32 x] (fun k => W.heap.size ≤ k) (fun _ => False) rfl (by rw [ub.size_set];rfl) ⟨rfl,rfl,by simp [Value.oneCell']⟩ (fun _ hk => hk.elim) (fun k hk => Nat.le_trans hCz.kq.1 hk) hCz.row hCz.st.below hCz.st.below.size (by omega) ?_;intro v6 W6 hR6 hB6 hg6 hat6;have hp6:=hCz.put0 hg6;have z1:=hp6.1;have z2:=hp6.2;have hc6:=hCz.put hR6 hB6 hg6;obtain ⟨A6,c6,e6⟩:=Kd.R_slice hR6;subst e6;simp only [List.length_append,List.length_cons,List.length_nil,Nat.zero_add] at hc6;have HC6:=Aside0.mk hc6;clear hc6;clear hR6 hB6 hg6 hat6 hCz hp6))
              go_roundg g1
              case rel => exact ⟨⟨a1,false⟩,_,rows ++ [[.int .i32 x,.int .i32 x]],HC6,⟨by rw [show decide ((rows ++ [[Value.int .i32 x,Value.int .i32 x]]).length = 0) = false by simp];exact HRM1.out⟩,⟨H205.out.1,fun h9 => ⟨(H205.out.2 h9).2,by have h8:=(H205.out.2 h9).1;have h7:=HAT3.out.2;(try simp only at h8);show l.length + 1 ≤ g1 + a1;omega⟩⟩,by rw [List.length_append,List.length_singleton];omega⟩
              case measure => omega
end Go.Proofs.YtgnehcgaplnfkaaGreatDoor.PAll
