/- A text of this seat. -/
import Derived.Test.YtgnehcgaplnfkaaGreatDoorBt1
import Derived.Test.YtgnehcgaplnfkaaGreatDoorBt2
import Derived.Test.YtgnehcgaplnfkaaGreatDoorBt3
import Derived.Test.YtgnehcgaplnfkaaGreatDoorGx51Bt
namespace Go.Proofs.YtgnehcgaplnfkaaGreatDoor.PAll
open Go.RowKit Go.Proofs.YtgnehcgaplnfkaaGreatDoorW.PrintWords Go.Proofs.YtgnehcgaplnfkaaGreatDoorW.PrintLast Go.Proofs.YtgnehcgaplnfkaaGreatDoorW.PrintMore
attribute [local go_sem] u3r u3t u4c u4b u3n u3o u3u u3s   -- for this text's walks alone
set_option linter.unusedVariables false
set_option linter.unusedSimpArgs false
-- uses dryrotref08_reader_peek dryrotref08_reader_member dryrotref08_reader_class dryrotref08_reader_escaped dryrotref08_one dryrotref08_any
def uc.f:Option Int:=none
abbrev uc.RS:=ua.RS
def uc.atomM (l:List Int) (alts:Nat → uc.RS → uc.RS) (d:Nat) (s:uc.RS):uc.RS :=
 if ua.pk l s = 46 then ⟨s.at_ + 1,s.bad⟩
 else if ua.pk l s = 40 then (if 10 ≤ d then ⟨s.at_ + 1,true⟩ else ⟨(alts (d + 1) ⟨s.at_ + 1,s.bad⟩).at_ + 1,(alts (d + 1) ⟨s.at_ + 1,s.bad⟩).bad || decide (ua.pk l (alts (d + 1) ⟨s.at_ + 1,s.bad⟩) ≠ 41)⟩)
 else if ua.pk l s = 91 then ub.cls l ⟨s.at_ + 1,s.bad⟩
 else if ua.pk l s = 92 then (u1j.esc l ⟨s.at_ + 1,s.bad⟩).2
 else ⟨s.at_ + 1,s.bad || ue.mk (ua.pk l s) [42,43,63,124,41,93]⟩
def uc.qual (l:List Int) (s:uc.RS):uc.RS:=if s.bad = false ∧ ue.mk (ua.pk l s) [42,43,63] = true then ⟨s.at_ + 1,s.bad⟩ else s
def uc.N (l:List Int):Nat → Nat → Nat → uc.RS → uc.RS
 | 0,_,_,s => s
 | f + 1,0,d,s => uc.atomM l (fun d' s' => uc.N l f 2 d' s') d s
 | f + 1,1,d,s => if s.bad = false ∧ 0 ≤ ua.pk l s ∧ ue.mk (ua.pk l s) [124,41] = false then uc.N l f 1 d (uc.qual l (uc.N l f 0 d s)) else s
 | f + 1,_ + 2,d,s => if (uc.N l f 1 d s).bad = false ∧ ua.pk l (uc.N l f 1 d s) = 124 then uc.N l f 2 d ⟨(uc.N l f 1 d s).at_ + 1,(uc.N l f 1 d s).bad⟩ else uc.N l f 1 d s
def uc.need (k n:Nat):Nat:=4 * n + 1 + k
theorem uc.N0 (l:List Int) (f d:Nat) (s:uc.RS):uc.N l (f + 1) 0 d s = uc.atomM l (fun d' s' => uc.N l f 2 d' s') d s:=rfl
theorem uc.N1 (l:List Int) (f d:Nat) (s:uc.RS):uc.N l (f + 1) 1 d s = if s.bad = false ∧ 0 ≤ ua.pk l s ∧ ue.mk (ua.pk l s) [124,41] = false then uc.N l f 1 d (uc.qual l (uc.N l f 0 d s)) else s:=rfl
theorem uc.N2 (l:List Int) (f d:Nat) (s:uc.RS):uc.N l (f + 1) 2 d s = if (uc.N l f 1 d s).bad = false ∧ ua.pk l (uc.N l f 1 d s) = 124 then uc.N l f 2 d ⟨(uc.N l f 1 d s).at_ + 1,(uc.N l f 1 d s).bad⟩ else uc.N l f 1 d s:=rfl
theorem uc.cls_at (l:List Int) (s:uc.RS) (h:s.at_ ≤ l.length):s.at_ ≤ (ub.cls l s).at_ ∧ (ub.cls l s).at_ ≤ l.length + 2:=by
 have h0:s.at_ ≤ (ub.in0 l s).at_ ∧ (ub.in0 l s).at_ ≤ l.length:=by
  unfold ub.in0 ub.neg
  split
  · rename_i h1
    have:=ub.pk_lt (l:=l) (s:=s) (by rw [of_decide_eq_true h1];decide)
    exact ⟨by simp only;omega,by simp only;omega⟩
  · exact ⟨Nat.le_refl _,h⟩
 have key:∀ (k:Nat) (first:Bool) (c:uc.RS),c.at_ ≤ l.length + 1 → (c.bad = false → c.at_ ≤ l.length) → c.at_ ≤ (ub.loopM l k first c).at_ ∧ (ub.loopM l k first c).at_ ≤ l.length + 1:=by
  intro k
  induction k with
  | zero => exact fun first c h1 _ => ⟨Nat.le_refl _,h1⟩
  | succ k ih =>
    intro first c h1 h2
    by_cases hc:c.bad = false ∧ (ua.pk l c ≠ 93 ∨ first = true)
    · rw [ub.goes hc]
      have hp:=ub.span_prog l c (h2 hc.1)
      obtain ⟨a,b⟩:=ih false (ub.span l c) hp.1 (fun h9 => (hp.2 h9).2)
      have hge:c.at_ ≤ (ub.span l c).at_:=by
       have m1:=(ub.mem_prog l c (h2 hc.1))
       have m2:=ub.hi_prog l (ue.mem l c).1 (ue.mem l c).2 (by
        cases hb:(ue.mem l c).2.bad with
        | true => exact Or.inr ⟨rfl,m1.1⟩
        | false => exact Or.inl (m1.2.2 hb).2.2)
       exact Nat.le_trans m1.2.1 m2.2.1
      exact ⟨Nat.le_trans hge a,b⟩
    · rw [ub.stop hc]
      exact ⟨Nat.le_refl _,h1⟩
 obtain ⟨a,b⟩:=key (l.length + 2) true (ub.in0 l s) (by omega) (fun _ => h0.2)
 unfold ub.cls
 exact ⟨by simp only;omega,by simp only;omega⟩
theorem uc.N_at (l:List Int):∀ (f k d:Nat) (s:uc.RS),d ≤ 10 → s.at_ ≤ l.length → (k = 0 → s.at_ < l.length) → s.at_ ≤ (uc.N l f k d s).at_ ∧ (uc.N l f k d s).at_ ≤ l.length + 13 - d ∧ (k = 0 → 0 < f → s.at_ < (uc.N l f k d s).at_):=by
 intro f
 induction f with
 | zero => exact fun k d s _ h _ => ⟨Nat.le_refl _,(by show s.at_ ≤ _;omega),fun _ h9 => absurd h9 (by decide)⟩
 | succ f ih =>
   intro k d s hd hs hk
   match k with
   | 0 =>
     have hlt:=hk rfl
     rw [uc.N0]
     unfold uc.atomM
     split
     · exact ⟨by simp only;omega,by simp only;omega,fun _ _ => by simp only;omega⟩
     split
     · split
       · exact ⟨by simp only;omega,by simp only;omega,fun _ _ => by simp only;omega⟩
       · obtain ⟨a,b,_⟩:=ih 2 (d + 1) ⟨s.at_ + 1,s.bad⟩ (by omega) (by simp only;omega) (fun h9 => absurd h9 (by decide))
         simp only at a
         exact ⟨by simp only;omega,by simp only;omega,fun _ _ => by simp only;omega⟩
     split
     · obtain ⟨a,b⟩:=uc.cls_at l ⟨s.at_ + 1,s.bad⟩ (by simp only;omega)
       simp only at a
       exact ⟨by omega,by omega,fun _ _ => by omega⟩
     split
     · unfold u1j.esc
       exact ⟨by simp only;omega,by simp only;omega,fun _ _ => by simp only;omega⟩
     · exact ⟨by simp only;omega,by simp only;omega,fun _ _ => by simp only;omega⟩
   | 1 =>
     rw [uc.N1]
     split
     · rename_i hc
       have hlt:=ub.pk_lt (l:=l) (s:=s) (by omega)
       obtain ⟨a,b,c⟩:=ih 0 d s hd hs (fun _ => hlt)
       have hq:(uc.N l f 0 d s).at_ ≤ (uc.qual l (uc.N l f 0 d s)).at_ ∧ (uc.qual l (uc.N l f 0 d s)).at_ ≤ l.length + 13 - d:=by
        unfold uc.qual
        split
        · rename_i hq
          have hm:(uc.N l f 0 d s).at_ < l.length:=by
           refine ub.pk_lt (l:=l) (fun h9 => ?_)
           have h8:=hq.2
           unfold ue.mk u1g.oneB at h8
           rw [List.any_eq_true] at h8
           obtain ⟨y,hy,he⟩:=h8
           have he:=of_decide_eq_true he
           rw [← he] at h9
           simp at hy
           omega
          exact ⟨by simp only;omega,by simp only;omega⟩
        · exact ⟨Nat.le_refl _,b⟩
       rcases Nat.lt_or_ge l.length (uc.qual l (uc.N l f 0 d s)).at_ with h9 | h9
       · have hst:uc.N l f 1 d (uc.qual l (uc.N l f 0 d s)) = uc.qual l (uc.N l f 0 d s):=by
          cases f with
          | zero => rfl
          | succ f =>
            rw [uc.N1,if_neg]
            rintro ⟨_,h8,_⟩
            have:=ub.pk_lt (l:=l) (s:=uc.qual l (uc.N l (f + 1) 0 d s)) (by omega)
            omega
         rw [hst]
         exact ⟨by omega,hq.2,fun h9 => absurd h9 (by decide)⟩
       · obtain ⟨a2,b2,_⟩:=ih 1 d (uc.qual l (uc.N l f 0 d s)) hd h9 (fun h9 => absurd h9 (by decide))
         exact ⟨by omega,b2,fun h9 => absurd h9 (by decide)⟩
     · exact ⟨Nat.le_refl _,by omega,fun h9 => absurd h9 (by decide)⟩
   | k + 2 =>
     have e:uc.N l (f + 1) (k + 2) d s = uc.N l (f + 1) 2 d s:=rfl
     rw [e,uc.N2]
     obtain ⟨a,b,_⟩:=ih 1 d s hd hs (fun h9 => absurd h9 (by decide))
     split
     · rename_i hc
       have hlt:=ub.pk_lt (l:=l) (s:=uc.N l f 1 d s) (by rw [hc.2];decide)
       obtain ⟨a2,b2,_⟩:=ih 2 d ⟨(uc.N l f 1 d s).at_ + 1,(uc.N l f 1 d s).bad⟩ hd (by simp only;omega) (fun h9 => absurd h9 (by decide))
       simp only at a2
       exact ⟨by omega,b2,fun h9 => absurd h9 (by omega)⟩
     · exact ⟨a,b,fun h9 => absurd h9 (by omega)⟩
def uc.Sp (n k f:Nat):Prop:=∀ (w0 W:World) (g gp:Nat) (l:List Int) (s:uc.RS) (d:Nat),ua.St w0 W g gp l s → d ≤ 10 → l.length ≤ 1000 → s.at_ ≤ l.length → (s.bad = true ∨ uc.need k (l.length - s.at_) ≤ f) → (k = 0 → s.bad = false ∧ s.at_ < l.length) →
    Calls Tryz.prog n #[.pointer (some ⟨g,0,none⟩),.int .i64 d] W fun e W' => (∃ v,e = .returned v ∧ ub.NodeV v) ∧ ua.St w0 W' g gp l (uc.N l f k d s) ∧ ua.Kq W W' g
structure uc.Rs (w0 W wr:World) (g gp gr:Nat) (l:List Int) (s:uc.RS):Prop where
 st:ua.St w0 wr g gp l s
 kq:ua.Kq W wr g
 old:g < W.heap.size
 new:W.heap.size ≤ gr
 low:w0.heap.size ≤ W.heap.size
 res:wr.heap[gr]? = some (.cells ub.zc 148 (0,0))
theorem uc.Rs.move {w0 W wr wr':World} {g gp gr:Nat} {l:List Int} {s s':uc.RS} (h:uc.Rs w0 W wr g gp gr l s) (hS:ua.St w0 wr' g gp l s') (hK:ua.Kq wr wr' g):uc.Rs w0 W wr' g gp gr l s' where
 st:=hS
 kq:=h.kq.trans hK
 old:=h.old
 new:=h.new
 low:=h.low
 res:=(hK.2 gr (u3c h.res) (by have:=h.old;have:=h.new;omega)).trans h.res
theorem uc.Rs.more {w0 W wr wr':World} {g gp gr:Nat} {l:List Int} {s:uc.RS} (h:uc.Rs w0 W wr g gp gr l s) (hB:Below wr.heap.size wr wr'):uc.Rs w0 W wr' g gp gr l s:=h.move (h.st.more hB) (ua.Kq.below hB g)
theorem uc.Rs.look {w0 W wr:World} {g gp gr:Nat} {l:List Int} {s:uc.RS} (h:uc.Rs w0 W wr g gp gr l s) :
 (wr.cell? ⟨g,1,none⟩ = some (.int .i64 (s.at_:Int)) ∧ wr.cell? ⟨g,2,none⟩ = some (.bool s.bad) ∧ wr.frozen? ⟨g,1,none⟩ = false ∧ wr.frozen? ⟨g,2,none⟩ = false) ∧ (∀ i,wr.frozen? ⟨gr,i,none⟩ = false) ∧ (wr.cell? ⟨gr,0,none⟩ = some (.int .i64 0) ∧ wr.cell? ⟨gr,1,none⟩ = some (.slice none 0 0) ∧ wr.cell? ⟨gr,2,none⟩ = some (.bool false) ∧ wr.cell? ⟨gr,3,none⟩ = some (.int .i32 0) ∧ wr.cell? ⟨gr,4,none⟩ = some (.slice none 0 0)):=by
 obtain ⟨A,c,⟨k0,k1,k2⟩,⟨q0,q1,q2⟩,_⟩:=h.st.look
 exact ⟨⟨k1,k2,q1,q2⟩,fun i => ut h.res i,⟨(uk h.res 0).trans rfl,(uk h.res 1).trans rfl,(uk h.res 2).trans rfl,(uk h.res 3).trans rfl,(uk h.res 4).trans rfl⟩⟩
theorem uc.Rs.allo {w0 W wr:World} {g gp gr:Nat} {l:List Int} {s:uc.RS} (h:uc.Rs w0 W wr g gp gr l s) (o:Obj):((wr.alloc o).cell? ⟨gr,0,none⟩ = some (.int .i64 0) ∧ (wr.alloc o).cell? ⟨gr,1,none⟩ = some (.slice none 0 0) ∧ (wr.alloc o).cell? ⟨gr,2,none⟩ = some (.bool false) ∧ (wr.alloc o).cell? ⟨gr,3,none⟩ = some (.int .i32 0) ∧ (wr.alloc o).cell? ⟨gr,4,none⟩ = some (.slice none 0 0)) ∧ (∀ i,(wr.alloc o).frozen? ⟨gr,i,none⟩ = false):=by
 obtain ⟨_,fr,r⟩:=(h.more (uj (Below.refl _ _) o)).look
 exact ⟨r,fr⟩
theorem uc.Rs.fini {w0 W wr:World} {g gp gr:Nat} {l:List Int} {s:uc.RS} (h:uc.Rs w0 W wr g gp gr l s) (a b c d e:Value) :
 ua.St w0 (((((wr.setCell ⟨gr,0,none⟩ a).setCell ⟨gr,1,none⟩ b).setCell ⟨gr,2,none⟩ c).setCell ⟨gr,3,none⟩ d).setCell ⟨gr,4,none⟩ e) g gp l s ∧ ua.Kq W (((((wr.setCell ⟨gr,0,none⟩ a).setCell ⟨gr,1,none⟩ b).setCell ⟨gr,2,none⟩ c).setCell ⟨gr,3,none⟩ d).setCell ⟨gr,4,none⟩ e) g:=by
 have hgg:=h.new
 have hgo:=h.old
 have hlo:=h.low
 have hpn:gp ≠ gr:=by
  obtain ⟨A,c,hb,_,hr⟩:=h.st.cells
  exact hr.ne h.res (by decide)
 have ee:∀ k,k ≠ gr → (((((wr.setCell ⟨gr,0,none⟩ a).setCell ⟨gr,1,none⟩ b).setCell ⟨gr,2,none⟩ c).setCell ⟨gr,3,none⟩ d).setCell ⟨gr,4,none⟩ e).heap[k]? = wr.heap[k]? := fun k hk => by
  rw [Below.heap_setCell _ _ _ _ hk,Below.heap_setCell _ _ _ _ hk,Below.heap_setCell _ _ _ _ hk,Below.heap_setCell _ _ _ _ hk,Below.heap_setCell _ _ _ _ hk]
 refine ⟨h.st.keep (((((h.st.below.setCell (p:=⟨gr,0,none⟩) (by simp only;omega) _).setCell (p:=⟨gr,1,none⟩) (by simp only;omega) _).setCell (p:=⟨gr,2,none⟩) (by simp only;omega) _).setCell (p:=⟨gr,3,none⟩) (by simp only;omega) _).setCell (p:=⟨gr,4,none⟩) (by simp only;omega) _) (fun k hk hor => ?_),⟨by have:=h.kq.1;simpa [World.setCell] using this,fun k hk hne => (ee k (by omega)).trans (h.kq.2 k hk hne)⟩⟩
 rcases hor with rfl | rfl
 · exact ee _ (by omega)
 · exact ee _ hpn
set_option maxHeartbeats 8000000 in
set_option maxRecDepth 20000 in
theorem uc.calls (f:Nat) (hL:uc.Sp 106 2 f):uc.Sp 135 0 (f + 1):=by
 intro w0 W g gp l s d h hd hl hs hneed hk
 obtain ⟨hbad,hlt⟩:=hk rfl
 obtain ⟨a,bad⟩:=s
 simp only at hbad hlt hs hneed
 subst hbad
 have hneed:uc.need 0 (l.length - a) ≤ f + 1:=by
  rcases hneed with h9 | h9
  · cases h9
  · exact h9
 have HND:Aside0 (uc.need 2 (l.length - (a + 1)) ≤ f):=⟨by unfold uc.need at hneed ⊢;omega⟩
 clear hneed hk
 obtain ⟨c,hc⟩:∃ c,Aside0 (ua.pk l ⟨a,false⟩ = c):=⟨_,⟨rfl⟩⟩
 have HN:Aside0 (uc.N l (f + 1) 0 d ⟨a,false⟩ = if c = 46 then ⟨a + 1,false⟩
  else if c = 40 then (if 10 ≤ d then ⟨a + 1,true⟩ else ⟨(uc.N l f 2 (d + 1) ⟨a + 1,false⟩).at_ + 1,(uc.N l f 2 (d + 1) ⟨a + 1,false⟩).bad || decide (ua.pk l (uc.N l f 2 (d + 1) ⟨a + 1,false⟩) ≠ 41)⟩)
  else if c = 91 then ub.cls l ⟨a + 1,false⟩ else if c = 92 then (u1j.esc l ⟨a + 1,false⟩).2 else ⟨a + 1,false || ue.mk c [42,43,63,124,41,93]⟩):=⟨by rw [uc.N0];unfold uc.atomM;rw [hc.out]⟩
 rw [HN.out]
 clear HN
 have HS:=Aside0.mk h
 have hgl:=h.gp_lt.2
 have ng2:W.heap.size ≠ g:=by omega
 have ng4:=ng2.symm
 obtain ⟨W0,hW0⟩:∃ W0,Aside0 (W.alloc (.cells #[.int .i64 0,.slice none 0 0,.bool false,.int .i32 0,.slice none 0 0] 148) = W0):=⟨_,⟨rfl⟩⟩
 have hB0:Below W.heap.size W W0:=by rw [← hW0.out];exact uj (Below.refl _ _) _
 have hX0:W0.heap[W.heap.size]? = some (.cells ub.zc 148 (0,0)):=by rw [← hW0.out];exact u3l _ _
 have hR0:uc.Rs w0 W W0 g gp W.heap.size l ⟨a,false⟩:=⟨h.more hB0,ua.Kq.below hB0 g,hgl,Nat.le_refl _,h.below.size,hX0⟩
 have HR0:=Aside0.mk hR0
 obtain ⟨⟨k1,k2,q1,q2⟩,fr,⟨r0,r1,r2,r3,r4⟩⟩:=hR0.look
 have fr0:=fr 0
 have fr1:=fr 1
 have fr2:=fr 2
 have fr3:=fr 3
 have fr4:=fr 4
 simp only at k1 k2
 have ha:a ≤ 1000:=by omega
 clear fr h hB0 hX0 hR0
 by_cases hcc:c = 46
 · rw [if_pos hcc]
   have t46:(c == 46) = true:=beq_iff_eq.2 hcc
   go_enter Tryz.func135,Tryz.ntmps135
   go_wp2_with (first
    | (go_at_call 125;rw [hW0.out];(with_reducible refine (ua.calls w0 W0 g gp l _ HR0.out.st).mono ?_);rintro e w' ⟨rfl,nq,rfl⟩;rw [hc.out];have HR1:Aside0 (uc.Rs w0 W ((W0.drewN nq).setCell ⟨g,1,none⟩ (.int .i64 ((a:Int) + 1))) g gp W.heap.size l ⟨a + 1,false⟩):=⟨HR0.out.move (HR0.out.st.drew nq).up ((ua.Kq.below (uh (Below.refl _ _) nq) g).trans (ua.Kq.set _ _ _ _))⟩)
    | (go_at_call 145;(with_reducible refine (dryrotref08_any.calls _).mono ?_);rintro e w2 ⟨rfl,hB2⟩;have hC2:=HR1.out.more hB2;clear k1 k2 q1 q2 r0 r1 r2 r3 r4 fr0 fr1 fr2 fr3 fr4;obtain ⟨⟨k1,k2,q1,q2⟩,fr,⟨r0,r1,r2,r3,r4⟩⟩:=hC2.look;have fr0:=fr 0;have fr1:=fr 1;have fr2:=fr 2;have fr3:=fr 3;have fr4:=fr 4;clear fr;simp only at k1 k2;have HC2:=Aside0.mk hC2;clear hB2 hC2))
   refine bodyPost_ret (v:=.agg #[.int .i64 2,.slice none 0 0,.bool true,.int .i32 0,.slice none 0 0]) (by simp [results,Tryz.results135,go_sem,r0,r1,r2,r3,r4,ng2,ng4]) rfl ⟨⟨_,rfl,_,_,_,_,_,_,_,_,_,rfl⟩,?_⟩
   exact (HC2.out).fini _ _ _ _ _
 have n46:=hcc
 rw [if_neg hcc]
 have t46:(c == 46) = false:=beq_eq_false_iff_ne.2 n46
 clear hcc
 by_cases hcc:c = 40
 · rw [if_pos hcc]
   have t40:(c == 40) = true:=beq_iff_eq.2 hcc
   by_cases h10:10 ≤ d
   · rw [if_pos h10]
     have t10:decide ((10:Int) ≤ (d:Int)) = true:=decide_eq_true (by omega)
     have t10b:decide (10 ≤ d) = true:=decide_eq_true h10
     go_enter Tryz.func135,Tryz.ntmps135
     go_wp2_with (first
      | (go_at_call 125;rw [hW0.out];(with_reducible refine (ua.calls w0 W0 g gp l _ HR0.out.st).mono ?_);rintro e w' ⟨rfl,nq,rfl⟩;rw [hc.out];have HR1:Aside0 (uc.Rs w0 W ((W0.drewN nq).setCell ⟨g,1,none⟩ (.int .i64 ((a:Int) + 1))) g gp W.heap.size l ⟨a + 1,false⟩):=⟨HR0.out.move (HR0.out.st.drew nq).up ((ua.Kq.below (uh (Below.refl _ _) nq) g).trans (ua.Kq.set _ _ _ _))⟩))
     refine bodyPost_ret (v:=.agg #[.int .i64 0,.slice none 0 0,.bool false,.int .i32 0,.slice none 0 0]) (by simp [results,Tryz.results135,go_sem,r0,r1,r2,r3,r4,ng2,ng4]) rfl ⟨⟨_,rfl,_,_,_,_,_,_,_,_,_,rfl⟩,?_⟩
     exact (HR1.out.move (HR1.out.st.setBad true) (ua.Kq.set _ _ _ _)).fini _ _ _ _ _
   · rw [if_neg h10]
     have t10:decide ((10:Int) ≤ (d:Int)) = false:=decide_eq_false (by omega)
     have t10b:decide (10 ≤ d) = false:=decide_eq_false h10
     obtain ⟨a2,b2,hs2⟩:∃ a2 b2,Aside0 (uc.N l f 2 (d + 1) ⟨a + 1,false⟩ = ⟨a2,b2⟩):=⟨_,_,⟨rfl⟩⟩
     obtain ⟨c2,hc2⟩:∃ c2,Aside0 (ua.pk l ⟨a2,b2⟩ = c2):=⟨_,⟨rfl⟩⟩
     have ha2:a2 ≤ 2000:=by have:=(uc.N_at l f 2 (d + 1) ⟨a + 1,false⟩ (by omega) (by simp only;omega) (fun h9 => absurd h9 (by decide))).2.1;rw [hs2.out] at this;simp only at this;omega
     have hd1:((d:Int) + 1) = ((d + 1:Nat):Int):=by omega
     have HLA:Aside0 (∀ W',ua.St w0 W' g gp l ⟨a + 1,false⟩ → Calls Tryz.prog 106 #[.pointer (some ⟨g,0,none⟩),.int .i64 ((d:Int) + 1)] W' fun e W2 => (∃ v,e = .returned v ∧ ub.NodeV v) ∧ ua.St w0 W2 g gp l ⟨a2,b2⟩ ∧ ua.Kq W' W2 g):=⟨fun W' hW' => by
      have h9:=hL w0 W' g gp l ⟨a + 1,false⟩ (d + 1) hW' (by omega) hl (by simp only;omega) (Or.inr HND.out) (fun h9 => absurd h9 (by decide))
      rw [hs2.out] at h9
      rw [hd1]
      exact h9⟩
     rw [hs2.out]
     clear hd1
     simp only [hc2.out]
     by_cases h41:c2 = 41
     · have t41:(c2 != 41) = false:=bne_eq_false_iff_eq.2 h41
       rw [show (b2 || decide (c2 ≠ 41)) = b2 by simp [h41]]
       clear h41 hcc
       go_enter Tryz.func135,Tryz.ntmps135
       go_wp2_with (first
        | (go_at_call 125;rw [hW0.out];(with_reducible refine (ua.calls w0 W0 g gp l _ HR0.out.st).mono ?_);rintro e w' ⟨rfl,nq,rfl⟩;rw [hc.out];have HR1:Aside0 (uc.Rs w0 W ((W0.drewN nq).setCell ⟨g,1,none⟩ (.int .i64 ((a:Int) + 1))) g gp W.heap.size l ⟨a + 1,false⟩):=⟨HR0.out.move (HR0.out.st.drew nq).up ((ua.Kq.below (uh (Below.refl _ _) nq) g).trans (ua.Kq.set _ _ _ _))⟩)
        | (go_at_call 106;(with_reducible refine (HLA.out _ HR1.out.st).mono ?_);rintro e w2 ⟨⟨_,rfl,xk,xA,xn,xc,xb,xo,xB,xm,xd,rfl⟩,hS2,hK2⟩;have hC2:=HR1.out.move hS2 hK2;have HC2:=Aside0.mk hC2;obtain ⟨W3,hW3⟩:∃ W3,Aside0 (w2.alloc (.cells #[.int .i64 xk,.slice xA xn xc,.bool xb,.int .i32 xo,.slice xB xm xd] 148) = W3):=⟨_,⟨rfl⟩⟩;have hB3:Below w2.heap.size w2 W3:=(by rw [← hW3.out];exact uj (Below.refl _ _) _);have hx3:W3.heap[w2.heap.size]? = some (.cells #[.int .i64 xk,.slice xA xn xc,.bool xb,.int .i32 xo,.slice xB xm xd] 148 (0,0)):=(by rw [← hW3.out];exact u3l _ _);have y0:=(uk hx3 0).trans (show (#[.int .i64 xk,.slice xA xn xc,.bool xb,.int .i32 xo,.slice xB xm xd]:Array Value)[0]? = some (.int .i64 xk) from rfl);have y1:=(uk hx3 1).trans (show (#[.int .i64 xk,.slice xA xn xc,.bool xb,.int .i32 xo,.slice xB xm xd]:Array Value)[1]? = some (.slice xA xn xc) from rfl);have y2:=(uk hx3 2).trans (show (#[.int .i64 xk,.slice xA xn xc,.bool xb,.int .i32 xo,.slice xB xm xd]:Array Value)[2]? = some (.bool xb) from rfl);have y3:=(uk hx3 3).trans (show (#[.int .i64 xk,.slice xA xn xc,.bool xb,.int .i32 xo,.slice xB xm xd]:Array Value)[3]? = some (.int .i32 xo) from rfl);have y4:=(uk hx3 4).trans (show (#[.int .i64 xk,.slice xA xn xc,.bool xb,.int .i32 xo,.slice xB xm xd]:Array Value)[4]? = some (.slice xB xm xd) from rfl);have ng5:w2.heap.size ≠ g:=(by have:=hC2.kq.1;omega);have ng6:=ng5.symm;have ng7:w2.heap.size ≠ W.heap.size:=(by have:=u3c hC2.res;omega);have ng8:=ng7.symm;have hC3:=hC2.more hB3;clear k1 k2 q1 q2 r0 r1 r2 r3 r4 fr0 fr1 fr2 fr3 fr4;obtain ⟨⟨k1,k2,q1,q2⟩,fr,⟨r0,r1,r2,r3,r4⟩⟩:=hC3.look;have fr0:=fr 0;have fr1:=fr 1;have fr2:=fr 2;have fr3:=fr 3;have fr4:=fr 4;clear fr;simp only at k1 k2;have HC3:=Aside0.mk hC3;clear hS2 hK2 hC2 hB3 hx3 hC3)
        | (go_at_call 125;rw [hW3.out];(with_reducible refine (ua.calls w0 W3 g gp l _ HC3.out.st).mono ?_);rintro e w' ⟨rfl,nq2,rfl⟩;rw [hc2.out];have HC4:=Aside0.mk (HC3.out.move (HC3.out.st.drew nq2) (ua.Kq.below (uh (Below.refl _ _) nq2) g))))
       refine bodyPost_ret (v:=.agg #[.int .i64 xk,.slice xA xn xc,.bool xb,.int .i32 xo,.slice xB xm xd]) (by simp [results,Tryz.results135,go_sem,r0,r1,r2,r3,r4,ng2,ng4]) rfl ⟨⟨_,rfl,_,_,_,_,_,_,_,_,_,rfl⟩,?_⟩
       exact (HC4.out.move HC4.out.st.up (ua.Kq.set _ _ _ _)).fini _ _ _ _ _
     · have t41:(c2 != 41) = true:=bne_iff_ne.2 h41
       rw [show (b2 || decide (c2 ≠ 41)) = true by simp [h41]]
       clear h41 hcc
       go_enter Tryz.func135,Tryz.ntmps135
       go_wp2_with (first
        | (go_at_call 125;rw [hW0.out];(with_reducible refine (ua.calls w0 W0 g gp l _ HR0.out.st).mono ?_);rintro e w' ⟨rfl,nq,rfl⟩;rw [hc.out];have HR1:Aside0 (uc.Rs w0 W ((W0.drewN nq).setCell ⟨g,1,none⟩ (.int .i64 ((a:Int) + 1))) g gp W.heap.size l ⟨a + 1,false⟩):=⟨HR0.out.move (HR0.out.st.drew nq).up ((ua.Kq.below (uh (Below.refl _ _) nq) g).trans (ua.Kq.set _ _ _ _))⟩)
        | (go_at_call 106;(with_reducible refine (HLA.out _ HR1.out.st).mono ?_);rintro e w2 ⟨⟨_,rfl,xk,xA,xn,xc,xb,xo,xB,xm,xd,rfl⟩,hS2,hK2⟩;have hC2:=HR1.out.move hS2 hK2;have HC2:=Aside0.mk hC2;obtain ⟨W3,hW3⟩:∃ W3,Aside0 (w2.alloc (.cells #[.int .i64 xk,.slice xA xn xc,.bool xb,.int .i32 xo,.slice xB xm xd] 148) = W3):=⟨_,⟨rfl⟩⟩;have hB3:Below w2.heap.size w2 W3:=(by rw [← hW3.out];exact uj (Below.refl _ _) _);have hx3:W3.heap[w2.heap.size]? = some (.cells #[.int .i64 xk,.slice xA xn xc,.bool xb,.int .i32 xo,.slice xB xm xd] 148 (0,0)):=(by rw [← hW3.out];exact u3l _ _);have y0:=(uk hx3 0).trans (show (#[.int .i64 xk,.slice xA xn xc,.bool xb,.int .i32 xo,.slice xB xm xd]:Array Value)[0]? = some (.int .i64 xk) from rfl);have y1:=(uk hx3 1).trans (show (#[.int .i64 xk,.slice xA xn xc,.bool xb,.int .i32 xo,.slice xB xm xd]:Array Value)[1]? = some (.slice xA xn xc) from rfl);have y2:=(uk hx3 2).trans (show (#[.int .i64 xk,.slice xA xn xc,.bool xb,.int .i32 xo,.slice xB xm xd]:Array Value)[2]? = some (.bool xb) from rfl);have y3:=(uk hx3 3).trans (show (#[.int .i64 xk,.slice xA xn xc,.bool xb,.int .i32 xo,.slice xB xm xd]:Array Value)[3]? = some (.int .i32 xo) from rfl);have y4:=(uk hx3 4).trans (show (#[.int .i64 xk,.slice xA xn xc,.bool xb,.int .i32 xo,.slice xB xm xd]:Array Value)[4]? = some (.slice xB xm xd) from rfl);have ng5:w2.heap.size ≠ g:=(by have:=hC2.kq.1;omega);have ng6:=ng5.symm;have ng7:w2.heap.size ≠ W.heap.size:=(by have:=u3c hC2.res;omega);have ng8:=ng7.symm;have hC3:=hC2.more hB3;clear k1 k2 q1 q2 r0 r1 r2 r3 r4 fr0 fr1 fr2 fr3 fr4;obtain ⟨⟨k1,k2,q1,q2⟩,fr,⟨r0,r1,r2,r3,r4⟩⟩:=hC3.look;have fr0:=fr 0;have fr1:=fr 1;have fr2:=fr 2;have fr3:=fr 3;have fr4:=fr 4;clear fr;simp only at k1 k2;have HC3:=Aside0.mk hC3;clear hS2 hK2 hC2 hB3 hx3 hC3)
        | (go_at_call 125;rw [hW3.out];(with_reducible refine (ua.calls w0 W3 g gp l _ HC3.out.st).mono ?_);rintro e w' ⟨rfl,nq2,rfl⟩;rw [hc2.out];have HC4:=Aside0.mk (HC3.out.move (HC3.out.st.drew nq2) (ua.Kq.below (uh (Below.refl _ _) nq2) g))))
       refine bodyPost_ret (v:=.agg #[.int .i64 xk,.slice xA xn xc,.bool xb,.int .i32 xo,.slice xB xm xd]) (by simp [results,Tryz.results135,go_sem,r0,r1,r2,r3,r4,ng2,ng4]) rfl ⟨⟨_,rfl,_,_,_,_,_,_,_,_,_,rfl⟩,?_⟩
       exact ((HC4.out.move (HC4.out.st.setBad true) (ua.Kq.set _ _ _ _)).move ((HC4.out.st.setBad true).up) (ua.Kq.set _ _ _ _)).fini _ _ _ _ _
 have n40:=hcc
 rw [if_neg hcc]
 have t40:(c == 40) = false:=beq_eq_false_iff_ne.2 n40
 clear hcc
 by_cases hcc:c = 91
 · rw [if_pos hcc]
   have t91:(c == 91) = true:=beq_iff_eq.2 hcc
   go_enter Tryz.func135,Tryz.ntmps135
   go_wp2_with (first
    | (go_at_call 125;rw [hW0.out];(with_reducible refine (ua.calls w0 W0 g gp l _ HR0.out.st).mono ?_);rintro e w' ⟨rfl,nq,rfl⟩;rw [hc.out];have HR1:Aside0 (uc.Rs w0 W ((W0.drewN nq).setCell ⟨g,1,none⟩ (.int .i64 ((a:Int) + 1))) g gp W.heap.size l ⟨a + 1,false⟩):=⟨HR0.out.move (HR0.out.st.drew nq).up ((ua.Kq.below (uh (Below.refl _ _) nq) g).trans (ua.Kq.set _ _ _ _))⟩)
    | (go_at_call 146;(with_reducible refine (ub.calls w0 _ g gp l ⟨a + 1,false⟩ HR1.out.st (by omega) (by simp only;omega)).mono ?_);rintro e w2 ⟨⟨_,rfl,xk,xA,xn,xc,xb,xo,xB,xm,xd,rfl⟩,hS2,hK2⟩;have hC2:=HR1.out.move hS2 hK2;clear k1 k2 q1 q2 r0 r1 r2 r3 r4 fr0 fr1 fr2 fr3 fr4;obtain ⟨_,fr,⟨r0,r1,r2,r3,r4⟩⟩:=hC2.look;have fr0:=fr 0;have fr1:=fr 1;have fr2:=fr 2;have fr3:=fr 3;have fr4:=fr 4;clear fr;have HC2:=Aside0.mk hC2;clear hS2 hK2 hC2))
   refine bodyPost_ret (v:=.agg #[.int .i64 xk,.slice xA xn xc,.bool xb,.int .i32 xo,.slice xB xm xd]) (by simp [results,Tryz.results135,go_sem,r0,r1,r2,r3,r4,ng2,ng4]) rfl ⟨⟨_,rfl,_,_,_,_,_,_,_,_,_,rfl⟩,?_⟩
   exact (HC2.out).fini _ _ _ _ _
 have n91:=hcc
 rw [if_neg hcc]
 have t91:(c == 91) = false:=beq_eq_false_iff_ne.2 n91
 clear hcc
 by_cases hcc:c = 92
 · rw [if_pos hcc]
   have t92:(c == 92) = true:=beq_iff_eq.2 hcc
   obtain ⟨c2,hc2⟩:∃ c2,Aside0 ((u1j.esc l ⟨a + 1,false⟩).1 = c2):=⟨_,⟨rfl⟩⟩
   obtain ⟨a2,b2,hs2⟩:∃ a2 b2,Aside0 ((u1j.esc l ⟨a + 1,false⟩).2 = ⟨a2,b2⟩):=⟨_,_,⟨rfl⟩⟩
   rw [hs2.out]
   go_enter Tryz.func135,Tryz.ntmps135
   go_wp2_with (first
    | (go_at_call 125;rw [hW0.out];(with_reducible refine (ua.calls w0 W0 g gp l _ HR0.out.st).mono ?_);rintro e w' ⟨rfl,nq,rfl⟩;rw [hc.out];have HR1:Aside0 (uc.Rs w0 W ((W0.drewN nq).setCell ⟨g,1,none⟩ (.int .i64 ((a:Int) + 1))) g gp W.heap.size l ⟨a + 1,false⟩):=⟨HR0.out.move (HR0.out.st.drew nq).up ((ua.Kq.below (uh (Below.refl _ _) nq) g).trans (ua.Kq.set _ _ _ _))⟩)
    | (go_at_call 147;(with_reducible refine (u1j.calls w0 _ g gp l ⟨a + 1,false⟩ HR1.out.st (by simp only;omega)).mono ?_);rintro e w2 ⟨rfl,hS2,hK2⟩;rw [hc2.out];rw [hs2.out] at hS2;have hC2:=HR1.out.move hS2 hK2;clear k1 k2 q1 q2 r0 r1 r2 r3 r4 fr0 fr1 fr2 fr3 fr4;obtain ⟨⟨k1,k2,q1,q2⟩,fr,⟨r0,r1,r2,r3,r4⟩⟩:=hC2.look;have fr0:=fr 0;have fr1:=fr 1;have fr2:=fr 2;have fr3:=fr 3;have fr4:=fr 4;clear fr;simp only at k1 k2;have al0:=fun o => (hC2.allo o).1.1;have al1:=fun o => (hC2.allo o).1.2.1;have al2:=fun o => (hC2.allo o).1.2.2.1;have al3:=fun o => (hC2.allo o).1.2.2.2.1;have al4:=fun o => (hC2.allo o).1.2.2.2.2;have af0:=fun o => (hC2.allo o).2 0;have af1:=fun o => (hC2.allo o).2 1;have af2:=fun o => (hC2.allo o).2 2;have af3:=fun o => (hC2.allo o).2 3;have af4:=fun o => (hC2.allo o).2 4;have HC2:=Aside0.mk hC2;clear hS2 hK2 hC2))
   refine bodyPost_ret (v:=.agg #[.int .i64 1,.slice (some ⟨w2.heap.size,0,none⟩) 1 1,.bool false,.int .i32 0,.slice none 0 0]) (by simp [results,Tryz.results135,go_sem,al0,al1,al2,al3,al4,r0,r1,r2,r3,r4,ng2,ng4]) rfl ⟨⟨_,rfl,_,_,_,_,_,_,_,_,_,rfl⟩,?_⟩
   exact (HC2.out.more (uj (Below.refl _ _) (.cells #[.int .i32 c2,.int .i32 c2] 205))).fini _ _ _ _ _
 have n92:=hcc
 rw [if_neg hcc]
 have t92:(c == 92) = false:=beq_eq_false_iff_ne.2 n92
 clear hcc
 obtain ⟨b,hb⟩:∃ b,Aside0 (ue.mk c [42,43,63,124,41,93] = b):=⟨_,⟨rfl⟩⟩
 have HO:Aside0 (u1g.f c ⟨#[42,43,63,124,41,93]⟩ = some b):=⟨by rw [ue.marks (show Base.runesOf (⟨#[42,43,63,124,41,93]⟩:ByteArray) = [42,43,63,124,41,93] by kernel_rfl),hb.out]⟩
 rw [hb.out]
 cases b with
 | true =>
   go_enter Tryz.func135,Tryz.ntmps135
   go_wp2_with (first
    | (go_at_call 125;rw [hW0.out];(with_reducible refine (ua.calls w0 W0 g gp l _ HR0.out.st).mono ?_);rintro e w' ⟨rfl,nq,rfl⟩;rw [hc.out];have HR1:Aside0 (uc.Rs w0 W ((W0.drewN nq).setCell ⟨g,1,none⟩ (.int .i64 ((a:Int) + 1))) g gp W.heap.size l ⟨a + 1,false⟩):=⟨HR0.out.move (HR0.out.st.drew nq).up ((ua.Kq.below (uh (Below.refl _ _) nq) g).trans (ua.Kq.set _ _ _ _))⟩)
    | (go_at_call 105;(with_reducible refine (u1g.calls c ⟨#[42,43,63,124,41,93]⟩ true _ HO.out).mono ?_);rintro e w2 ⟨rfl,hB2⟩;have hC2:=HR1.out.more hB2;clear k1 k2 q1 q2 r0 r1 r2 r3 r4 fr0 fr1 fr2 fr3 fr4;obtain ⟨⟨k1,k2,q1,q2⟩,fr,⟨r0,r1,r2,r3,r4⟩⟩:=hC2.look;have fr0:=fr 0;have fr1:=fr 1;have fr2:=fr 2;have fr3:=fr 3;have fr4:=fr 4;clear fr;simp only at k1 k2;have hC2b:=hC2.move (hC2.st.setBad true) (ua.Kq.set _ _ _ _);have al0:=fun o => (hC2b.allo o).1.1;have al1:=fun o => (hC2b.allo o).1.2.1;have al2:=fun o => (hC2b.allo o).1.2.2.1;have al3:=fun o => (hC2b.allo o).1.2.2.2.1;have al4:=fun o => (hC2b.allo o).1.2.2.2.2;have af0:=fun o => (hC2b.allo o).2 0;have af1:=fun o => (hC2b.allo o).2 1;have af2:=fun o => (hC2b.allo o).2 2;have af3:=fun o => (hC2b.allo o).2 3;have af4:=fun o => (hC2b.allo o).2 4;have HC2:=Aside0.mk hC2;clear hB2 hC2 hC2b))
   refine bodyPost_ret (v:=.agg #[.int .i64 1,.slice (some ⟨w2.heap.size,0,none⟩) 1 1,.bool false,.int .i32 0,.slice none 0 0]) (by simp [results,Tryz.results135,go_sem,al0,al1,al2,al3,al4,r0,r1,r2,r3,r4,ng2,ng4]) rfl ⟨⟨_,rfl,_,_,_,_,_,_,_,_,_,rfl⟩,?_⟩
   exact ((HC2.out.move (HC2.out.st.setBad true) (ua.Kq.set _ _ _ _)).more (uj (Below.refl _ _) (.cells #[.int .i32 c,.int .i32 c] 205))).fini _ _ _ _ _
 | false =>
   go_enter Tryz.func135,Tryz.ntmps135
   go_wp2_with (first
    | (go_at_call 125;rw [hW0.out];(with_reducible refine (ua.calls w0 W0 g gp l _ HR0.out.st).mono ?_);rintro e w' ⟨rfl,nq,rfl⟩;rw [hc.out];have HR1:Aside0 (uc.Rs w0 W ((W0.drewN nq).setCell ⟨g,1,none⟩ (.int .i64 ((a:Int) + 1))) g gp W.heap.size l ⟨a + 1,false⟩):=⟨HR0.out.move (HR0.out.st.drew nq).up ((ua.Kq.below (uh (Below.refl _ _) nq) g).trans (ua.Kq.set _ _ _ _))⟩)
    | (go_at_call 105;(with_reducible refine (u1g.calls c ⟨#[42,43,63,124,41,93]⟩ false _ HO.out).mono ?_);rintro e w2 ⟨rfl,hB2⟩;have hC2:=HR1.out.more hB2;clear k1 k2 q1 q2 r0 r1 r2 r3 r4 fr0 fr1 fr2 fr3 fr4;obtain ⟨⟨k1,k2,q1,q2⟩,fr,⟨r0,r1,r2,r3,r4⟩⟩:=hC2.look;have fr0:=fr 0;have fr1:=fr 1;have fr2:=fr 2;have fr3:=fr 3;have fr4:=fr 4;clear fr;simp only at k1 k2;have hC2b:=hC2;have al0:=fun o => (hC2b.allo o).1.1;have al1:=fun o => (hC2b.allo o).1.2.1;have al2:=fun o => (hC2b.allo o).1.2.2.1;have al3:=fun o => (hC2b.allo o).1.2.2.2.1;have al4:=fun o => (hC2b.allo o).1.2.2.2.2;have af0:=fun o => (hC2b.allo o).2 0;have af1:=fun o => (hC2b.allo o).2 1;have af2:=fun o => (hC2b.allo o).2 2;have af3:=fun o => (hC2b.allo o).2 3;have af4:=fun o => (hC2b.allo o).2 4;have HC2:=Aside0.mk hC2;clear hB2 hC2 hC2b))
   refine bodyPost_ret (v:=.agg #[.int .i64 1,.slice (some ⟨w2.heap.size,0,none⟩) 1 1,.bool false,.int .i32 0,.slice none 0 0]) (by simp [results,Tryz.results135,go_sem,al0,al1,al2,al3,al4,r0,r1,r2,r3,r4,ng2,ng4]) rfl ⟨⟨_,rfl,_,_,_,_,_,_,_,_,_,rfl⟩,?_⟩
   exact (HC2.out.more (uj (Below.refl _ _) (.cells #[.int .i32 c,.int .i32 c] 205))).fini _ _ _ _ _
end Go.Proofs.YtgnehcgaplnfkaaGreatDoor.PAll
