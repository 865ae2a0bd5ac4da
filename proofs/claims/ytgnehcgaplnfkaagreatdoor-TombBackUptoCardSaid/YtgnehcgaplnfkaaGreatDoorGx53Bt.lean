/- A text of this seat. -/
import Derived.Test.YtgnehcgaplnfkaaGreatDoorBt1
import Derived.Test.YtgnehcgaplnfkaaGreatDoorBt2
import Derived.Test.YtgnehcgaplnfkaaGreatDoorBt3
import Derived.Test.YtgnehcgaplnfkaaGreatDoorGx51Bt
import Derived.Test.YtgnehcgaplnfkaaGreatDoorGx52Bt
namespace Go.Proofs.YtgnehcgaplnfkaaGreatDoor.PAll
open Go.RowKit Go.Proofs.YtgnehcgaplnfkaaGreatDoorW.PrintWords Go.Proofs.YtgnehcgaplnfkaaGreatDoorW.PrintLast Go.Proofs.YtgnehcgaplnfkaaGreatDoorW.PrintMore
attribute [local go_sem] u3r u3t u4c u4b u3n u3o u3u u3s   -- for this text's walks alone
set_option linter.unusedVariables false
set_option linter.unusedSimpArgs false
-- uses dryrotref08_reader_peek dryrotref08_reader_member dryrotref08_reader_class dryrotref08_reader_atom dryrotref08_one
def um.f:Option Int:=none
abbrev um.RS:=ua.RS
structure um.Pn (w0 W wr:World) (g gp gn gr:Nat) (l:List Int) (s:um.RS) (kd:Int) (vk:Value) (rows:List (List Value)):Prop where
 st:ua.St w0 wr g gp l s
 kq:ua.Kq W wr g
 old:g < W.heap.size
 new:W.heap.size ≤ gn ∧ W.heap.size ≤ gr ∧ gn ≠ gr
 low:w0.heap.size ≤ W.heap.size
 node:wr.heap[gn]? = some (.cells #[.int .i64 kd,.slice none 0 0,.bool false,.int .i32 0,vk] 148 (0,0))
 res:wr.heap[gr]? = some (.cells ub.zc 148 (0,0))
 row:Kd.R (Kd.raw 5) 148 wr w0.heap.size (fun k => W.heap.size ≤ k ∧ k ≠ gn ∧ k ≠ gr) vk rows
section
variable {w0 W wr wr':World} {g gp gn gr:Nat} {l:List Int} {s s':um.RS} {kd:Int} {vk v1:Value} {rows:List (List Value)}
theorem um.Pn.move (h:um.Pn w0 W wr g gp gn gr l s kd vk rows) (hS:ua.St w0 wr' g gp l s') (hK:ua.Kq wr wr' g):um.Pn w0 W wr' g gp gn gr l s' kd vk rows where
 st:=hS
 kq:=h.kq.trans hK
 old:=h.old
 new:=h.new
 low:=h.low
 node:=(hK.2 gn (u3c h.node) (by have:=h.old;have:=h.new;omega)).trans h.node
 res:=(hK.2 gr (u3c h.res) (by have:=h.old;have:=h.new;omega)).trans h.res
 row:=Kd.R_step h.row (fun k hk hlt => hK.2 k hlt (by have:=h.old;have:=hk.1;omega))
theorem um.Pn.more (h:um.Pn w0 W wr g gp gn gr l s kd vk rows) (hB:Below wr.heap.size wr wr'):um.Pn w0 W wr' g gp gn gr l s kd vk rows:=h.move (h.st.more hB) (ua.Kq.below hB g)
theorem um.Pn.gp_ne (h:um.Pn w0 W wr g gp gn gr l s kd vk rows) {gx:Nat} {cs:Array Value} (hx:wr.heap[gx]? = some (.cells cs 148 (0,0))):gp ≠ gx:=by
 obtain ⟨A,c,hb,_,hr⟩:=h.st.cells
 exact hr.ne hx (by decide)
theorem um.Pn.far (h:um.Pn w0 W wr g gp gn gr l s kd vk rows) {gx:Nat} {cs:Array Value} (hx:wr.heap[gx]? = some (.cells cs 148 (0,0))) (h1:gx ≠ g) (h2:gx ≠ gn) (h3:gx ≠ gr) (h5:vk.ownBlock ≠ some gx) (h6:W.heap.size ≤ gx) (i:Nat) (u:Value):um.Pn w0 W (wr.setCell ⟨gx,i,none⟩ u) g gp gn gr l s kd vk rows:=by
 have e:∀ k,k ≠ gx → (wr.setCell ⟨gx,i,none⟩ u).heap[k]? = wr.heap[k]? := fun k hk => Below.heap_setCell wr ⟨gx,i,none⟩ u k hk
 have hgp:=h.gp_ne hx
 exact {
  st:=h.st.keep (h.st.below.setCell (by have:=h.low;simp only;omega) _) (fun k hk hor => by
   rcases hor with rfl | rfl
   · exact e _ (Ne.symm h1)
   · exact e _ hgp)
  kq:=⟨by have:=h.kq.1;simpa [World.setCell] using this,fun k hk hne => (e k (by omega)).trans (h.kq.2 k hk hne)⟩
  old:=h.old
  new:=h.new
  low:=h.low
  node:=(e gn (Ne.symm h2)).trans h.node
  res:=(e gr (Ne.symm h3)).trans h.res
  row:=Kd.R_mono (Kd.R_move (Kd.raw_tight h.row) (fun k hk => e k (fun he => h5 (by rw [← he];exact hk.symm)))) (fun k hk => h.row.1 k hk.symm) }
theorem um.Pn.five (h:um.Pn w0 W wr g gp gn gr l s kd vk rows) {gx:Nat} {cs:Array Value} (hx:wr.heap[gx]? = some (.cells cs 148 (0,0))) (h1:gx ≠ g) (h2:gx ≠ gn) (h3:gx ≠ gr) (h5:vk.ownBlock ≠ some gx) (h6:W.heap.size ≤ gx) (a b c d e:Value):um.Pn w0 W (((((wr.setCell ⟨gx,0,none⟩ a).setCell ⟨gx,1,none⟩ b).setCell ⟨gx,2,none⟩ c).setCell ⟨gx,3,none⟩ d).setCell ⟨gx,4,none⟩ e) g gp gn gr l s kd vk rows:=by
 have f1:=h.far hx h1 h2 h3 h5 h6 0 a
 have x1:=u4f hx 0 a
 have f2:=f1.far x1 h1 h2 h3 h5 h6 1 b
 have x2:=u4f x1 1 b
 have f3:=f2.far x2 h1 h2 h3 h5 h6 2 c
 have x3:=u4f x2 2 c
 have f4:=f3.far x3 h1 h2 h3 h5 h6 3 d
 have x4:=u4f x3 3 d
 exact f4.far x4 h1 h2 h3 h5 h6 4 e
theorem um.Pn.look (h:um.Pn w0 W wr g gp gn gr l s kd vk rows) :
 (wr.cell? ⟨g,1,none⟩ = some (.int .i64 (s.at_:Int)) ∧ wr.cell? ⟨g,2,none⟩ = some (.bool s.bad) ∧ wr.frozen? ⟨g,1,none⟩ = false ∧ wr.frozen? ⟨g,2,none⟩ = false) ∧ (wr.cell? ⟨gn,0,none⟩ = some (.int .i64 kd) ∧ wr.cell? ⟨gn,1,none⟩ = some (.slice none 0 0) ∧ wr.cell? ⟨gn,2,none⟩ = some (.bool false) ∧ wr.cell? ⟨gn,3,none⟩ = some (.int .i32 0) ∧ wr.cell? ⟨gn,4,none⟩ = some vk) ∧ (∀ i,wr.frozen? ⟨gr,i,none⟩ = false) ∧ (wr.cell? ⟨gr,0,none⟩ = some (.int .i64 0) ∧ wr.cell? ⟨gr,1,none⟩ = some (.slice none 0 0) ∧ wr.cell? ⟨gr,2,none⟩ = some (.bool false) ∧ wr.cell? ⟨gr,3,none⟩ = some (.int .i32 0) ∧ wr.cell? ⟨gr,4,none⟩ = some (.slice none 0 0)):=by
 obtain ⟨A,c,⟨k0,k1,k2⟩,⟨q0,q1,q2⟩,_⟩:=h.st.look
 exact ⟨⟨k1,k2,q1,q2⟩,⟨(uk h.node 0).trans rfl,(uk h.node 1).trans rfl,(uk h.node 2).trans rfl,(uk h.node 3).trans rfl,(uk h.node 4).trans rfl⟩,fun i => ut h.res i,⟨(uk h.res 0).trans rfl,(uk h.res 1).trans rfl,(uk h.res 2).trans rfl,(uk h.res 3).trans rfl,(uk h.res 4).trans rfl⟩⟩
theorem um.Pn.node_ne (h:um.Pn w0 W wr g gp gn gr l s kd vk rows):some gn ≠ vk.ownBlock ∧ some gr ≠ vk.ownBlock ∧ ∀ k,k < W.heap.size → some k ≠ vk.ownBlock:=by
 refine ⟨fun he => (h.row.1 gn he.symm).2.1 rfl,fun he => (h.row.1 gr he.symm).2.2 rfl,fun k hk he => ?_⟩
 have:=(h.row.1 k he.symm).1
 omega
theorem um.Pn.put {w1:World} {cs:List Value} (h:um.Pn w0 W wr g gp gn gr l s kd vk rows) (hR:Kd.R (Kd.raw 5) 148 w1 w0.heap.size (fun k => W.heap.size ≤ k ∧ k ≠ gn ∧ k ≠ gr) v1 (rows ++ [cs])) (hB:Below w0.heap.size w0 w1) (hg:wr.grownBy w1 vk.ownBlock):(w1.cell? ⟨gn,4,none⟩ = some vk ∧ w1.frozen? ⟨gn,4,none⟩ = false) ∧ um.Pn w0 W (w1.setCell ⟨gn,4,none⟩ v1) g gp gn gr l s kd v1 (rows ++ [cs]):=by
 obtain ⟨b1,b2,b3⟩:=h.node_ne
 have e:∀ k,k < wr.heap.size → some k ≠ vk.ownBlock → k ≠ gn → (w1.setCell ⟨gn,4,none⟩ v1).heap[k]? = wr.heap[k]? := fun k hk hne hgn => (Below.heap_setCell w1 ⟨gn,4,none⟩ v1 k hgn).trans (hg.block k hk hne)
 have hn:w1.heap[gn]? = some (.cells #[.int .i64 kd,.slice none 0 0,.bool false,.int .i32 0,vk] 148 (0,0)):=(hg.block gn (u3c h.node) b1).trans h.node
 have hgg:=h.new
 have hgo:=h.old
 have hpn:=h.gp_ne h.node
 have hpb:some gp ≠ vk.ownBlock:=by
  obtain ⟨A,c,hb,_,hr⟩:=h.st.cells
  exact hr.ne_row h.row (by decide)
 have hbl:Below w0.heap.size w0 (w1.setCell ⟨gn,4,none⟩ v1):=hB.setCell (by have:=h.low;simp only;omega) _
 refine ⟨⟨(uk hn 4).trans rfl,ut hn 4⟩,?_⟩
 exact {
  st:=h.st.keep hbl (fun k hk hor => by
   rcases hor with rfl | rfl
   · exact e _ hk (b3 _ hgo) (by omega)
   · exact e _ hk hpb hpn)
  kq:=⟨Nat.le_trans h.kq.1 (by have:=hg.size;simpa [World.setCell] using this),fun k hk hne => (e k (Nat.lt_of_lt_of_le hk h.kq.1) (b3 k hk) (by omega)).trans (h.kq.2 k hk hne)⟩
  old:=h.old
  new:=h.new
  low:=h.low
  node:=by rw [u4f hn];rfl
  res:=(e gr (u3c h.res) b2 (by omega)).trans h.res
  row:=Kd.R_far hR (fun k hk => hk.2.1) v1 }
theorem um.Pn.fini (h:um.Pn w0 W wr g gp gn gr l s kd vk rows) (a b c d e:Value) :
 ua.St w0 (((((wr.setCell ⟨gr,0,none⟩ a).setCell ⟨gr,1,none⟩ b).setCell ⟨gr,2,none⟩ c).setCell ⟨gr,3,none⟩ d).setCell ⟨gr,4,none⟩ e) g gp l s ∧ ua.Kq W (((((wr.setCell ⟨gr,0,none⟩ a).setCell ⟨gr,1,none⟩ b).setCell ⟨gr,2,none⟩ c).setCell ⟨gr,3,none⟩ d).setCell ⟨gr,4,none⟩ e) g :=
 uc.Rs.fini ⟨h.st,h.kq,h.old,h.new.2.1,h.low,h.res⟩ a b c d e
end
theorem um.dB {w w':World} {n:Nat} (hw:w' = w.drewN n):Below w.heap.size w w':=by
 rw [hw]
 exact uh (Below.refl _ _) _
theorem um.infoN:(Tryz.prog.info? 148).map (fun i => (i.zero,i.size,i.bytes)) = some (some (.agg ub.zc),5,64):=by kernel_rfl
theorem um.size_set (w:World) (a:Addr) (u:Value):(w.setCell a u).heap.size = w.heap.size:=by simp [World.setCell]
theorem um.size_all (w:World) (o:Obj):(w.alloc o).heap.size = w.heap.size + 1:=by simp
theorem um.size5 (w:World) (a1 a2 a3 a4 a5:Addr) (u1 u2 u3 u4 u5:Value):(((((w.setCell a1 u1).setCell a2 u2).setCell a3 u3).setCell a4 u4).setCell a5 u5).heap.size = w.heap.size:=by simp only [um.size_set]
theorem um.qual_at (l:List Int) (s:um.RS):s.at_ ≤ (uc.qual l s).at_ ∧ (uc.qual l s).at_ ≤ max s.at_ l.length:=by
 unfold uc.qual
 split
 · rename_i hq
   have hm:s.at_ < l.length:=by
    refine ub.pk_lt (l:=l) (fun h9 => ?_)
    have h8:=hq.2
    unfold ue.mk u1g.oneB at h8
    rw [List.any_eq_true] at h8
    obtain ⟨y,hy,he⟩:=h8
    have he:=of_decide_eq_true he
    rw [← he] at h9
    simp at hy
    omega
   exact ⟨by simp only;omega,by simp only;omega⟩
 · exact ⟨Nat.le_refl _,by omega⟩
set_option maxHeartbeats 8000000 in
set_option maxRecDepth 20000 in
theorem um.calls (f:Nat) (hA:∀ f',f' < f → uc.Sp 135 0 f'):uc.Sp 124 1 f:=by
 intro w0 W g gp l s d h hd hl hs hneed hk
 clear hk
 obtain ⟨fin,hfin⟩:∃ fin,Aside0 (uc.N l f 1 d s = fin):=⟨_,⟨rfl⟩⟩
 rw [hfin.out]
 have HNE:=Aside0.mk hneed
 have HLO:=h.below.size
 have hgl:=h.gp_lt.2
 obtain ⟨W0,hW0⟩:∃ W0,Aside0 (W.alloc (.cells #[.int .i64 0,.slice none 0 0,.bool false,.int .i32 0,.slice none 0 0] 148) = W0):=⟨_,⟨rfl⟩⟩
 have ba:Below W.heap.size W W0:=by rw [← hW0.out];exact uj (Below.refl _ _) _
 have na:W0.heap[W.heap.size]? = some (.cells ub.zc 148 (0,0)):=by rw [← hW0.out];exact u3l _ _
 have sa:W0.heap.size = W.heap.size + 1:=by rw [← hW0.out];simp
 obtain ⟨W1,hW1⟩:∃ W1,Aside0 (W0.alloc (.cells #[.int .i64 3,.slice none 0 0,.bool false,.int .i32 0,.slice none 0 0] 148) = W1):=⟨_,⟨rfl⟩⟩
 have bb:Below W0.heap.size W0 W1:=by rw [← hW1.out];exact uj (Below.refl _ _) _
 have nb:W1.heap[W.heap.size + 1]? = some (.cells #[.int .i64 3,.slice none 0 0,.bool false,.int .i32 0,.slice none 0 0] 148 (0,0)):=by rw [← sa,← hW1.out];exact u3l _ _
 have bab:Below W.heap.size W W1:=u1c ba ba.size bb
 have HP0:Aside0 (um.Pn w0 W W1 g gp (W.heap.size + 1) W.heap.size l s 3 (.slice none 0 0) []):=⟨{
  st:=h.more bab
  kq:=ua.Kq.below bab g
  old:=hgl
  new:=⟨Nat.le_succ _,Nat.le_refl _,by omega⟩
  low:=HLO
  node:=nb
  res:=(bb.block _ (by omega)).trans na
  row:=Kd.R_nil _ _ _ _ _ }⟩
 have ng1:W.heap.size + 1 ≠ g:=by omega
 have ng2:W.heap.size ≠ g:=by omega
 have ng3:=ng1.symm
 have ng4:=ng2.symm
 clear ba na sa bb nb bab h hneed
 go_enter Tryz.func124,Tryz.ntmps124
 go_wp2
 go_loopg [] f (fun kq wr => ∃ (cur:um.RS) (vk:Value) (rows:List (List Value)),Aside0 (um.Pn w0 W wr g gp (W.heap.size + 1) W.heap.size l cur 3 vk rows) ∧ Aside0 (uc.N l kq 1 d cur = fin) ∧ Aside0 (cur.bad = true ∨ uc.need 1 (l.length - cur.at_) ≤ kq) ∧ Aside0 (cur.at_ ≤ l.length + 13 ∧ rows.length ≤ cur.at_) ∧ Aside0 (kq ≤ f))
 case atStart => exact ⟨s,_,[],by rw [hW0.out,hW1.out];exact HP0,hfin,HNE,⟨by omega,by simp⟩,⟨Nat.le_refl _⟩⟩
 case round =>
  clear HP0 hW0 hW1 HNE hfin
  obtain ⟨cur,vk,rows,HP,HF,HNE,HAT,HKF⟩:=hrel
  obtain ⟨Av,cv,ev⟩:=Kd.R_slice HP.out.row
  subst ev
  obtain ⟨p,hp⟩:∃ p,Aside0 (ua.pk l cur = p):=⟨_,⟨rfl⟩⟩
  obtain ⟨ca,cb⟩:=cur
  obtain ⟨⟨k1,k2,q1,q2⟩,⟨n0,n1,n2,n3,n4⟩,fr,⟨r0,r1,r2,r3,r4⟩⟩:=HP.out.look
  have fr0:=fr 0
  have fr1:=fr 1
  have fr2:=fr 2
  have fr3:=fr 3
  have fr4:=fr 4
  clear fr
  simp only at k1 k2
  have hca:ca ≤ 2000:=by have:=HAT.out.1;simp only at this;omega
  have hrl:rows.length ≤ 2000:=by have:=HAT.out.2;simp only at this;omega
  cases cb with
  | true =>
    have HFIN:Aside0 (fin = ⟨ca,true⟩):=⟨by rw [← HF.out];cases gk with | zero => rfl | succ k1 => rw [uc.N1,if_neg (by rintro ⟨h9,_⟩;cases h9)]⟩
    go_wp2
    refine bodyPost_ret (v:=.agg #[.int .i64 3,.slice none 0 0,.bool false,.int .i32 0,.slice Av rows.length cv]) (by simp [results,Tryz.results124,go_sem,r0,r1,r2,r3,r4,ng2,ng4]) rfl ⟨⟨_,rfl,_,_,_,_,_,_,_,_,_,rfl⟩,?_⟩
    rw [HFIN.out]
    exact HP.out.fini _ _ _ _ _
  | false =>
    by_cases hn:p < 0
    · have hn1:decide (0 ≤ p) = false:=decide_eq_false (by omega)
      have HFIN:Aside0 (fin = ⟨ca,false⟩):=⟨by rw [← HF.out];cases gk with | zero => rfl | succ k1 => rw [uc.N1,if_neg (by rintro ⟨_,h9,_⟩;rw [hp.out] at h9;omega)]⟩
      go_wp2_with (go_at_call 125;(with_reducible refine (ua.calls w0 _ g gp l _ HP.out.st).mono ?_);rintro e w' ⟨rfl,nq,hw⟩;have hB:=um.dB hw;clear hw;rw [hp.out];have hP:=HP.out.more hB;clear k1 k2 q1 q2 n0 n1 n2 n3 n4 r0 r1 r2 r3 r4 fr0 fr1 fr2 fr3 fr4;obtain ⟨⟨k1,k2,q1,q2⟩,⟨n0,n1,n2,n3,n4⟩,fr,⟨r0,r1,r2,r3,r4⟩⟩:=hP.look;have fr0:=fr 0;have fr1:=fr 1;have fr2:=fr 2;have fr3:=fr 3;have fr4:=fr 4;clear fr;simp only at k1 k2;have HP1:=Aside0.mk hP;clear hB hP)
      refine bodyPost_ret (v:=.agg #[.int .i64 3,.slice none 0 0,.bool false,.int .i32 0,.slice Av rows.length cv]) (by simp [results,Tryz.results124,go_sem,r0,r1,r2,r3,r4,ng2,ng4]) rfl ⟨⟨_,rfl,_,_,_,_,_,_,_,_,_,rfl⟩,?_⟩
      rw [HFIN.out]
      exact HP1.out.fini _ _ _ _ _
    · have hn1:decide (0 ≤ p) = true:=decide_eq_true (by omega)
      have HNN:Aside0 (0 ≤ p):=⟨by omega⟩
      obtain ⟨m1,hm1⟩:∃ m1,Aside0 (ue.mk p [124,41] = m1):=⟨_,⟨rfl⟩⟩
      have HO1:Aside0 (u1g.f p ⟨#[124,41]⟩ = some m1):=⟨by rw [ue.marks (show Base.runesOf (⟨#[124,41]⟩:ByteArray) = [124,41] by kernel_rfl),hm1.out]⟩
      clear hn
      cases m1 with
      | true =>
        have HFIN:Aside0 (fin = ⟨ca,false⟩):=⟨by rw [← HF.out];cases gk with | zero => rfl | succ k1 => rw [uc.N1,if_neg (by rintro ⟨_,_,h9⟩;rw [hp.out,hm1.out] at h9;cases h9)]⟩
        go_wp2_with (first
         | (go_at_call 125;(with_reducible refine (ua.calls w0 _ g gp l _ HP.out.st).mono ?_);rintro e w' ⟨rfl,nq,hw⟩;have hB:=um.dB hw;clear hw;rw [hp.out];have hP:=HP.out.more hB;clear k1 k2 q1 q2 n0 n1 n2 n3 n4 r0 r1 r2 r3 r4 fr0 fr1 fr2 fr3 fr4;obtain ⟨⟨k1,k2,q1,q2⟩,⟨n0,n1,n2,n3,n4⟩,fr,⟨r0,r1,r2,r3,r4⟩⟩:=hP.look;have fr0:=fr 0;have fr1:=fr 1;have fr2:=fr 2;have fr3:=fr 3;have fr4:=fr 4;clear fr;simp only at k1 k2;have HP1:=Aside0.mk hP;clear hB hP)
         | (go_at_call 125;(with_reducible refine (ua.calls w0 _ g gp l _ HP1.out.st).mono ?_);rintro e w' ⟨rfl,nq,hw⟩;have hB:=um.dB hw;clear hw;rw [hp.out];have hP:=HP1.out.more hB;clear k1 k2 q1 q2 n0 n1 n2 n3 n4 r0 r1 r2 r3 r4 fr0 fr1 fr2 fr3 fr4;obtain ⟨⟨k1,k2,q1,q2⟩,⟨n0,n1,n2,n3,n4⟩,fr,⟨r0,r1,r2,r3,r4⟩⟩:=hP.look;have fr0:=fr 0;have fr1:=fr 1;have fr2:=fr 2;have fr3:=fr 3;have fr4:=fr 4;clear fr;simp only at k1 k2;have HP2:=Aside0.mk hP;clear hB hP)
         | (go_at_call 105;(with_reducible refine (u1g.calls p ⟨#[124,41]⟩ true _ HO1.out).mono ?_);rintro e w' ⟨rfl,hB⟩;have hP:=HP2.out.more hB;clear k1 k2 q1 q2 n0 n1 n2 n3 n4 r0 r1 r2 r3 r4 fr0 fr1 fr2 fr3 fr4;obtain ⟨⟨k1,k2,q1,q2⟩,⟨n0,n1,n2,n3,n4⟩,fr,⟨r0,r1,r2,r3,r4⟩⟩:=hP.look;have fr0:=fr 0;have fr1:=fr 1;have fr2:=fr 2;have fr3:=fr 3;have fr4:=fr 4;clear fr;simp only at k1 k2;have HP3:=Aside0.mk hP;clear hB hP))
        refine bodyPost_ret (v:=.agg #[.int .i64 3,.slice none 0 0,.bool false,.int .i32 0,.slice Av rows.length cv]) (by simp [results,Tryz.results124,go_sem,r0,r1,r2,r3,r4,ng2,ng4]) rfl ⟨⟨_,rfl,_,_,_,_,_,_,_,_,_,rfl⟩,?_⟩
        rw [HFIN.out]
        exact HP3.out.fini _ _ _ _ _
      | false =>
        have HLT:Aside0 (ca < l.length):=⟨ub.pk_lt (s:=⟨ca,false⟩) (by rw [hp.out];have:=HNN.out;omega)⟩
        have HNK:Aside0 (uc.need 1 (l.length - ca) ≤ gk):=⟨by rcases HNE.out with h9 | h9;cases h9;exact h9⟩
        obtain ⟨g1,rfl⟩:∃ g1,gk = g1 + 1:=⟨gk - 1,by have:=HNK.out;unfold uc.need at this;omega⟩
        obtain ⟨a1,b1,hs1⟩:∃ a1 b1,Aside0 (uc.N l g1 0 d ⟨ca,false⟩ = ⟨a1,b1⟩):=⟨_,_,⟨rfl⟩⟩
        have HA1:Aside0 (ca < a1 ∧ a1 ≤ l.length + 13):=⟨by
         have h9:=uc.N_at l g1 0 d ⟨ca,false⟩ hd (by have:=HLT.out;simp only;omega) (fun _ => HLT.out)
         rw [hs1.out] at h9
         have h8:=HNK.out
         unfold uc.need at h8
         have h7:=HLT.out
         have h6:=h9.2.2 rfl (by omega)
         simp only at h6 h9
         omega⟩
        have HLA:Aside0 (∀ W',ua.St w0 W' g gp l ⟨ca,false⟩ → Calls Tryz.prog 135 #[.pointer (some ⟨g,0,none⟩),.int .i64 d] W' fun e W2 => (∃ v,e = .returned v ∧ ub.NodeV v) ∧ ua.St w0 W2 g gp l ⟨a1,b1⟩ ∧ ua.Kq W' W2 g):=⟨fun W' hW' => by
         have h9:=hA g1 (by have:=HKF.out;omega) w0 W' g gp l ⟨ca,false⟩ d hW' hd hl (by have:=HLT.out;simp only;omega) (Or.inr (by have:=HNK.out;unfold uc.need at this ⊢;simp only;omega)) (fun _ => ⟨rfl,HLT.out⟩)
         rw [hs1.out] at h9
         exact h9⟩
        have HF1:Aside0 (uc.N l g1 1 d (uc.qual l ⟨a1,b1⟩) = fin):=⟨by have h9:=HF.out;rw [uc.N1,if_pos ⟨rfl,by rw [hp.out];exact HNN.out,by rw [hp.out];exact hm1.out⟩,hs1.out] at h9;exact h9⟩
        have ha1:a1 ≤ 2000:=by have:=HA1.out;omega
        obtain ⟨c2,hc2⟩:∃ c2,Aside0 (ua.pk l ⟨a1,b1⟩ = c2):=⟨_,⟨rfl⟩⟩
        have HQA:=Aside0.mk (um.qual_at l ⟨a1,b1⟩)
        clear HF HNE
        cases b1 with
        | true =>
          have HQ:Aside0 (uc.qual l ⟨a1,true⟩ = ⟨a1,true⟩):=⟨by unfold uc.qual;rw [if_neg (by rintro ⟨h9,_⟩;cases h9)]⟩
          rw [HQ.out] at HF1 HQA
          go_wp2_with (first
           | (go_at_call 125;(with_reducible refine (ua.calls w0 _ g gp l _ HP.out.st).mono ?_);rintro e w' ⟨rfl,nq,hw⟩;have hB:=um.dB hw;clear hw;rw [hp.out];have hP:=HP.out.more hB;clear k1 k2 q1 q2 n0 n1 n2 n3 n4 r0 r1 r2 r3 r4 fr0 fr1 fr2 fr3 fr4;obtain ⟨⟨k1,k2,q1,q2⟩,⟨n0,n1,n2,n3,n4⟩,fr,⟨r0,r1,r2,r3,r4⟩⟩:=hP.look;have fr0:=fr 0;have fr1:=fr 1;have fr2:=fr 2;have fr3:=fr 3;have fr4:=fr 4;clear fr;simp only at k1 k2;have HP1:=Aside0.mk hP;clear hB hP)
           | (go_at_call 125;(with_reducible refine (ua.calls w0 _ g gp l _ HP1.out.st).mono ?_);rintro e w' ⟨rfl,nq,hw⟩;have hB:=um.dB hw;clear hw;rw [hp.out];have hP:=HP1.out.more hB;clear k1 k2 q1 q2 n0 n1 n2 n3 n4 r0 r1 r2 r3 r4 fr0 fr1 fr2 fr3 fr4;obtain ⟨⟨k1,k2,q1,q2⟩,⟨n0,n1,n2,n3,n4⟩,fr,⟨r0,r1,r2,r3,r4⟩⟩:=hP.look;have fr0:=fr 0;have fr1:=fr 1;have fr2:=fr 2;have fr3:=fr 3;have fr4:=fr 4;clear fr;simp only at k1 k2;have HP2:=Aside0.mk hP;clear hB hP)
           | (go_at_call 105;(with_reducible refine (u1g.calls p ⟨#[124,41]⟩ false _ HO1.out).mono ?_);rintro e w' ⟨rfl,hB⟩;have hP:=HP2.out.more hB;clear k1 k2 q1 q2 n0 n1 n2 n3 n4 r0 r1 r2 r3 r4 fr0 fr1 fr2 fr3 fr4;obtain ⟨⟨k1,k2,q1,q2⟩,⟨n0,n1,n2,n3,n4⟩,fr,⟨r0,r1,r2,r3,r4⟩⟩:=hP.look;have fr0:=fr 0;have fr1:=fr 1;have fr2:=fr 2;have fr3:=fr 3;have fr4:=fr 4;clear fr;simp only at k1 k2;have HP3:=Aside0.mk hP;clear hB hP)
           | (go_at_call 135;(with_reducible refine (HLA.out _ HP3.out.st).mono ?_);rintro e w4 ⟨⟨_,rfl,xk,xA,xn,xc,xb,xo,xB,xm,xd,rfl⟩,hS4,hK4⟩;have hP4:=HP3.out.move hS4 hK4;obtain ⟨W5,hW5⟩:∃ W5,Aside0 (w4.alloc (.cells #[.int .i64 xk,.slice xA xn xc,.bool xb,.int .i32 xo,.slice xB xm xd] 148) = W5):=⟨_,⟨rfl⟩⟩;have hB5:Below w4.heap.size w4 W5:=(by rw [← hW5.out];exact uj (Below.refl _ _) _);have hx:=(show W5.heap[w4.heap.size]? = some (.cells #[.int .i64 xk,.slice xA xn xc,.bool xb,.int .i32 xo,.slice xB xm xd] 148 (0,0)) from by rw [← hW5.out];exact u3l _ _);have hP:=hP4.more hB5;clear k1 k2 q1 q2 n0 n1 n2 n3 n4 r0 r1 r2 r3 r4 fr0 fr1 fr2 fr3 fr4;obtain ⟨⟨k1,k2,q1,q2⟩,⟨n0,n1,n2,n3,n4⟩,fr,⟨r0,r1,r2,r3,r4⟩⟩:=hP.look;have fr0:=fr 0;have fr1:=fr 1;have fr2:=fr 2;have fr3:=fr 3;have fr4:=fr 4;clear fr;simp only at k1 k2;have y0:=(uk hx 0).trans (show (#[.int .i64 xk,.slice xA xn xc,.bool xb,.int .i32 xo,.slice xB xm xd]:Array Value)[0]? = some (.int .i64 xk) from rfl);have y1:=(uk hx 1).trans (show (#[.int .i64 xk,.slice xA xn xc,.bool xb,.int .i32 xo,.slice xB xm xd]:Array Value)[1]? = some (.slice xA xn xc) from rfl);have y2:=(uk hx 2).trans (show (#[.int .i64 xk,.slice xA xn xc,.bool xb,.int .i32 xo,.slice xB xm xd]:Array Value)[2]? = some (.bool xb) from rfl);have y3:=(uk hx 3).trans (show (#[.int .i64 xk,.slice xA xn xc,.bool xb,.int .i32 xo,.slice xB xm xd]:Array Value)[3]? = some (.int .i32 xo) from rfl);have y4:=(uk hx 4).trans (show (#[.int .i64 xk,.slice xA xn xc,.bool xb,.int .i32 xo,.slice xB xm xd]:Array Value)[4]? = some (.slice xB xm xd) from rfl);have yf:=fun i => ut hx i;have yf0:=yf 0;have yf1:=yf 1;have yf2:=yf 2;have yf3:=yf 3;have yf4:=yf 4;clear yf;have HX5:=Aside0.mk hx;have HP5:=Aside0.mk hP;have HP4:=Aside0.mk hP4;have HGX:Aside0 ((w4.heap.size ≠ W.heap.size + 1 ∧ w4.heap.size ≠ W.heap.size ∧ w4.heap.size ≠ g ∧ W.heap.size ≤ w4.heap.size) ∧ (Value.slice Av rows.length cv).ownBlock ≠ some w4.heap.size):=⟨⟨by have:=u3c hP4.node;have:=u3c hP4.res;have:=hP4.kq.1;omega,fun he => by have:=Kd.R_lt hP4.row _ he;omega⟩⟩;have ng5:=HGX.out.1.1;have ng6:=HGX.out.1.2.1;have ng7:=HGX.out.1.2.2.1;have ng8:=ng5.symm;have ng9:=ng6.symm;have ng10:=ng7.symm;clear hS4 hK4 hP4 hB5 hx hP)
           | (go_at_call 125;rw [hW5.out];(with_reducible refine (ua.calls w0 _ g gp l _ HP5.out.st).mono ?_);rintro e w' ⟨rfl,nq,hw⟩;have hB:=um.dB hw;clear hw;rw [hc2.out];have hP:=HP5.out.more hB;clear k1 k2 q1 q2 n0 n1 n2 n3 n4 r0 r1 r2 r3 r4 fr0 fr1 fr2 fr3 fr4;obtain ⟨⟨k1,k2,q1,q2⟩,⟨n0,n1,n2,n3,n4⟩,fr,⟨r0,r1,r2,r3,r4⟩⟩:=hP.look;have fr0:=fr 0;have fr1:=fr 1;have fr2:=fr 2;have fr3:=fr 3;have fr4:=fr 4;clear fr;simp only at k1 k2;have hx:=u1h HX5.out hB;clear y0 y1 y2 y3 y4 yf0 yf1 yf2 yf3 yf4;have y0:=(uk hx 0).trans (show (#[.int .i64 xk,.slice xA xn xc,.bool xb,.int .i32 xo,.slice xB xm xd]:Array Value)[0]? = some (.int .i64 xk) from rfl);have y1:=(uk hx 1).trans (show (#[.int .i64 xk,.slice xA xn xc,.bool xb,.int .i32 xo,.slice xB xm xd]:Array Value)[1]? = some (.slice xA xn xc) from rfl);have y2:=(uk hx 2).trans (show (#[.int .i64 xk,.slice xA xn xc,.bool xb,.int .i32 xo,.slice xB xm xd]:Array Value)[2]? = some (.bool xb) from rfl);have y3:=(uk hx 3).trans (show (#[.int .i64 xk,.slice xA xn xc,.bool xb,.int .i32 xo,.slice xB xm xd]:Array Value)[3]? = some (.int .i32 xo) from rfl);have y4:=(uk hx 4).trans (show (#[.int .i64 xk,.slice xA xn xc,.bool xb,.int .i32 xo,.slice xB xm xd]:Array Value)[4]? = some (.slice xB xm xd) from rfl);have yf:=fun i => ut hx i;have yf0:=yf 0;have yf1:=yf 1;have yf2:=yf 2;have yf3:=yf 3;have yf4:=yf 4;clear yf;have HX6:=Aside0.mk hx;clear hx;have HP6:=Aside0.mk hP;clear hB hP)
           | ((with_reducible refine u3b (b:=.append) (xs:=#[.tmp 51,.tmp 53]) rfl ?_);at_builtin;have hCz:=HP6.out;refine Kd.R_append (Kd.raw 5) (w0:=w0) w0.heap.size rfl (.tmp 51) (.tmp 53) 146 148 (.agg ub.zc) 64 rfl Tryz.underlying146 um.infoN rfl (by decide) (by decide) _ rows [.int .i64 xk,.slice xA xn xc,.bool xb,.int .i32 xo,.slice xB xm xd] [.int .i64 xk,.slice xA xn xc,.bool xb,.int .i32 xo,.slice xB xm xd] (fun k => W.heap.size ≤ k ∧ k ≠ W.heap.size + 1 ∧ k ≠ W.heap.size) (fun _ => False) rfl rfl ⟨rfl,rfl,by simp [Value.oneCell']⟩ (fun _ hk => hk.elim) (fun k hk => by have h1:=hCz.kq.1;have h2:=u3c hCz.node;have h3:=u3c hCz.res;omega) hCz.row hCz.st.below hCz.st.below.size (by omega) ?_;intro v6 W6 hR6 hB6 hg6 hat6;obtain ⟨⟨z1,z2⟩,hc6⟩:=hCz.put hR6 hB6 hg6;obtain ⟨A6,c6,e6⟩:=Kd.R_slice hR6;subst e6;simp only [List.length_append,List.length_cons,List.length_nil,Nat.zero_add] at hc6;have HC6:=Aside0.mk hc6;clear hc6 hR6 hB6 hg6 hat6 hCz))
          go_roundg g1
          case rel => exact ⟨⟨a1,true⟩,_,rows ++ [[.int .i64 xk,.slice xA xn xc,.bool xb,.int .i32 xo,.slice xB xm xd]],HC6,HF1,⟨Or.inl rfl⟩,⟨by have h9:=HQA.out;have h8:=HA1.out;(try simp only at h9);show a1 ≤ _;omega,by have h9:=HQA.out;have h8:=HA1.out;have h7:=HAT.out;(try simp only at h9);(try simp only at h7);rw [List.length_append,List.length_singleton];show _ ≤ a1;omega⟩,⟨by have:=HKF.out;omega⟩⟩
          case measure => omega
        | false =>
          obtain ⟨m2,hm2⟩:∃ m2,Aside0 (ue.mk c2 [42,43,63] = m2):=⟨_,⟨rfl⟩⟩
          have HO2:Aside0 (u1g.f c2 ⟨#[42,43,63]⟩ = some m2):=⟨by rw [ue.marks (show Base.runesOf (⟨#[42,43,63]⟩:ByteArray) = [42,43,63] by kernel_rfl),hm2.out]⟩
          cases m2 with
          | false =>
            have HQ:Aside0 (uc.qual l ⟨a1,false⟩ = ⟨a1,false⟩):=⟨by unfold uc.qual;rw [if_neg (by rintro ⟨_,h9⟩;rw [hc2.out,hm2.out] at h9;cases h9)]⟩
            rw [HQ.out] at HF1 HQA
            go_wp2_with (first
             | (go_at_call 125;(with_reducible refine (ua.calls w0 _ g gp l _ HP.out.st).mono ?_);rintro e w' ⟨rfl,nq,hw⟩;have hB:=um.dB hw;clear hw;rw [hp.out];have hP:=HP.out.more hB;clear k1 k2 q1 q2 n0 n1 n2 n3 n4 r0 r1 r2 r3 r4 fr0 fr1 fr2 fr3 fr4;obtain ⟨⟨k1,k2,q1,q2⟩,⟨n0,n1,n2,n3,n4⟩,fr,⟨r0,r1,r2,r3,r4⟩⟩:=hP.look;have fr0:=fr 0;have fr1:=fr 1;have fr2:=fr 2;have fr3:=fr 3;have fr4:=fr 4;clear fr;simp only at k1 k2;have HP1:=Aside0.mk hP;clear hB hP)
             | (go_at_call 125;(with_reducible refine (ua.calls w0 _ g gp l _ HP1.out.st).mono ?_);rintro e w' ⟨rfl,nq,hw⟩;have hB:=um.dB hw;clear hw;rw [hp.out];have hP:=HP1.out.more hB;clear k1 k2 q1 q2 n0 n1 n2 n3 n4 r0 r1 r2 r3 r4 fr0 fr1 fr2 fr3 fr4;obtain ⟨⟨k1,k2,q1,q2⟩,⟨n0,n1,n2,n3,n4⟩,fr,⟨r0,r1,r2,r3,r4⟩⟩:=hP.look;have fr0:=fr 0;have fr1:=fr 1;have fr2:=fr 2;have fr3:=fr 3;have fr4:=fr 4;clear fr;simp only at k1 k2;have HP2:=Aside0.mk hP;clear hB hP)
             | (go_at_call 105;(with_reducible refine (u1g.calls p ⟨#[124,41]⟩ false _ HO1.out).mono ?_);rintro e w' ⟨rfl,hB⟩;have hP:=HP2.out.more hB;clear k1 k2 q1 q2 n0 n1 n2 n3 n4 r0 r1 r2 r3 r4 fr0 fr1 fr2 fr3 fr4;obtain ⟨⟨k1,k2,q1,q2⟩,⟨n0,n1,n2,n3,n4⟩,fr,⟨r0,r1,r2,r3,r4⟩⟩:=hP.look;have fr0:=fr 0;have fr1:=fr 1;have fr2:=fr 2;have fr3:=fr 3;have fr4:=fr 4;clear fr;simp only at k1 k2;have HP3:=Aside0.mk hP;clear hB hP)
             | (go_at_call 135;(with_reducible refine (HLA.out _ HP3.out.st).mono ?_);rintro e w4 ⟨⟨_,rfl,xk,xA,xn,xc,xb,xo,xB,xm,xd,rfl⟩,hS4,hK4⟩;have hP4:=HP3.out.move hS4 hK4;obtain ⟨W5,hW5⟩:∃ W5,Aside0 (w4.alloc (.cells #[.int .i64 xk,.slice xA xn xc,.bool xb,.int .i32 xo,.slice xB xm xd] 148) = W5):=⟨_,⟨rfl⟩⟩;have hB5:Below w4.heap.size w4 W5:=(by rw [← hW5.out];exact uj (Below.refl _ _) _);have hx:=(show W5.heap[w4.heap.size]? = some (.cells #[.int .i64 xk,.slice xA xn xc,.bool xb,.int .i32 xo,.slice xB xm xd] 148 (0,0)) from by rw [← hW5.out];exact u3l _ _);have hP:=hP4.more hB5;clear k1 k2 q1 q2 n0 n1 n2 n3 n4 r0 r1 r2 r3 r4 fr0 fr1 fr2 fr3 fr4;obtain ⟨⟨k1,k2,q1,q2⟩,⟨n0,n1,n2,n3,n4⟩,fr,⟨r0,r1,r2,r3,r4⟩⟩:=hP.look;have fr0:=fr 0;have fr1:=fr 1;have fr2:=fr 2;have fr3:=fr 3;have fr4:=fr 4;clear fr;simp only at k1 k2;have y0:=(uk hx 0).trans (show (#[.int .i64 xk,.slice xA xn xc,.bool xb,.int .i32 xo,.slice xB xm xd]:Array Value)[0]? = some (.int .i64 xk) from rfl);have y1:=(uk hx 1).trans (show (#[.int .i64 xk,.slice xA xn xc,.bool xb,.int .i32 xo,.slice xB xm xd]:Array Value)[1]? = some (.slice xA xn xc) from rfl);have y2:=(uk hx 2).trans (show (#[.int .i64 xk,.slice xA xn xc,.bool xb,.int .i32 xo,.slice xB xm xd]:Array Value)[2]? = some (.bool xb) from rfl);have y3:=(uk hx 3).trans (show (#[.int .i64 xk,.slice xA xn xc,.bool xb,.int .i32 xo,.slice xB xm xd]:Array Value)[3]? = some (.int .i32 xo) from rfl);have y4:=(uk hx 4).trans (show (#[.int .i64 xk,.slice xA xn xc,.bool xb,.int .i32 xo,.slice xB xm xd]:Array Value)[4]? = some (.slice xB xm xd) from rfl);have yf:=fun i => ut hx i;have yf0:=yf 0;have yf1:=yf 1;have yf2:=yf 2;have yf3:=yf 3;have yf4:=yf 4;clear yf;have HX5:=Aside0.mk hx;have HP5:=Aside0.mk hP;have HP4:=Aside0.mk hP4;have HGX:Aside0 ((w4.heap.size ≠ W.heap.size + 1 ∧ w4.heap.size ≠ W.heap.size ∧ w4.heap.size ≠ g ∧ W.heap.size ≤ w4.heap.size) ∧ (Value.slice Av rows.length cv).ownBlock ≠ some w4.heap.size):=⟨⟨by have:=u3c hP4.node;have:=u3c hP4.res;have:=hP4.kq.1;omega,fun he => by have:=Kd.R_lt hP4.row _ he;omega⟩⟩;have ng5:=HGX.out.1.1;have ng6:=HGX.out.1.2.1;have ng7:=HGX.out.1.2.2.1;have ng8:=ng5.symm;have ng9:=ng6.symm;have ng10:=ng7.symm;clear hS4 hK4 hP4 hB5 hx hP)
             | (go_at_call 125;rw [hW5.out];(with_reducible refine (ua.calls w0 _ g gp l _ HP5.out.st).mono ?_);rintro e w' ⟨rfl,nq,hw⟩;have hB:=um.dB hw;clear hw;rw [hc2.out];have hP:=HP5.out.more hB;clear k1 k2 q1 q2 n0 n1 n2 n3 n4 r0 r1 r2 r3 r4 fr0 fr1 fr2 fr3 fr4;obtain ⟨⟨k1,k2,q1,q2⟩,⟨n0,n1,n2,n3,n4⟩,fr,⟨r0,r1,r2,r3,r4⟩⟩:=hP.look;have fr0:=fr 0;have fr1:=fr 1;have fr2:=fr 2;have fr3:=fr 3;have fr4:=fr 4;clear fr;simp only at k1 k2;have hx:=u1h HX5.out hB;clear y0 y1 y2 y3 y4 yf0 yf1 yf2 yf3 yf4;have y0:=(uk hx 0).trans (show (#[.int .i64 xk,.slice xA xn xc,.bool xb,.int .i32 xo,.slice xB xm xd]:Array Value)[0]? = some (.int .i64 xk) from rfl);have y1:=(uk hx 1).trans (show (#[.int .i64 xk,.slice xA xn xc,.bool xb,.int .i32 xo,.slice xB xm xd]:Array Value)[1]? = some (.slice xA xn xc) from rfl);have y2:=(uk hx 2).trans (show (#[.int .i64 xk,.slice xA xn xc,.bool xb,.int .i32 xo,.slice xB xm xd]:Array Value)[2]? = some (.bool xb) from rfl);have y3:=(uk hx 3).trans (show (#[.int .i64 xk,.slice xA xn xc,.bool xb,.int .i32 xo,.slice xB xm xd]:Array Value)[3]? = some (.int .i32 xo) from rfl);have y4:=(uk hx 4).trans (show (#[.int .i64 xk,.slice xA xn xc,.bool xb,.int .i32 xo,.slice xB xm xd]:Array Value)[4]? = some (.slice xB xm xd) from rfl);have yf:=fun i => ut hx i;have yf0:=yf 0;have yf1:=yf 1;have yf2:=yf 2;have yf3:=yf 3;have yf4:=yf 4;clear yf;have HX6:=Aside0.mk hx;clear hx;have HP6:=Aside0.mk hP;clear hB hP)
             | (go_at_call 105;(with_reducible refine (u1g.calls c2 ⟨#[42,43,63]⟩ false _ HO2.out).mono ?_);rintro e w' ⟨rfl,hB⟩;have hP:=HP6.out.more hB;clear k1 k2 q1 q2 n0 n1 n2 n3 n4 r0 r1 r2 r3 r4 fr0 fr1 fr2 fr3 fr4;obtain ⟨⟨k1,k2,q1,q2⟩,⟨n0,n1,n2,n3,n4⟩,fr,⟨r0,r1,r2,r3,r4⟩⟩:=hP.look;have fr0:=fr 0;have fr1:=fr 1;have fr2:=fr 2;have fr3:=fr 3;have fr4:=fr 4;clear fr;simp only at k1 k2;have hx:=u1h HX6.out hB;clear y0 y1 y2 y3 y4 yf0 yf1 yf2 yf3 yf4;have y0:=(uk hx 0).trans (show (#[.int .i64 xk,.slice xA xn xc,.bool xb,.int .i32 xo,.slice xB xm xd]:Array Value)[0]? = some (.int .i64 xk) from rfl);have y1:=(uk hx 1).trans (show (#[.int .i64 xk,.slice xA xn xc,.bool xb,.int .i32 xo,.slice xB xm xd]:Array Value)[1]? = some (.slice xA xn xc) from rfl);have y2:=(uk hx 2).trans (show (#[.int .i64 xk,.slice xA xn xc,.bool xb,.int .i32 xo,.slice xB xm xd]:Array Value)[2]? = some (.bool xb) from rfl);have y3:=(uk hx 3).trans (show (#[.int .i64 xk,.slice xA xn xc,.bool xb,.int .i32 xo,.slice xB xm xd]:Array Value)[3]? = some (.int .i32 xo) from rfl);have y4:=(uk hx 4).trans (show (#[.int .i64 xk,.slice xA xn xc,.bool xb,.int .i32 xo,.slice xB xm xd]:Array Value)[4]? = some (.slice xB xm xd) from rfl);have yf:=fun i => ut hx i;have yf0:=yf 0;have yf1:=yf 1;have yf2:=yf 2;have yf3:=yf 3;have yf4:=yf 4;clear yf;have HX7:=Aside0.mk hx;clear hx;have HP7:=Aside0.mk hP;clear hB hP)
             | ((with_reducible refine u3b (b:=.append) (xs:=#[.tmp 51,.tmp 53]) rfl ?_);at_builtin;have hCz:=HP7.out;refine Kd.R_append (Kd.raw 5) (w0:=w0) w0.heap.size rfl (.tmp 51) (.tmp 53) 146 148 (.agg ub.zc) 64 rfl Tryz.underlying146 um.infoN rfl (by decide) (by decide) _ rows [.int .i64 xk,.slice xA xn xc,.bool xb,.int .i32 xo,.slice xB xm xd] [.int .i64 xk,.slice xA xn xc,.bool xb,.int .i32 xo,.slice xB xm xd] (fun k => W.heap.size ≤ k ∧ k ≠ W.heap.size + 1 ∧ k ≠ W.heap.size) (fun _ => False) rfl rfl ⟨rfl,rfl,by simp [Value.oneCell']⟩ (fun _ hk => hk.elim) (fun k hk => by have h1:=hCz.kq.1;have h2:=u3c hCz.node;have h3:=u3c hCz.res;omega) hCz.row hCz.st.below hCz.st.below.size (by omega) ?_;intro v6 W6 hR6 hB6 hg6 hat6;obtain ⟨⟨z1,z2⟩,hc6⟩:=hCz.put hR6 hB6 hg6;obtain ⟨A6,c6,e6⟩:=Kd.R_slice hR6;subst e6;simp only [List.length_append,List.length_cons,List.length_nil,Nat.zero_add] at hc6;have HC6:=Aside0.mk hc6;clear hc6 hR6 hB6 hg6 hat6 hCz))
            go_roundg g1
            case rel => exact ⟨⟨a1,false⟩,_,rows ++ [[.int .i64 xk,.slice xA xn xc,.bool xb,.int .i32 xo,.slice xB xm xd]],HC6,HF1,⟨Or.inr (by have h9:=HQA.out;have h8:=HA1.out;have h7:=HNK.out;have h6:=HLT.out;unfold uc.need at h7 ⊢;(try simp only at h9);(try simp only);omega)⟩,⟨by have h9:=HQA.out;have h8:=HA1.out;(try simp only at h9);show a1 ≤ _;omega,by have h9:=HQA.out;have h8:=HA1.out;have h7:=HAT.out;(try simp only at h9);(try simp only at h7);rw [List.length_append,List.length_singleton];show _ ≤ a1;omega⟩,⟨by have:=HKF.out;omega⟩⟩
            case measure => omega
          | true =>
            have HQ:Aside0 (uc.qual l ⟨a1,false⟩ = ⟨a1 + 1,false⟩):=⟨by unfold uc.qual;rw [if_pos ⟨rfl,by rw [hc2.out];exact hm2.out⟩]⟩
            rw [HQ.out] at HF1 HQA
            go_wp2_with (first
             | (go_at_call 125;(with_reducible refine (ua.calls w0 _ g gp l _ HP.out.st).mono ?_);rintro e w' ⟨rfl,nq,hw⟩;have hB:=um.dB hw;clear hw;rw [hp.out];have hP:=HP.out.more hB;clear k1 k2 q1 q2 n0 n1 n2 n3 n4 r0 r1 r2 r3 r4 fr0 fr1 fr2 fr3 fr4;obtain ⟨⟨k1,k2,q1,q2⟩,⟨n0,n1,n2,n3,n4⟩,fr,⟨r0,r1,r2,r3,r4⟩⟩:=hP.look;have fr0:=fr 0;have fr1:=fr 1;have fr2:=fr 2;have fr3:=fr 3;have fr4:=fr 4;clear fr;simp only at k1 k2;have HP1:=Aside0.mk hP;clear hB hP)
             | (go_at_call 125;(with_reducible refine (ua.calls w0 _ g gp l _ HP1.out.st).mono ?_);rintro e w' ⟨rfl,nq,hw⟩;have hB:=um.dB hw;clear hw;rw [hp.out];have hP:=HP1.out.more hB;clear k1 k2 q1 q2 n0 n1 n2 n3 n4 r0 r1 r2 r3 r4 fr0 fr1 fr2 fr3 fr4;obtain ⟨⟨k1,k2,q1,q2⟩,⟨n0,n1,n2,n3,n4⟩,fr,⟨r0,r1,r2,r3,r4⟩⟩:=hP.look;have fr0:=fr 0;have fr1:=fr 1;have fr2:=fr 2;have fr3:=fr 3;have fr4:=fr 4;clear fr;simp only at k1 k2;have HP2:=Aside0.mk hP;clear hB hP)
             | (go_at_call 105;(with_reducible refine (u1g.calls p ⟨#[124,41]⟩ false _ HO1.out).mono ?_);rintro e w' ⟨rfl,hB⟩;have hP:=HP2.out.more hB;clear k1 k2 q1 q2 n0 n1 n2 n3 n4 r0 r1 r2 r3 r4 fr0 fr1 fr2 fr3 fr4;obtain ⟨⟨k1,k2,q1,q2⟩,⟨n0,n1,n2,n3,n4⟩,fr,⟨r0,r1,r2,r3,r4⟩⟩:=hP.look;have fr0:=fr 0;have fr1:=fr 1;have fr2:=fr 2;have fr3:=fr 3;have fr4:=fr 4;clear fr;simp only at k1 k2;have HP3:=Aside0.mk hP;clear hB hP)
             | (go_at_call 135;(with_reducible refine (HLA.out _ HP3.out.st).mono ?_);rintro e w4 ⟨⟨_,rfl,xk,xA,xn,xc,xb,xo,xB,xm,xd,rfl⟩,hS4,hK4⟩;have hP4:=HP3.out.move hS4 hK4;obtain ⟨W5,hW5⟩:∃ W5,Aside0 (w4.alloc (.cells #[.int .i64 xk,.slice xA xn xc,.bool xb,.int .i32 xo,.slice xB xm xd] 148) = W5):=⟨_,⟨rfl⟩⟩;have hB5:Below w4.heap.size w4 W5:=(by rw [← hW5.out];exact uj (Below.refl _ _) _);have hx:=(show W5.heap[w4.heap.size]? = some (.cells #[.int .i64 xk,.slice xA xn xc,.bool xb,.int .i32 xo,.slice xB xm xd] 148 (0,0)) from by rw [← hW5.out];exact u3l _ _);have hP:=hP4.more hB5;clear k1 k2 q1 q2 n0 n1 n2 n3 n4 r0 r1 r2 r3 r4 fr0 fr1 fr2 fr3 fr4;obtain ⟨⟨k1,k2,q1,q2⟩,⟨n0,n1,n2,n3,n4⟩,fr,⟨r0,r1,r2,r3,r4⟩⟩:=hP.look;have fr0:=fr 0;have fr1:=fr 1;have fr2:=fr 2;have fr3:=fr 3;have fr4:=fr 4;clear fr;simp only at k1 k2;have y0:=(uk hx 0).trans (show (#[.int .i64 xk,.slice xA xn xc,.bool xb,.int .i32 xo,.slice xB xm xd]:Array Value)[0]? = some (.int .i64 xk) from rfl);have y1:=(uk hx 1).trans (show (#[.int .i64 xk,.slice xA xn xc,.bool xb,.int .i32 xo,.slice xB xm xd]:Array Value)[1]? = some (.slice xA xn xc) from rfl);have y2:=(uk hx 2).trans (show (#[.int .i64 xk,.slice xA xn xc,.bool xb,.int .i32 xo,.slice xB xm xd]:Array Value)[2]? = some (.bool xb) from rfl);have y3:=(uk hx 3).trans (show (#[.int .i64 xk,.slice xA xn xc,.bool xb,.int .i32 xo,.slice xB xm xd]:Array Value)[3]? = some (.int .i32 xo) from rfl);have y4:=(uk hx 4).trans (show (#[.int .i64 xk,.slice xA xn xc,.bool xb,.int .i32 xo,.slice xB xm xd]:Array Value)[4]? = some (.slice xB xm xd) from rfl);have yf:=fun i => ut hx i;have yf0:=yf 0;have yf1:=yf 1;have yf2:=yf 2;have yf3:=yf 3;have yf4:=yf 4;clear yf;have HX5:=Aside0.mk hx;have HP5:=Aside0.mk hP;have HP4:=Aside0.mk hP4;have HGX:Aside0 ((w4.heap.size ≠ W.heap.size + 1 ∧ w4.heap.size ≠ W.heap.size ∧ w4.heap.size ≠ g ∧ W.heap.size ≤ w4.heap.size) ∧ (Value.slice Av rows.length cv).ownBlock ≠ some w4.heap.size):=⟨⟨by have:=u3c hP4.node;have:=u3c hP4.res;have:=hP4.kq.1;omega,fun he => by have:=Kd.R_lt hP4.row _ he;omega⟩⟩;have ng5:=HGX.out.1.1;have ng6:=HGX.out.1.2.1;have ng7:=HGX.out.1.2.2.1;have ng8:=ng5.symm;have ng9:=ng6.symm;have ng10:=ng7.symm;clear hS4 hK4 hP4 hB5 hx hP)
             | (go_at_call 125;rw [hW5.out];(with_reducible refine (ua.calls w0 _ g gp l _ HP5.out.st).mono ?_);rintro e w' ⟨rfl,nq,hw⟩;have hB:=um.dB hw;clear hw;rw [hc2.out];have hP:=HP5.out.more hB;clear k1 k2 q1 q2 n0 n1 n2 n3 n4 r0 r1 r2 r3 r4 fr0 fr1 fr2 fr3 fr4;obtain ⟨⟨k1,k2,q1,q2⟩,⟨n0,n1,n2,n3,n4⟩,fr,⟨r0,r1,r2,r3,r4⟩⟩:=hP.look;have fr0:=fr 0;have fr1:=fr 1;have fr2:=fr 2;have fr3:=fr 3;have fr4:=fr 4;clear fr;simp only at k1 k2;have hx:=u1h HX5.out hB;clear y0 y1 y2 y3 y4 yf0 yf1 yf2 yf3 yf4;have y0:=(uk hx 0).trans (show (#[.int .i64 xk,.slice xA xn xc,.bool xb,.int .i32 xo,.slice xB xm xd]:Array Value)[0]? = some (.int .i64 xk) from rfl);have y1:=(uk hx 1).trans (show (#[.int .i64 xk,.slice xA xn xc,.bool xb,.int .i32 xo,.slice xB xm xd]:Array Value)[1]? = some (.slice xA xn xc) from rfl);have y2:=(uk hx 2).trans (show (#[.int .i64 xk,.slice xA xn xc,.bool xb,.int .i32 xo,.slice xB xm xd]:Array Value)[2]? = some (.bool xb) from rfl);have y3:=(uk hx 3).trans (show (#[.int .i64 xk,.slice xA xn xc,.bool xb,.int .i32 xo,.slice xB xm xd]:Array Value)[3]? = some (.int .i32 xo) from rfl);have y4:=(uk hx 4).trans (show (#[.int .i64 xk,.slice xA xn xc,.bool xb,.int .i32 xo,.slice xB xm xd]:Array Value)[4]? = some (.slice xB xm xd) from rfl);have yf:=fun i => ut hx i;have yf0:=yf 0;have yf1:=yf 1;have yf2:=yf 2;have yf3:=yf 3;have yf4:=yf 4;clear yf;have HX6:=Aside0.mk hx;clear hx;have HP6:=Aside0.mk hP;clear hB hP)
             | (go_at_call 105;(with_reducible refine (u1g.calls c2 ⟨#[42,43,63]⟩ true _ HO2.out).mono ?_);rintro e w' ⟨rfl,hB⟩;have hP:=HP6.out.more hB;clear k1 k2 q1 q2 n0 n1 n2 n3 n4 r0 r1 r2 r3 r4 fr0 fr1 fr2 fr3 fr4;obtain ⟨⟨k1,k2,q1,q2⟩,⟨n0,n1,n2,n3,n4⟩,fr,⟨r0,r1,r2,r3,r4⟩⟩:=hP.look;have fr0:=fr 0;have fr1:=fr 1;have fr2:=fr 2;have fr3:=fr 3;have fr4:=fr 4;clear fr;simp only at k1 k2;have hx:=u1h HX6.out hB;clear y0 y1 y2 y3 y4 yf0 yf1 yf2 yf3 yf4;have y0:=(uk hx 0).trans (show (#[.int .i64 xk,.slice xA xn xc,.bool xb,.int .i32 xo,.slice xB xm xd]:Array Value)[0]? = some (.int .i64 xk) from rfl);have y1:=(uk hx 1).trans (show (#[.int .i64 xk,.slice xA xn xc,.bool xb,.int .i32 xo,.slice xB xm xd]:Array Value)[1]? = some (.slice xA xn xc) from rfl);have y2:=(uk hx 2).trans (show (#[.int .i64 xk,.slice xA xn xc,.bool xb,.int .i32 xo,.slice xB xm xd]:Array Value)[2]? = some (.bool xb) from rfl);have y3:=(uk hx 3).trans (show (#[.int .i64 xk,.slice xA xn xc,.bool xb,.int .i32 xo,.slice xB xm xd]:Array Value)[3]? = some (.int .i32 xo) from rfl);have y4:=(uk hx 4).trans (show (#[.int .i64 xk,.slice xA xn xc,.bool xb,.int .i32 xo,.slice xB xm xd]:Array Value)[4]? = some (.slice xB xm xd) from rfl);have yf:=fun i => ut hx i;have yf0:=yf 0;have yf1:=yf 1;have yf2:=yf 2;have yf3:=yf 3;have yf4:=yf 4;clear yf;have HX7:=Aside0.mk hx;clear hx;have HP7:=Aside0.mk hP;clear hB hP;have hPu:um.Pn w0 W (w'.setCell ⟨g,1,none⟩ (.int .i64 ((a1:Int) + 1))) g gp (W.heap.size + 1) W.heap.size l ⟨a1 + 1,false⟩ 3 (.slice Av rows.length cv) rows:=HP7.out.move HP7.out.st.up (ua.Kq.set _ _ _ _);have hxu:(w'.setCell ⟨g,1,none⟩ (.int .i64 ((a1:Int) + 1))).heap[w4.heap.size]? = some (.cells #[.int .i64 xk,.slice xA xn xc,.bool xb,.int .i32 xo,.slice xB xm xd] 148 (0,0)):=(Below.heap_setCell _ _ _ _ ng7).trans HX7.out;have an4:=fun o => (hPu.more (uj (Below.refl _ _) o)).look.2.1.2.2.2.2;have ax0:∀ o,(World.alloc _ o).cell? _ = some (.int .i64 xk):=fun o => (uk (uo hxu o) 0).trans rfl;have ax1:∀ o,(World.alloc _ o).cell? _ = some (.slice xA xn xc):=fun o => (uk (uo hxu o) 1).trans rfl;have ax2:∀ o,(World.alloc _ o).cell? _ = some (.bool xb):=fun o => (uk (uo hxu o) 2).trans rfl;have ax3:∀ o,(World.alloc _ o).cell? _ = some (.int .i32 xo):=fun o => (uk (uo hxu o) 3).trans rfl;have ax4:∀ o,(World.alloc _ o).cell? _ = some (.slice xB xm xd):=fun o => (uk (uo hxu o) 4).trans rfl;have af0:=fun o => ut (uo hxu o) 0;have af1:=fun o => ut (uo hxu o) 1;have af2:=fun o => ut (uo hxu o) 2;have af3:=fun o => ut (uo hxu o) 3;have af4:=fun o => ut (uo hxu o) 4;have HPu:=Aside0.mk hPu;have HXu:=Aside0.mk hxu;clear hPu hxu)
             | ((with_reducible refine u3b (b:=.append) (xs:=#[.tmp 51,.tmp 53]) rfl ?_);at_builtin;have hCz:=(HPu.out.more (uj (Below.refl _ _) (.cells #[.int .i64 xk,.slice xA xn xc,.bool xb,.int .i32 xo,.slice xB xm xd] 148))).five (uo HXu.out _) ng7 ng5 ng6 HGX.out.2 HGX.out.1.2.2.2 (.int .i64 5) (.slice none 0 0) (.bool false) (.int .i32 c2) (.slice (some ⟨w'.heap.size,0,none⟩) 1 1);refine Kd.R_append (Kd.raw 5) (w0:=w0) w0.heap.size rfl (.tmp 51) (.tmp 53) 146 148 (.agg ub.zc) 64 rfl Tryz.underlying146 um.infoN rfl (by decide) (by decide) _ rows [.int .i64 5,.slice none 0 0,.bool false,.int .i32 c2,.slice (some ⟨w'.heap.size,0,none⟩) 1 1] [.int .i64 5,.slice none 0 0,.bool false,.int .i32 c2,.slice (some ⟨w'.heap.size,0,none⟩) 1 1] (fun k => W.heap.size ≤ k ∧ k ≠ W.heap.size + 1 ∧ k ≠ W.heap.size) (fun _ => False) rfl (by rw [um.size5,um.size_all,um.size_set];rfl) ⟨rfl,rfl,by simp [Value.oneCell']⟩ (fun _ hk => hk.elim) (fun k hk => by have h1:=hCz.kq.1;have h2:=u3c hCz.node;have h3:=u3c hCz.res;omega) hCz.row hCz.st.below hCz.st.below.size (by omega) ?_;intro v6 W6 hR6 hB6 hg6 hat6;obtain ⟨⟨z1,z2⟩,hc6⟩:=hCz.put hR6 hB6 hg6;obtain ⟨A6,c6,e6⟩:=Kd.R_slice hR6;subst e6;simp only [List.length_append,List.length_cons,List.length_nil,Nat.zero_add] at hc6;have HC6:=Aside0.mk hc6;clear hc6 hR6 hB6 hg6 hat6 hCz))
            go_roundg g1
            case rel => exact ⟨⟨a1 + 1,false⟩,_,rows ++ [[.int .i64 5,.slice none 0 0,.bool false,.int .i32 c2,.slice (some ⟨w'.heap.size,0,none⟩) 1 1]],HC6,HF1,⟨Or.inr (by have h9:=HQA.out;have h8:=HA1.out;have h7:=HNK.out;have h6:=HLT.out;unfold uc.need at h7 ⊢;(try simp only at h9);(try simp only);omega)⟩,⟨by have h9:=HQA.out;have h8:=HA1.out;(try simp only at h9);show a1 + 1 ≤ _;omega,by have h9:=HQA.out;have h8:=HA1.out;have h7:=HAT.out;(try simp only at h9);(try simp only at h7);rw [List.length_append,List.length_singleton];show _ ≤ a1 + 1;omega⟩,⟨by have:=HKF.out;omega⟩⟩
            case measure => omega
end Go.Proofs.YtgnehcgaplnfkaaGreatDoor.PAll
