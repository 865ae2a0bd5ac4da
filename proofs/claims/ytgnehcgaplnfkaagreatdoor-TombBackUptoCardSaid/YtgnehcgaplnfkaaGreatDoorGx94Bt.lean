/- A text of this seat. -/
import Derived.Test.YtgnehcgaplnfkaaGreatDoorBt1
import Derived.Test.YtgnehcgaplnfkaaGreatDoorBt3
import Derived.Test.YtgnehcgaplnfkaaGreatDoorBt2
import Derived.Test.YtgnehcgaplnfkaaGreatDoorBt6
namespace Go.Proofs.YtgnehcgaplnfkaaGreatDoor.PAll
open Go.RowKit Go.Proofs.YtgnehcgaplnfkaaGreatDoorW.PrintWords Go.Proofs.YtgnehcgaplnfkaaGreatDoorW.PrintLast Go.Proofs.YtgnehcgaplnfkaaGreatDoorW.PrintMore
attribute [local go_sem] u3r u3t u4c u4b u3n u3o u3u u3s   -- for this text's walks alone
set_option linter.unusedVariables false
set_option linter.unusedSimpArgs false
-- uses tomb_source_take tomb_source_number tomb_source_count match_Decode record_source_number tomb_Can tomb_can match_reader_matcher match_bytesReader_byte
abbrev ui.SS:=ug.SS
abbrev ui.Dl:=S83
abbrev ui.Sp:=S48
def ui.s1 (s:ui.SS):ui.SS:=⟨(ux.dec s.b).2.1,(ux.dec s.b).2.2 != 0⟩
def ui.oneD (s:ui.SS):ui.Dl × ui.SS:=(⟨(ux.dec s.b).1,(un.num 8 (ui.s1 s)).1,(un.num 8 (un.num 8 (ui.s1 s)).2).1,(un.num 8 (un.num 8 (un.num 8 (ui.s1 s)).2).2).1⟩,(un.num 8 (un.num 8 (un.num 8 (ui.s1 s)).2).2).2)
def ui.delsM:Nat → ui.SS → List ui.Dl → List ui.Dl × ui.SS
 | 0,s,l => (l,s)
 | n + 1,s,l => if s.bad = true then (l,s) else ui.delsM n (ui.oneD s).2 (l ++ [(ui.oneD s).1])
def ui.oneS (s:ui.SS):ui.Sp × ui.SS:=(⟨strOfNums (us.tk (un.num 1 s).1.toNat (un.num 1 s).2).1,(un.num 4 (us.tk (un.num 1 s).1.toNat (un.num 1 s).2).2).1⟩,(un.num 4 (us.tk (un.num 1 s).1.toNat (un.num 1 s).2).2).2)
def ui.spotsM:Nat → ui.SS → List ui.Sp → List ui.Sp × ui.SS
 | 0,s,l => (l,s)
 | n + 1,s,l => if s.bad = true then (l,s) else ui.spotsM n (ui.oneS s).2 (l ++ [(ui.oneS s).1])
abbrev ui.Re:=List ui.Dl × List ui.Sp × Int
def ui.out (l:List ui.Dl) (y:List ui.Sp × ui.SS):ui.Re:=if y.2.bad = true then ([],[],5) else if y.2.b ≠ [] then ([],[],5) else if u2f.CanB l = true then (if u2i.CanB y.1 = true then (l,y.1,0) else ([],[],5)) else ([],[],5)
def ui.back (x:List ui.Dl × ui.SS):ui.Re:=ui.out x.1 (ui.spotsM (u1r.cnt x.2).1.toNat (u1r.cnt x.2).2 [])
def ui.dec (b:List Int):ui.Re:=ui.back (ui.delsM (u1r.cnt ⟨b,false⟩).1.toNat (u1r.cnt ⟨b,false⟩).2 [])
theorem ui.range {s:ui.SS} {n:Nat} (h:∀ y ∈ s.b,0 ≤ y ∧ y < 256):(∀ y ∈ (un.num n s).2.b,0 ≤ y ∧ y < 256) ∧ (un.num n s).2.b.length ≤ s.b.length:=by
 unfold un.num ug.num
 split
 · exact ⟨h,Nat.le_refl _⟩
 · exact ⟨fun y hy => h y (List.mem_of_mem_drop hy),by show (s.b.drop n).length ≤ _;rw [List.length_drop];omega⟩
theorem ui.rangeT {s:ui.SS} {n:Nat} (h:∀ y ∈ s.b,0 ≤ y ∧ y < 256):(∀ y ∈ (us.tk n s).2.b,0 ≤ y ∧ y < 256) ∧ (us.tk n s).2.b.length ≤ s.b.length:=by
 unfold us.tk
 split
 · exact ⟨h,Nat.le_refl _⟩
 · exact ⟨fun y hy => h y (List.mem_of_mem_drop hy),by show (s.b.drop n).length ≤ _;rw [List.length_drop];omega⟩
theorem ui.rangeC {s:ui.SS} (h:∀ y ∈ s.b,0 ≤ y ∧ y < 256):(∀ y ∈ (u1r.cnt s).2.b,0 ≤ y ∧ y < 256) ∧ (u1r.cnt s).2.b.length ≤ s.b.length:=by
 unfold u1r.cnt
 split
 · exact ui.range (n:=4) h
 · exact ui.range (n:=4) h
theorem ui.cnt_le (s:ui.SS):(u1r.cnt s).1 ≤ 10000:=by
 unfold u1r.cnt
 split
 · show (0:Int) ≤ 10000;omega
 · rename_i h9;have h8:=mt Or.inr h9;omega
theorem ui.num1_nn (s:ui.SS) (h:∀ y ∈ s.b,0 ≤ y ∧ y < 256):∃ n:Nat,(un.num 1 s).1 = (n:Int) ∧ n < 256:=by
 obtain ⟨b,bad⟩:=s
 cases bad with
 | true => exact ⟨0,by simp [un.num,ug.num,wrap64],by decide⟩
 | false =>
   cases b with
   | nil => exact ⟨0,by simp [un.num,ug.num,wrap64],by decide⟩
   | cons c r =>
     have hc:=h c (List.mem_cons_self ..)
     obtain ⟨m,rfl⟩:∃ m:Nat,c = (m:Int):=⟨c.toNat,by omega⟩
     have hv:ug.val [(m:Int)] = (m:Int):=by
      show Go.bits .or .u64 (IntKind.u64.wrap (0 * 256)) (IntKind.u64.wrap (m:Int)) = _
      have e1:IntKind.u64.wrap (m:Int) = (m:Int):=by show (m:Int) % 18446744073709551616 = _;omega
      have e0:IntKind.u64.wrap (0 * 256) = 0:=by decide
      rw [e0,e1]
      have h9:=bits_join .u64 64 (by decide) (fun n h6 h7 => by have h8:n < 18446744073709551616:=(by simpa using h7);exact Int.emod_eq_of_lt h6 h8) 8 0 (m:Int) (by omega) (by omega) (by omega) (by omega) (by omega) (by omega)
      rw [h9];omega
     refine ⟨m,?_,by omega⟩
     have hn:¬ ((false:Bool) = true ∨ ((m:Int) :: r).length < 1):=by simp
     show wrap64 (ug.num 1 ⟨(m:Int) :: r,false⟩).1 = _
     unfold ug.num
     rw [if_neg hn]
     show wrap64 (ug.val [(m:Int)]) = _
     rw [hv];unfold wrap64;omega
theorem ui.mats_range:∀ (n:Nat) (s:ux.SS) (l:List ux.Mt),(∀ y ∈ s.b,0 ≤ y ∧ y < 256) → (∀ y ∈ (ux.mats n s l).2.b,0 ≤ y ∧ y < 256) ∧ (ux.mats n s l).2.b.length ≤ s.b.length
 | 0,s,l,h => ⟨h,Nat.le_refl _⟩
 | n + 1,s,l,h => by
   have h1:=u1d.mat_range h
   have h2:=ui.mats_range n (u1d.mat s).2 (l ++ [(u1d.mat s).1]) h1.1
   exact ⟨h2.1,Nat.le_trans h2.2 h1.2⟩
theorem ui.dec_range (b:List Int) (h:∀ y ∈ b,0 ≤ y ∧ y < 256):(∀ y ∈ (ux.dec b).2.1,0 ≤ y ∧ y < 256) ∧ (ux.dec b).2.1.length ≤ b.length:=by
 obtain ⟨_,h2,h3⟩:=ul.byt_range (s:=⟨b,false⟩) h
 have h4:=ui.mats_range (ul.byt ⟨b,false⟩).1.toNat _ [] h2
 unfold ux.dec ux.out
 split
 · exact ⟨fun y hy => (by cases hy),Nat.zero_le _⟩
 · split
   · exact ⟨fun y hy => (by cases hy),Nat.zero_le _⟩
   · exact ⟨h4.1,Nat.le_trans h4.2 h3⟩
theorem ui.infoD:(Tryz.prog.info? 83).map (fun i => (i.zero,i.size,i.bytes)) = some (some (.agg #[.slice none 0 0,.int .i64 0,.int .i64 0,.int .i64 0]),4,48):=by kernel_rfl
theorem ui.infoS:(Tryz.prog.info? 48).map (fun i => (i.zero,i.size,i.bytes)) = some (some (.agg #[.string ⟨#[]⟩,.int .i64 0]),2,24):=by kernel_rfl
structure ui.Inv (w W:World) (s:ui.SS) (v:Value) (l:List ui.Dl):Prop where
 src:∃ M:Nat → Prop,us.St w W w.heap.size M s ∧ ∀ k,M k → some k ≠ v.ownBlock
 rows:Kd.S k83 83 W w.heap.size (fun k => k ≠ w.heap.size) v l
theorem ui.Inv.below {w W:World} {s:ui.SS} {v:Value} {l:List ui.Dl} (h:ui.Inv w W s v l):Below w.heap.size w W:=by
 obtain ⟨M,hS,_⟩:=h.src
 exact hS.below
theorem ui.Inv.more {w W W':World} {s:ui.SS} {v:Value} {l:List ui.Dl} (h:ui.Inv w W s v l) (hb:Below W.heap.size W W'):ui.Inv w W' s v l:=by
 obtain ⟨M,hS,hM⟩:=h.src
 exact ⟨⟨M,hS.more hb,hM⟩,Kd.S_below h.rows hb⟩
theorem ui.Inv.keep {w W W':World} {s s':ui.SS} {v:Value} {l:List ui.Dl} (h:ui.Inv w W s v l) (hs:∃ M:Nat → Prop,us.St w W' w.heap.size M s' ∧ ∀ k,M k → some k ≠ v.ownBlock) (hk:u3e W W' w.heap.size none):ui.Inv w W' s' v l :=
 ⟨hs,Kd.S_keep h.rows hk (fun _ h9 => h9)⟩
theorem ui.Inv.grow {w W W1:World} {s:ui.SS} {v v1:Value} {l l1:List ui.Dl} (h:ui.Inv w W s v l) (hR:Kd.S k83 83 W1 w.heap.size (fun k => k ≠ w.heap.size) v1 l1) (hB:Below w.heap.size w W1) (hg:W.grownBy W1 v.ownBlock) (hat:v1.ownBlock = v.ownBlock ∨ ∃ b,v1.ownBlock = some b ∧ W.heap.size ≤ b):ui.Inv w W1 s v1 l1:=by
 obtain ⟨M,hS,hM⟩:=h.src
 have hne:some w.heap.size ≠ v.ownBlock:=fun he => (Kd.S_R h.rows).1 _ he.symm rfl
 refine ⟨⟨fun k => M k ∧ k < W.heap.size,(hS.mono (M':=fun k => M k ∧ k < W.heap.size) (fun k h1 h2 => ⟨h2,h1⟩) (fun k h9 => hS.far k h9.1)).move hB (hg.block _ hS.lt hne) (fun k hk hlt => hg.block k hlt (hM k hk.1)),fun k hk => ?_⟩,hR⟩
 intro he
 rcases hat with h9 | ⟨b,h9,h8⟩
 · exact hM k hk.1 (by rw [← h9];exact he)
 · rw [h9] at he
   have:=Option.some.inj he
   have:=hk.2
   omega
structure ui.In2 (w W:World) (s:ui.SS) (v:Value) (l:List ui.Dl) (u:Value) (g:List ui.Sp):Prop where
 src:∃ M:Nat → Prop,us.St w W w.heap.size M s ∧ ∀ k,M k → some k ≠ u.ownBlock
 rows:Kd.S k83 83 W w.heap.size (fun k => k ≠ w.heap.size) v l
 spots:Kd.R k48 48 W w.heap.size (fun k => k ≠ w.heap.size) u g
theorem ui.In2.below {w W:World} {s:ui.SS} {v u:Value} {l:List ui.Dl} {g:List ui.Sp} (h:ui.In2 w W s v l u g):Below w.heap.size w W:=by
 obtain ⟨M,hS,_⟩:=h.src
 exact hS.below
theorem ui.In2.more {w W W':World} {s:ui.SS} {v u:Value} {l:List ui.Dl} {g:List ui.Sp} (h:ui.In2 w W s v l u g) (hb:Below W.heap.size W W'):ui.In2 w W' s v l u g:=by
 obtain ⟨M,hS,hM⟩:=h.src
 exact ⟨⟨M,hS.more hb,hM⟩,Kd.S_below h.rows hb,Kd.R_below h.spots hb⟩
theorem ui.In2.keep {w W W':World} {s s':ui.SS} {v u:Value} {l:List ui.Dl} {g:List ui.Sp} (h:ui.In2 w W s v l u g) (hs:∃ M:Nat → Prop,us.St w W' w.heap.size M s' ∧ ∀ k,M k → some k ≠ u.ownBlock) (hk:u3e W W' w.heap.size none):ui.In2 w W' s' v l u g :=
 ⟨hs,Kd.S_keep h.rows hk (fun _ h9 => h9),Kd.R_keep h.spots hk (fun _ h9 => h9)⟩
theorem ui.In2.grow {w W W1:World} {s:ui.SS} {v u u1:Value} {l:List ui.Dl} {g g1:List ui.Sp} (h:ui.In2 w W s v l u g) (hR:Kd.R k48 48 W1 w.heap.size (fun k => k ≠ w.heap.size) u1 g1) (hB:Below w.heap.size w W1) (hg:W.grownBy W1 u.ownBlock) (hat:u1.ownBlock = u.ownBlock ∨ ∃ b,u1.ownBlock = some b ∧ W.heap.size ≤ b):ui.In2 w W1 s v l u1 g1:=by
 obtain ⟨M,hS,hM⟩:=h.src
 have hne:some w.heap.size ≠ u.ownBlock:=fun he => h.spots.1 _ he.symm rfl
 refine ⟨⟨fun k => M k ∧ k < W.heap.size,(hS.mono (M':=fun k => M k ∧ k < W.heap.size) (fun k h1 h2 => ⟨h2,h1⟩) (fun k h9 => hS.far k h9.1)).move hB (hg.block _ hS.lt hne) (fun k hk hlt => hg.block k hlt (hM k hk.1)),fun k hk => ?_⟩,Kd.S_over' h.rows (Kd.R_typed h.spots) (by decide) hg,hR⟩
 intro he
 rcases hat with h9 | ⟨b,h9,h8⟩
 · exact hM k hk.1 (by rw [← h9];exact he)
 · rw [h9] at he
   have:=Option.some.inj he
   have:=hk.2
   omega
def ui.Ret (w w':World) (r:ui.Re) (e:Ending):Prop:=∃ v1 v2:Value,e = .returned (.tuple #[v1,v2,.int .i64 r.2.2]) ∧ Kd.S k83 83 w' w.heap.size (fun _ => True) v1 r.1 ∧ Kd.R k48 48 w' w.heap.size (fun _ => True) v2 r.2.1 ∧ Below w.heap.size w w'
theorem ui.Ret.none {w w':World} {r:ui.Re} (hr:r = ([],[],5)) (hb:Below w.heap.size w w'):ui.Ret w w' r (.returned (.tuple #[.slice none 0 0,.slice none 0 0,.int .i64 5])):=by
 subst hr
 exact ⟨_,_,rfl,Kd.S_nil _ _ _ _ _,Kd.R_nil _ _ _ _ _,hb⟩
set_option maxHeartbeats 16000000 in
set_option maxRecDepth 10000 in
theorem ui.callsD (A0:Option Addr) (c0:Nat) (l0:List Int) (r:ui.Re) (w:World) (hr0:Kd.C (Kd.int .u8) w A0 l0.length l0) (hc0:l0.length ≤ c0) (hl:l0.length ≤ 140737488355328) (h256:∀ y ∈ l0,0 ≤ y ∧ y < 256) (hG:strings_ToValidUTF8.Gd w) (h:ui.dec l0 = r) :
 Calls Tryz.prog 19 #[.slice A0 l0.length c0] w fun e w' => ui.Ret w w' r e:=by
 obtain ⟨n0,b0,bad0,hn0⟩:∃ n b bad,u1r.cnt ⟨l0,false⟩ = (n,⟨b,bad⟩):=⟨_,_,_,rfl⟩
 have hle0:n0 ≤ 10000:=by have h9:=ui.cnt_le ⟨l0,false⟩;rw [hn0] at h9;exact h9
 have hrg0:=ui.rangeC (s:=⟨l0,false⟩) h256
 rw [hn0] at hrg0
 unfold ui.dec at h
 rw [hn0] at h
 have HF:=Aside0.mk h
 have HN0:=Aside0.mk hn0
 have HB0:Aside0 ((∀ y ∈ b0,0 ≤ y ∧ y < 256) ∧ b0.length ≤ 140737488355328):=⟨hrg0.1,Nat.le_trans hrg0.2 hl⟩
 have HLE0:=Aside0.mk hle0
 obtain ⟨W2,hW2⟩:∃ W2,Aside0 (w.alloc (.cells #[.slice A0 l0.length c0,.bool false] 92) = W2):=⟨_,⟨rfl⟩⟩
 have hbl:Below w.heap.size w W2:=by rw [← hW2.out];exact uj (Below.refl _ _) _
 have hy:W2.heap[w.heap.size]? = some (.cells #[.slice A0 l0.length c0,.bool false] 92 (0,0)):=by rw [← hW2.out];exact u3l w _
 have HS:Aside0 (us.St w W2 w.heap.size (fun k => k < w.heap.size) ⟨l0,false⟩):=⟨⟨hbl,Nat.le_refl _,fun k hk => by omega,A0,c0,hy,hc0,Kd.F_below (Kd.C_F (Kd.heap_int .u8) hr0) hbl⟩⟩
 have HG0:=Aside0.mk hG
 clear hr0 hc0 hl h256 hG h hn0 hbl hy hle0 hrg0
 go_enter Tryz.func19,Tryz.ntmps19
 go_wp2_with (go_at_call 50;rw [hW2.out];(with_reducible refine (u1r.calls w W2 w.heap.size (fun k => k < w.heap.size) ⟨l0,false⟩ HS.out).mono ?_);rintro e W1 ⟨rfl,hS1,hK1⟩;rw [HN0.out] at hS1 ⊢;have HI1:Aside0 (ui.Inv w W1 ⟨b0,bad0⟩ (.slice none 0 0) []):=⟨⟨⟨_,hS1,fun k _ => by simp [Value.ownBlock]⟩,Kd.S_nil _ _ _ _ _⟩⟩;clear hS1 hK1)
 obtain ⟨m0,hm0⟩:∃ m0:Nat,n0.toNat = m0:=⟨_,rfl⟩
 have HM0:Aside0 (m0 ≤ 10000 ∧ ((n0 ≤ 0 ∧ m0 = 0) ∨ n0 = (m0:Int))):=⟨by have h9:=HLE0.out;omega⟩
 have HF0:Aside0 (ui.back (ui.delsM m0 ⟨b0,bad0⟩ []) = r):=⟨by rw [← hm0];exact HF.out⟩
 clear hm0 HF
 go_loopg [6,7] m0 (fun kq v6 v7 wr => ∃ (i:Nat) (n:Int) (b:List Int) (bad:Bool) (l:List ui.Dl),v7 = .int .i64 n ∧ Aside0 ((n ≤ 0 ∧ i = 0) ∨ n = (i:Int)) ∧ Aside0 (ui.Inv w wr ⟨b,bad⟩ v6 l) ∧ Aside0 (ui.back (ui.delsM i ⟨b,bad⟩ l) = r) ∧ Aside0 ((∀ y ∈ b,0 ≤ y ∧ y < 256) ∧ b.length ≤ 140737488355328) ∧ Aside0 (l.length + i ≤ 10000) ∧ i ≤ kq)
 case atStart => exact ⟨m0,n0,b0,bad0,[],rfl,⟨by have h9:=HM0.out;omega⟩,HI1,HF0,HB0,⟨by have h9:=HM0.out;simp;omega⟩,Nat.le_refl _⟩
 case round =>
  clear HI1 HF0 HB0 HM0 HLE0
  obtain ⟨i,n,b,bad,l,rfl,HNI,HI,HF,HB,HLN,hk⟩:=hrel
  obtain ⟨x,hx⟩:∃ x:Bool,x = (!bad && decide (0 < i)):=⟨_,rfl⟩
  cases x with
  | true =>
    have hbf:bad = false:=by cases bad with | false => rfl | true => cases hx
    subst hbf
    have hi0:0 < i:=by simpa using hx
    have hni:n = (i:Int):=by have h9:=HNI.out;omega
    obtain ⟨i,rfl⟩:∃ j,i = j + 1:=⟨i - 1,by omega⟩
    subst hni
    have d1:decide (((i + 1:Nat):Int) > 0) = true:=decide_eq_true (by omega)
    have d2:decide (0 < ((i + 1:Nat):Int)) = true:=decide_eq_true (by omega)
    have d3:decide (0 < i + 1) = true:=decide_eq_true (by omega)
    clear hx hi0 HNI
    obtain ⟨m1,q1,e9,hdc⟩:∃ m1 q1 e9,ux.dec b = (m1,q1,e9):=⟨_,_,_,rfl⟩
    have HDC:=Aside0.mk hdc
    obtain ⟨B,hBB⟩:∃ B,(e9 != 0) = B:=⟨_,rfl⟩
    have hs1:ui.s1 ⟨b,false⟩ = ⟨q1,B⟩:=by unfold ui.s1;simp only [hdc,hBB]
    obtain ⟨x3,b3,bad3,hn3⟩:∃ x3 b3 bad3,un.num 8 ⟨q1,B⟩ = (x3,⟨b3,bad3⟩):=⟨_,_,_,rfl⟩
    obtain ⟨x4,b4,bad4,hn4⟩:∃ x4 b4 bad4,un.num 8 ⟨b3,bad3⟩ = (x4,⟨b4,bad4⟩):=⟨_,_,_,rfl⟩
    obtain ⟨x5,b5,bad5,hn5⟩:∃ x5 b5 bad5,un.num 8 ⟨b4,bad4⟩ = (x5,⟨b5,bad5⟩):=⟨_,_,_,rfl⟩
    have HO:Aside0 (ui.oneD ⟨b,false⟩ = (⟨m1,x3,x4,x5⟩,⟨b5,bad5⟩)):=⟨by unfold ui.oneD;rw [hs1,hn3];simp only [hn4,hn5,hdc]⟩
    have HF2:Aside0 (ui.back (ui.delsM i ⟨b5,bad5⟩ (l ++ [⟨m1,x3,x4,x5⟩])) = r):=⟨by have h9:=HF.out;unfold ui.delsM at h9;rw [if_neg (by intro h8;cases h8),HO.out] at h9;exact h9⟩
    have HB2:Aside0 ((∀ y ∈ b5,0 ≤ y ∧ y < 256) ∧ b5.length ≤ 140737488355328):=⟨by
     have g1:=ui.dec_range b HB.out.1
     rw [hdc] at g1
     have g2:=ui.range (s:=⟨q1,B⟩) (n:=8) g1.1
     rw [hn3] at g2
     have g3:=ui.range (s:=⟨b3,bad3⟩) (n:=8) g2.1
     rw [hn4] at g3
     have g4:=ui.range (s:=⟨b4,bad4⟩) (n:=8) g3.1
     rw [hn5] at g4
     exact ⟨g4.1,Nat.le_trans g4.2 (Nat.le_trans g3.2 (Nat.le_trans g2.2 (Nat.le_trans g1.2 HB.out.2)))⟩⟩
    have HN3:=Aside0.mk hn3
    have HN4:=Aside0.mk hn4
    have HN5:=Aside0.mk hn5
    clear hdc hs1 hn3 hn4 hn5 HF HO
    obtain ⟨M9,hS9,hM9⟩:=HI.out.src
    have HS9:=Aside0.mk hS9
    have HM9:=Aside0.mk hM9
    obtain ⟨A9,c9,⟨k0,k1⟩,⟨f0,f1⟩,hl9,hb9,hF9⟩:=hS9.look
    simp only at k0 k1 hl9 hF9
    have HF9:=Aside0.mk hF9
    have HC9:=Aside0.mk hl9
    clear hl9 hb9 hF9 hS9 hM9
    obtain ⟨g2,rfl⟩:∃ g2,gk = g2 + 1:=⟨gk - 1,by omega⟩
    have HK:Aside0 (i ≤ g2):=⟨by omega⟩
    clear hk
    have hw1:wrap64 (i:Int) = (i:Int):=by have h9:=HLN.out;unfold wrap64;omega
    obtain ⟨AL,cL,eL⟩:=Kd.S_slice HI.out.rows
    subst eL
    go_wp2_with (first
     | (go_at_call 24;(with_reducible refine (ux.calls A9 c9 b _ (Kd.F_now HF9.out) HC9.out HB.out.2 HB.out.1 (HG0.out.below HI.out.below)).mono ?_);rintro e W4 ⟨v0,v1,rfl,hRm,hRq,hB4⟩;rw [HDC.out] at hRm hRq ⊢;simp only at hRm hRq;obtain ⟨Aq,cq,eq⟩:=Kd.R_slice hRq;subst eq;obtain ⟨Am,cm,em⟩:=Kd.R_slice hRm;subst em;have hI4:=HI.out.more hB4;have HS4:=Aside0.mk ((HS9.out.more hB4).mono (M':=fun k9 => M9 k9 ∨ wr.heap.size ≤ k9) (fun k9 _ h9 => Or.inl h9) (fun k9 hk9 => by rcases hk9 with h9 | h9;exact HS9.out.far k9 h9;have:=HS9.out.lt;omega));have HRM:=Aside0.mk (Kd.R_lower (Kd.R_bound hRm) HI.out.below.size);have HLT:=Aside0.mk hI4.below.size;obtain ⟨M8,hS8,_⟩:=hI4.src;obtain ⟨A8,c8,⟨k0,k1⟩,⟨f0,f1⟩,hl8,hb8,hF8⟩:=hS8.look;simp only at k0 k1;have HRQ:=Aside0.mk hRq;have HB4:=Aside0.mk hB4;have HI4:=Aside0.mk hI4;clear hl8 hb8 hF8 hS8 hRm hRq hB4 hI4;have HF4:Aside0 (Kd.F (Kd.int .u8) W4 (fun k9 => M9 k9 ∨ wr.heap.size ≤ k9) Aq q1.length q1):=⟨Kd.F_mono (Kd.R_F (Kd.R_bound HRQ.out)) (fun k9 hk9 => Or.inr hk9.2.1)⟩;have HS5:=Aside0.mk ((HS4.out.setBad B).setB Aq cq q1 (Kd.R_reads' HRQ.out).2.1 (Kd.F_far (p:=⟨w.heap.size,1,none⟩) HF4.out HS4.out.far _));have HK5:Aside0 (u3e W4 ((W4.setCell ⟨w.heap.size,1,none⟩ (.bool B)).setCell ⟨w.heap.size,0,none⟩ (.slice Aq q1.length cq)) w.heap.size none):=⟨((u3e.refl _ _ _).set_ 1 _).set_ 0 _⟩;have HFA:Aside0 (∀ k9,(M9 k9 ∨ wr.heap.size ≤ k9) → some k9 ≠ (Value.slice AL l.length cL).ownBlock):=⟨fun k9 hk9 => by rcases hk9 with h9 | h9;exact HM9.out k9 h9;exact fun he => (by have h8:=Kd.S_lt HI.out.rows k9 he.symm;omega)⟩)
     | (go_at_call 51;(with_reducible refine (un.calls8 w _ w.heap.size (fun k9 => M9 k9 ∨ wr.heap.size ≤ k9) ⟨q1,B⟩ HS5.out).mono ?_);rw [HN3.out];rintro e W6 ⟨rfl,hS9,hK9⟩;have HS6:=Aside0.mk hS9;have HK6:=Aside0.mk (HK5.out.trans hK9 (Or.inl rfl));clear hS9 hK9)
     | (go_at_call 51;(with_reducible refine (un.calls8 w _ w.heap.size (fun k9 => M9 k9 ∨ wr.heap.size ≤ k9) ⟨b3,bad3⟩ HS6.out).mono ?_);rw [HN4.out];rintro e W7 ⟨rfl,hS9,hK9⟩;have HS7:=Aside0.mk hS9;have HK7:=Aside0.mk (HK6.out.trans hK9 (Or.inl rfl));clear hS9 hK9)
     | (go_at_call 51;(with_reducible refine (un.calls8 w _ w.heap.size (fun k9 => M9 k9 ∨ wr.heap.size ≤ k9) ⟨b4,bad4⟩ HS7.out).mono ?_);rw [HN5.out];rintro e W8 ⟨rfl,hS9,hK9⟩;have HS8:=Aside0.mk hS9;have HK8:=Aside0.mk (HK7.out.trans hK9 (Or.inl rfl));clear hS9 hK9)
     | (at_builtin;refine Kd.S_append k83 (w0:=w) (W:=W8) w.heap.size rfl (.tmp 47) (.tmp 56) 40 83 (.agg #[.slice none 0 0,.int .i64 0,.int .i64 0,.int .i64 0]) 48 rfl Tryz.underlying40 ui.infoD rfl (by decide) (by decide) (.slice AL l.length cL) l (⟨m1,x3,x4,x5⟩:ui.Dl) [.slice Am m1.length cm,.int .i64 x3,.int .i64 x4,.int .i64 x5] (fun k9 => k9 ≠ w.heap.size) (fun k9 => wr.heap.size ≤ k9) rfl rfl ?hmk ?hokp ?hfr ?hold ?hbel ?hsz ?hbig ?hgo))
    case hmk =>
     refine k83_mkM _ _ _ (⟨m1,x3,x4,x5⟩:ui.Dl) ?_
     refine Kd.R_mono (ok:=fun k9 => True ∧ wr.heap.size ≤ k9 ∧ k9 < W4.heap.size ∧ k9 ≠ w.heap.size) ?_ (fun k9 hk9 => hk9.2.1)
     exact Kd.R_keep (Kd.R_mono HRM.out (fun k9 hk9 => ⟨hk9.1,hk9.2.1,hk9.2.2.1,by have h9:=HS9.out.lt;have h8:=hk9.2.1;omega⟩)) HK8.out (fun k9 hk9 => hk9.2.2.2)
    case hokp =>
     intro k9 hk9
     have h9:=HS9.out.lt
     exact ⟨by omega,fun he => by have h8:=Kd.S_lt HI.out.rows k9 he.symm;omega⟩
    case hfr =>
     intro k9 hk9
     have h9:=HS8.out.lt
     omega
    case hold =>
     exact Kd.S_keep (Kd.S_below (Kd.S_mono (Kd.S_bound HI.out.rows) (fun k9 hk9 => ⟨hk9.1,by have:=hk9.2.2.1;omega⟩)) HB4.out) HK8.out (fun k9 hk9 => hk9.1)
    case hbel => exact HS8.out.below
    case hsz => exact HS8.out.below.size
    case hbig =>
     have h9:=HLN.out
     omega
    intro v9 W9 hR9 hB9 hg9 hat9
    have hI8:ui.Inv w W8 ⟨b5,bad5⟩ (.slice AL l.length cL) l:=(HI4.out.keep ⟨_,HS8.out,HFA.out⟩ HK8.out)
    have HI9:=Aside0.mk (hI8.grow hR9 hB9 hg9 hat9)
    clear hR9 hB9 hg9 hat9 hI8 k0 k1 f0 f1 hBB
    go_wp2
    go_roundg g2
    case rel => exact ⟨i,_,b5,bad5,_,rfl,⟨Or.inr hw1⟩,HI9,HF2,HB2,⟨by have h9:=HLN.out;simp;omega⟩,HK.out⟩
    case measure => omega
  | false =>
    have HF3:Aside0 (ui.back (l,⟨b,bad⟩) = r):=⟨by
     have h9:=HF.out
     cases bad with
     | true =>
       cases i with
       | zero => exact h9
       | succ j => unfold ui.delsM at h9;rw [if_pos rfl] at h9;exact h9
     | false =>
       have hi0:i = 0:=by have h8:=hx.symm;simp at h8;omega
       subst hi0
       exact h9⟩
    obtain ⟨n2,b2,bad2,hn2⟩:∃ n b9 bad9,u1r.cnt ⟨b,bad⟩ = (n,⟨b9,bad9⟩):=⟨_,_,_,rfl⟩
    have HN2:=Aside0.mk hn2
    have hle2:n2 ≤ 10000:=by have h9:=ui.cnt_le ⟨b,bad⟩;rw [hn2] at h9;exact h9
    have hrg2:=ui.rangeC (s:=⟨b,bad⟩) HB.out.1
    rw [hn2] at hrg2
    have HB2:Aside0 ((∀ y ∈ b2,0 ≤ y ∧ y < 256) ∧ b2.length ≤ 140737488355328):=⟨⟨hrg2.1,Nat.le_trans hrg2.2 HB.out.2⟩⟩
    obtain ⟨m2,hm2⟩:∃ m2:Nat,n2.toNat = m2:=⟨_,rfl⟩
    have HM2:Aside0 (m2 ≤ 10000 ∧ ((n2 ≤ 0 ∧ m2 = 0) ∨ n2 = (m2:Int))):=⟨by omega⟩
    have HF4:Aside0 (ui.out l (ui.spotsM m2 ⟨b2,bad2⟩ []) = r):=⟨by have h9:=HF3.out;unfold ui.back at h9;rw [hn2] at h9;rw [← hm2];exact h9⟩
    have HXB:Aside0 (n > 0 → bad = true):=⟨fun h9 => by
     cases bad with
     | true => rfl
     | false => (exfalso;have h8:=hx.symm;have h7:=HNI.out;simp at h8;omega)⟩
    obtain ⟨M9,hS9,hM9⟩:=HI.out.src
    have HS9:=Aside0.mk hS9
    obtain ⟨A9,c9,⟨k0,k1⟩,⟨f0,f1⟩,hl9,hb9,hF9⟩:=hS9.look
    simp only at k0 k1
    clear hl9 hb9 hF9 hS9 hM9 hn2 hle2 hrg2 hm2 HF HF3 hx hk HNI HLN
    obtain ⟨AL,cL,eL⟩:=Kd.S_slice HI.out.rows
    subst eL
    by_cases hn:n > 0
    · have hbt:=HXB.out hn
      have HBT:=Aside0.mk hbt
      rw [hbt] at k1
      clear hbt
      have d1:decide (n > 0) = true:=decide_eq_true hn
      have d2:decide (0 < n) = true:=decide_eq_true hn
      clear hn HXB
      go_wp2_with (go_at_call 50;(with_reducible refine (u1r.calls w _ w.heap.size M9 ⟨b,bad⟩ HS9.out).mono ?_);rintro e W3 ⟨rfl,hS3,hK3⟩;rw [HN2.out] at hS3 ⊢;have HI3:Aside0 (ui.In2 w W3 ⟨b2,bad2⟩ (.slice AL l.length cL) l (.slice none 0 0) []):=⟨⟨⟨_,hS3,fun k _ => by simp [Value.ownBlock]⟩,Kd.S_keep HI.out.rows hK3 (fun _ h9 => h9),Kd.R_nil _ _ _ _ _⟩⟩;clear hS3 hK3 k0 k1 f0 f1)
      clear d1 d2 HBT HI HB HN2
      go_loopg [11,12] m2 (fun kq v11 v12 wr => ∃ (i2:Nat) (n3:Int) (b3:List Int) (bad3:Bool) (g:List ui.Sp),v12 = .int .i64 n3 ∧ Aside0 ((n3 ≤ 0 ∧ i2 = 0) ∨ n3 = (i2:Int)) ∧ Aside0 (ui.In2 w wr ⟨b3,bad3⟩ (.slice AL l.length cL) l v11 g) ∧ Aside0 (ui.out l (ui.spotsM i2 ⟨b3,bad3⟩ g) = r) ∧ Aside0 ((∀ y ∈ b3,0 ≤ y ∧ y < 256) ∧ b3.length ≤ 140737488355328) ∧ Aside0 (g.length + i2 ≤ 10000) ∧ i2 ≤ kq)
      case atStart => exact ⟨m2,n2,b2,bad2,[],rfl,⟨by have h9:=HM2.out;omega⟩,HI3,HF4,HB2,⟨by have h9:=HM2.out;simp;omega⟩,Nat.le_refl _⟩
      case round =>
       clear HI3 HF4 HB2 HM2
       obtain ⟨i2,n3,b3,bad3,g,rfl,HNI,HI,HF,HB,HLN,hk⟩:=hrel
       obtain ⟨AG,cG,eG⟩:=Kd.R_slice HI.out.spots
       subst eG
       obtain ⟨x2,hx2⟩:∃ x2:Bool,x2 = (!bad3 && decide (0 < i2)):=⟨_,rfl⟩
       cases x2 with
       | true =>
         have hbf:bad3 = false:=by cases bad3 with | false => rfl | true => cases hx2
         subst hbf
         have hi0:0 < i2:=by simpa using hx2
         have hni:n3 = (i2:Int):=by have h9:=HNI.out;omega
         obtain ⟨i2,rfl⟩:∃ j,i2 = j + 1:=⟨i2 - 1,by omega⟩
         subst hni
         have d1:decide (((i2 + 1:Nat):Int) > 0) = true:=decide_eq_true (by omega)
         have d2:decide (0 < ((i2 + 1:Nat):Int)) = true:=decide_eq_true (by omega)
         have d3:decide (0 < i2 + 1) = true:=decide_eq_true (by omega)
         clear hx2 hi0 HNI
         obtain ⟨c1,hc1,hc256⟩:=ui.num1_nn ⟨b3,false⟩ HB.out.1
         obtain ⟨y1,z1,hn4⟩:∃ y z,un.num 1 ⟨b3,false⟩ = ((c1:Int),⟨y,z⟩):=⟨(un.num 1 ⟨b3,false⟩).2.b,(un.num 1 ⟨b3,false⟩).2.bad,by rw [← hc1]⟩
         obtain ⟨t,y2,z2,hn5⟩:∃ t y z,us.tk c1 ⟨y1,z1⟩ = (t,⟨y,z⟩):=⟨_,_,_,rfl⟩
         obtain ⟨x6,y3,z3,hn6⟩:∃ x y z,un.num 4 ⟨y2,z2⟩ = (x,⟨y,z⟩):=⟨_,_,_,rfl⟩
         have HO:Aside0 (ui.oneS ⟨b3,false⟩ = (⟨strOfNums t,x6⟩,⟨y3,z3⟩)):=⟨by unfold ui.oneS;rw [hn4];simp only [Int.toNat_natCast,hn5,hn6]⟩
         have HF2:Aside0 (ui.out l (ui.spotsM i2 ⟨y3,z3⟩ (g ++ [⟨strOfNums t,x6⟩])) = r):=⟨by have h9:=HF.out;unfold ui.spotsM at h9;rw [if_neg (by intro h8;cases h8),HO.out] at h9;exact h9⟩
         have HB2:Aside0 ((∀ y ∈ y3,0 ≤ y ∧ y < 256) ∧ y3.length ≤ 140737488355328):=⟨by
          have g2:=ui.range (s:=⟨b3,false⟩) (n:=1) HB.out.1
          rw [hn4] at g2
          have g3:=ui.rangeT (s:=⟨y1,z1⟩) (n:=c1) g2.1
          rw [hn5] at g3
          have g4:=ui.range (s:=⟨y2,z2⟩) (n:=4) g3.1
          rw [hn6] at g4
          exact ⟨g4.1,Nat.le_trans g4.2 (Nat.le_trans g3.2 (Nat.le_trans g2.2 HB.out.2))⟩⟩
         have HN4:=Aside0.mk hn4
         have HN5:=Aside0.mk hn5
         have HN6:=Aside0.mk hn6
         have HC1:=Aside0.mk hc256
         clear hn4 hn5 hn6 hc1 hc256 HF HO
         obtain ⟨g2,rfl⟩:∃ g2,gk = g2 + 1:=⟨gk - 1,by omega⟩
         have HK:Aside0 (i2 ≤ g2):=⟨by omega⟩
         clear hk
         have hw1:wrap64 (i2:Int) = (i2:Int):=by have h9:=HLN.out;unfold wrap64;omega
         obtain ⟨Mm,hSm,hMm⟩:=HI.out.src
         obtain ⟨A8,c8,⟨k0,k1⟩,⟨f0,f1⟩,hl8,hb8,hF8⟩:=hSm.look
         simp only at k0 k1
         clear hl8 hb8 hF8
         have HSm:=Aside0.mk ((hSm.mono (M':=fun k9 => Mm k9 ∧ k9 < wr.heap.size) (fun k9 h1 h2 => ⟨h2,h1⟩) (fun k9 h9 => hSm.far k9 h9.1)).more (uu (Below.refl _ _)))
         have HMm:=Aside0.mk hMm
         have HID:=Aside0.mk (HI.out.more (uu (Below.refl _ _)))
         clear hSm hMm
         go_wp2
         clear k0 k1 f0 f1
         obtain ⟨V,hV⟩:∃ V,Aside0 (wr.drew = V):=⟨_,⟨rfl⟩⟩
         have HVZ:Aside0 (V.heap.size = wr.heap.size):=⟨by rw [← hV.out];rfl⟩
         refine startO_ (n:=12) (S:=fun w' => ∀ k9,Mm k9 ∧ k9 < wr.heap.size → w'.heap[k9]? = V.heap[k9]?) (ds:=[]) [(0,71),(1,72),(2,73),(6,77),(3,0),(4,0),(5,76),(7,0),(8,79),(9,0),(10,0),(11,11)] (by kernel_rfl) rfl (by rw [hV.out];exact fun _ _ => rfl) (fun hHeld => ?_)
         rw [hV.out] at hHeld HSm HID ⊢
         iterate 4 (refine hd_ (v:=?_) (a':=?_) rfl rfl (by kernel_rfl) (Or.inl ⟨by kernel_rfl,?_⟩) ?_ ?_;rotate_left;(intro w';go_simp;with_reducible rfl);rotate_left;(simp only [Act.put,List.setIfInBounds_toArray,List.set_cons_zero,List.set_cons_succ,i64_w,i32_w];rfl))
         have HZ0:Aside0 (wr.heap.size ≤ V.heap.size):=⟨by have h9:=HVZ.out;omega⟩
         have HK0:Aside0 (u3e V V w.heap.size none):=⟨u3e.refl _ _ _⟩
         refine oneO_ (N:=some 74) rfl rfl (by kernel_rfl) (by decide) (fun K hK => ?_)
         refine goes_ Tryz.func51 (by kernel_rfl) rfl #[.pointer (some ⟨w.heap.size,0,none⟩),.int .i64 1] (by rfl) rfl rfl (by (try simp only [List.map_toArray,List.map_cons,List.map_nil]);first | done | rfl) ?_
         refine (un.calls1 w _ w.heap.size (fun k9 => Mm k9 ∧ k9 < wr.heap.size) ⟨b3,false⟩ HSm.out).mono ?_
         rintro e WA ⟨rfl,hS9,hK9⟩
         rw [HN4.out] at hS9 ⊢
         refine ⟨_,rfl,?_⟩
         have hK9':∀ k9,Mm k9 ∧ k9 < wr.heap.size → WA.heap[k9]? = V.heap[k9]? := fun k9 h9 => (hK9.2 k9 (by have h8:=HZ0.out;omega) (HSm.out.far k9 h9) (by simp)).trans (hHeld k9 h9)
         have HZA:Aside0 (wr.heap.size ≤ WA.heap.size):=⟨Nat.le_trans HZ0.out hK9.1⟩
         have HSA:=Aside0.mk hS9
         have HKA:Aside0 (u3e V WA w.heap.size none):=⟨HK0.out.trans hK9 (Or.inl rfl)⟩
         clear hS9 hK9
         refine hK.out (Act.put _ (some 74) (.int .i64 (c1:Int))) _ hK9' (fun hNext => ?_)
         simp only [Act.put,List.setIfInBounds_toArray,List.set_cons_zero,List.set_cons_succ,i64_w,i32_w]
         clear hK hHeld K
         have hHeld:=hNext
         clear hNext
         refine oneO_ (N:=some 75) rfl rfl (by kernel_rfl) (by decide) (fun K hK => ?_)
         refine goes_ Tryz.func52 (by kernel_rfl) rfl #[.pointer (some ⟨w.heap.size,0,none⟩),.int .i64 (c1:Int)] (by rfl) rfl rfl (by (try simp only [List.map_toArray,List.map_cons,List.map_nil]);first | done | rfl) ?_
         refine (us.calls c1 (by have h9:=HC1.out;omega) w _ w.heap.size (fun k9 => Mm k9 ∧ k9 < wr.heap.size) ⟨y1,z1⟩ HSA.out).mono ?_
         rintro e WB ⟨⟨AT,cT,rfl,hcT,hFT⟩,hS9,hK9⟩
         rw [HN5.out] at hS9 hcT hFT ⊢
         refine ⟨_,rfl,?_⟩
         have hK9':∀ k9,Mm k9 ∧ k9 < wr.heap.size → WB.heap[k9]? = V.heap[k9]? := fun k9 h9 => (hK9.2 k9 (by have h8:=HZA.out;omega) (HSm.out.far k9 h9) (by simp)).trans (hHeld k9 h9)
         have HZB:Aside0 (wr.heap.size ≤ WB.heap.size):=⟨Nat.le_trans HZA.out hK9.1⟩
         have HSB:=Aside0.mk hS9
         have HKB:Aside0 (u3e V WB w.heap.size none):=⟨HKA.out.trans hK9 (Or.inl rfl)⟩
         have HFT:=Aside0.mk hFT
         have HAB:=Aside0.mk hK9'
         clear hS9 hK9 hcT hFT
         refine hK.out (Act.put _ (some 75) (.slice AT t.length cT)) _ hK9' (fun hNext => ?_)
         simp only [Act.put,List.setIfInBounds_toArray,List.set_cons_zero,List.set_cons_succ,i64_w,i32_w]
         clear hK hHeld K
         have hHeld:=hNext
         clear hNext
         refine hdS_ (v:=?_) (a':=?_) rfl rfl (by kernel_rfl) (Or.inl ⟨by kernel_rfl,?_⟩) hHeld ?_ ?_
         rotate_left
         · rintro w' hS'
           have hcv:=Kd.C_string (P:=Tryz.prog) (src:=22) (dst:=9) (e:=5) (c:=cT) Tryz.underlying22 Tryz.underlying5 Tryz.underlying9 (Kd.F_now (Kd.F_step HFT.out (fun k9 h9 _ => (hS' k9 h9).trans (HAB.out k9 h9).symm)))
           go_simp
           (try with_reducible rfl)
         rotate_left
         · simp only [Act.put,List.setIfInBounds_toArray,List.set_cons_zero,List.set_cons_succ,i64_w,i32_w]
           rfl
         refine oneO_ (N:=some 78) rfl rfl (by kernel_rfl) (by decide) (fun K hK => ?_)
         refine goes_ Tryz.func51 (by kernel_rfl) rfl #[.pointer (some ⟨w.heap.size,0,none⟩),.int .i64 4] (by rfl) rfl rfl (by (try simp only [List.map_toArray,List.map_cons,List.map_nil]);first | done | rfl) ?_
         refine (un.calls4 w _ w.heap.size (fun k9 => Mm k9 ∧ k9 < wr.heap.size) ⟨y2,z2⟩ HSB.out).mono ?_
         rintro e WC ⟨rfl,hS9,hK9⟩
         rw [HN6.out] at hS9 ⊢
         refine ⟨_,rfl,?_⟩
         have hK9':∀ k9,Mm k9 ∧ k9 < wr.heap.size → WC.heap[k9]? = V.heap[k9]? := fun k9 h9 => (hK9.2 k9 (by have h8:=HZB.out;omega) (HSm.out.far k9 h9) (by simp)).trans (hHeld k9 h9)
         have HZC:Aside0 (wr.heap.size ≤ WC.heap.size):=⟨Nat.le_trans HZB.out hK9.1⟩
         have HSC:=Aside0.mk hS9
         have HKC:Aside0 (u3e V WC w.heap.size none):=⟨HKB.out.trans hK9 (Or.inl rfl)⟩
         clear hS9 hK9
         refine hK.out (Act.put _ (some 78) (.int .i64 x6)) _ hK9' (fun hNext => ?_)
         simp only [Act.put,List.setIfInBounds_toArray,List.set_cons_zero,List.set_cons_succ,i64_w,i32_w]
         clear hK hHeld K
         have hHeld:=hNext
         clear hNext
         (refine hd_ (v:=?_) (a':=?_) rfl rfl (by kernel_rfl) (Or.inl ⟨by kernel_rfl,?_⟩) ?_ ?_;rotate_left;(intro w';go_simp;with_reducible rfl);rotate_left;(simp only [Act.put,List.setIfInBounds_toArray,List.set_cons_zero,List.set_cons_succ,i64_w,i32_w];rfl))
         refine oneO_ (N:=some 80) rfl rfl (by kernel_rfl) (by decide) (fun K hK => ?_)
         have hIC:=HID.out.keep ⟨_,HSC.out,fun k9 h9 => HMm.out k9 h9.1⟩ HKC.out
         have HIC:=Aside0.mk hIC
         clear hIC
         refine value_ (w1:=WC.alloc (.cells #[.string (strOfNums t),.int .i64 x6] 48)) (v:=.slice (some ⟨WC.heap.size,0,none⟩) 1 1) (by rfl) rfl ?_ ?_
         · go_simp
         have hK9':∀ k9,Mm k9 ∧ k9 < wr.heap.size → (WC.alloc (.cells #[.string (strOfNums t),.int .i64 x6] 48)).heap[k9]? = V.heap[k9]? := fun k9 h9 => ((uj (Below.refl _ _) _).block k9 (by have h8:=HZC.out;omega)).trans (hHeld k9 h9)
         refine hK.out (Act.put _ (some 80) (.slice (some ⟨WC.heap.size,0,none⟩) 1 1)) _ hK9' (fun hNext => ?_)
         simp only [Act.put,List.setIfInBounds_toArray,List.set_cons_zero,List.set_cons_succ,i64_w,i32_w]
         clear hK hHeld K
         have hHeld:=hNext
         clear hNext
         refine oneO_ (N:=some 81) rfl rfl (by kernel_rfl) (by decide) (fun K hK => ?_)
         refine Kd.R_append_step k48 (w0:=w) (W:=WC) w.heap.size (by rfl) (.tmp 71) (.tmp 80) 41 48 (.agg #[.string ⟨#[]⟩,.int .i64 0]) 24 rfl Tryz.underlying41 ui.infoS rfl (by decide) (by decide) (.slice AG g.length cG) g (⟨strOfNums t,x6⟩:ui.Sp) [.string (strOfNums t),.int .i64 x6] (fun k9 => k9 ≠ w.heap.size) (fun _ => False) (by rfl) (by rfl) (k48_mkM _ _ _ (⟨strOfNums t,x6⟩:ui.Sp)) (fun _ hk => hk.elim) ?hfr HIC.out.spots HIC.out.below HIC.out.below.size ?hbig ?_
         case hfr =>
          intro k9 hk9
          have h9:=HSC.out.lt
          omega
         case hbig =>
          have h9:=HLN.out
          omega
         intro v9 W9 hR9 hB9 hg9 hat9
         obtain ⟨A6,c6,e6⟩:=Kd.R_slice hR9
         rw [List.length_append] at e6
         have e6:v9 = .slice A6 (g.length + 1) c6:=e6
         subst e6
         have hK9':∀ k9,Mm k9 ∧ k9 < wr.heap.size → W9.heap[k9]? = V.heap[k9]? := fun k9 h9 => (hg9.block k9 (by have h8:=HZC.out;omega) (HMm.out k9 h9.1)).trans (by have h7:=hHeld k9 h9;exact ((uj (Below.refl WC.heap.size WC) (.cells #[.string (strOfNums t),.int .i64 x6] 48)).block k9 (by have h8:=HZC.out;omega)).symm.trans h7)
         have HI9:=Aside0.mk (HIC.out.grow hR9 hB9 hg9 hat9)
         clear hR9 hB9 hg9 hat9
         refine hK.out (Act.put _ (some 81) (.slice A6 (g.length + 1) c6)) _ hK9' (fun hNext => ?_)
         simp only [Act.put,List.setIfInBounds_toArray,List.set_cons_zero,List.set_cons_succ,i64_w,i32_w]
         clear hK hHeld K
         have hHeld:=hNext
         clear hNext
         (refine hd_ (v:=?_) (a':=?_) rfl rfl (by kernel_rfl) (Or.inl ⟨by kernel_rfl,?_⟩) ?_ ?_;rotate_left;(intro w';go_simp;with_reducible rfl);rotate_left;(simp only [Act.put,List.setIfInBounds_toArray,List.set_cons_zero,List.set_cons_succ,i64_w,i32_w];rfl))
         refine doneO_ (by kernel_rfl) ?_
         try go_wp2
         go_roundg g2
         case rel => exact ⟨i2,_,y3,z3,_,rfl,⟨by first | exact Or.inr rfl | exact Or.inr hw1⟩,HI9,HF2,HB2,⟨by have h9:=HLN.out;simp;omega⟩,HK.out⟩
         case measure => omega
       | false =>
         have HXB:Aside0 (n3 > 0 → bad3 = true):=⟨fun h9 => by
          cases bad3 with
          | true => rfl
          | false => (exfalso;have h8:=hx2.symm;have h7:=HNI.out;simp at h8;omega)⟩
         have HF3:Aside0 (ui.out l (g,⟨b3,bad3⟩) = r):=⟨by
          have h9:=HF.out
          cases bad3 with
          | true =>
            cases i2 with
            | zero => exact h9
            | succ j => unfold ui.spotsM at h9;rw [if_pos rfl] at h9;exact h9
          | false =>
            have hi0:i2 = 0:=by have h8:=hx2.symm;simp at h8;omega
            subst hi0
            exact h9⟩
         obtain ⟨Mm,hSm,hMm⟩:=HI.out.src
         obtain ⟨A8,c8,⟨k0,k1⟩,⟨f0,f1⟩,hl8,hb8,hF8⟩:=hSm.look
         simp only at k0 k1
         clear hl8 hb8 hF8 hSm hMm HF hx2 hk HNI HLN
         cases bad3 with
         | true =>
           have HE:Aside0 (r = ([],[],5)):=⟨by have h9:=HF3.out;unfold ui.out at h9;rw [if_pos rfl] at h9;exact h9.symm⟩
           clear HXB HF3
           by_cases hn:n3 > 0
           · have d1:decide (n3 > 0) = true:=decide_eq_true hn
             have d2:decide (0 < n3) = true:=decide_eq_true hn
             clear hn
             go_wp2
             go_ret3
             exact ui.Ret.none HE.out HI.out.below
           · have d1:decide (n3 > 0) = false:=decide_eq_false hn
             have d2:decide (0 < n3) = false:=decide_eq_false hn
             clear hn
             go_wp2
             go_ret3
             exact ui.Ret.none HE.out HI.out.below
         | false =>
           have hn:¬ n3 > 0:=fun h9 => by have h8:=HXB.out h9;cases h8
           have d1:decide (n3 > 0) = false:=decide_eq_false hn
           have d2:decide (0 < n3) = false:=decide_eq_false hn
           clear hn HXB
           cases b3 with
           | cons z9 q9 =>
             have d3:decide ((q9.length:Int) + 1 > 0) = true:=decide_eq_true (by omega)
             have d4:decide (0 < (q9.length:Int) + 1) = true:=decide_eq_true (by omega)
             have d5:decide (0 < q9.length + 1) = true:=decide_eq_true (by omega)
             have HE:Aside0 (r = ([],[],5)):=⟨by have h9:=HF3.out;unfold ui.out at h9;rw [if_neg (by intro h8;cases h8),if_pos (by intro h8;cases h8)] at h9;exact h9.symm⟩
             clear HF3
             go_wp2
             go_ret3
             exact ui.Ret.none HE.out HI.out.below
           | nil =>
             have HF5:Aside0 ((if u2f.CanB l = true then (if u2i.CanB g = true then (l,g,0) else ([],[],5)) else ([],[],5)) = r):=⟨by have h9:=HF3.out;unfold ui.out at h9;rw [if_neg (by intro h8;cases h8),if_neg (by intro h8;exact h8 rfl)] at h9;exact h9⟩
             clear HF3
             cases hca:u2f.CanB l with
             | false =>
               have HCA:=Aside0.mk hca
               have HE:Aside0 (r = ([],[],5)):=⟨by have h9:=HF5.out;rw [hca,if_neg (by intro h8;cases h8)] at h9;exact h9.symm⟩
               clear hca HF5
               go_wp2_with (go_at_call 41;(with_reducible refine (u2f.calls AL cL l _ (Kd.S_reads' HI.out.rows).2.2 (Kd.S_reads' HI.out.rows).2.1 (HG0.out.below HI.out.below)).mono ?_);rintro e W6 ⟨rfl,hB6⟩;rw [HCA.out];have HI6:=Aside0.mk (HI.out.more hB6);clear hB6)
               go_ret3
               exact ui.Ret.none HE.out HI6.out.below
             | true =>
               have HCA:=Aside0.mk hca
               cases hcb:u2i.CanB g with
               | false =>
                 have HCB:=Aside0.mk hcb
                 have HE:Aside0 (r = ([],[],5)):=⟨by have h9:=HF5.out;rw [hca,if_pos rfl,hcb,if_neg (by intro h8;cases h8)] at h9;exact h9.symm⟩
                 clear hca hcb HF5
                 go_wp2_with (first | (go_at_call 41;(with_reducible refine (u2f.calls AL cL l _ (Kd.S_reads' HI.out.rows).2.2 (Kd.S_reads' HI.out.rows).2.1 (HG0.out.below HI.out.below)).mono ?_);rintro e W6 ⟨rfl,hB6⟩;rw [HCA.out];have HI6:=Aside0.mk (HI.out.more hB6);clear hB6) | (go_at_call 42;(with_reducible refine (u2i.calls AG cG g _ (Kd.R_reads' HI6.out.spots).2.2 (Kd.R_reads' HI6.out.spots).2.1).mono ?_);rintro e W7 ⟨rfl,hB7⟩;rw [HCB.out];have HI7:=Aside0.mk (HI6.out.more hB7);clear hB7))
                 go_ret3
                 exact ui.Ret.none HE.out HI7.out.below
               | true =>
                 have HCB:=Aside0.mk hcb
                 have HE:Aside0 ((l,g,0) = r):=⟨by have h9:=HF5.out;rw [hca,if_pos rfl,hcb,if_pos rfl] at h9;exact h9⟩
                 clear hca hcb HF5
                 go_wp2_with (first | (go_at_call 41;(with_reducible refine (u2f.calls AL cL l _ (Kd.S_reads' HI.out.rows).2.2 (Kd.S_reads' HI.out.rows).2.1 (HG0.out.below HI.out.below)).mono ?_);rintro e W6 ⟨rfl,hB6⟩;rw [HCA.out];have HI6:=Aside0.mk (HI.out.more hB6);clear hB6) | (go_at_call 42;(with_reducible refine (u2i.calls AG cG g _ (Kd.R_reads' HI6.out.spots).2.2 (Kd.R_reads' HI6.out.spots).2.1).mono ?_);rintro e W7 ⟨rfl,hB7⟩;rw [HCB.out];have HI7:=Aside0.mk (HI6.out.more hB7);clear hB7))
                 go_ret3
                 rw [← HE.out]
                 exact ⟨_,_,rfl,Kd.S_mono HI7.out.rows (fun _ _ => trivial),Kd.R_mono HI7.out.spots (fun _ _ => trivial),HI7.out.below⟩
    · have d1:decide (n > 0) = false:=decide_eq_false hn
      have d2:decide (0 < n) = false:=decide_eq_false hn
      clear hn HXB
      go_wp2_with (go_at_call 50;(with_reducible refine (u1r.calls w _ w.heap.size M9 ⟨b,bad⟩ HS9.out).mono ?_);rintro e W3 ⟨rfl,hS3,hK3⟩;rw [HN2.out] at hS3 ⊢;have HI3:Aside0 (ui.In2 w W3 ⟨b2,bad2⟩ (.slice AL l.length cL) l (.slice none 0 0) []):=⟨⟨⟨_,hS3,fun k _ => by simp [Value.ownBlock]⟩,Kd.S_keep HI.out.rows hK3 (fun _ h9 => h9),Kd.R_nil _ _ _ _ _⟩⟩;clear hS3 hK3 k0 k1 f0 f1)
      clear d1 d2 HI HB HN2
      go_loopg [11,12] m2 (fun kq v11 v12 wr => ∃ (i2:Nat) (n3:Int) (b3:List Int) (bad3:Bool) (g:List ui.Sp),v12 = .int .i64 n3 ∧ Aside0 ((n3 ≤ 0 ∧ i2 = 0) ∨ n3 = (i2:Int)) ∧ Aside0 (ui.In2 w wr ⟨b3,bad3⟩ (.slice AL l.length cL) l v11 g) ∧ Aside0 (ui.out l (ui.spotsM i2 ⟨b3,bad3⟩ g) = r) ∧ Aside0 ((∀ y ∈ b3,0 ≤ y ∧ y < 256) ∧ b3.length ≤ 140737488355328) ∧ Aside0 (g.length + i2 ≤ 10000) ∧ i2 ≤ kq)
      case atStart => exact ⟨m2,n2,b2,bad2,[],rfl,⟨by have h9:=HM2.out;omega⟩,HI3,HF4,HB2,⟨by have h9:=HM2.out;simp;omega⟩,Nat.le_refl _⟩
      case round =>
       clear HI3 HF4 HB2 HM2
       obtain ⟨i2,n3,b3,bad3,g,rfl,HNI,HI,HF,HB,HLN,hk⟩:=hrel
       obtain ⟨AG,cG,eG⟩:=Kd.R_slice HI.out.spots
       subst eG
       obtain ⟨x2,hx2⟩:∃ x2:Bool,x2 = (!bad3 && decide (0 < i2)):=⟨_,rfl⟩
       cases x2 with
       | true =>
         have hbf:bad3 = false:=by cases bad3 with | false => rfl | true => cases hx2
         subst hbf
         have hi0:0 < i2:=by simpa using hx2
         have hni:n3 = (i2:Int):=by have h9:=HNI.out;omega
         obtain ⟨i2,rfl⟩:∃ j,i2 = j + 1:=⟨i2 - 1,by omega⟩
         subst hni
         have d1:decide (((i2 + 1:Nat):Int) > 0) = true:=decide_eq_true (by omega)
         have d2:decide (0 < ((i2 + 1:Nat):Int)) = true:=decide_eq_true (by omega)
         have d3:decide (0 < i2 + 1) = true:=decide_eq_true (by omega)
         clear hx2 hi0 HNI
         obtain ⟨c1,hc1,hc256⟩:=ui.num1_nn ⟨b3,false⟩ HB.out.1
         obtain ⟨y1,z1,hn4⟩:∃ y z,un.num 1 ⟨b3,false⟩ = ((c1:Int),⟨y,z⟩):=⟨(un.num 1 ⟨b3,false⟩).2.b,(un.num 1 ⟨b3,false⟩).2.bad,by rw [← hc1]⟩
         obtain ⟨t,y2,z2,hn5⟩:∃ t y z,us.tk c1 ⟨y1,z1⟩ = (t,⟨y,z⟩):=⟨_,_,_,rfl⟩
         obtain ⟨x6,y3,z3,hn6⟩:∃ x y z,un.num 4 ⟨y2,z2⟩ = (x,⟨y,z⟩):=⟨_,_,_,rfl⟩
         have HO:Aside0 (ui.oneS ⟨b3,false⟩ = (⟨strOfNums t,x6⟩,⟨y3,z3⟩)):=⟨by unfold ui.oneS;rw [hn4];simp only [Int.toNat_natCast,hn5,hn6]⟩
         have HF2:Aside0 (ui.out l (ui.spotsM i2 ⟨y3,z3⟩ (g ++ [⟨strOfNums t,x6⟩])) = r):=⟨by have h9:=HF.out;unfold ui.spotsM at h9;rw [if_neg (by intro h8;cases h8),HO.out] at h9;exact h9⟩
         have HB2:Aside0 ((∀ y ∈ y3,0 ≤ y ∧ y < 256) ∧ y3.length ≤ 140737488355328):=⟨by
          have g2:=ui.range (s:=⟨b3,false⟩) (n:=1) HB.out.1
          rw [hn4] at g2
          have g3:=ui.rangeT (s:=⟨y1,z1⟩) (n:=c1) g2.1
          rw [hn5] at g3
          have g4:=ui.range (s:=⟨y2,z2⟩) (n:=4) g3.1
          rw [hn6] at g4
          exact ⟨g4.1,Nat.le_trans g4.2 (Nat.le_trans g3.2 (Nat.le_trans g2.2 HB.out.2))⟩⟩
         have HN4:=Aside0.mk hn4
         have HN5:=Aside0.mk hn5
         have HN6:=Aside0.mk hn6
         have HC1:=Aside0.mk hc256
         clear hn4 hn5 hn6 hc1 hc256 HF HO
         obtain ⟨g2,rfl⟩:∃ g2,gk = g2 + 1:=⟨gk - 1,by omega⟩
         have HK:Aside0 (i2 ≤ g2):=⟨by omega⟩
         clear hk
         have hw1:wrap64 (i2:Int) = (i2:Int):=by have h9:=HLN.out;unfold wrap64;omega
         obtain ⟨Mm,hSm,hMm⟩:=HI.out.src
         obtain ⟨A8,c8,⟨k0,k1⟩,⟨f0,f1⟩,hl8,hb8,hF8⟩:=hSm.look
         simp only at k0 k1
         clear hl8 hb8 hF8
         have HSm:=Aside0.mk ((hSm.mono (M':=fun k9 => Mm k9 ∧ k9 < wr.heap.size) (fun k9 h1 h2 => ⟨h2,h1⟩) (fun k9 h9 => hSm.far k9 h9.1)).more (uu (Below.refl _ _)))
         have HMm:=Aside0.mk hMm
         have HID:=Aside0.mk (HI.out.more (uu (Below.refl _ _)))
         clear hSm hMm
         go_wp2
         clear k0 k1 f0 f1
         obtain ⟨V,hV⟩:∃ V,Aside0 (wr.drew = V):=⟨_,⟨rfl⟩⟩
         have HVZ:Aside0 (V.heap.size = wr.heap.size):=⟨by rw [← hV.out];rfl⟩
         refine startO_ (n:=12) (S:=fun w' => ∀ k9,Mm k9 ∧ k9 < wr.heap.size → w'.heap[k9]? = V.heap[k9]?) (ds:=[]) [(0,71),(1,72),(2,73),(6,77),(3,0),(4,0),(5,76),(7,0),(8,79),(9,0),(10,0),(11,11)] (by kernel_rfl) rfl (by rw [hV.out];exact fun _ _ => rfl) (fun hHeld => ?_)
         rw [hV.out] at hHeld HSm HID ⊢
         iterate 4 (refine hd_ (v:=?_) (a':=?_) rfl rfl (by kernel_rfl) (Or.inl ⟨by kernel_rfl,?_⟩) ?_ ?_;rotate_left;(intro w';go_simp;with_reducible rfl);rotate_left;(simp only [Act.put,List.setIfInBounds_toArray,List.set_cons_zero,List.set_cons_succ,i64_w,i32_w];rfl))
         have HZ0:Aside0 (wr.heap.size ≤ V.heap.size):=⟨by have h9:=HVZ.out;omega⟩
         have HK0:Aside0 (u3e V V w.heap.size none):=⟨u3e.refl _ _ _⟩
         refine oneO_ (N:=some 74) rfl rfl (by kernel_rfl) (by decide) (fun K hK => ?_)
         refine goes_ Tryz.func51 (by kernel_rfl) rfl #[.pointer (some ⟨w.heap.size,0,none⟩),.int .i64 1] (by rfl) rfl rfl (by (try simp only [List.map_toArray,List.map_cons,List.map_nil]);first | done | rfl) ?_
         refine (un.calls1 w _ w.heap.size (fun k9 => Mm k9 ∧ k9 < wr.heap.size) ⟨b3,false⟩ HSm.out).mono ?_
         rintro e WA ⟨rfl,hS9,hK9⟩
         rw [HN4.out] at hS9 ⊢
         refine ⟨_,rfl,?_⟩
         have hK9':∀ k9,Mm k9 ∧ k9 < wr.heap.size → WA.heap[k9]? = V.heap[k9]? := fun k9 h9 => (hK9.2 k9 (by have h8:=HZ0.out;omega) (HSm.out.far k9 h9) (by simp)).trans (hHeld k9 h9)
         have HZA:Aside0 (wr.heap.size ≤ WA.heap.size):=⟨Nat.le_trans HZ0.out hK9.1⟩
         have HSA:=Aside0.mk hS9
         have HKA:Aside0 (u3e V WA w.heap.size none):=⟨HK0.out.trans hK9 (Or.inl rfl)⟩
         clear hS9 hK9
         refine hK.out (Act.put _ (some 74) (.int .i64 (c1:Int))) _ hK9' (fun hNext => ?_)
         simp only [Act.put,List.setIfInBounds_toArray,List.set_cons_zero,List.set_cons_succ,i64_w,i32_w]
         clear hK hHeld K
         have hHeld:=hNext
         clear hNext
         refine oneO_ (N:=some 75) rfl rfl (by kernel_rfl) (by decide) (fun K hK => ?_)
         refine goes_ Tryz.func52 (by kernel_rfl) rfl #[.pointer (some ⟨w.heap.size,0,none⟩),.int .i64 (c1:Int)] (by rfl) rfl rfl (by (try simp only [List.map_toArray,List.map_cons,List.map_nil]);first | done | rfl) ?_
         refine (us.calls c1 (by have h9:=HC1.out;omega) w _ w.heap.size (fun k9 => Mm k9 ∧ k9 < wr.heap.size) ⟨y1,z1⟩ HSA.out).mono ?_
         rintro e WB ⟨⟨AT,cT,rfl,hcT,hFT⟩,hS9,hK9⟩
         rw [HN5.out] at hS9 hcT hFT ⊢
         refine ⟨_,rfl,?_⟩
         have hK9':∀ k9,Mm k9 ∧ k9 < wr.heap.size → WB.heap[k9]? = V.heap[k9]? := fun k9 h9 => (hK9.2 k9 (by have h8:=HZA.out;omega) (HSm.out.far k9 h9) (by simp)).trans (hHeld k9 h9)
         have HZB:Aside0 (wr.heap.size ≤ WB.heap.size):=⟨Nat.le_trans HZA.out hK9.1⟩
         have HSB:=Aside0.mk hS9
         have HKB:Aside0 (u3e V WB w.heap.size none):=⟨HKA.out.trans hK9 (Or.inl rfl)⟩
         have HFT:=Aside0.mk hFT
         have HAB:=Aside0.mk hK9'
         clear hS9 hK9 hcT hFT
         refine hK.out (Act.put _ (some 75) (.slice AT t.length cT)) _ hK9' (fun hNext => ?_)
         simp only [Act.put,List.setIfInBounds_toArray,List.set_cons_zero,List.set_cons_succ,i64_w,i32_w]
         clear hK hHeld K
         have hHeld:=hNext
         clear hNext
         refine hdS_ (v:=?_) (a':=?_) rfl rfl (by kernel_rfl) (Or.inl ⟨by kernel_rfl,?_⟩) hHeld ?_ ?_
         rotate_left
         · rintro w' hS'
           have hcv:=Kd.C_string (P:=Tryz.prog) (src:=22) (dst:=9) (e:=5) (c:=cT) Tryz.underlying22 Tryz.underlying5 Tryz.underlying9 (Kd.F_now (Kd.F_step HFT.out (fun k9 h9 _ => (hS' k9 h9).trans (HAB.out k9 h9).symm)))
           go_simp
           (try with_reducible rfl)
         rotate_left
         · simp only [Act.put,List.setIfInBounds_toArray,List.set_cons_zero,List.set_cons_succ,i64_w,i32_w]
           rfl
         refine oneO_ (N:=some 78) rfl rfl (by kernel_rfl) (by decide) (fun K hK => ?_)
         refine goes_ Tryz.func51 (by kernel_rfl) rfl #[.pointer (some ⟨w.heap.size,0,none⟩),.int .i64 4] (by rfl) rfl rfl (by (try simp only [List.map_toArray,List.map_cons,List.map_nil]);first | done | rfl) ?_
         refine (un.calls4 w _ w.heap.size (fun k9 => Mm k9 ∧ k9 < wr.heap.size) ⟨y2,z2⟩ HSB.out).mono ?_
         rintro e WC ⟨rfl,hS9,hK9⟩
         rw [HN6.out] at hS9 ⊢
         refine ⟨_,rfl,?_⟩
         have hK9':∀ k9,Mm k9 ∧ k9 < wr.heap.size → WC.heap[k9]? = V.heap[k9]? := fun k9 h9 => (hK9.2 k9 (by have h8:=HZB.out;omega) (HSm.out.far k9 h9) (by simp)).trans (hHeld k9 h9)
         have HZC:Aside0 (wr.heap.size ≤ WC.heap.size):=⟨Nat.le_trans HZB.out hK9.1⟩
         have HSC:=Aside0.mk hS9
         have HKC:Aside0 (u3e V WC w.heap.size none):=⟨HKB.out.trans hK9 (Or.inl rfl)⟩
         clear hS9 hK9
         refine hK.out (Act.put _ (some 78) (.int .i64 x6)) _ hK9' (fun hNext => ?_)
         simp only [Act.put,List.setIfInBounds_toArray,List.set_cons_zero,List.set_cons_succ,i64_w,i32_w]
         clear hK hHeld K
         have hHeld:=hNext
         clear hNext
         (refine hd_ (v:=?_) (a':=?_) rfl rfl (by kernel_rfl) (Or.inl ⟨by kernel_rfl,?_⟩) ?_ ?_;rotate_left;(intro w';go_simp;with_reducible rfl);rotate_left;(simp only [Act.put,List.setIfInBounds_toArray,List.set_cons_zero,List.set_cons_succ,i64_w,i32_w];rfl))
         refine oneO_ (N:=some 80) rfl rfl (by kernel_rfl) (by decide) (fun K hK => ?_)
         have hIC:=HID.out.keep ⟨_,HSC.out,fun k9 h9 => HMm.out k9 h9.1⟩ HKC.out
         have HIC:=Aside0.mk hIC
         clear hIC
         refine value_ (w1:=WC.alloc (.cells #[.string (strOfNums t),.int .i64 x6] 48)) (v:=.slice (some ⟨WC.heap.size,0,none⟩) 1 1) (by rfl) rfl ?_ ?_
         · go_simp
         have hK9':∀ k9,Mm k9 ∧ k9 < wr.heap.size → (WC.alloc (.cells #[.string (strOfNums t),.int .i64 x6] 48)).heap[k9]? = V.heap[k9]? := fun k9 h9 => ((uj (Below.refl _ _) _).block k9 (by have h8:=HZC.out;omega)).trans (hHeld k9 h9)
         refine hK.out (Act.put _ (some 80) (.slice (some ⟨WC.heap.size,0,none⟩) 1 1)) _ hK9' (fun hNext => ?_)
         simp only [Act.put,List.setIfInBounds_toArray,List.set_cons_zero,List.set_cons_succ,i64_w,i32_w]
         clear hK hHeld K
         have hHeld:=hNext
         clear hNext
         refine oneO_ (N:=some 81) rfl rfl (by kernel_rfl) (by decide) (fun K hK => ?_)
         refine Kd.R_append_step k48 (w0:=w) (W:=WC) w.heap.size (by rfl) (.tmp 71) (.tmp 80) 41 48 (.agg #[.string ⟨#[]⟩,.int .i64 0]) 24 rfl Tryz.underlying41 ui.infoS rfl (by decide) (by decide) (.slice AG g.length cG) g (⟨strOfNums t,x6⟩:ui.Sp) [.string (strOfNums t),.int .i64 x6] (fun k9 => k9 ≠ w.heap.size) (fun _ => False) (by rfl) (by rfl) (k48_mkM _ _ _ (⟨strOfNums t,x6⟩:ui.Sp)) (fun _ hk => hk.elim) ?hfr HIC.out.spots HIC.out.below HIC.out.below.size ?hbig ?_
         case hfr =>
          intro k9 hk9
          have h9:=HSC.out.lt
          omega
         case hbig =>
          have h9:=HLN.out
          omega
         intro v9 W9 hR9 hB9 hg9 hat9
         obtain ⟨A6,c6,e6⟩:=Kd.R_slice hR9
         rw [List.length_append] at e6
         have e6:v9 = .slice A6 (g.length + 1) c6:=e6
         subst e6
         have hK9':∀ k9,Mm k9 ∧ k9 < wr.heap.size → W9.heap[k9]? = V.heap[k9]? := fun k9 h9 => (hg9.block k9 (by have h8:=HZC.out;omega) (HMm.out k9 h9.1)).trans (by have h7:=hHeld k9 h9;exact ((uj (Below.refl WC.heap.size WC) (.cells #[.string (strOfNums t),.int .i64 x6] 48)).block k9 (by have h8:=HZC.out;omega)).symm.trans h7)
         have HI9:=Aside0.mk (HIC.out.grow hR9 hB9 hg9 hat9)
         clear hR9 hB9 hg9 hat9
         refine hK.out (Act.put _ (some 81) (.slice A6 (g.length + 1) c6)) _ hK9' (fun hNext => ?_)
         simp only [Act.put,List.setIfInBounds_toArray,List.set_cons_zero,List.set_cons_succ,i64_w,i32_w]
         clear hK hHeld K
         have hHeld:=hNext
         clear hNext
         (refine hd_ (v:=?_) (a':=?_) rfl rfl (by kernel_rfl) (Or.inl ⟨by kernel_rfl,?_⟩) ?_ ?_;rotate_left;(intro w';go_simp;with_reducible rfl);rotate_left;(simp only [Act.put,List.setIfInBounds_toArray,List.set_cons_zero,List.set_cons_succ,i64_w,i32_w];rfl))
         refine doneO_ (by kernel_rfl) ?_
         try go_wp2
         go_roundg g2
         case rel => exact ⟨i2,_,y3,z3,_,rfl,⟨by first | exact Or.inr rfl | exact Or.inr hw1⟩,HI9,HF2,HB2,⟨by have h9:=HLN.out;simp;omega⟩,HK.out⟩
         case measure => omega
       | false =>
         have HXB:Aside0 (n3 > 0 → bad3 = true):=⟨fun h9 => by
          cases bad3 with
          | true => rfl
          | false => (exfalso;have h8:=hx2.symm;have h7:=HNI.out;simp at h8;omega)⟩
         have HF3:Aside0 (ui.out l (g,⟨b3,bad3⟩) = r):=⟨by
          have h9:=HF.out
          cases bad3 with
          | true =>
            cases i2 with
            | zero => exact h9
            | succ j => unfold ui.spotsM at h9;rw [if_pos rfl] at h9;exact h9
          | false =>
            have hi0:i2 = 0:=by have h8:=hx2.symm;simp at h8;omega
            subst hi0
            exact h9⟩
         obtain ⟨Mm,hSm,hMm⟩:=HI.out.src
         obtain ⟨A8,c8,⟨k0,k1⟩,⟨f0,f1⟩,hl8,hb8,hF8⟩:=hSm.look
         simp only at k0 k1
         clear hl8 hb8 hF8 hSm hMm HF hx2 hk HNI HLN
         cases bad3 with
         | true =>
           have HE:Aside0 (r = ([],[],5)):=⟨by have h9:=HF3.out;unfold ui.out at h9;rw [if_pos rfl] at h9;exact h9.symm⟩
           clear HXB HF3
           by_cases hn:n3 > 0
           · have d1:decide (n3 > 0) = true:=decide_eq_true hn
             have d2:decide (0 < n3) = true:=decide_eq_true hn
             clear hn
             go_wp2
             go_ret3
             exact ui.Ret.none HE.out HI.out.below
           · have d1:decide (n3 > 0) = false:=decide_eq_false hn
             have d2:decide (0 < n3) = false:=decide_eq_false hn
             clear hn
             go_wp2
             go_ret3
             exact ui.Ret.none HE.out HI.out.below
         | false =>
           have hn:¬ n3 > 0:=fun h9 => by have h8:=HXB.out h9;cases h8
           have d1:decide (n3 > 0) = false:=decide_eq_false hn
           have d2:decide (0 < n3) = false:=decide_eq_false hn
           clear hn HXB
           cases b3 with
           | cons z9 q9 =>
             have d3:decide ((q9.length:Int) + 1 > 0) = true:=decide_eq_true (by omega)
             have d4:decide (0 < (q9.length:Int) + 1) = true:=decide_eq_true (by omega)
             have d5:decide (0 < q9.length + 1) = true:=decide_eq_true (by omega)
             have HE:Aside0 (r = ([],[],5)):=⟨by have h9:=HF3.out;unfold ui.out at h9;rw [if_neg (by intro h8;cases h8),if_pos (by intro h8;cases h8)] at h9;exact h9.symm⟩
             clear HF3
             go_wp2
             go_ret3
             exact ui.Ret.none HE.out HI.out.below
           | nil =>
             have HF5:Aside0 ((if u2f.CanB l = true then (if u2i.CanB g = true then (l,g,0) else ([],[],5)) else ([],[],5)) = r):=⟨by have h9:=HF3.out;unfold ui.out at h9;rw [if_neg (by intro h8;cases h8),if_neg (by intro h8;exact h8 rfl)] at h9;exact h9⟩
             clear HF3
             cases hca:u2f.CanB l with
             | false =>
               have HCA:=Aside0.mk hca
               have HE:Aside0 (r = ([],[],5)):=⟨by have h9:=HF5.out;rw [hca,if_neg (by intro h8;cases h8)] at h9;exact h9.symm⟩
               clear hca HF5
               go_wp2_with (go_at_call 41;(with_reducible refine (u2f.calls AL cL l _ (Kd.S_reads' HI.out.rows).2.2 (Kd.S_reads' HI.out.rows).2.1 (HG0.out.below HI.out.below)).mono ?_);rintro e W6 ⟨rfl,hB6⟩;rw [HCA.out];have HI6:=Aside0.mk (HI.out.more hB6);clear hB6)
               go_ret3
               exact ui.Ret.none HE.out HI6.out.below
             | true =>
               have HCA:=Aside0.mk hca
               cases hcb:u2i.CanB g with
               | false =>
                 have HCB:=Aside0.mk hcb
                 have HE:Aside0 (r = ([],[],5)):=⟨by have h9:=HF5.out;rw [hca,if_pos rfl,hcb,if_neg (by intro h8;cases h8)] at h9;exact h9.symm⟩
                 clear hca hcb HF5
                 go_wp2_with (first | (go_at_call 41;(with_reducible refine (u2f.calls AL cL l _ (Kd.S_reads' HI.out.rows).2.2 (Kd.S_reads' HI.out.rows).2.1 (HG0.out.below HI.out.below)).mono ?_);rintro e W6 ⟨rfl,hB6⟩;rw [HCA.out];have HI6:=Aside0.mk (HI.out.more hB6);clear hB6) | (go_at_call 42;(with_reducible refine (u2i.calls AG cG g _ (Kd.R_reads' HI6.out.spots).2.2 (Kd.R_reads' HI6.out.spots).2.1).mono ?_);rintro e W7 ⟨rfl,hB7⟩;rw [HCB.out];have HI7:=Aside0.mk (HI6.out.more hB7);clear hB7))
                 go_ret3
                 exact ui.Ret.none HE.out HI7.out.below
               | true =>
                 have HCB:=Aside0.mk hcb
                 have HE:Aside0 ((l,g,0) = r):=⟨by have h9:=HF5.out;rw [hca,if_pos rfl,hcb,if_pos rfl] at h9;exact h9⟩
                 clear hca hcb HF5
                 go_wp2_with (first | (go_at_call 41;(with_reducible refine (u2f.calls AL cL l _ (Kd.S_reads' HI.out.rows).2.2 (Kd.S_reads' HI.out.rows).2.1 (HG0.out.below HI.out.below)).mono ?_);rintro e W6 ⟨rfl,hB6⟩;rw [HCA.out];have HI6:=Aside0.mk (HI.out.more hB6);clear hB6) | (go_at_call 42;(with_reducible refine (u2i.calls AG cG g _ (Kd.R_reads' HI6.out.spots).2.2 (Kd.R_reads' HI6.out.spots).2.1).mono ?_);rintro e W7 ⟨rfl,hB7⟩;rw [HCB.out];have HI7:=Aside0.mk (HI6.out.more hB7);clear hB7))
                 go_ret3
                 rw [← HE.out]
                 exact ⟨_,_,rfl,Kd.S_mono HI7.out.rows (fun _ _ => trivial),Kd.R_mono HI7.out.spots (fun _ _ => trivial),HI7.out.below⟩
end Go.Proofs.YtgnehcgaplnfkaaGreatDoor.PAll
