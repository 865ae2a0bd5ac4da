/- Texts of this seat, joined in the order in which they build. -/
import Derived.Test.YtgnehcgaplnfkaaGreatDoorBv7
import Derived.Test.YtgnehcgaplnfkaaGreatDoorGx40Bv
import Derived.Test.YtgnehcgaplnfkaaGreatDoorGx66Bv
import Derived.OpenShut
import Derived.Test.YtgnehcgaplnfkaaGreatDoorBv2
namespace Go.Proofs.YtgnehcgaplnfkaaGreatDoor.Laws
open Go.RowKit Go.Proofs.YtgnehcgaplnfkaaGreatDoor.PAll Go.Proofs.YtgnehcgaplnfkaaGreatDoorW.PrintWords Go.Proofs.YtgnehcgaplnfkaaGreatDoorW.PrintLast
set_option linter.unusedVariables false
set_option linter.unusedSimpArgs false
abbrev Rw:=S59
abbrev Ou:=ud.Ou
def big:Nat:=140737488355328
theorem ev_map {α β:Type} {g:Nat → Option α} {a:α} (f:α → β) (h:Ev g a):Ev (fun k => (g k).map f) (f a):=by
 obtain ⟨K,hK⟩:=h
 exact ⟨K,fun k hk => by simp only [hK k hk,Option.map_some]⟩
theorem num1 (c:Int) (r:List Int) (hb:∀ y ∈ c :: r,u2o y):ue.num 1 ⟨c :: r,false⟩ = (c,⟨r,false⟩):=by
 rcases num_int 1 (c :: r) (by decide) hb with ⟨h1,h2⟩ | ⟨h0,h1,h2⟩
 · unfold u2a.int at h1
   rw [if_neg (by simp)] at h1
   cases h1
 · rw [h2]
   simp [bv,bvS]
def rEnc (x:Rw):List Int:=us.enc x.f0 ++ (u1p.put (IntKind.u64.wrap x.f1) 8 ++ u1p.put x.f2 8)
def rowG (z:List S111 × List Int × Int) (bad:Bool):(List S111 × Int × Int) × SS :=
 ((z.1,wrap64 (ue.num 8 ⟨z.2.1,bad || z.2.2 != 0⟩).1,(ue.num 8 (ue.num 8 ⟨z.2.1,bad || z.2.2 != 0⟩).2).1),(ue.num 8 (ue.num 8 ⟨z.2.1,bad || z.2.2 != 0⟩).2).2)
theorem row_ev (b:List Int) (hl:b.length ≤ big) (hb:∀ y ∈ b,u2o y):Ev (fun k => u3k.rowM k ⟨b,false⟩) (rowG (decL b) false) :=
 ev_map (fun z => rowG z false) (decL_ev b hl hb).1
theorem rowG_bad (z:List S111 × List Int × Int) (h:z.2.2 ≠ 0):(rowG z false).2.bad = true:=by
 unfold rowG
 have e:(false || z.2.2 != 0) = true:=by simp [h]
 rw [e,num_bad,num_bad]
theorem row_is (b:List Int) (hb:∀ y ∈ b,u2o y):((rowG (decL b) false).2.bad = true ∧ ((decL b).2.2 ≠ 0 ∨ ((decL b).2.2 = 0 ∧ (u2a.int 8 (decL b).2.1 = none ∨ ∃ y,u2a.int 8 (decL b).2.1 = some y ∧ u2a.int 8 y.2 = none)))) ∨
 ∃ (x:Rw) (u:Int) (q1 q2 q:List Int),decL b = (x.f0,q1,0) ∧ u2a.int 8 q1 = some (x.f1,q2) ∧ u2a.int 8 q2 = some (u,q) ∧ IntKind.u64.wrap u = x.f2 ∧ rowG (decL b) false = ((x.f0,x.f1,x.f2),⟨q,false⟩) ∧ b = rEnc x ++ q ∧ canB x.f0 = true ∧ ∀ y ∈ q,u2o y:=by
 obtain ⟨⟨l,q1,e⟩,hz⟩:∃ z,decL b = z:=⟨_,rfl⟩
 by_cases he:e = 0
 · subst he
   obtain ⟨i1,i2,i3⟩:=decL_inv hb hz
   rw [hz]
   unfold rowG
   simp only [bne_self_eq_false,Bool.or_false]
   rcases num_int 8 q1 (by decide) i3 with ⟨h1,h2⟩ | ⟨h0,h1,h2⟩
   · left
     obtain ⟨⟨x1,⟨y1,y2⟩⟩,hp⟩:∃ p,ue.num 8 ⟨q1,false⟩ = p:=⟨_,rfl⟩
     rw [hp] at h2
     simp only at h2
     subst h2
     rw [hp]
     simp only [num_bad]
     exact ⟨trivial,Or.inr ⟨trivial,Or.inl h1⟩⟩
   · have hb2:∀ y ∈ q1.drop 8,u2o y:=fun y hy => i3 y (List.mem_of_mem_drop hy)
     have hb1:∀ y ∈ q1.take 8,u2o y:=fun y hy => i3 y (List.mem_of_mem_take hy)
     have l1:(q1.take 8).length = 8:=by rw [List.length_take];omega
     have v1:=bv8_lt _ l1 hb1
     rw [h2]
     simp only
     rcases num_int 8 (q1.drop 8) (by decide) hb2 with ⟨h3,h4⟩ | ⟨h30,h3,h4⟩
     · left
       refine ⟨h4,Or.inr ⟨trivial,Or.inr ⟨_,h1,h3⟩⟩⟩
     · right
       have hb3:∀ y ∈ (q1.drop 8).take 8,u2o y:=fun y hy => hb2 y (List.mem_of_mem_take hy)
       have l3:((q1.drop 8).take 8).length = 8:=by rw [List.length_take];omega
       have v3:=bv8_lt _ l3 hb3
       rw [h4]
       refine ⟨⟨l,wrap64 (bv (q1.take 8)),bv ((q1.drop 8).take 8)⟩,_,q1,q1.drop 8,(q1.drop 8).drop 8,rfl,h1,h3,u64_w64 _ v3.1 v3.2,rfl,?_,i2,fun y hy => hb2 y (List.mem_of_mem_drop hy)⟩
       show b = (us.enc l ++ (u1p.put (IntKind.u64.wrap (wrap64 (bv (q1.take 8)))) 8 ++ u1p.put (bv ((q1.drop 8).take 8)) 8)) ++ (q1.drop 8).drop 8
       rw [u64_w64 _ v1.1 v1.2,put8_bv _ l1 hb1,put8_bv _ l3 hb3,List.append_assoc,List.append_assoc,List.take_append_drop,List.take_append_drop]
       exact i1
 · left
   rw [hz]
   exact ⟨rowG_bad (l,q1,e) he,Or.inl he⟩
theorem rowsM_bad (k n:Nat) (s:SS) (l:List Rw) (h:s.bad = true):ud.rowsM k n s l = some (l,s):=by
 cases n with
 | zero => rfl
 | succ n => rw [ud.rowsM_succ,if_pos h]
theorem rrows_succ (k n:Nat) (b:List Int) (l:List Rw):u2u.rowsM k (n + 1) b l = (u3f.f k b).bind fun z => if z.2.2 ≠ 0 then some none else
 match u2a.int 8 z.2.1 with
 | none => some none
 | some y => match u2a.int 8 y.2 with
   | none => some none
   | some u => u2u.rowsM k n u.2 (l ++ [⟨z.1,y.1,IntKind.u64.wrap u.1⟩]):=rfl
theorem rows_is:∀ (n:Nat) (b:List Int) (l:List Rw),b.length ≤ big → (∀ y ∈ b,u2o y) → (Ev (fun k => u2u.rowsM k n b l) none ∧ ∃ z:List Rw × SS,Ev (fun k => ud.rowsM k n ⟨b,false⟩ l) z ∧ z.2.bad = true) ∨
 ∃ (l2:List Rw) (q:List Int),Ev (fun k => u2u.rowsM k n b l) (some (l ++ l2,q)) ∧ Ev (fun k => ud.rowsM k n ⟨b,false⟩ l) (l ++ l2,⟨q,false⟩) ∧ l2.length = n ∧ b = l2.flatMap rEnc ++ q ∧ (∀ y ∈ q,u2o y) ∧ ∀ x ∈ l2,canB x.f0 = true
 | 0,b,l,hl,hb => Or.inr ⟨[],b,by rw [List.append_nil];exact Ev.now _,by rw [List.append_nil];exact Ev.now _,rfl,rfl,hb,fun x hx => by cases hx⟩
 | n + 1,b,l,hl,hb => by
   have hr:=(decL_ev b hl hb).2
   have hp:=row_ev b hl hb
   have hps:∀ (z:List Rw × SS),Ev (fun k => ud.rowsM k n (rowG (decL b) false).2 (l ++ [⟨(rowG (decL b) false).1.1,(rowG (decL b) false).1.2.1,(rowG (decL b) false).1.2.2⟩])) z → Ev (fun k => ud.rowsM k (n + 1) ⟨b,false⟩ l) z:=fun z hz =>
    Ev.congr (fun k => by rw [ud.rowsM_succ,if_neg (by intro h9;cases h9)]) (Ev.bind (f:=fun k y => ud.rowsM k n y.2 (l ++ [⟨y.1.1,y.1.2.1,y.1.2.2⟩])) hp hz)
   rcases row_is b hb with ⟨h1,h2⟩ | ⟨x,u,q1,q2,q,d1,d2,d3,d4,d5,d6,d7,d8⟩
   · left
     refine ⟨?_,_,hps _ (Ev.congr (fun k => rowsM_bad k n _ _ h1) (Ev.now _)),h1⟩
     refine Ev.congr (fun k => rrows_succ k n b l) (Ev.bind hr ?_)
     rcases h2 with h3 | ⟨h30,h3 | ⟨y,h3,h4⟩⟩
     · simp only [if_pos h3]
       exact Ev.now _
     · exact Ev.congr (fun k => by rw [if_neg (fun h9 => h9 h30)];simp only [h3]) (Ev.now _)
     · exact Ev.congr (fun k => by rw [if_neg (fun h9 => h9 h30)];simp only [h3,h4]) (Ev.now _)
   · have hql:q.length ≤ big:=by
      have:=congrArg List.length d6
      rw [List.length_append] at this
      omega
     rw [d5] at hps
     have href:∀ (z:Option (List Rw × List Int)),Ev (fun k => u2u.rowsM k n q (l ++ [x])) z → Ev (fun k => u2u.rowsM k (n + 1) b l) z:=fun z hz => by
      refine Ev.congr (fun k => rrows_succ k n b l) (Ev.bind hr ?_)
      rw [d1]
      exact Ev.congr (fun k => by rw [if_neg (fun h9 => h9 rfl)];simp only [d2,d3,d4]) hz
     rcases rows_is n q (l ++ [x]) hql d8 with ⟨k1,z,k2,k3⟩ | ⟨l2,q9,k1,k2,k3,k4,k5,k6⟩
     · exact Or.inl ⟨href _ k1,z,hps z k2,k3⟩
     · refine Or.inr ⟨x :: l2,q9,?_,?_,by simp [k3],by rw [d6,k4];simp,k5,fun y hy => ?_⟩
       · have:=href _ k1
         simpa using this
       · have:=hps _ k2
         simpa using this
       · rcases List.mem_cons.1 hy with rfl | h9
         · exact d7
         · exact k6 y h9
theorem canB_sizes {l:List S111} (h:canB l = true):∀ y ∈ l,y.f0.size ≤ maxLen ∧ y.f1.size ≤ maxLen:=by
 unfold canB at h
 rw [Bool.and_eq_true] at h
 have h2:=okFrom_mem l [] h.2
 intro y hy
 have h3:=h2 y hy
 have h4:=nameB_size h3.1
 have h5:=valueB_size h3.2
 have:40 ≤ maxLen:=by decide
 omega
theorem rows_ev:∀ (l:List Rw),∃ K,∀ k,K ≤ k → ∀ x ∈ l,u1s.f k x.f0 = some (canB x.f0)
 | [] => ⟨0,fun _ _ x hx => by cases hx⟩
 | x :: r => by
   obtain ⟨K,hK⟩:=rows_ev r
   obtain ⟨M,hM⟩:=can_ev x.f0
   refine ⟨K + M,fun k hk y hy => ?_⟩
   rcases List.mem_cons.1 hy with rfl | h9
   · exact hM k (by omega)
   · exact hK k (by omega) y h9
theorem can_two (k:Nat) (l:List Rw) (m:List Mt) (x y z:Int):u1t.f k 2 l m x y z = some (u1m.CanB m):=by
 unfold u1t.f
 rw [if_neg (show ¬ (2:Int) = 1 by decide),if_pos rfl]
theorem can_three (k:Nat) (l:List Rw) (m:List Mt) (x y z:Int):u1t.f k 3 l m x y z = some (decide (0 ≤ z ∧ z ≤ 4611686018427387904)):=by
 unfold u1t.f
 rw [if_neg (show ¬ (3:Int) = 1 by decide),if_neg (show ¬ (3:Int) = 2 by decide)]
 simp
theorem can_no (k:Nat) (c:Int) (l:List Rw) (m:List Mt) (x y z:Int) (h1:¬ c = 1) (h2:¬ c = 2) (h3:¬ c = 3):u1t.f k c l m x y z = some false:=by
 unfold u1t.f
 rw [if_neg h1,if_neg h2]
 simp [h3]
theorem can1_ev (l:List Rw) (ms:List Mt) (x y z:Int) (h:∀ r ∈ l,canB r.f0 = true):Ev (fun k => u1t.f k 1 l ms x y z) (decide (0 < l.length ∧ l.length ≤ 200)):=by
 obtain ⟨K,hK⟩:=rows_ev l
 refine ⟨K,fun k hk => ?_⟩
 unfold u1t.f
 simp only [if_true]
 by_cases h1:0 < l.length ∧ l.length ≤ 200
 · have h2:l.all (fun x => (u1s.f k x.f0).isSome) = true:=List.all_eq_true.2 (fun y hy => by rw [hK k hk y hy];rfl)
   have h3:l.all (u1t.cn k) = true:=List.all_eq_true.2 (fun y hy => by
    unfold u1t.cn
    rw [hK k hk y hy,h y hy]
    rfl)
   rw [if_pos h1,if_pos h2,h3,decide_eq_true h1]
 · rw [if_neg h1,decide_eq_false h1]
theorem rcan1_l0 (l:List Rw) (hl:l.length ≤ 200) (hc:∀ r ∈ l,canB r.f0 = true):∀ (r:List Rw) (i:Nat),l.drop i = r → i ≤ l.length → Ev (fun k => uz.l0 k l (l.length:Int) (i:Int)) true
 | [],i,h,hi => by
   have:l.length ≤ i:=List.drop_eq_nil_iff.1 h
   refine Ev.step (f:=fun _ => some true) (fun k => ?_) (Ev.now _)
   simp only [uz.l0]
   rw [if_neg (by omega)]
 | x :: r,i,h,hi => by
   have hlt:i < l.length:=by
    rcases Nat.lt_or_ge i l.length with h9 | h9
    · exact h9
    · rw [List.drop_eq_nil_of_le h9] at h
      cases h
   rw [List.drop_eq_getElem_cons hlt] at h
   obtain ⟨h1,h2⟩:=List.cons.inj h
   have hx:u3z l (i:Int) = x:=by simp [u3z,hlt,h1]
   have hm:x ∈ l:=by rw [← h1];exact List.getElem_mem hlt
   have ih:=rcan1_l0 l hl hc r (i + 1) h2 (by omega)
   refine Ev.step (f:=fun k => (uv.f k x.f0).bind fun t => if t = true then uz.l0 k l (l.length:Int) ((i + 1:Nat):Int) else some false) (fun k => ?_) ?_
   · simp only [uz.l0]
     rw [if_pos (by omega),if_pos (by omega),if_pos (by omega),hx,show wrap64 ((i:Int) + 1) = ((i + 1:Nat):Int) by unfold wrap64;omega]
   · have h7:=rcan_ev x.f0 (canB_sizes (hc x hm))
     rw [hc x hm] at h7
     exact Ev.bind h7 (Ev.congr (fun k => by rw [if_pos rfl]) ih)
theorem rcan1_ev (l:List Rw) (ms:List Mt) (x y z:Int) (h:∀ r ∈ l,canB r.f0 = true):Ev (fun k => uz.f k 1 l ms x y z) (decide (0 < l.length ∧ l.length ≤ 200)):=by
 by_cases h0:l.length = 0
 · rw [decide_eq_false (by omega)]
   refine Ev.congr (f:=fun k => uz.j0 k true 1 l ms x y z) (fun k => by unfold uz.f;rw [if_pos rfl,if_pos (by omega)]) ?_
   exact Ev.step (f:=fun _ => some false) (fun k => by simp [uz.j0]) (Ev.now _)
 · refine Ev.congr (f:=fun k => uz.j0 k (decide ((l.length:Int) > 200)) 1 l ms x y z) (fun k => by unfold uz.f;rw [if_pos rfl,if_neg (by omega)]) ?_
   by_cases h2:l.length ≤ 200
   · rw [decide_eq_true (show 0 < l.length ∧ l.length ≤ 200 by omega)]
     refine Ev.step (f:=fun k => uz.l0 k l (l.length:Int) 0) (fun k => ?_) (rcan1_l0 l h2 h l 0 rfl (Nat.zero_le _))
     simp only [uz.j0]
     rw [if_neg (by simp;omega)]
   · rw [decide_eq_false (show ¬ (0 < l.length ∧ l.length ≤ 200) from fun h9 => h2 h9.2)]
     refine Ev.step (f:=fun _ => some false) (fun k => ?_) (Ev.now _)
     simp only [uz.j0]
     rw [if_pos (by simp;omega)]
theorem rowsE_ev:∀ (l:List Rw),(∀ r ∈ l,canB r.f0 = true) → Ev (fun k => un.rowsE k l) (l.flatMap rEnc)
 | [],_ => Ev.now _
 | x :: r,hc => by
   have hlab:=encode_ev x.f0
   rw [hc x (List.mem_cons_self ..),if_pos rfl] at hlab
   have ih:=rowsE_ev r (fun y hy => hc y (List.mem_cons_of_mem _ hy))
   have h:=Ev.bind (f:=fun k e => (un.rowsE k r).map fun t => e.1 ++ (un.put8 x.f1 ++ (u1p.put x.f2 8 ++ t))) hlab (ev_map _ ih)
   have e:(x :: r).flatMap rEnc = us.enc x.f0 ++ (un.put8 x.f1 ++ (u1p.put x.f2 8 ++ r.flatMap rEnc)):=by simp [rEnc,un.put8]
   rw [e]
   exact h
theorem lim_is {b:List Int} (h:b.length ≤ big):un.lim b = some (b,0):=if_pos h
theorem enc1_ev (l:List Rw) (h:∀ r ∈ l,canB r.f0 = true) (h0:0 < l.length ∧ l.length ≤ 200) (hb:(1 :: (u1p.put (IntKind.u64.wrap (l.length:Int)) 2 ++ l.flatMap rEnc)).length ≤ big):Ev (fun k => un.f k 1 l [] 0 0 0) (1 :: (u1p.put (IntKind.u64.wrap (l.length:Int)) 2 ++ l.flatMap rEnc),0):=by
 have hc:=can1_ev l [] 0 0 0 h
 rw [decide_eq_true h0] at hc
 refine Ev.bind hc (Ev.congr (fun k => by rw [if_pos rfl,if_pos rfl]) (Ev.bind (rowsE_ev l h) ?_))
 simp only [lim_is hb]
 exact Ev.now _
theorem enc2_ev (m:List Mt) (x y:Int) (hc:u1m.CanB m = true) (hb:(2 :: (mAll m ++ (un.put8 x ++ un.put8 y))).length ≤ big) (hm:(mAll m).length < big):Ev (fun k => un.f k 2 [] m x y 0) (2 :: (mAll m ++ (un.put8 x ++ un.put8 y)),0):=by
 refine Ev.bind (a:=true) ⟨0,fun k _ => by rw [← hc];exact can_two k _ _ _ _ _⟩ (Ev.congr (fun k => by rw [if_pos rfl,if_neg (show ¬ (2:Int) = 1 by decide),if_pos rfl]) (Ev.bind (menc_ev m hm hc) ?_))
 simp only [lim_is hb]
 exact Ev.now _
theorem enc3_ev (x:Int) (hx:0 ≤ x ∧ x ≤ 4611686018427387904):Ev (fun k => un.f k 3 [] [] 0 0 x) (3 :: un.put8 x,0):=by
 refine Ev.bind (a:=true) ⟨0,fun k _ => by rw [← decide_eq_true hx];exact can_three k _ _ _ _ _⟩ (Ev.congr (fun k => by rw [if_pos rfl,if_neg (show ¬ (3:Int) = 1 by decide),if_neg (show ¬ (3:Int) = 2 by decide),if_pos rfl,lim_is (by unfold big;simp [un.put8,u1p.put8])]) (Ev.now _))
theorem ev_dec (k0:Int) (b:List Int) (s:SS) (h1:ue.num 1 ⟨b,false⟩ = (k0,s)) (z:Ou × SS) (r:Ou × Int) (h2:Ev (fun k => ud.mid k (wrap64 k0) s) z) (h3:Ev (fun k => ud.out k z) r):Ev (fun k => ud.dec k b) r :=
 Ev.congr (fun k => by unfold ud.dec;rw [h1]) (Ev.bind h2 h3)
theorem out_bad (z:Ou × SS) (h:z.2.bad = true):Ev (fun k => ud.out k z) (ud.zero,5):=Ev.congr (fun k => by unfold ud.out;rw [if_pos h]) (Ev.now _)
theorem out_left (o:Ou) (q:List Int) (h:q ≠ []):Ev (fun k => ud.out k (o,⟨q,false⟩)) (ud.zero,5):=Ev.congr (fun k => by unfold ud.out;rw [if_neg (by intro h9;cases h9),if_pos h]) (Ev.now _)
theorem out_can (o:Ou) (c:Bool) (h:Ev (fun k => ud.canO k o) c):Ev (fun k => ud.out k (o,⟨[],false⟩)) (if c = true then (o,0) else (ud.zero,5)):=by
 refine Ev.congr (fun k => by unfold ud.out;rw [if_neg (by intro h9;cases h9),if_neg (by intro h9;exact h9 rfl)]) (Ev.bind h ?_)
 cases c with
 | true => exact Ev.congr (fun k => by rw [if_pos rfl,if_pos rfl]) (Ev.now _)
 | false => exact Ev.congr (fun k => by rw [if_neg (by intro h9;cases h9),if_neg (by intro h9;cases h9)]) (Ev.now _)
theorem fin_left (a:Int) (l:List Rw) (m:List Mt) (x y z:Int) (q:List Int) (h:q ≠ []):Ev (fun k => u1g.fin k a l m x y z q) 5:=Ev.congr (fun k => by unfold u1g.fin;rw [if_pos h]) (Ev.now _)
theorem fin_can (a:Int) (l:List Rw) (m:List Mt) (x y z:Int) (c:Bool) (h:Ev (fun k => uz.f k a l m x y z) c):Ev (fun k => u1g.fin k a l m x y z []) (if c = true then 0 else 5):=by
 refine Ev.congr (fun k => by unfold u1g.fin;rw [if_neg (by intro h9;exact h9 rfl)]) (Ev.bind h ?_)
 exact Ev.now _
def Told (b:List Int):Prop:=(∃ o,Ev (fun k => ud.dec k b) (o,5) ∧ Ev (fun k => u1g.err k b) 5) ∨
 ∃ o:Ou,Ev (fun k => ud.dec k b) (o,0) ∧ Ev (fun k => un.f k o.kd o.rows o.ms o.fr o.to_ o.kp) (b,0) ∧ Ev (fun k => u1t.f k o.kd o.rows o.ms o.fr o.to_ o.kp) true
theorem told (b:List Int) (hl:b.length < big) (hb:∀ y ∈ b,u2o y):Told b:=by
 cases b with
 | nil =>
   left
   refine ⟨ud.zero,ev_dec 0 [] ⟨[],true⟩ rfl (⟨0,[],[],0,0,0⟩,⟨[],true⟩) _ ?_ (out_bad _ rfl),Ev.now _⟩
   exact Ev.congr (fun k => by rw [show wrap64 0 = 0 by unfold wrap64;omega];rfl) (Ev.now _)
 | cons c r =>
   have hc:=hb c (List.mem_cons_self ..)
   have hr:∀ y ∈ r,u2o y:=fun y hy => hb y (List.mem_cons_of_mem _ hy)
   have hrl:r.length ≤ big:=by
    rw [List.length_cons] at hl
    omega
   have hn:=num1 c r hb
   unfold u2o at hc
   have hw:wrap64 c = c:=by unfold wrap64;omega
   have hm:∀ k,ud.mid k (wrap64 c) ⟨r,false⟩ = ud.mid k c ⟨r,false⟩:=fun k => by rw [hw]
   by_cases h1:c = 1
   · subst h1
     rcases num_int 2 r (by decide) hr with ⟨i1,i2⟩ | ⟨i0,i1,i2⟩
     · left
       obtain ⟨⟨x1,⟨y1,y2⟩⟩,hp⟩:∃ p,ue.num 2 ⟨r,false⟩ = p:=⟨_,rfl⟩
       rw [hp] at i2
       simp only at i2
       subst i2
       refine ⟨ud.zero,ev_dec 1 _ _ hn (⟨1,[],[],0,0,0⟩,⟨y1,true⟩) _ (Ev.congr (fun k => ?_) (Ev.now _)) (out_bad _ rfl),Ev.congr (fun k => ?_) (Ev.now _)⟩
       · rw [hm]
         unfold ud.mid
         rw [if_pos rfl,hp,rowsM_bad _ _ _ _ rfl]
         rfl
       · rw [u1g.err_cons,if_pos rfl]
         unfold u2u.top
         rw [i1]
         rfl
     · have hb2:∀ y ∈ r.drop 2,u2o y:=fun y hy => hr y (List.mem_of_mem_drop hy)
       have hb1:∀ y ∈ r.take 2,u2o y:=fun y hy => hr y (List.mem_of_mem_take hy)
       have l1:(r.take 2).length = 2:=by rw [List.length_take];omega
       have v1:=(val_is (r.take 2) (by omega) hb1).2.2
       rw [l1] at v1
       have v2:bv (r.take 2) < 65536:=by have:(256:Int) ^ 2 = 65536:=by decide
                                         omega
       have hwn:wrap64 (bv (r.take 2)) = bv (r.take 2):=by unfold wrap64;omega
       have htop:∀ k,u2u.top k r = u2u.rowsM k (bv (r.take 2)).toNat (r.drop 2) []:=fun k => by
        unfold u2u.top
        rw [i1]
        simp only [hwn]
       have hmid:∀ k,ud.mid k (wrap64 1) ⟨r,false⟩ = (ud.rowsM k (bv (r.take 2)).toNat ⟨r.drop 2,false⟩ []).map fun z => ((⟨1,z.1,[],0,0,0⟩:Ou),z.2):=fun k => by
        rw [hm]
        unfold ud.mid
        rw [if_pos rfl,i2]
       rcases rows_is (bv (r.take 2)).toNat (r.drop 2) [] (by rw [List.length_drop];omega) hb2 with ⟨j1,z,j2,j3⟩ | ⟨l2,q,j1,j2,j3,j4,j5,j6⟩
       · left
         refine ⟨ud.zero,ev_dec 1 _ _ hn _ _ (Ev.congr hmid (ev_map (fun z:List Rw × SS => ((⟨1,z.1,[],0,0,0⟩:Ou),z.2)) j2)) (out_bad _ j3),?_⟩
         refine Ev.congr (fun k => by rw [u1g.err_cons,if_pos rfl,htop k]) (Ev.bind j1 ?_)
         exact Ev.now _
       · simp only [List.nil_append] at j1 j2
         have hmv:=Ev.congr hmid (ev_map (fun z:List Rw × SS => ((⟨1,z.1,[],0,0,0⟩:Ou),z.2)) j2)
         have herr:∀ e,Ev (fun k => u1g.fin k 1 l2 [] 0 0 0 q) e → Ev (fun k => u1g.err k (1 :: r)) e:=fun e he =>
          Ev.congr (fun k => by rw [u1g.err_cons,if_pos rfl,htop k]) (Ev.bind j1 he)
         by_cases hq:q = []
         · subst hq
           have hcp:Ev (fun k => ud.canO k ⟨1,l2,[],0,0,0⟩) _:=can1_ev l2 [] 0 0 0 j6
           have hcr:=fin_can 1 l2 [] 0 0 0 _ (rcan1_ev l2 [] 0 0 0 j6)
           by_cases h200:0 < l2.length ∧ l2.length ≤ 200
           · right
             have hx:=ev_dec 1 _ _ hn _ _ hmv (out_can _ _ hcp)
             rw [decide_eq_true h200,if_pos rfl] at hx
             rw [decide_eq_true h200] at hcp
             have hr2:r = u1p.put (IntKind.u64.wrap (l2.length:Int)) 2 ++ l2.flatMap rEnc:=by
              have e1:(l2.length:Int) = bv (r.take 2):=by omega
              rw [e1,u64_of _ v1.1 (by omega),put2_bv _ l1 hb1]
              conv => lhs;rw [← List.take_append_drop 2 r,j4]
              simp
             have he:=enc1_ev l2 j6 h200 (by
              have:=congrArg List.length hr2
              unfold big at *
              simp only [List.length_append,List.length_cons,List.length_nil] at *
              omega)
             rw [← hr2] at he
             exact ⟨_,hx,he,hcp⟩
           · left
             have hx:=ev_dec 1 _ _ hn _ _ hmv (out_can _ _ hcp)
             rw [decide_eq_false h200,if_neg (by intro h9;cases h9)] at hx
             rw [decide_eq_false h200,if_neg (by intro h9;cases h9)] at hcr
             exact ⟨_,hx,herr 5 hcr⟩
         · left
           exact ⟨_,ev_dec 1 _ _ hn _ _ hmv (out_left _ _ hq),herr 5 (fin_left _ _ _ _ _ _ _ hq)⟩
   · by_cases h2:c = 2
     · subst h2
       obtain ⟨⟨m,q,e⟩,hz⟩:∃ z,uy.dec r = z:=⟨_,rfl⟩
       have hrd:=mdec_ev r hrl hr
       rw [hz] at hrd
       have hmid:∀ k,ud.mid k (wrap64 2) ⟨r,false⟩ = some (⟨2,[],m,wrap64 (ue.num 8 ⟨q,e != 0⟩).1,wrap64 (ue.num 8 (ue.num 8 ⟨q,e != 0⟩).2).1,0⟩,(ue.num 8 (ue.num 8 ⟨q,e != 0⟩).2).2):=fun k => by
        rw [hm]
        unfold ud.mid
        rw [if_neg (by decide),if_pos rfl]
        simp only [hz,Bool.false_or]
       have herr:∀ x,Ev (fun k => if e ≠ 0 then some 5 else match u2a.int 8 q with
        | none => some 5
        | some u => match u2a.int 8 u.2 with
          | none => some 5
          | some v => u1g.fin k 2 [] m u.1 v.1 0 v.2) x → Ev (fun k => u1g.err k (2 :: r)) x:=fun x hx =>
        Ev.congr (fun k => by rw [u1g.err_cons,if_neg (by decide),if_pos rfl]) (Ev.bind hrd hx)
       by_cases he:e = 0
       · subst he
         obtain ⟨i1,i2,i3⟩:=mdec_inv hr hz
         simp only [bne_self_eq_false] at hmid
         rcases num_int 8 q (by decide) i3 with ⟨a1,a2⟩ | ⟨a0,a1,a2⟩
         · left
           obtain ⟨⟨x1,⟨y1,y2⟩⟩,hp⟩:∃ p,ue.num 8 ⟨q,false⟩ = p:=⟨_,rfl⟩
           rw [hp] at a2 hmid
           simp only at a2
           subst a2
           simp only [num_bad] at hmid
           exact ⟨_,ev_dec 2 _ _ hn _ _ (Ev.congr hmid (Ev.now _)) (out_bad _ rfl),herr 5 (Ev.congr (fun k => by rw [if_neg (fun h9 => h9 rfl)];simp only [a1]) (Ev.now _))⟩
         · have hb2:∀ y ∈ q.drop 8,u2o y:=fun y hy => i3 y (List.mem_of_mem_drop hy)
           have hb1:∀ y ∈ q.take 8,u2o y:=fun y hy => i3 y (List.mem_of_mem_take hy)
           have l1:(q.take 8).length = 8:=by rw [List.length_take];omega
           have v1:=bv8_lt _ l1 hb1
           simp only [a2] at hmid
           rcases num_int 8 (q.drop 8) (by decide) hb2 with ⟨c1,c2⟩ | ⟨c0,c1,c2⟩
           · left
             exact ⟨_,ev_dec 2 _ _ hn _ _ (Ev.congr hmid (Ev.now _)) (out_bad _ c2),herr 5 (Ev.congr (fun k => by rw [if_neg (fun h9 => h9 rfl)];simp only [a1,c1]) (Ev.now _))⟩
           · have hb3:∀ y ∈ (q.drop 8).take 8,u2o y:=fun y hy => hb2 y (List.mem_of_mem_take hy)
             have l3:((q.drop 8).take 8).length = 8:=by rw [List.length_take];omega
             have v3:=bv8_lt _ l3 hb3
             simp only [c2] at hmid
             by_cases hq:(q.drop 8).drop 8 = []
             · right
               rw [hq] at hmid
               have hcp:Ev (fun k => ud.canO k ⟨2,[],m,wrap64 (bv (q.take 8)),wrap64 (bv ((q.drop 8).take 8)),0⟩) true:=⟨0,fun k _ => by rw [← i2];exact can_two k _ _ _ _ _⟩
               have hx:=ev_dec 2 _ _ hn _ _ (Ev.congr hmid (Ev.now _)) (out_can _ _ hcp)
               rw [if_pos rfl] at hx
               have hr2:r = mAll m ++ (un.put8 (wrap64 (bv (q.take 8))) ++ un.put8 (wrap64 (bv ((q.drop 8).take 8)))):=by
                unfold un.put8
                rw [u64_w64 _ v1.1 v1.2,u64_w64 _ v3.1 v3.2,put8_bv _ l1 hb1,put8_bv _ l3 hb3]
                have h5:q.take 8 ++ (q.drop 8).take 8 = q:=by
                 conv => rhs;rw [← List.take_append_drop 8 q,← List.take_append_drop 8 (q.drop 8),hq]
                 simp
                rw [h5]
                exact i1
               have hlr:=congrArg List.length hr2
               simp only [List.length_append] at hlr
               have he2:=enc2_ev m (wrap64 (bv (q.take 8))) (wrap64 (bv ((q.drop 8).take 8))) i2 (by
                simp only [List.length_append,List.length_cons,List.length_nil] at *
                omega) (by
                simp only [List.length_cons] at hl
                omega)
               rw [← hr2] at he2
               exact ⟨_,hx,he2,hcp⟩
             · left
               exact ⟨_,ev_dec 2 _ _ hn _ _ (Ev.congr hmid (Ev.now _)) (out_left _ _ hq),herr 5 (Ev.congr (fun k => by rw [if_neg (fun h9 => h9 rfl)];simp only [a1,c1];rfl) (fin_left _ _ _ _ _ _ _ hq))⟩
       · left
         have e1:(e != 0) = true:=by simp [he]
         rw [e1] at hmid
         simp only [num_bad] at hmid
         exact ⟨_,ev_dec 2 _ _ hn _ _ (Ev.congr hmid (Ev.now _)) (out_bad _ rfl),herr 5 (Ev.congr (fun k => by rw [if_pos he]) (Ev.now _))⟩
     · by_cases h3:c = 3
       · subst h3
         have hmid:∀ k,ud.mid k (wrap64 3) ⟨r,false⟩ = some (⟨3,[],[],0,0,wrap64 (ue.num 8 ⟨r,false⟩).1⟩,(ue.num 8 ⟨r,false⟩).2):=fun k => by
          rw [hm]
          unfold ud.mid
          rw [if_neg (by decide),if_neg (by decide),if_pos rfl]
         have herr:∀ k,u1g.err k (3 :: r) = match u2a.int 8 r with
          | none => some 5
          | some u => u1g.fin k 3 [] [] 0 0 u.1 u.2:=fun k => by
          rw [u1g.err_cons,if_neg (by decide),if_neg (by decide),if_pos rfl]
          rfl
         rcases num_int 8 r (by decide) hr with ⟨a1,a2⟩ | ⟨a0,a1,a2⟩
         · left
           exact ⟨_,ev_dec 3 _ _ hn _ _ (Ev.congr hmid (Ev.now _)) (out_bad _ a2),Ev.congr (fun k => by rw [herr k];simp only [a1]) (Ev.now _)⟩
         · have hb1:∀ y ∈ r.take 8,u2o y:=fun y hy => hr y (List.mem_of_mem_take hy)
           have l1:(r.take 8).length = 8:=by rw [List.length_take];omega
           have v1:=bv8_lt _ l1 hb1
           simp only [a2] at hmid
           by_cases hq:r.drop 8 = []
           · rw [hq] at hmid
             have hcp:Ev (fun k => ud.canO k ⟨3,[],[],0,0,wrap64 (bv (r.take 8))⟩) (decide (0 ≤ wrap64 (bv (r.take 8)) ∧ wrap64 (bv (r.take 8)) ≤ 4611686018427387904)):=⟨0,fun k _ => can_three k _ _ _ _ _⟩
             by_cases hk:0 ≤ wrap64 (bv (r.take 8)) ∧ wrap64 (bv (r.take 8)) ≤ 4611686018427387904
             · right
               rw [decide_eq_true hk] at hcp
               have hx:=ev_dec 3 _ _ hn _ _ (Ev.congr hmid (Ev.now _)) (out_can _ _ hcp)
               rw [if_pos rfl] at hx
               have he:=enc3_ev _ hk
               have hr2:un.put8 (wrap64 (bv (r.take 8))) = r:=by
                unfold un.put8
                rw [u64_w64 _ v1.1 v1.2,put8_bv _ l1 hb1]
                conv => rhs;rw [← List.take_append_drop 8 r,hq]
                simp
               rw [hr2] at he
               exact ⟨_,hx,he,hcp⟩
             · left
               rw [decide_eq_false hk] at hcp
               have hx:=ev_dec 3 _ _ hn _ _ (Ev.congr hmid (Ev.now _)) (out_can _ _ hcp)
               rw [if_neg (by intro h9;cases h9)] at hx
               refine ⟨_,hx,Ev.congr (fun k => by rw [herr k];simp only [a1,hq];rfl) (fin_can 3 [] [] 0 0 _ false ⟨0,fun k _ => ?_⟩)⟩
               show uz.f k 3 [] [] 0 0 (wrap64 (bv (r.take 8))) = some false
               unfold uz.f
               simp only
               rw [if_neg (show ¬ (3:Int) = 1 by decide),if_neg (show ¬ (3:Int) = 2 by decide),if_pos trivial]
               by_cases h0:wrap64 (bv (r.take 8)) ≥ 0
               · rw [if_pos h0,decide_eq_false (by omega)]
               · rw [if_neg h0]
           · left
             exact ⟨_,ev_dec 3 _ _ hn _ _ (Ev.congr hmid (Ev.now _)) (out_left _ _ hq),Ev.congr (fun k => by rw [herr k];simp only [a1];rfl) (fin_left _ _ _ _ _ _ _ hq)⟩
       · left
         have hmid:∀ k,ud.mid k (wrap64 c) ⟨r,false⟩ = some (⟨c,[],[],0,0,0⟩,⟨r,false⟩):=fun k => by
          rw [hm]
          unfold ud.mid
          rw [if_neg h1,if_neg h2,if_neg h3]
         have herr:Ev (fun k => u1g.err k (c :: r)) 5:=Ev.congr (fun k => by rw [u1g.err_cons,if_neg h1,if_neg h2,if_neg h3]) (Ev.now _)
         by_cases hq:r = []
         · subst hq
           have hcp:Ev (fun k => ud.canO k ⟨c,[],[],0,0,0⟩) false:=⟨0,fun k _ => can_no k c _ _ _ _ _ h1 h2 h3⟩
           have hx:=ev_dec c _ _ hn _ _ (Ev.congr hmid (Ev.now _)) (out_can _ _ hcp)
           rw [if_neg (by intro h9;cases h9)] at hx
           exact ⟨_,hx,herr⟩
         · exact ⟨_,ev_dec c _ _ hn _ _ (Ev.congr hmid (Ev.now _)) (out_left _ _ hq),herr⟩
theorem mem_dropl {a:List Int} {y:Int} (h:y ∈ a.dropLast):y ∈ a:=by
 rw [List.dropLast_eq_take] at h
 exact List.mem_of_mem_take h
theorem u4d (x:Int):∀ (n:Nat),∀ y ∈ u1p.put x n,u2o y
 | 0,y,h => by cases h
 | n + 1,y,h => by
   rcases List.mem_cons.1 h with rfl | h9
   · unfold u2o u1p.at
     exact ⟨Int.emod_nonneg _ (by decide),Int.emod_lt_of_pos _ (by decide)⟩
   · exact u4d x n y h9
theorem put_len (x:Int):∀ (n:Nat),(u1p.put x n).length = n
 | 0 => rfl
 | n + 1 => by
   show (u1p.put x n).length + 1 = n + 1
   rw [put_len x n]
theorem bv_put8 (x:Int) (h0:0 ≤ x) (h1:x < 18446744073709551616):bv (u1p.put x 8) = x:=by
 rw [u1p.put8]
 simp only [bv,List.foldl,bvS]
 omega
theorem bv_put2 (x:Int) (h0:0 ≤ x) (h1:x < 65536):bv (u1p.put x 2) = x:=by
 rw [u1p.put2]
 simp only [bv,List.foldl,bvS]
 omega
theorem num_put (n:Nat) (hn:n ≤ 8) (x:Int) (hx:bv (u1p.put x n) = x) (r:List Int) (hr:∀ y ∈ r,u2o y):ue.num n ⟨u1p.put x n ++ r,false⟩ = (x,⟨r,false⟩):=by
 have hb:∀ y ∈ u1p.put x n ++ r,u2o y:=fun y hy => by
  rcases List.mem_append.1 hy with h | h
  · exact u4d x n y h
  · exact hr y h
 rcases num_int n (u1p.put x n ++ r) hn hb with ⟨h1,h2⟩ | ⟨h0,h1,h2⟩
 · unfold u2a.int at h1
   rw [if_neg (by rw [List.length_append,put_len];omega)] at h1
   cases h1
 · rw [h2,List.take_left' (put_len x n),List.drop_left' (put_len x n),hx]
theorem num_short (n:Nat) (b:List Int) (h:b.length < n):ue.num n ⟨b,false⟩ = (0,⟨b,true⟩):=if_pos (Or.inr h)
def I64 (x:Int):Prop:=-9223372036854775808 ≤ x ∧ x ≤ 9223372036854775807
def U64 (x:Int):Prop:=0 ≤ x ∧ x < 18446744073709551616
theorem u64_u (x:Int):U64 (IntKind.u64.wrap x):=by
 show 0 ≤ x % 18446744073709551616 ∧ x % 18446744073709551616 < 18446744073709551616
 omega
theorem w64_u64 (x:Int) (h:I64 x):wrap64 (IntKind.u64.wrap x) = x:=by
 show wrap64 (x % 18446744073709551616) = x
 unfold I64 at h
 unfold wrap64
 omega
theorem num_put8 (x:Int) (h:U64 x) (r:List Int) (hr:∀ y ∈ r,u2o y):ue.num 8 ⟨u1p.put x 8 ++ r,false⟩ = (x,⟨r,false⟩):=num_put 8 (by decide) x (bv_put8 x h.1 h.2) r hr
def RowWf (x:Rw):Prop:=canB x.f0 = true ∧ I64 x.f1 ∧ U64 x.f2
theorem rEnc_range (x:Rw):∀ y ∈ rEnc x,u2o y:=fun y hy => by
 unfold rEnc at hy
 rcases List.mem_append.1 hy with h | h
 · exact enc_range x.f0 y h
 · rcases List.mem_append.1 h with h | h
   · exact u4d _ _ y h
   · exact u4d _ _ y h
theorem rAll_range (l:List Rw):∀ y ∈ l.flatMap rEnc,u2o y:=fun y hy => by
 obtain ⟨x,_,h⟩:=List.mem_flatMap.1 hy
 exact rEnc_range x y h
theorem rEnc_len (x:Rw) (h:canB x.f0 = true):(rEnc x).length ≤ 545 ∧ 17 ≤ (rEnc x).length:=by
 have:=enc_le h
 simp only [rEnc,List.length_append,put_len]
 omega
theorem rAll_len:∀ (l:List Rw),(∀ x ∈ l,canB x.f0 = true) → (l.flatMap rEnc).length ≤ 545 * l.length
 | [],_ => by simp
 | x :: l,h => by
   have h1:=rEnc_len x (h x (List.mem_cons_self ..))
   have h2:=rAll_len l (fun y hy => h y (List.mem_cons_of_mem _ hy))
   rw [List.flatMap_cons,List.length_append,List.length_cons]
   omega
theorem row_back (x:Rw) (hx:RowWf x) (r:List Int) (hl:r.length ≤ 1000000) (hr:∀ y ∈ r,u2o y):Ev (fun k => u3k.rowM k ⟨rEnc x ++ r,false⟩) ((x.f0,x.f1,x.f2),⟨r,false⟩):=by
 have hb1:∀ y ∈ u1p.put x.f2 8 ++ r,u2o y:=fun y hy => by
  rcases List.mem_append.1 hy with h | h
  · exact u4d _ _ y h
  · exact hr y h
 have hb2:∀ y ∈ u1p.put (IntKind.u64.wrap x.f1) 8 ++ (u1p.put x.f2 8 ++ r),u2o y:=fun y hy => by
  rcases List.mem_append.1 hy with h | h
  · exact u4d _ _ y h
  · exact hb1 y h
 have hd:=decode_back x.f0 hx.1 (u1p.put (IntKind.u64.wrap x.f1) 8 ++ (u1p.put x.f2 8 ++ r)) (by simp only [List.length_append,put_len];omega) hb2
 have h:=ev_map (fun z => rowG z false) hd
 have e:rowG (x.f0,u1p.put (IntKind.u64.wrap x.f1) 8 ++ (u1p.put x.f2 8 ++ r),0) false = ((x.f0,x.f1,x.f2),⟨r,false⟩):=by
  unfold rowG
  simp only [bne_self_eq_false,Bool.or_false]
  rw [num_put8 _ (u64_u _) _ hb1]
  simp only
  rw [num_put8 _ hx.2.2 _ hr,w64_u64 _ hx.2.1]
 rw [e] at h
 have e2:rEnc x ++ r = us.enc x.f0 ++ (u1p.put (IntKind.u64.wrap x.f1) 8 ++ (u1p.put x.f2 8 ++ r)):=by simp [rEnc]
 rw [e2]
 exact h
theorem row_short (x:Rw) (hx:RowWf x):Ev (fun k => u3k.rowM k ⟨(rEnc x).dropLast,false⟩) ((x.f0,x.f1,0),⟨(u1p.put x.f2 8).dropLast,true⟩):=by
 have hb1:∀ y ∈ (u1p.put x.f2 8).dropLast,u2o y:=fun y hy => u4d _ _ y (mem_dropl hy)
 have hb2:∀ y ∈ u1p.put (IntKind.u64.wrap x.f1) 8 ++ (u1p.put x.f2 8).dropLast,u2o y:=fun y hy => by
  rcases List.mem_append.1 hy with h | h
  · exact u4d _ _ y h
  · exact hb1 y h
 have hd:=decode_back x.f0 hx.1 (u1p.put (IntKind.u64.wrap x.f1) 8 ++ (u1p.put x.f2 8).dropLast) (by simp only [List.length_append,put_len,List.length_dropLast];omega) hb2
 have h:=ev_map (fun z => rowG z false) hd
 have e:rowG (x.f0,u1p.put (IntKind.u64.wrap x.f1) 8 ++ (u1p.put x.f2 8).dropLast,0) false = ((x.f0,x.f1,0),⟨(u1p.put x.f2 8).dropLast,true⟩):=by
  unfold rowG
  simp only [bne_self_eq_false,Bool.or_false]
  rw [num_put8 _ (u64_u _) _ hb1]
  simp only
  rw [num_short 8 _ (by rw [List.length_dropLast,put_len];decide),w64_u64 _ hx.2.1]
 rw [e] at h
 have hne:u1p.put x.f2 8 ≠ []:=fun h9 => by have:=put_len x.f2 8;rw [h9] at this;cases this
 have e2:(rEnc x).dropLast = us.enc x.f0 ++ (u1p.put (IntKind.u64.wrap x.f1) 8 ++ (u1p.put x.f2 8).dropLast):=by
  rw [rEnc,List.dropLast_append_of_ne_nil (by simp [hne]),List.dropLast_append_of_ne_nil hne]
 rw [e2]
 exact h
theorem rowsM_next (n:Nat) (b:List Int) (acc:List Rw) (z:(List S111 × Int × Int) × SS) (u:List Rw × SS) (h1:Ev (fun k => u3k.rowM k ⟨b,false⟩) z) (h2:Ev (fun k => ud.rowsM k n z.2 (acc ++ [⟨z.1.1,z.1.2.1,z.1.2.2⟩])) u):Ev (fun k => ud.rowsM k (n + 1) ⟨b,false⟩ acc) u :=
 Ev.congr (fun k => by rw [ud.rowsM_succ,if_neg (by intro h9;cases h9)]) (Ev.bind (f:=fun k y => ud.rowsM k n y.2 (acc ++ [⟨y.1.1,y.1.2.1,y.1.2.2⟩])) h1 h2)
theorem rows_back:∀ (l:List Rw) (r:List Int) (acc:List Rw),(∀ x ∈ l,RowWf x) → (l.flatMap rEnc ++ r).length ≤ 1000000 → (∀ y ∈ r,u2o y) → Ev (fun k => ud.rowsM k l.length ⟨l.flatMap rEnc ++ r,false⟩ acc) (acc ++ l,⟨r,false⟩)
 | [],r,acc,_,_,_ => by
   rw [List.append_nil]
   exact Ev.now _
 | x :: l,r,acc,hx,hl,hr => by
   have hb:∀ y ∈ l.flatMap rEnc ++ r,u2o y:=fun y hy => by
    rcases List.mem_append.1 hy with h | h
    · exact rAll_range l y h
    · exact hr y h
   have e:(x :: l).flatMap rEnc ++ r = rEnc x ++ (l.flatMap rEnc ++ r):=by simp
   rw [e] at hl ⊢
   rw [List.length_append] at hl
   have h1:=row_back x (hx x (List.mem_cons_self ..)) (l.flatMap rEnc ++ r) (by omega) hb
   have h2:=rows_back l r (acc ++ [x]) (fun y hy => hx y (List.mem_cons_of_mem _ hy)) (by omega) hr
   have h3:=rowsM_next l.length _ acc _ _ h1 h2
   simpa using h3
theorem rows_short:∀ (l:List Rw) (acc:List Rw),l ≠ [] → (∀ x ∈ l,RowWf x) → (l.flatMap rEnc).length ≤ 1000000 → ∃ z:List Rw × SS,Ev (fun k => ud.rowsM k l.length ⟨(l.flatMap rEnc).dropLast,false⟩ acc) z ∧ z.2.bad = true
 | [],acc,h0,_,_ => absurd rfl h0
 | [x],acc,_,hx,_ => by
   have h1:=row_short x (hx x (List.mem_cons_self ..))
   have e:([x].flatMap rEnc).dropLast = (rEnc x).dropLast:=by simp
   rw [e]
   exact ⟨_,rowsM_next 0 _ acc _ _ h1 (Ev.now _),rfl⟩
 | x :: y :: l,acc,_,hx,hl => by
   have hne:(y :: l).flatMap rEnc ≠ []:=fun h9 => by
    have h8:=rEnc_len y (hx y (List.mem_cons_of_mem _ (List.mem_cons_self ..))).1
    have:=congrArg List.length h9
    rw [List.flatMap_cons,List.length_append,List.length_nil] at this
    omega
   have e:((x :: y :: l).flatMap rEnc).dropLast = rEnc x ++ ((y :: l).flatMap rEnc).dropLast:=by
    rw [List.flatMap_cons,List.dropLast_append_of_ne_nil hne]
   rw [List.flatMap_cons,List.length_append] at hl
   obtain ⟨z,h2,h3⟩:=rows_short (y :: l) (acc ++ [x]) (by simp) (fun w hw => hx w (List.mem_cons_of_mem _ hw)) (by omega)
   rw [e]
   have h1:=row_back x (hx x (List.mem_cons_self ..)) ((y :: l).flatMap rEnc).dropLast (by rw [List.length_dropLast];omega) (fun w hw => rAll_range (y :: l) w (mem_dropl hw))
   exact ⟨z,rowsM_next (y :: l).length _ acc _ _ h1 h2,h3⟩
def MtWf (m:Mt):Prop:=0 ≤ m.f0 ∧ m.f0 < 256 ∧ m.f1.size < 256 ∧ m.f2.size < 256
theorem txt_piece (s:ByteArray) (r:List Int) (h:s.size < 256) (hr:∀ y ∈ r,u2o y):ux.txt ⟨us.piece s ++ r,false⟩ = (s,⟨r,false⟩):=by
 have ho:=one_piece s r h
 rcases txt_one (us.piece s ++ r) (fun y hy => by
  rcases List.mem_append.1 hy with h | h
  · exact piece_range s y h
  · exact hr y h) with ⟨h1,_⟩ | ⟨s2,q,h1,h2⟩
 · rw [ho] at h1
   cases h1
 · rw [ho] at h1
   obtain ⟨rfl,rfl⟩:=Prod.mk.inj (Option.some.inj h1)
   exact h2
theorem mEnc_range (m:Mt):∀ y ∈ mEnc m,u2o y:=fun y hy => by
 unfold mEnc at hy
 rcases List.mem_cons.1 hy with rfl | h
 · unfold u2o
   omega
 · rcases List.mem_append.1 h with h | h
   · exact piece_range _ y h
   · exact piece_range _ y h
theorem mats_back:∀ (l:List Mt) (r:List Int) (acc:List Mt),(∀ m ∈ l,MtWf m) → (∀ y ∈ r,u2o y) → uy.mats l.length ⟨l.flatMap mEnc ++ r,false⟩ acc = (acc ++ l,⟨r,false⟩)
 | [],r,acc,_,_ => by simp [uy.mats]
 | m :: l,r,acc,hm,hr => by
   have hw:=hm m (List.mem_cons_self ..)
   have hb:∀ y ∈ l.flatMap mEnc ++ r,u2o y:=fun y hy => by
    rcases List.mem_append.1 hy with h | h
    · obtain ⟨x,_,h2⟩:=List.mem_flatMap.1 h
      exact mEnc_range x y h2
    · exact hr y h
   have hb2:∀ y ∈ us.piece m.f2 ++ (l.flatMap mEnc ++ r),u2o y:=fun y hy => by
    rcases List.mem_append.1 hy with h | h
    · exact piece_range _ y h
    · exact hb y h
   have e:(m :: l).flatMap mEnc ++ r = m.f0 :: (us.piece m.f1 ++ (us.piece m.f2 ++ (l.flatMap mEnc ++ r))):=by
    have:m.f0 % 256 = m.f0:=by unfold MtWf at hw;omega
    simp [mEnc,this]
   rw [e]
   have e2:uy.mats (m :: l).length ⟨m.f0 :: (us.piece m.f1 ++ (us.piece m.f2 ++ (l.flatMap mEnc ++ r))),false⟩ acc = uy.mats l.length (u1l.mat ⟨m.f0 :: (us.piece m.f1 ++ (us.piece m.f2 ++ (l.flatMap mEnc ++ r))),false⟩).2 (acc ++ [(u1l.mat ⟨m.f0 :: (us.piece m.f1 ++ (us.piece m.f2 ++ (l.flatMap mEnc ++ r))),false⟩).1]):=rfl
   rw [e2]
   have e3:u1l.mat ⟨m.f0 :: (us.piece m.f1 ++ (us.piece m.f2 ++ (l.flatMap mEnc ++ r))),false⟩ = (m,⟨l.flatMap mEnc ++ r,false⟩):=by
    unfold u1l.mat
    have e4:ul.byt ⟨m.f0 :: (us.piece m.f1 ++ (us.piece m.f2 ++ (l.flatMap mEnc ++ r))),false⟩ = (m.f0,⟨us.piece m.f1 ++ (us.piece m.f2 ++ (l.flatMap mEnc ++ r)),false⟩):=rfl
    simp only [e4,txt_piece _ _ hw.2.2.1 hb2,txt_piece _ _ hw.2.2.2 hb]
   rw [e3]
   simp only
   rw [mats_back l r (acc ++ [m]) (fun y hy => hm y (List.mem_cons_of_mem _ hy)) hr]
   simp
theorem okB_wf {m:Mt} (h:u1m.okB m = true):MtWf m ∧ m.f2.size ≤ 60 ∧ m.f1.size ≤ 24:=by
 unfold u1m.okB at h
 rw [← rcan_is] at h
 unfold rcanB at h
 rw [Bool.and_eq_true] at h
 have h1:=nameB_size h.1
 have h2:=h.2
 split at h2
 · rename_i hk
   rw [Bool.or_eq_true,decide_eq_true_eq] at h2
   have h3:m.f2.size ≤ 40:=by
    rcases h2 with h2 | h2
    · omega
    · exact (valueB_size h2).2
   exact ⟨⟨by omega,by omega,by omega,by omega⟩,by omega,by omega⟩
 · split at h2
   · rename_i hk
     rw [Bool.and_eq_true] at h2
     have h3:=h2.1
     unfold u2e.okB at h3
     rw [Bool.and_eq_true,Bool.not_eq_true'] at h3
     have h4:=h3.1
     unfold uw.early at h4
     rw [Bool.or_eq_false_iff,decide_eq_false_iff_not] at h4
     exact ⟨⟨by omega,by omega,by omega,by omega⟩,by omega,by omega⟩
   · cases h2
theorem canB_wf {l:List Mt} (h:u1m.CanB l = true):l.length ≤ 6 ∧ ∀ m ∈ l,MtWf m ∧ m.f2.size ≤ 60 ∧ m.f1.size ≤ 24:=by
 unfold u1m.CanB at h
 rw [Bool.and_eq_true,decide_eq_true_eq,List.all_eq_true] at h
 exact ⟨h.1,fun m hm => okB_wf (h.2 m hm)⟩
theorem mAll_len {l:List Mt} (h:u1m.CanB l = true):(mAll l).length ≤ 523:=by
 obtain ⟨h6,hw⟩:=canB_wf h
 have:∀ (l:List Mt),(∀ m ∈ l,MtWf m ∧ m.f2.size ≤ 60 ∧ m.f1.size ≤ 24) → (l.flatMap mEnc).length ≤ 87 * l.length:=fun l => by
  induction l with
  | nil => intro _;simp
  | cons x l ih =>
    intro h
    have h1:=h x (List.mem_cons_self ..)
    have h2:=ih (fun y hy => h y (List.mem_cons_of_mem _ hy))
    rw [List.flatMap_cons,List.length_append,List.length_cons]
    simp only [mEnc,us.piece,List.length_cons,List.length_append,u2x]
    omega
 have h3:=this l hw
 rw [mAll,List.length_cons]
 omega
theorem mAll_range (l:List Mt):∀ y ∈ mAll l,u2o y:=fun y hy => by
 unfold mAll at hy
 rcases List.mem_cons.1 hy with rfl | h
 · unfold u2o
   omega
 · obtain ⟨x,_,h2⟩:=List.mem_flatMap.1 h
   exact mEnc_range x y h2
theorem mdec_back (l:List Mt) (h:u1m.CanB l = true) (r:List Int) (hr:∀ y ∈ r,u2o y):uy.dec (mAll l ++ r) = (l,r,0):=by
 obtain ⟨h6,hw⟩:=canB_wf h
 have hn:(l.length:Int) % 256 = (l.length:Int):=by omega
 have hd:uy.dec (mAll l ++ r) = uy.out (uy.mats ((l.length:Int) % 256).toNat ⟨l.flatMap mEnc ++ r,false⟩ []):=rfl
 rw [hd,hn,Int.toNat_natCast,mats_back l r [] (fun m hm => (hw m hm).1) hr,List.nil_append,out_good,if_pos h]
def b1 (l:List Rw):List Int:=1 :: (u1p.put (l.length:Int) 2 ++ l.flatMap rEnc)
def b2 (m:List Mt) (x y:Int):List Int:=2 :: (mAll m ++ (un.put8 x ++ un.put8 y))
def b3 (x:Int):List Int:=3 :: un.put8 x
theorem byte_app {a r:List Int} (ha:∀ y ∈ a,u2o y) (hr:∀ y ∈ r,u2o y):∀ y ∈ a ++ r,u2o y:=fun y hy => by
 rcases List.mem_append.1 hy with h | h
 · exact ha y h
 · exact hr y h
theorem byte_cons {c:Int} {r:List Int} (hc:u2o c) (hr:∀ y ∈ r,u2o y):∀ y ∈ c :: r,u2o y:=fun y hy => by
 rcases List.mem_cons.1 hy with rfl | h
 · exact hc
 · exact hr y h
theorem byte_drop {a:List Int} (ha:∀ y ∈ a,u2o y):∀ y ∈ a.dropLast,u2o y:=fun y hy => ha y (mem_dropl hy)
theorem b1_range (l:List Rw):∀ y ∈ b1 l,u2o y:=byte_cons ⟨by decide,by decide⟩ (byte_app (u4d _ _) (rAll_range l))
theorem b2_range (m:List Mt) (x y:Int):∀ z ∈ b2 m x y,u2o z:=byte_cons ⟨by decide,by decide⟩ (byte_app (mAll_range m) (byte_app (u4d _ _) (u4d _ _)))
theorem b3_range (x:Int):∀ z ∈ b3 x,u2o z:=byte_cons ⟨by decide,by decide⟩ (u4d _ _)
theorem b1_len {l:List Rw} (h:∀ x ∈ l,canB x.f0 = true) (h2:l.length ≤ 200):(b1 l).length ≤ 109003:=by
 have:=rAll_len l h
 simp only [b1,List.length_cons,List.length_append,put_len]
 omega
theorem b2_len {m:List Mt} (h:u1m.CanB m = true) (x y:Int):(b2 m x y).length ≤ 540:=by
 have:=mAll_len h
 simp only [b2,un.put8,List.length_cons,List.length_append,put_len]
 omega
theorem b3_len (x:Int):(b3 x).length = 9:=by simp only [b3,un.put8,List.length_cons,put_len]
theorem dec_of (c:Int) (r:List Int) (hb:∀ y ∈ c :: r,u2o y) (z:Ou × SS) (u:Ou × Int) (h2:Ev (fun k => ud.mid k c ⟨r,false⟩) z) (h3:Ev (fun k => ud.out k z) u):Ev (fun k => ud.dec k (c :: r)) u:=by
 have hc:=hb c (List.mem_cons_self ..)
 unfold u2o at hc
 have hw:wrap64 c = c:=by unfold wrap64;omega
 exact ev_dec c (c :: r) ⟨r,false⟩ (num1 c r hb) z u (by rw [hw];exact h2) h3
theorem mid1_back (l:List Rw) (h:∀ x ∈ l,RowWf x) (h200:l.length ≤ 200) (r:List Int) (hl:r.length ≤ 100) (hr:∀ y ∈ r,u2o y):Ev (fun k => ud.mid k 1 ⟨u1p.put (l.length:Int) 2 ++ (l.flatMap rEnc ++ r),false⟩) ((⟨1,l,[],0,0,0⟩:Ou),⟨r,false⟩):=by
 have hn:=num_put 2 (by decide) (l.length:Int) (bv_put2 _ (by omega) (by omega)) (l.flatMap rEnc ++ r) (byte_app (rAll_range l) hr)
 have hlen:=rAll_len l (fun x hx => (h x hx).1)
 have hb:=rows_back l r [] h (by rw [List.length_append];omega) hr
 refine Ev.congr (fun k => ?_) (ev_map (fun z:List Rw × SS => ((⟨1,z.1,[],0,0,0⟩:Ou),z.2)) hb)
 unfold ud.mid
 rw [if_pos rfl,hn]
 simp only [Int.toNat_natCast]
theorem mid1_short (l:List Rw) (h0:l ≠ []) (h:∀ x ∈ l,RowWf x) (h200:l.length ≤ 200):∃ z:Ou × SS,Ev (fun k => ud.mid k 1 ⟨u1p.put (l.length:Int) 2 ++ (l.flatMap rEnc).dropLast,false⟩) z ∧ z.2.bad = true:=by
 have hn:=num_put 2 (by decide) (l.length:Int) (bv_put2 _ (by omega) (by omega)) (l.flatMap rEnc).dropLast (byte_drop (rAll_range l))
 have hlen:=rAll_len l (fun x hx => (h x hx).1)
 obtain ⟨z,hz,hbad⟩:=rows_short l [] h0 h (by omega)
 refine ⟨_,Ev.congr (fun k => ?_) (ev_map (fun z:List Rw × SS => ((⟨1,z.1,[],0,0,0⟩:Ou),z.2)) hz),hbad⟩
 unfold ud.mid
 rw [if_pos rfl,hn]
 simp only [Int.toNat_natCast]
theorem mid2_back (m:List Mt) (h:u1m.CanB m = true) (x y:Int) (hx:I64 x) (hy:I64 y) (r:List Int) (hr:∀ y ∈ r,u2o y) (k:Nat):ud.mid k 2 ⟨mAll m ++ (un.put8 x ++ (un.put8 y ++ r)),false⟩ = some ((⟨2,[],m,x,y,0⟩:Ou),⟨r,false⟩):=by
 have hb1:∀ z ∈ un.put8 y ++ r,u2o z:=byte_app (u4d _ _) hr
 have hd:=mdec_back m h (un.put8 x ++ (un.put8 y ++ r)) (byte_app (u4d _ _) hb1)
 unfold ud.mid
 rw [if_neg (by decide),if_pos rfl]
 simp only [hd,bne_self_eq_false,Bool.or_false]
 rw [show un.put8 x = u1p.put (IntKind.u64.wrap x) 8 from rfl,num_put8 _ (u64_u _) _ hb1]
 simp only
 rw [show un.put8 y = u1p.put (IntKind.u64.wrap y) 8 from rfl,num_put8 _ (u64_u _) _ hr,w64_u64 _ hx,w64_u64 _ hy]
theorem mid2_short (m:List Mt) (h:u1m.CanB m = true) (x y:Int):∃ z:Ou × SS,z.2.bad = true ∧ ∀ k,ud.mid k 2 ⟨mAll m ++ (un.put8 x ++ (un.put8 y).dropLast),false⟩ = some z:=by
 have hb1:∀ z ∈ (un.put8 y).dropLast,u2o z:=byte_drop (u4d _ _)
 have hd:=mdec_back m h (un.put8 x ++ (un.put8 y).dropLast) (byte_app (u4d _ _) hb1)
 refine ⟨(⟨2,[],m,wrap64 (IntKind.u64.wrap x),wrap64 0,0⟩,⟨(un.put8 y).dropLast,true⟩),rfl,fun k => ?_⟩
 unfold ud.mid
 rw [if_neg (by decide),if_pos rfl]
 simp only [hd,bne_self_eq_false,Bool.or_false]
 rw [show un.put8 x = u1p.put (IntKind.u64.wrap x) 8 from rfl,num_put8 _ (u64_u _) _ hb1]
 simp only
 rw [num_short 8 _ (by rw [List.length_dropLast];show (u1p.put _ 8).length - 1 < 8;rw [put_len];decide)]
theorem mid3_back (x:Int) (hx:I64 x) (r:List Int) (hr:∀ y ∈ r,u2o y) (k:Nat):ud.mid k 3 ⟨un.put8 x ++ r,false⟩ = some ((⟨3,[],[],0,0,x⟩:Ou),⟨r,false⟩):=by
 unfold ud.mid
 rw [if_neg (by decide),if_neg (by decide),if_pos rfl,show un.put8 x = u1p.put (IntKind.u64.wrap x) 8 from rfl,num_put8 _ (u64_u _) _ hr,w64_u64 _ hx]
theorem mid3_short (x:Int) (k:Nat):ud.mid k 3 ⟨(un.put8 x).dropLast,false⟩ = some ((⟨3,[],[],0,0,wrap64 0⟩:Ou),⟨(un.put8 x).dropLast,true⟩):=by
 unfold ud.mid
 rw [if_neg (by decide),if_neg (by decide),if_pos rfl,num_short 8 _ (by rw [List.length_dropLast];show (u1p.put _ 8).length - 1 < 8;rw [put_len];decide)]
def Read (b:List Int) (o:Ou):Prop:=Ev (fun k => ud.dec k b) (o,0) ∧ (∀ x,u2o x → Ev (fun k => ud.dec k (b ++ [x])) (ud.zero,5)) ∧ Ev (fun k => ud.dec k b.dropLast) (ud.zero,5)
theorem one_byte {x:Int} (hx:u2o x):∀ y ∈ [x],u2o y:=fun y hy => by
 rcases List.mem_cons.1 hy with rfl | h
 · exact hx
 · cases h
theorem read1 (l:List Rw) (h:∀ x ∈ l,RowWf x) (h0:0 < l.length ∧ l.length ≤ 200):Read (b1 l) ⟨1,l,[],0,0,0⟩:=by
 have hne:l ≠ []:=fun h9 => by rw [h9] at h0;exact absurd h0.1 (by decide)
 have hfe:l.flatMap rEnc ≠ []:=fun h9 => by
  cases l with
  | nil => exact hne rfl
  | cons x l =>
    have h8:=rEnc_len x (h x (List.mem_cons_self ..)).1
    have:=congrArg List.length h9
    rw [List.flatMap_cons,List.length_append,List.length_nil] at this
    omega
 refine ⟨?_,fun x hx => ?_,?_⟩
 · have hm:=mid1_back l h h0.2 [] (by simp) (fun y hy => by cases hy)
   have hcp:Ev (fun k => ud.canO k ⟨1,l,[],0,0,0⟩) _:=can1_ev l [] 0 0 0 (fun x hx => (h x hx).1)
   have ho:=out_can _ _ hcp
   rw [decide_eq_true h0,if_pos rfl] at ho
   rw [List.append_nil] at hm
   exact dec_of 1 _ (b1_range l) _ _ hm ho
 · have hm:=mid1_back l h h0.2 [x] (by simp) (one_byte hx)
   have e:b1 l ++ [x] = 1 :: (u1p.put (l.length:Int) 2 ++ (l.flatMap rEnc ++ [x])):=by simp [b1]
   rw [e]
   exact dec_of 1 _ (by rw [← e];exact byte_app (b1_range l) (one_byte hx)) _ _ hm (out_left _ _ (by simp))
 · obtain ⟨z,hz,hbad⟩:=mid1_short l hne h h0.2
   have e:(b1 l).dropLast = 1 :: (u1p.put (l.length:Int) 2 ++ (l.flatMap rEnc).dropLast):=by
    rw [b1,List.dropLast_cons_of_ne_nil (by simp [hfe]),List.dropLast_append_of_ne_nil hfe]
   rw [e]
   exact dec_of 1 _ (by rw [← e];exact byte_drop (b1_range l)) _ _ hz (out_bad z hbad)
theorem put8_ne (x:Int):un.put8 x ≠ []:=fun h9 => by
 have:(un.put8 x).length = 8:=put_len _ 8
 rw [h9] at this
 cases this
theorem read2 (m:List Mt) (h:u1m.CanB m = true) (x y:Int) (hx:I64 x) (hy:I64 y):Read (b2 m x y) ⟨2,[],m,x,y,0⟩:=by
 refine ⟨?_,fun w hw => ?_,?_⟩
 · have hm:=mid2_back m h x y hx hy [] (fun y hy => by cases hy)
   have hcp:Ev (fun k => ud.canO k ⟨2,[],m,x,y,0⟩) true:=⟨0,fun k _ => by rw [← h];exact can_two k _ _ _ _ _⟩
   have ho:=out_can _ _ hcp
   rw [if_pos rfl] at ho
   rw [List.append_nil] at hm
   exact dec_of 2 _ (b2_range m x y) _ _ (Ev.congr hm (Ev.now _)) ho
 · have hm:=mid2_back m h x y hx hy [w] (one_byte hw)
   have e:b2 m x y ++ [w] = 2 :: (mAll m ++ (un.put8 x ++ (un.put8 y ++ [w]))):=by simp [b2]
   rw [e]
   exact dec_of 2 _ (by rw [← e];exact byte_app (b2_range m x y) (one_byte hw)) _ _ (Ev.congr hm (Ev.now _)) (out_left _ _ (by simp))
 · obtain ⟨z,hbad,hz⟩:=mid2_short m h x y
   have e:(b2 m x y).dropLast = 2 :: (mAll m ++ (un.put8 x ++ (un.put8 y).dropLast)):=by
    rw [b2,List.dropLast_cons_of_ne_nil (by simp [put8_ne]),List.dropLast_append_of_ne_nil (by simp [put8_ne]),List.dropLast_append_of_ne_nil (put8_ne y)]
   rw [e]
   exact dec_of 2 _ (by rw [← e];exact byte_drop (b2_range m x y)) _ _ (Ev.congr hz (Ev.now _)) (out_bad z hbad)
theorem read3 (x:Int) (hx:0 ≤ x ∧ x ≤ 4611686018427387904):Read (b3 x) ⟨3,[],[],0,0,x⟩:=by
 have hi:I64 x:=by unfold I64;omega
 refine ⟨?_,fun w hw => ?_,?_⟩
 · have hm:=mid3_back x hi [] (fun y hy => by cases hy)
   have hcp:Ev (fun k => ud.canO k ⟨3,[],[],0,0,x⟩) true:=⟨0,fun k _ => by rw [← decide_eq_true hx];exact can_three k _ _ _ _ _⟩
   have ho:=out_can _ _ hcp
   rw [if_pos rfl] at ho
   rw [List.append_nil] at hm
   exact dec_of 3 _ (b3_range x) _ _ (Ev.congr hm (Ev.now _)) ho
 · have hm:=mid3_back x hi [w] (one_byte hw)
   have e:b3 x ++ [w] = 3 :: (un.put8 x ++ [w]):=rfl
   rw [e]
   exact dec_of 3 _ (by rw [← e];exact byte_app (b3_range x) (one_byte hw)) _ _ (Ev.congr hm (Ev.now _)) (out_left _ _ (by simp))
 · have e:(b3 x).dropLast = 3 :: (un.put8 x).dropLast:=by
    rw [b3,List.dropLast_cons_of_ne_nil (put8_ne x)]
   rw [e]
   exact dec_of 3 _ (by rw [← e];exact byte_drop (b3_range x)) _ _ (Ev.congr (mid3_short x) (Ev.now _)) (out_bad _ rfl)
theorem can1g (l:List Rw) (ms:List Mt) (x y z:Int):Ev (fun k => u1t.f k 1 l ms x y z) (decide (0 < l.length ∧ l.length ≤ 200) && l.all fun r => canB r.f0):=by
 obtain ⟨K,hK⟩:=rows_ev l
 refine ⟨K,fun k hk => ?_⟩
 unfold u1t.f
 simp only [if_true]
 by_cases h1:0 < l.length ∧ l.length ≤ 200
 · have h2:l.all (fun x => (u1s.f k x.f0).isSome) = true:=List.all_eq_true.2 (fun y hy => by rw [hK k hk y hy];rfl)
   have h3:∀ y ∈ l,u1t.cn k y = canB y.f0:=fun y hy => by
    unfold u1t.cn
    rw [hK k hk y hy]
    rfl
   have h4:l.all (u1t.cn k) = l.all fun r => canB r.f0:=by
    rw [Bool.eq_iff_iff,List.all_eq_true,List.all_eq_true]
    exact ⟨fun h8 x hx => (h3 x hx) ▸ h8 x hx,fun h8 x hx => (h3 x hx).symm ▸ h8 x hx⟩
   rw [if_pos h1,if_pos h2,h4,decide_eq_true h1,Bool.true_and]
 · rw [if_neg h1,decide_eq_false h1,Bool.false_and]
theorem rcan1_g0 (l:List Rw) (hl:l.length ≤ 200) (hs:∀ r ∈ l,∀ y ∈ r.f0,y.f0.size ≤ maxLen ∧ y.f1.size ≤ maxLen):∀ (r:List Rw) (i:Nat),l.drop i = r → i ≤ l.length → Ev (fun k => uz.l0 k l (l.length:Int) (i:Int)) (r.all fun r => canB r.f0)
 | [],i,h,hi => by
   have:l.length ≤ i:=List.drop_eq_nil_iff.1 h
   refine Ev.step (f:=fun _ => some true) (fun k => ?_) (Ev.now _)
   simp only [uz.l0]
   rw [if_neg (by omega)]
 | x :: r,i,h,hi => by
   have hlt:i < l.length:=by
    rcases Nat.lt_or_ge i l.length with h9 | h9
    · exact h9
    · rw [List.drop_eq_nil_of_le h9] at h
      cases h
   rw [List.drop_eq_getElem_cons hlt] at h
   obtain ⟨h1,h2⟩:=List.cons.inj h
   have hx:u3z l (i:Int) = x:=by simp [u3z,hlt,h1]
   have hm:x ∈ l:=by rw [← h1];exact List.getElem_mem hlt
   have ih:=rcan1_g0 l hl hs r (i + 1) h2 (by omega)
   refine Ev.step (f:=fun k => (uv.f k x.f0).bind fun t => if t = true then uz.l0 k l (l.length:Int) ((i + 1:Nat):Int) else some false) (fun k => ?_) ?_
   · simp only [uz.l0]
     rw [if_pos (by omega),if_pos (by omega),if_pos (by omega),hx,show wrap64 ((i:Int) + 1) = ((i + 1:Nat):Int) by unfold wrap64;omega]
   · refine Ev.bind (rcan_ev x.f0 (hs x hm)) ?_
     rw [List.all_cons]
     cases canB x.f0 with
     | false => exact Ev.congr (fun k => by simp) (Ev.now _)
     | true =>
       rw [Bool.true_and]
       exact Ev.congr (fun k => by rw [if_pos rfl]) ih
theorem rcan1g (l:List Rw) (hs:∀ r ∈ l,∀ y ∈ r.f0,y.f0.size ≤ maxLen ∧ y.f1.size ≤ maxLen) (ms:List Mt) (x y z:Int):Ev (fun k => uz.f k 1 l ms x y z) (decide (0 < l.length ∧ l.length ≤ 200) && l.all fun r => canB r.f0):=by
 by_cases h0:l.length = 0
 · rw [decide_eq_false (by omega),Bool.false_and]
   refine Ev.congr (f:=fun k => uz.j0 k true 1 l ms x y z) (fun k => by unfold uz.f;rw [if_pos rfl,if_pos (by omega)]) ?_
   exact Ev.step (f:=fun _ => some false) (fun k => by simp [uz.j0]) (Ev.now _)
 · refine Ev.congr (f:=fun k => uz.j0 k (decide ((l.length:Int) > 200)) 1 l ms x y z) (fun k => by unfold uz.f;rw [if_pos rfl,if_neg (by omega)]) ?_
   by_cases h2:l.length ≤ 200
   · rw [decide_eq_true (show 0 < l.length ∧ l.length ≤ 200 by omega),Bool.true_and]
     refine Ev.step (f:=fun k => uz.l0 k l (l.length:Int) 0) (fun k => ?_) (rcan1_g0 l h2 hs l 0 rfl (Nat.zero_le _))
     simp only [uz.j0]
     rw [if_neg (by simp;omega)]
   · rw [decide_eq_false (show ¬ (0 < l.length ∧ l.length ≤ 200) from fun h9 => h2 h9.2),Bool.false_and]
     refine Ev.step (f:=fun _ => some false) (fun k => ?_) (Ev.now _)
     simp only [uz.j0]
     rw [if_pos (by simp;omega)]
theorem rcan_kinds (k:Nat) (c:Int) (l:List Rw) (m:List Mt) (x y z:Int):(c = 2 → uz.f k c l m x y z = u2q.f k m) ∧ (c = 3 → uz.f k c l m x y z = some (decide (0 ≤ z ∧ z ≤ 4611686018427387904))) ∧ (c ≠ 1 → c ≠ 2 → c ≠ 3 → uz.f k c l m x y z = some false):=by
 unfold uz.f
 refine ⟨fun h => ?_,fun h => ?_,fun h1 h2 h3 => ?_⟩
 · subst h
   rw [if_neg (by decide),if_pos rfl]
   cases u2q.f k m <;> rfl
 · subst h
   rw [if_neg (by decide),if_neg (by decide),if_pos rfl]
   by_cases h0:z ≥ 0
   · rw [if_pos h0]
     by_cases h1:z ≤ 4611686018427387904
     · rw [decide_eq_true h1,decide_eq_true (⟨h0,h1⟩:0 ≤ z ∧ z ≤ 4611686018427387904)]
     · rw [decide_eq_false h1,decide_eq_false (fun h9:0 ≤ z ∧ z ≤ 4611686018427387904 => h1 h9.2)]
   · rw [if_neg h0,decide_eq_false (fun h9:0 ≤ z ∧ z ≤ 4611686018427387904 => h0 h9.1)]
 · rw [if_neg h1,if_neg h2,if_neg h3]
def opB (c:Int) (l:List Rw) (m:List Mt) (z:Int):Bool:=if c = 1 then (decide (0 < l.length ∧ l.length ≤ 200) && l.all fun r => canB r.f0) else if c = 2 then u1m.CanB m else if c = 3 then decide (0 ≤ z ∧ z ≤ 4611686018427387904) else false
theorem opcan_ev (c:Int) (l:List Rw) (m:List Mt) (x y z:Int):Ev (fun k => u1t.f k c l m x y z) (opB c l m z):=by
 unfold opB
 by_cases h1:c = 1
 · subst h1
   rw [if_pos rfl]
   exact can1g l m x y z
 · rw [if_neg h1]
   by_cases h2:c = 2
   · subst h2
     rw [if_pos rfl]
     exact ⟨0,fun k _ => can_two k l m x y z⟩
   · rw [if_neg h2]
     by_cases h3:c = 3
     · subst h3
       rw [if_pos rfl]
       exact ⟨0,fun k _ => can_three k l m x y z⟩
     · rw [if_neg h3]
       exact ⟨0,fun k _ => can_no k c l m x y z h1 h2 h3⟩
theorem opref_ev (c:Int) (l:List Rw) (m:List Mt) (x y z:Int) (hl:∀ r ∈ l,∀ y ∈ r.f0,y.f0.size ≤ 1048576 ∧ y.f1.size ≤ 1048576) (hm:m.length ≤ 1048576 ∧ ∀ y ∈ m,y.f1.size ≤ 1048576 ∧ y.f2.size ≤ 1048576):Ev (fun k => uz.f k c l m x y z) (opB c l m z):=by
 unfold opB
 by_cases h1:c = 1
 · subst h1
   rw [if_pos rfl]
   exact rcan1g l (fun r hr y hy => by
    have h9:=hl r hr y hy
    have:1048576 ≤ maxLen:=by decide
    omega) m x y z
 · rw [if_neg h1]
   by_cases h2:c = 2
   · rw [if_pos h2]
     exact Ev.congr (fun k => (rcan_kinds k c l m x y z).1 h2) (r9Can_ev m (by omega) (fun y hy => by have h9:=hm.2 y hy;omega))
   · rw [if_neg h2]
     by_cases h3:c = 3
     · rw [if_pos h3]
       exact ⟨0,fun k _ => (rcan_kinds k c l m x y z).2.1 h3⟩
     · rw [if_neg h3]
       exact ⟨0,fun k _ => (rcan_kinds k c l m x y z).2.2 h1 h2 h3⟩
theorem enc_bad (c:Int) (l:List Rw) (m:List Mt) (x y z:Int) (h:opB c l m z = false):Ev (fun k => un.f k c l m x y z) ([],1):=by
 have h9:=opcan_ev c l m x y z
 rw [h] at h9
 exact Ev.bind h9 (Ev.congr (fun k => by rw [if_neg (by intro h8;cases h8)]) (Ev.now _))
theorem encg1 (l:List Rw) (m:List Mt) (x y z:Int) (h:opB 1 l m z = true):Ev (fun k => un.f k 1 l m x y z) (b1 l,0):=by
 have h9:=opcan_ev 1 l m x y z
 rw [h] at h9
 unfold opB at h
 rw [if_pos rfl,Bool.and_eq_true,decide_eq_true_eq,List.all_eq_true] at h
 have hb:=b1_len (l:=l) h.2 h.1.2
 refine Ev.bind h9 (Ev.congr (fun k => by rw [if_pos rfl,if_pos rfl]) (Ev.bind (rowsE_ev l h.2) ?_))
 have e:IntKind.u64.wrap (l.length:Int) = (l.length:Int):=u64_of _ (by omega) (by omega)
 rw [e]
 have hbig:(b1 l).length ≤ big:=by unfold big;omega
 unfold b1 at hbig ⊢
 simp only [lim_is hbig]
 exact Ev.now _
theorem encg2 (l:List Rw) (m:List Mt) (x y z:Int) (h:opB 2 l m z = true):Ev (fun k => un.f k 2 l m x y z) (b2 m x y,0):=by
 have h9:=opcan_ev 2 l m x y z
 rw [h] at h9
 unfold opB at h
 rw [if_neg (by decide),if_pos rfl] at h
 have hm:=mAll_len h
 have hb:=b2_len h x y
 refine Ev.bind h9 (Ev.congr (fun k => by rw [if_pos rfl,if_neg (show ¬ (2:Int) = 1 by decide),if_pos rfl]) (Ev.bind (menc_ev m (by omega) h) ?_))
 have hbig:(b2 m x y).length ≤ big:=by unfold big;omega
 unfold b2 at hbig ⊢
 simp only [lim_is hbig]
 exact Ev.now _
theorem encg3 (l:List Rw) (m:List Mt) (x y z:Int) (h:opB 3 l m z = true):Ev (fun k => un.f k 3 l m x y z) (b3 z,0):=by
 have h9:=opcan_ev 3 l m x y z
 rw [h] at h9
 have hb:=b3_len z
 have hbig:(b3 z).length ≤ big:=by unfold big;omega
 refine Ev.bind h9 (Ev.congr (fun k => by rw [if_pos rfl,if_neg (show ¬ (3:Int) = 1 by decide),if_neg (show ¬ (3:Int) = 2 by decide),if_pos rfl]) ?_)
 unfold b3 at hbig ⊢
 simp only [lim_is hbig]
 exact Ev.now _
theorem rdd_l (l:List S111) (i:Nat) (x:S111) (r:List S111) (h:l.drop i = x :: r):u1r l (i:Int) = x ∧ i < l.length ∧ l.drop (i + 1) = r:=by
 have hlt:i < l.length:=by
  rcases Nat.lt_or_ge i l.length with h1 | h1
  · exact h1
  · rw [List.drop_eq_nil_of_le h1] at h
    cases h
 rw [List.drop_eq_getElem_cons hlt] at h
 obtain ⟨h1,h2⟩:=List.cons.inj h
 refine ⟨?_,hlt,h2⟩
 simp [u1r,List.getD_eq_getElem?_getD,hlt,h1]
theorem rdd_m (l:List S79) (i:Nat) (x:S79) (r:List S79) (h:l.drop i = x :: r):u1w l (i:Int) = x ∧ i < l.length ∧ l.drop (i + 1) = r:=by
 have hlt:i < l.length:=by
  rcases Nat.lt_or_ge i l.length with h1 | h1
  · exact h1
  · rw [List.drop_eq_nil_of_le h1] at h
    cases h
 rw [List.drop_eq_getElem_cons hlt] at h
 obtain ⟨h1,h2⟩:=List.cons.inj h
 refine ⟨?_,hlt,h2⟩
 simp [u1w,List.getD_eq_getElem?_getD,hlt,h1]
theorem same_l0 (m:List S111) (hm:m.length ≤ 9223372036854775806):∀ (r:List S111) (i:Nat),m.drop i = r → Ev (fun k => u3y.l0 k m m (m.length:Int) (i:Int)) true:=by
 intro r
 induction r with
 | nil =>
   intro i h
   have hi:m.length ≤ i:=List.drop_eq_nil_iff.1 h
   refine Ev.step (f:=fun _ => some true) (fun k => ?_) (Ev.now true)
   simp only [u3y.l0]
   rw [if_neg (by omega)]
 | cons x r ih =>
   intro i h
   obtain ⟨hx,hi,hr⟩:=rdd_l m i x r h
   have hw:=wrap_up i (by omega)
   refine Ev.step (fun k => ?_) (ih (i + 1) hr)
   simp only [u3y.l0]
   rw [if_pos (by omega),if_pos (by omega),if_pos (by omega),if_pos (by omega),hx,if_neg (by simp),hw]
theorem same_ls (m:List S111) (hm:m.length ≤ 9223372036854775806):Ev (fun k => u3y.f k m m) true:=by
 refine Ev.congr (fun k => ?_) (same_l0 m hm m 0 rfl)
 show u3y.f k m m = _
 unfold u3y.f
 rw [if_pos rfl]
 rfl
theorem same_m0 (m:List S79) (hm:m.length ≤ 9223372036854775806):∀ (r:List S79) (i:Nat),m.drop i = r → Ev (fun k => u3r.l0 k m m (m.length:Int) (i:Int)) true:=by
 intro r
 induction r with
 | nil =>
   intro i h
   have hi:m.length ≤ i:=List.drop_eq_nil_iff.1 h
   refine Ev.step (f:=fun _ => some true) (fun k => ?_) (Ev.now true)
   simp only [u3r.l0]
   rw [if_neg (by omega)]
 | cons x r ih =>
   intro i h
   obtain ⟨hx,hi,hr⟩:=rdd_m m i x r h
   have hw:=wrap_up i (by omega)
   refine Ev.step (fun k => ?_) (ih (i + 1) hr)
   simp only [u3r.l0]
   rw [if_pos (by omega),if_pos (by omega),if_pos (by omega),if_pos (by omega),hx,if_neg (by simp),hw]
theorem same_ms (m:List S79) (hm:m.length ≤ 9223372036854775806):Ev (fun k => u3r.f k m m) true:=by
 refine Ev.congr (fun k => ?_) (same_m0 m hm m 0 rfl)
 show u3r.f k m m = _
 unfold u3r.f
 rw [if_pos rfl]
 rfl
theorem same_rows:∀ (l:List Rw),(∀ x ∈ l,x.f0.length ≤ 9223372036854775806) → Ev (fun k => u1u.all k l l) true
 | [],_ => Ev.now true
 | x :: l,h => by
   refine Ev.bind (a:=true) (g:=fun k => u1u.same k x x) ?_ ?_
   · refine Ev.bind (same_ls x.f0 (h x (List.mem_cons_self ..))) ?_
     exact Ev.congr (fun k => by simp) (Ev.now true)
   · exact Ev.congr (fun k => by simp) (same_rows l (fun y hy => h y (List.mem_cons_of_mem _ hy)))
theorem same_rowsf (l:List Rw) (hl:l.length ≤ 1000) (h:∀ x ∈ l,x.f0.length ≤ 9223372036854775806):Ev (fun k => u1u.f k l l) true:=by
 refine Ev.congr (fun k => ?_) (same_rows l h)
 show u1u.f k l l = _
 unfold u1u.f
 rw [if_pos rfl,if_pos (by omega)]
theorem awake10b_ev:Ev (fun k => dryrotlaw10_awake.f k) true:=by
 unfold dryrotlaw10_awake.f
 refine Ev.bind (enc3_ev 7 (by omega)) ?_
 have e:(3 :: un.put8 7:List Int) = [3,0,0,0,0,0,0,0,7]:=by decide
 rw [e]
 have h:=eqb_ev [3,0,0,0,0,0,0,0,7] [3,0,0,0,0,0,0,0,7] (by simp)
 rw [decide_eq_true rfl] at h
 exact Ev.congr (fun k => by rw [if_pos rfl]) (Ev.bind h (Ev.now true))
theorem cut_mem {l:List Rw}:∀ x ∈ u1x.cutR l,x ∈ l:=by
 unfold u1x.cutR
 split
 · exact fun x hx => List.mem_of_mem_take hx
 · exact fun x hx => hx
theorem good_walk (a0:Int) (A1:Option Addr) (c1:Nat) (l1:List Rw) (A2:Option Addr) (c2:Nat) (l2:List Mt) (a3 a4 a5 x:Int) (w:World) (hG:strings_ToValidUTF8.Gd w) (hr1:Kd.C k59 w A1 l1.length l1) (hc1:l1.length ≤ c1) (hr2:Kd.C k79 w A2 l2.length l2) (hc2:l2.length ≤ c2) (hx:u2o x)
 (b:List Int) (o:Ou) (he:Ev (fun k => un.f k a0 (u1x.cutR l1) l2 a3 a4 a5) (b,0)) (hb0:0 < b.length) (hbl:b.length ≤ 1000000) (h256:∀ y ∈ b,u2o y) (hR:Read b o) (hs:u1d.SameH o a0 (u1x.cutR l1) l2 a3 a4 a5) :
 Calls Tryz.prog 4 #[.agg #[.int .i64 a0,.slice A1 l1.length c1,.slice A2 l2.length c2,.int .i64 a3,.int .i64 a4,.int .i64 a5],.int .u8 x] w fun e w' => e = .returned (.bool true) ∧ Below w.heap.size w w':=by
 obtain ⟨K1,h1⟩:=he
 obtain ⟨⟨K2,h2⟩,h3,⟨K4,h4⟩⟩:=hR
 obtain ⟨K3,h3⟩:=h3 x hx
 rw [List.dropLast_eq_take] at h4
 exact u1d.calls_good (K1 + K2 + K3 + K4) a0 A1 c1 l1 _ A2 c2 l2 a3 a4 a5 x b o w hr1 hc1 hr2 hc2 hG rfl (h1 _ (by omega)) hb0 hbl h256 hx (h2 _ (by omega)) (h3 _ (by omega)) (h4 _ (by omega)) hs
theorem back_walk (a0:Int) (A1:Option Addr) (c1:Nat) (l1:List Rw) (A2:Option Addr) (c2:Nat) (l2:List Mt) (a3 a4 a5 x:Int) (w:World) (hG:strings_ToValidUTF8.Gd w) (hr1:Kd.C k59 w A1 l1.length l1) (hc1:l1.length ≤ c1) (hr2:Kd.C k79 w A2 l2.length l2) (hc2:l2.length ≤ c2)
 (q1:l1.length ≤ 1048576 ∧ ∀ y ∈ l1,(y.f0.length ≤ 1048576 ∧ ∀ z ∈ y.f0,z.f0.size ≤ 1048576 ∧ z.f1.size ≤ 1048576) ∧ (Lit.int .i64 y.f1).wf = true ∧ (Lit.int .u64 y.f2).wf = true) (q2:l2.length ≤ 1048576 ∧ ∀ y ∈ l2,(Lit.int .i64 y.f0).wf = true ∧ y.f1.size ≤ 1048576 ∧ y.f2.size ≤ 1048576)
 (q3:(Lit.int .i64 a3).wf = true) (q4:(Lit.int .i64 a4).wf = true) (q5:(Lit.int .i64 a5).wf = true) (qx:(Lit.int .u8 x).wf = true) :
 Calls Tryz.prog 4 #[.agg #[.int .i64 a0,.slice A1 l1.length c1,.slice A2 l2.length c2,.int .i64 a3,.int .i64 a4,.int .i64 a5],.int .u8 x] w fun e w' => e = .returned (.bool true) ∧ Below w.heap.size w w':=by
 have hx:u2o x:=by
  have h:=Go.bounds_u8 qx
  unfold u2o
  omega
 have i64:∀ n:Int,(Lit.int .i64 n).wf = true → I64 n:=fun n hn => by
  have h:=Go.bounds_i64 hn
  unfold I64
  omega
 have u64:∀ n:Int,(Lit.int .u64 n).wf = true → U64 n:=fun n hn => by
  have h:=Go.bounds_u64 hn
  unfold U64
  omega
 cases hop:opB a0 (u1x.cutR l1) l2 a5 with
 | false =>
   obtain ⟨K1,h1⟩:=enc_bad a0 (u1x.cutR l1) l2 a3 a4 a5 hop
   have hr:=opref_ev a0 (u1x.cutR l1) l2 a3 a4 a5 (fun r hr y hy => ((q1.2 r (cut_mem r hr)).1.2 y hy)) ⟨q2.1,fun y hy => (q2.2 y hy).2⟩
   rw [hop] at hr
   obtain ⟨K2,h2⟩:=hr
   obtain ⟨K3,h3⟩:=awake10b_ev
   exact u1d.calls_bad (K1 + K2 + K3) a0 A1 c1 l1 _ A2 c2 l2 a3 a4 a5 x 1 w hr1 hc1 hr2 hc2 hG rfl (h1 _ (by omega)) (by decide) (h2 _ (by omega)) (h3 _ (by omega))
 | true =>
   by_cases k1:a0 = 1
   · subst k1
     have ho:=hop
     unfold opB at ho
     rw [if_pos rfl,Bool.and_eq_true,decide_eq_true_eq,List.all_eq_true] at ho
     have hw:∀ r ∈ u1x.cutR l1,RowWf r:=fun r hr => ⟨ho.2 r hr,i64 _ (q1.2 r (cut_mem r hr)).2.1,u64 _ (q1.2 r (cut_mem r hr)).2.2⟩
     have hl:=b1_len (l:=u1x.cutR l1) ho.2 ho.1.2
     refine good_walk 1 A1 c1 l1 A2 c2 l2 a3 a4 a5 x w hG hr1 hc1 hr2 hc2 hx _ _ (encg1 _ l2 a3 a4 a5 hop) (by unfold b1;simp) (by omega) (b1_range _) (read1 _ hw ho.1) ?_
     intro W A1 A2 B1 B2 c1 c2 d1 d2 g1 e1 g2 e2 g3 e3 g4 e4
     obtain ⟨K,hK⟩:=same_rowsf (u1x.cutR l1) (by omega) (fun y hy => by have h9:=(q1.2 y (cut_mem y hy)).1.1;omega)
     exact dryrotplain_SameOp.calls1 K (u1x.cutR l1) A1 A2 B1 B2 c1 0 c2 d1 l2.length d2 0 0 0 a3 a4 a5 W g1 e1 g3 e3 (hK K (Nat.le_refl _))
   · by_cases k2:a0 = 2
     · subst k2
       have ho:=hop
       unfold opB at ho
       rw [if_neg (by decide),if_pos rfl] at ho
       have hl:=b2_len ho a3 a4
       refine good_walk 2 A1 c1 l1 A2 c2 l2 a3 a4 a5 x w hG hr1 hc1 hr2 hc2 hx _ _ (encg2 _ l2 a3 a4 a5 hop) (by unfold b2;simp) (by omega) (b2_range _ _ _) (read2 l2 ho a3 a4 (i64 _ q3) (i64 _ q4)) ?_
       intro W A1 A2 B1 B2 c1 c2 d1 d2 g1 e1 g2 e2 g3 e3 g4 e4
       obtain ⟨K,hK⟩:=same_ms l2 (by have:=q2.1;omega)
       exact dryrotplain_SameOp.calls2 K l2 A1 A2 B1 B2 0 c1 c2 (u1x.cutR l1).length d1 d2 a3 a4 0 a5 W g2 e2 g4 e4 (hK K (Nat.le_refl _))
     · by_cases k3:a0 = 3
       · subst k3
         have ho:=hop
         unfold opB at ho
         rw [if_neg (by decide),if_neg (by decide),if_pos rfl,decide_eq_true_eq] at ho
         refine good_walk 3 A1 c1 l1 A2 c2 l2 a3 a4 a5 x w hG hr1 hc1 hr2 hc2 hx _ _ (encg3 _ l2 a3 a4 a5 hop) (by rw [b3_len];decide) (by rw [b3_len];decide) (b3_range _) (read3 a5 ho) ?_
         intro W A1 A2 B1 B2 c1 c2 d1 d2 g1 e1 g2 e2 g3 e3 g4 e4
         exact dryrotplain_SameOp.calls3 A1 A2 B1 B2 0 c1 0 c2 (u1x.cutR l1).length d1 l2.length d2 0 0 a5 a3 a4 W
       · unfold opB at hop
         rw [if_neg k1,if_neg k2,if_neg k3] at hop
         cases hop
end Go.Proofs.YtgnehcgaplnfkaaGreatDoor.Laws
