/- Texts of this seat, joined in the order in which they build. -/
import Derived.Test.YtgnehcgaplnfkaaGreatDoorBu1
import Derived.Test.YtgnehcgaplnfkaaGreatDoorBu2
import Derived.Test.YtgnehcgaplnfkaaGreatDoorBu6
import Derived.Test.YtgnehcgaplnfkaaGreatDoorGx40Bu
import Derived.Test.YtgnehcgaplnfkaaGreatDoorGx66Bu
import Derived.Test.YtgnehcgaplnfkaaGreatDoorBu7
import Derived.OpenShut
namespace Go.Proofs.YtgnehcgaplnfkaaGreatDoor.PAll
open Go.RowKit Go.Proofs.YtgnehcgaplnfkaaGreatDoorW.PrintWords Go.Proofs.YtgnehcgaplnfkaaGreatDoorW.PrintLast Go.Proofs.YtgnehcgaplnfkaaGreatDoorW.PrintMore
attribute [local go_sem] u3r u3o u3w u3x u3h u3g u3p u3q
set_option linter.unusedVariables false
set_option linter.unusedSimpArgs false
def dryrotlaw10_RecordOnce.f:Option Int:=none
set_option maxHeartbeats 4000000 in
set_option maxRecDepth 10000 in
theorem dryrotlaw10_RecordOnce.calls_bad (k:Nat) (A0:Option Addr) (c0:Nat) (l0:List Int) (o:ud.Ou) (e9:Int) (w:World) (hr0:Kd.C (Kd.int .u8) w A0 l0.length l0) (hc0:l0.length ≤ c0) (hl:l0.length ≤ 140737488355328) (h256:∀ y ∈ l0,0 ≤ y ∧ y < 256) (hG:strings_ToValidUTF8.Gd w)
 (hd:ud.dec k l0 = some (o,e9)) (hne:e9 ≠ 0) (he:uk.err k l0 = some e9) (ha:u3j.f k = some true) :
 Calls Tryz.prog 3 #[.slice A0 l0.length c0] w fun e w' => e = .returned (.bool true) ∧ Below w.heap.size w w':=by
 have HR:=Aside0.mk hr0
 have HC:=Aside0.mk hc0
 have HL:=Aside0.mk hl
 have H256:=Aside0.mk h256
 have HG:=Aside0.mk hG
 have HD:=Aside0.mk hd
 have HE:=Aside0.mk he
 have HA:=Aside0.mk ha
 have t1:(e9 != 0) = true:=by simp [hne]
 have t2:(e9 == 0) = false:=beq_eq_false_iff_ne.2 hne
 clear hr0 hc0 hl h256 hG hd he ha hne
 go_enter Tryz.func3,Tryz.ntmps3
 go_wp2_with (first
  | (go_at_call 6;(with_reducible refine (ud.callsD k A0 c0 l0 _ _ HR.out HC.out HL.out H256.out HG.out HD.out).mono ?_);rintro e W1 ⟨v1,v2,rfl,hR1,hR2,hB1⟩;obtain ⟨A1,c1,e1⟩:=Kd.S_slice hR1;subst e1;obtain ⟨A2,c2,e2⟩:=Kd.R_slice hR2;subst e2;have HB1:=Aside0.mk hB1;clear hB1 hR1 hR2)
  | (go_at_call 7;(with_reducible refine (uk.calls k A0 c0 l0 e9 _ (Kd.C_below HR.out (uj HB1.out _)) HC.out H256.out HE.out).mono ?_);rintro e W2 ⟨⟨v3,⟨x3,B1,n1,d1,B2,n2,d2,y3,z3,u3,rfl⟩,rfl⟩,hB2⟩;have hb2:=u1j (uj HB1.out _) (uj HB1.out _).size hB2;have HB2:=Aside0.mk hb2;clear hB2 hb2)
  | (go_at_call 8;(with_reducible refine (u3j.calls k true _ (HG.out.below (uj HB2.out _)) HA.out).mono ?_);rintro e W3 ⟨rfl,hB3⟩;have hb3:=u1j (uj HB2.out _) (uj HB2.out _).size hB3;have HB3:=Aside0.mk hb3;clear hB3 hb3))
 go_ret
 exact ⟨rfl,HB3.out⟩
set_option maxHeartbeats 4000000 in
set_option maxRecDepth 10000 in
theorem dryrotlaw10_RecordOnce.calls_good (k:Nat) (A0:Option Addr) (c0:Nat) (l0:List Int) (o:ud.Ou) (w:World) (hr0:Kd.C (Kd.int .u8) w A0 l0.length l0) (hc0:l0.length ≤ c0) (hl:l0.length ≤ 140737488355328) (h256:∀ y ∈ l0,0 ≤ y ∧ y < 256) (hG:strings_ToValidUTF8.Gd w)
 (hd:ud.dec k l0 = some (o,0)) (he:uw.f k o.kd o.rows o.ms o.fr o.to_ o.kp = some (l0,0)) (hq:u1c.f k l0 l0 = some true) (hc:u1u.f k o.kd o.rows o.ms o.fr o.to_ o.kp = some true) :
 Calls Tryz.prog 3 #[.slice A0 l0.length c0] w fun e w' => e = .returned (.bool true) ∧ Below w.heap.size w w':=by
 have HR:=Aside0.mk hr0
 have HC:=Aside0.mk hc0
 have HL:=Aside0.mk hl
 have H256:=Aside0.mk h256
 have HG:=Aside0.mk hG
 have HD:=Aside0.mk hd
 have HE:=Aside0.mk he
 have HQ:=Aside0.mk hq
 have HCN:=Aside0.mk hc
 clear hr0 hc0 hl h256 hG hd he hq hc
 obtain ⟨kd,rows,ms,fr,to_,kp⟩:=o
 simp only at HE HCN
 go_enter Tryz.func3,Tryz.ntmps3
 go_wp2_with (first
  | (go_at_call 6;(with_reducible refine (ud.callsD k A0 c0 l0 _ _ HR.out HC.out HL.out H256.out HG.out HD.out).mono ?_);rintro e W1 ⟨v1,v2,rfl,hR1,hR2,hB1⟩;simp only at hR1 hR2;obtain ⟨A1,c1,e1⟩:=Kd.S_slice hR1;subst e1;obtain ⟨A2,c2,e2⟩:=Kd.R_slice hR2;subst e2;have HR1:=Aside0.mk (Kd.S_reads' (Kd.S_alloc hR1 (.cells #[.int .i64 kd,.slice A1 rows.length c1,.slice A2 ms.length c2,.int .i64 fr,.int .i64 to_,.int .i64 kp] 26)));have HR2:=Aside0.mk (Kd.R_reads' (Kd.R_alloc hR2 (.cells #[.int .i64 kd,.slice A1 rows.length c1,.slice A2 ms.length c2,.int .i64 fr,.int .i64 to_,.int .i64 kp] 26)));have HB1:=Aside0.mk (uj hB1 (.cells #[.int .i64 kd,.slice A1 rows.length c1,.slice A2 ms.length c2,.int .i64 fr,.int .i64 to_,.int .i64 kp] 26));have HX:=Aside0.mk (u3c W1 (.cells #[.int .i64 kd,.slice A1 rows.length c1,.slice A2 ms.length c2,.int .i64 fr,.int .i64 to_,.int .i64 kp] 26));clear hB1 hR1 hR2)
  | (go_at_call 9;(with_reducible refine (uw.callsP k kd A1 c1 rows A2 c2 ms fr to_ kp l0 0 _ HR1.out.2.2 HR1.out.2.1 HR2.out.2.2 HR2.out.2.1 (HG.out.below HB1.out) HE.out).mono ?_);rintro e W2 ⟨v3,rfl,hR3,hB2⟩;obtain ⟨A3,c3,e3⟩:=Kd.R_slice hR3;subst e3;have HR3:=Aside0.mk (Kd.R_reads' hR3);have HX2:=Aside0.mk (u1k HX.out hB2);have HS1:=Aside0.mk (Kd.C_below HR1.out.2.2 hB2);have HS2:=Aside0.mk (Kd.C_below HR2.out.2.2 hB2);have HB2:=Aside0.mk (u1j HB1.out HB1.out.size hB2);clear hR3 hB2)
  | (go_at_call 10;(with_reducible refine (u1c.calls k A3 c3 l0 A0 c0 l0 true _ HR3.out.2.2 HR3.out.2.1 (Kd.C_below HR.out HB2.out) HC.out HQ.out).mono ?_);rintro e W3 ⟨rfl,hD3⟩;have hB3:=hD3.below;have hx3:=u1k HX2.out hB3;have q0:=ul hx3 0;have q1:=ul hx3 1;have q2:=ul hx3 2;have q3:=ul hx3 3;have q4:=ul hx3 4;have q5:=ul hx3 5;simp only [List.size_toArray,List.length_cons,List.length_nil,List.getElem?_toArray,List.getElem?_cons_zero,List.getElem?_cons_succ] at q0 q1 q2 q3 q4 q5;have HT1:=Aside0.mk (Kd.C_below HS1.out hB3);have HT2:=Aside0.mk (Kd.C_below HS2.out hB3);have HB3:=Aside0.mk (u1j HB2.out HB2.out.size hB3);clear hB3 hD3 hx3)
  | (go_at_call 11;(with_reducible refine (u1u.callsP k kd A1 c1 rows A2 c2 ms fr to_ kp true _ HT1.out HR1.out.2.1 HT2.out HR2.out.2.1 (HG.out.below HB3.out) HCN.out).mono ?_);rintro e W4 ⟨rfl,hB4⟩;have HB4:=Aside0.mk (u1j HB3.out HB3.out.size hB4);clear hB4))
 go_ret
 exact ⟨rfl,HB4.out⟩
end Go.Proofs.YtgnehcgaplnfkaaGreatDoor.PAll
namespace Go.Proofs.YtgnehcgaplnfkaaGreatDoor.Laws
open Go.RowKit Go.Proofs.YtgnehcgaplnfkaaGreatDoor.PAll Go.Proofs.YtgnehcgaplnfkaaGreatDoorW.PrintWords Go.Proofs.YtgnehcgaplnfkaaGreatDoorW.PrintLast
set_option linter.unusedVariables false
set_option linter.unusedSimpArgs false
abbrev Rw:=S59
abbrev Ou:=ud.Ou
def big:Nat:=140737488355328
theorem ev_map {α β:Type} {g:Nat → Option α} {a:α} (f:α → β) (h:Ev g a):Ev (fun k => (g k).map f) (f a):=by
 obtain ⟨K,hK⟩:=h
 exact ⟨K,fun k hk => by simp only [hK k hk,Option.map_some]⟩
theorem num1 (c:Int) (r:List Int) (hb:∀ y ∈ c :: r,u3e y):ue.num 1 ⟨c :: r,false⟩ = (c,⟨r,false⟩):=by
 rcases num_int 1 (c :: r) (by decide) hb with ⟨h1,h2⟩ | ⟨h0,h1,h2⟩
 · unfold ut.int at h1
   rw [if_neg (by simp)] at h1
   cases h1
 · rw [h2]
   simp [bv,bvS]
def rEnc (x:Rw):List Int:=u1d.enc x.f0 ++ (u2u.put (IntKind.u64.wrap x.f1) 8 ++ u2u.put x.f2 8)
def rowG (z:List S111 × List Int × Int) (bad:Bool):(List S111 × Int × Int) × SS :=
 ((z.1,wrap64 (ue.num 8 ⟨z.2.1,bad || z.2.2 != 0⟩).1,(ue.num 8 (ue.num 8 ⟨z.2.1,bad || z.2.2 != 0⟩).2).1),(ue.num 8 (ue.num 8 ⟨z.2.1,bad || z.2.2 != 0⟩).2).2)
theorem row_ev (b:List Int) (hl:b.length ≤ big) (hb:∀ y ∈ b,u3e y):Ev (fun k => u3m.rowM k ⟨b,false⟩) (rowG (decL b) false) :=
 ev_map (fun z => rowG z false) (decL_ev b hl hb).1
theorem rowG_bad (z:List S111 × List Int × Int) (h:z.2.2 ≠ 0):(rowG z false).2.bad = true:=by
 unfold rowG
 have e:(false || z.2.2 != 0) = true:=by simp [h]
 rw [e,num_bad,num_bad]
theorem row_is (b:List Int) (hb:∀ y ∈ b,u3e y):((rowG (decL b) false).2.bad = true ∧ ((decL b).2.2 ≠ 0 ∨ ((decL b).2.2 = 0 ∧ (ut.int 8 (decL b).2.1 = none ∨ ∃ y,ut.int 8 (decL b).2.1 = some y ∧ ut.int 8 y.2 = none)))) ∨
 ∃ (x:Rw) (u:Int) (q1 q2 q:List Int),decL b = (x.f0,q1,0) ∧ ut.int 8 q1 = some (x.f1,q2) ∧ ut.int 8 q2 = some (u,q) ∧ IntKind.u64.wrap u = x.f2 ∧ rowG (decL b) false = ((x.f0,x.f1,x.f2),⟨q,false⟩) ∧ b = rEnc x ++ q ∧ canB x.f0 = true ∧ ∀ y ∈ q,u3e y:=by
 obtain ⟨⟨l,q1,e⟩,hz⟩:∃ z,decL b = z:=⟨_,rfl⟩
 by_cases he:e = 0
 · subst he
   obtain ⟨i1,i2,i3⟩:=decL_inv hb hz
   rw [hz]
   unfold rowG
   simp only [bne_self_eq_false,Bool.or_false]
   rcases num_int 8 q1 (by decide) i3 with ⟨h1,h2⟩ | ⟨h0,h1,h2⟩
   · left
     obtain ⟨⟨x1,⟨y1,y2⟩⟩,hp⟩:∃ p,ue.num 8 ⟨q1,false⟩ = p:=⟨_,rfl⟩
     rw [hp] at h2
     simp only at h2
     subst h2
     rw [hp]
     simp only [num_bad]
     exact ⟨trivial,Or.inr ⟨trivial,Or.inl h1⟩⟩
   · have hb2:∀ y ∈ q1.drop 8,u3e y:=fun y hy => i3 y (List.mem_of_mem_drop hy)
     have hb1:∀ y ∈ q1.take 8,u3e y:=fun y hy => i3 y (List.mem_of_mem_take hy)
     have l1:(q1.take 8).length = 8:=by rw [List.length_take];omega
     have v1:=bv8_lt _ l1 hb1
     rw [h2]
     simp only
     rcases num_int 8 (q1.drop 8) (by decide) hb2 with ⟨h3,h4⟩ | ⟨h30,h3,h4⟩
     · left
       refine ⟨h4,Or.inr ⟨trivial,Or.inr ⟨_,h1,h3⟩⟩⟩
     · right
       have hb3:∀ y ∈ (q1.drop 8).take 8,u3e y:=fun y hy => hb2 y (List.mem_of_mem_take hy)
       have l3:((q1.drop 8).take 8).length = 8:=by rw [List.length_take];omega
       have v3:=bv8_lt _ l3 hb3
       rw [h4]
       refine ⟨⟨l,wrap64 (bv (q1.take 8)),bv ((q1.drop 8).take 8)⟩,_,q1,q1.drop 8,(q1.drop 8).drop 8,rfl,h1,h3,u64_w64 _ v3.1 v3.2,rfl,?_,i2,fun y hy => hb2 y (List.mem_of_mem_drop hy)⟩
       show b = (u1d.enc l ++ (u2u.put (IntKind.u64.wrap (wrap64 (bv (q1.take 8)))) 8 ++ u2u.put (bv ((q1.drop 8).take 8)) 8)) ++ (q1.drop 8).drop 8
       rw [u64_w64 _ v1.1 v1.2,put8_bv _ l1 hb1,put8_bv _ l3 hb3,List.append_assoc,List.append_assoc,List.take_append_drop,List.take_append_drop]
       exact i1
 · left
   rw [hz]
   exact ⟨rowG_bad (l,q1,e) he,Or.inl he⟩
theorem rowsM_bad (k n:Nat) (s:SS) (l:List Rw) (h:s.bad = true):ud.rowsM k n s l = some (l,s):=by
 cases n with
 | zero => rfl
 | succ n => rw [ud.rowsM_succ,if_pos h]
theorem rrows_succ (k n:Nat) (b:List Int) (l:List Rw):u1o.rowsM k (n + 1) b l = (uz.f k b).bind fun z => if z.2.2 ≠ 0 then some none else
 match ut.int 8 z.2.1 with
 | none => some none
 | some y => match ut.int 8 y.2 with
   | none => some none
   | some u => u1o.rowsM k n u.2 (l ++ [⟨z.1,y.1,IntKind.u64.wrap u.1⟩]):=rfl
theorem rows_is:∀ (n:Nat) (b:List Int) (l:List Rw),b.length ≤ big → (∀ y ∈ b,u3e y) → (Ev (fun k => u1o.rowsM k n b l) none ∧ ∃ z:List Rw × SS,Ev (fun k => ud.rowsM k n ⟨b,false⟩ l) z ∧ z.2.bad = true) ∨
 ∃ (l2:List Rw) (q:List Int),Ev (fun k => u1o.rowsM k n b l) (some (l ++ l2,q)) ∧ Ev (fun k => ud.rowsM k n ⟨b,false⟩ l) (l ++ l2,⟨q,false⟩) ∧ l2.length = n ∧ b = l2.flatMap rEnc ++ q ∧ (∀ y ∈ q,u3e y) ∧ ∀ x ∈ l2,canB x.f0 = true
 | 0,b,l,hl,hb => Or.inr ⟨[],b,by rw [List.append_nil];exact Ev.now _,by rw [List.append_nil];exact Ev.now _,rfl,rfl,hb,fun x hx => by cases hx⟩
 | n + 1,b,l,hl,hb => by
   have hr:=(decL_ev b hl hb).2
   have hp:=row_ev b hl hb
   have hps:∀ (z:List Rw × SS),Ev (fun k => ud.rowsM k n (rowG (decL b) false).2 (l ++ [⟨(rowG (decL b) false).1.1,(rowG (decL b) false).1.2.1,(rowG (decL b) false).1.2.2⟩])) z → Ev (fun k => ud.rowsM k (n + 1) ⟨b,false⟩ l) z:=fun z hz =>
    Ev.congr (fun k => by rw [ud.rowsM_succ,if_neg (by intro h9;cases h9)]) (Ev.bind (f:=fun k y => ud.rowsM k n y.2 (l ++ [⟨y.1.1,y.1.2.1,y.1.2.2⟩])) hp hz)
   rcases row_is b hb with ⟨h1,h2⟩ | ⟨x,u,q1,q2,q,d1,d2,d3,d4,d5,d6,d7,d8⟩
   · left
     refine ⟨?_,_,hps _ (Ev.congr (fun k => rowsM_bad k n _ _ h1) (Ev.now _)),h1⟩
     refine Ev.congr (fun k => rrows_succ k n b l) (Ev.bind hr ?_)
     rcases h2 with h3 | ⟨h30,h3 | ⟨y,h3,h4⟩⟩
     · simp only [if_pos h3]
       exact Ev.now _
     · exact Ev.congr (fun k => by rw [if_neg (fun h9 => h9 h30)];simp only [h3]) (Ev.now _)
     · exact Ev.congr (fun k => by rw [if_neg (fun h9 => h9 h30)];simp only [h3,h4]) (Ev.now _)
   · have hql:q.length ≤ big:=by
      have:=congrArg List.length d6
      rw [List.length_append] at this
      omega
     rw [d5] at hps
     have href:∀ (z:Option (List Rw × List Int)),Ev (fun k => u1o.rowsM k n q (l ++ [x])) z → Ev (fun k => u1o.rowsM k (n + 1) b l) z:=fun z hz => by
      refine Ev.congr (fun k => rrows_succ k n b l) (Ev.bind hr ?_)
      rw [d1]
      exact Ev.congr (fun k => by rw [if_neg (fun h9 => h9 rfl)];simp only [d2,d3,d4]) hz
     rcases rows_is n q (l ++ [x]) hql d8 with ⟨k1,z,k2,k3⟩ | ⟨l2,q9,k1,k2,k3,k4,k5,k6⟩
     · exact Or.inl ⟨href _ k1,z,hps z k2,k3⟩
     · refine Or.inr ⟨x :: l2,q9,?_,?_,by simp [k3],by rw [d6,k4];simp,k5,fun y hy => ?_⟩
       · have:=href _ k1
         simpa using this
       · have:=hps _ k2
         simpa using this
       · rcases List.mem_cons.1 hy with rfl | h9
         · exact d7
         · exact k6 y h9
theorem canB_sizes {l:List S111} (h:canB l = true):∀ y ∈ l,y.f0.size ≤ maxLen ∧ y.f1.size ≤ maxLen:=by
 unfold canB at h
 rw [Bool.and_eq_true] at h
 have h2:=okFrom_mem l [] h.2
 intro y hy
 have h3:=h2 y hy
 have h4:=nameB_size h3.1
 have h5:=valueB_size h3.2
 have:40 ≤ maxLen:=by decide
 omega
theorem rows_ev:∀ (l:List Rw),∃ K,∀ k,K ≤ k → ∀ x ∈ l,u1l.f k x.f0 = some (canB x.f0)
 | [] => ⟨0,fun _ _ x hx => by cases hx⟩
 | x :: r => by
   obtain ⟨K,hK⟩:=rows_ev r
   obtain ⟨M,hM⟩:=can_ev x.f0
   refine ⟨K + M,fun k hk y hy => ?_⟩
   rcases List.mem_cons.1 hy with rfl | h9
   · exact hM k (by omega)
   · exact hK k (by omega) y h9
theorem can_two (k:Nat) (l:List Rw) (m:List Mt) (x y z:Int):u1u.f k 2 l m x y z = some (u1x.CanB m):=by
 unfold u1u.f
 rw [if_neg (show ¬ (2:Int) = 1 by decide),if_pos rfl]
theorem can_three (k:Nat) (l:List Rw) (m:List Mt) (x y z:Int):u1u.f k 3 l m x y z = some (decide (0 ≤ z ∧ z ≤ 4611686018427387904)):=by
 unfold u1u.f
 rw [if_neg (show ¬ (3:Int) = 1 by decide),if_neg (show ¬ (3:Int) = 2 by decide)]
 simp
theorem can_no (k:Nat) (c:Int) (l:List Rw) (m:List Mt) (x y z:Int) (h1:¬ c = 1) (h2:¬ c = 2) (h3:¬ c = 3):u1u.f k c l m x y z = some false:=by
 unfold u1u.f
 rw [if_neg h1,if_neg h2]
 simp [h3]
theorem can1_ev (l:List Rw) (ms:List Mt) (x y z:Int) (h:∀ r ∈ l,canB r.f0 = true):Ev (fun k => u1u.f k 1 l ms x y z) (decide (0 < l.length ∧ l.length ≤ 200)):=by
 obtain ⟨K,hK⟩:=rows_ev l
 refine ⟨K,fun k hk => ?_⟩
 unfold u1u.f
 simp only [if_true]
 by_cases h1:0 < l.length ∧ l.length ≤ 200
 · have h2:l.all (fun x => (u1l.f k x.f0).isSome) = true:=List.all_eq_true.2 (fun y hy => by rw [hK k hk y hy];rfl)
   have h3:l.all (u1u.cn k) = true:=List.all_eq_true.2 (fun y hy => by
    unfold u1u.cn
    rw [hK k hk y hy,h y hy]
    rfl)
   rw [if_pos h1,if_pos h2,h3,decide_eq_true h1]
 · rw [if_neg h1,decide_eq_false h1]
theorem rcan1_l0 (l:List Rw) (hl:l.length ≤ 200) (hc:∀ r ∈ l,canB r.f0 = true):∀ (r:List Rw) (i:Nat),l.drop i = r → i ≤ l.length → Ev (fun k => u1g.l0 k l (l.length:Int) (i:Int)) true
 | [],i,h,hi => by
   have:l.length ≤ i:=List.drop_eq_nil_iff.1 h
   refine Ev.step (f:=fun _ => some true) (fun k => ?_) (Ev.now _)
   simp only [u1g.l0]
   rw [if_neg (by omega)]
 | x :: r,i,h,hi => by
   have hlt:i < l.length:=by
    rcases Nat.lt_or_ge i l.length with h9 | h9
    · exact h9
    · rw [List.drop_eq_nil_of_le h9] at h
      cases h
   rw [List.drop_eq_getElem_cons hlt] at h
   obtain ⟨h1,h2⟩:=List.cons.inj h
   have hx:rd_T59 l (i:Int) = x:=by simp [rd_T59,hlt,h1]
   have hm:x ∈ l:=by rw [← h1];exact List.getElem_mem hlt
   have ih:=rcan1_l0 l hl hc r (i + 1) h2 (by omega)
   refine Ev.step (f:=fun k => (uv.f k x.f0).bind fun t => if t = true then u1g.l0 k l (l.length:Int) ((i + 1:Nat):Int) else some false) (fun k => ?_) ?_
   · simp only [u1g.l0]
     rw [if_pos (by omega),if_pos (by omega),if_pos (by omega),hx,show wrap64 ((i:Int) + 1) = ((i + 1:Nat):Int) by unfold wrap64;omega]
   · have h7:=rcan_ev x.f0 (canB_sizes (hc x hm))
     rw [hc x hm] at h7
     exact Ev.bind h7 (Ev.congr (fun k => by rw [if_pos rfl]) ih)
theorem rcan1_ev (l:List Rw) (ms:List Mt) (x y z:Int) (h:∀ r ∈ l,canB r.f0 = true):Ev (fun k => u1g.f k 1 l ms x y z) (decide (0 < l.length ∧ l.length ≤ 200)):=by
 by_cases h0:l.length = 0
 · rw [decide_eq_false (by omega)]
   refine Ev.congr (f:=fun k => u1g.j0 k true 1 l ms x y z) (fun k => by unfold u1g.f;rw [if_pos rfl,if_pos (by omega)]) ?_
   exact Ev.step (f:=fun _ => some false) (fun k => by simp [u1g.j0]) (Ev.now _)
 · refine Ev.congr (f:=fun k => u1g.j0 k (decide ((l.length:Int) > 200)) 1 l ms x y z) (fun k => by unfold u1g.f;rw [if_pos rfl,if_neg (by omega)]) ?_
   by_cases h2:l.length ≤ 200
   · rw [decide_eq_true (show 0 < l.length ∧ l.length ≤ 200 by omega)]
     refine Ev.step (f:=fun k => u1g.l0 k l (l.length:Int) 0) (fun k => ?_) (rcan1_l0 l h2 h l 0 rfl (Nat.zero_le _))
     simp only [u1g.j0]
     rw [if_neg (by simp;omega)]
   · rw [decide_eq_false (show ¬ (0 < l.length ∧ l.length ≤ 200) from fun h9 => h2 h9.2)]
     refine Ev.step (f:=fun _ => some false) (fun k => ?_) (Ev.now _)
     simp only [u1g.j0]
     rw [if_pos (by simp;omega)]
theorem rowsE_ev:∀ (l:List Rw),(∀ r ∈ l,canB r.f0 = true) → Ev (fun k => uw.rowsE k l) (l.flatMap rEnc)
 | [],_ => Ev.now _
 | x :: r,hc => by
   have hlab:=encode_ev x.f0
   rw [hc x (List.mem_cons_self ..),if_pos rfl] at hlab
   have ih:=rowsE_ev r (fun y hy => hc y (List.mem_cons_of_mem _ hy))
   have h:=Ev.bind (f:=fun k e => (uw.rowsE k r).map fun t => e.1 ++ (uw.put8 x.f1 ++ (u2u.put x.f2 8 ++ t))) hlab (ev_map _ ih)
   have e:(x :: r).flatMap rEnc = u1d.enc x.f0 ++ (uw.put8 x.f1 ++ (u2u.put x.f2 8 ++ r.flatMap rEnc)):=by simp [rEnc,uw.put8]
   rw [e]
   exact h
theorem lim_is {b:List Int} (h:b.length ≤ big):uw.lim b = some (b,0):=if_pos h
theorem enc1_ev (l:List Rw) (h:∀ r ∈ l,canB r.f0 = true) (h0:0 < l.length ∧ l.length ≤ 200) (hb:(1 :: (u2u.put (IntKind.u64.wrap (l.length:Int)) 2 ++ l.flatMap rEnc)).length ≤ big):Ev (fun k => uw.f k 1 l [] 0 0 0) (1 :: (u2u.put (IntKind.u64.wrap (l.length:Int)) 2 ++ l.flatMap rEnc),0):=by
 have hc:=can1_ev l [] 0 0 0 h
 rw [decide_eq_true h0] at hc
 refine Ev.bind hc (Ev.congr (fun k => by rw [if_pos rfl,if_pos rfl]) (Ev.bind (rowsE_ev l h) ?_))
 simp only [lim_is hb]
 exact Ev.now _
theorem enc2_ev (m:List Mt) (x y:Int) (hc:u1x.CanB m = true) (hb:(2 :: (mAll m ++ (uw.put8 x ++ uw.put8 y))).length ≤ big) (hm:(mAll m).length < big):Ev (fun k => uw.f k 2 [] m x y 0) (2 :: (mAll m ++ (uw.put8 x ++ uw.put8 y)),0):=by
 refine Ev.bind (a:=true) ⟨0,fun k _ => by rw [← hc];exact can_two k _ _ _ _ _⟩ (Ev.congr (fun k => by rw [if_pos rfl,if_neg (show ¬ (2:Int) = 1 by decide),if_pos rfl]) (Ev.bind (menc_ev m hm hc) ?_))
 simp only [lim_is hb]
 exact Ev.now _
theorem enc3_ev (x:Int) (hx:0 ≤ x ∧ x ≤ 4611686018427387904):Ev (fun k => uw.f k 3 [] [] 0 0 x) (3 :: uw.put8 x,0):=by
 refine Ev.bind (a:=true) ⟨0,fun k _ => by rw [← decide_eq_true hx];exact can_three k _ _ _ _ _⟩ (Ev.congr (fun k => by rw [if_pos rfl,if_neg (show ¬ (3:Int) = 1 by decide),if_neg (show ¬ (3:Int) = 2 by decide),if_pos rfl,lim_is (by unfold big;simp [uw.put8,u2u.put8])]) (Ev.now _))
theorem ev_dec (k0:Int) (b:List Int) (s:SS) (h1:ue.num 1 ⟨b,false⟩ = (k0,s)) (z:Ou × SS) (r:Ou × Int) (h2:Ev (fun k => ud.mid k (wrap64 k0) s) z) (h3:Ev (fun k => ud.out k z) r):Ev (fun k => ud.dec k b) r :=
 Ev.congr (fun k => by unfold ud.dec;rw [h1]) (Ev.bind h2 h3)
theorem out_bad (z:Ou × SS) (h:z.2.bad = true):Ev (fun k => ud.out k z) (ud.zero,5):=Ev.congr (fun k => by unfold ud.out;rw [if_pos h]) (Ev.now _)
theorem out_left (o:Ou) (q:List Int) (h:q ≠ []):Ev (fun k => ud.out k (o,⟨q,false⟩)) (ud.zero,5):=Ev.congr (fun k => by unfold ud.out;rw [if_neg (by intro h9;cases h9),if_pos h]) (Ev.now _)
theorem out_can (o:Ou) (c:Bool) (h:Ev (fun k => ud.canO k o) c):Ev (fun k => ud.out k (o,⟨[],false⟩)) (if c = true then (o,0) else (ud.zero,5)):=by
 refine Ev.congr (fun k => by unfold ud.out;rw [if_neg (by intro h9;cases h9),if_neg (by intro h9;exact h9 rfl)]) (Ev.bind h ?_)
 cases c with
 | true => exact Ev.congr (fun k => by rw [if_pos rfl,if_pos rfl]) (Ev.now _)
 | false => exact Ev.congr (fun k => by rw [if_neg (by intro h9;cases h9),if_neg (by intro h9;cases h9)]) (Ev.now _)
theorem fin_left (a:Int) (l:List Rw) (m:List Mt) (x y z:Int) (q:List Int) (h:q ≠ []):Ev (fun k => uk.fin k a l m x y z q) 5:=Ev.congr (fun k => by unfold uk.fin;rw [if_pos h]) (Ev.now _)
theorem fin_can (a:Int) (l:List Rw) (m:List Mt) (x y z:Int) (c:Bool) (h:Ev (fun k => u1g.f k a l m x y z) c):Ev (fun k => uk.fin k a l m x y z []) (if c = true then 0 else 5):=by
 refine Ev.congr (fun k => by unfold uk.fin;rw [if_neg (by intro h9;exact h9 rfl)]) (Ev.bind h ?_)
 exact Ev.now _
def Told (b:List Int):Prop:=(∃ o,Ev (fun k => ud.dec k b) (o,5) ∧ Ev (fun k => uk.err k b) 5) ∨
 ∃ o:Ou,Ev (fun k => ud.dec k b) (o,0) ∧ Ev (fun k => uw.f k o.kd o.rows o.ms o.fr o.to_ o.kp) (b,0) ∧ Ev (fun k => u1u.f k o.kd o.rows o.ms o.fr o.to_ o.kp) true
theorem told (b:List Int) (hl:b.length < big) (hb:∀ y ∈ b,u3e y):Told b:=by
 cases b with
 | nil =>
   left
   refine ⟨ud.zero,ev_dec 0 [] ⟨[],true⟩ rfl (⟨0,[],[],0,0,0⟩,⟨[],true⟩) _ ?_ (out_bad _ rfl),Ev.now _⟩
   exact Ev.congr (fun k => by rw [show wrap64 0 = 0 by unfold wrap64;omega];rfl) (Ev.now _)
 | cons c r =>
   have hc:=hb c (List.mem_cons_self ..)
   have hr:∀ y ∈ r,u3e y:=fun y hy => hb y (List.mem_cons_of_mem _ hy)
   have hrl:r.length ≤ big:=by
    rw [List.length_cons] at hl
    omega
   have hn:=num1 c r hb
   unfold u3e at hc
   have hw:wrap64 c = c:=by unfold wrap64;omega
   have hm:∀ k,ud.mid k (wrap64 c) ⟨r,false⟩ = ud.mid k c ⟨r,false⟩:=fun k => by rw [hw]
   by_cases h1:c = 1
   · subst h1
     rcases num_int 2 r (by decide) hr with ⟨i1,i2⟩ | ⟨i0,i1,i2⟩
     · left
       obtain ⟨⟨x1,⟨y1,y2⟩⟩,hp⟩:∃ p,ue.num 2 ⟨r,false⟩ = p:=⟨_,rfl⟩
       rw [hp] at i2
       simp only at i2
       subst i2
       refine ⟨ud.zero,ev_dec 1 _ _ hn (⟨1,[],[],0,0,0⟩,⟨y1,true⟩) _ (Ev.congr (fun k => ?_) (Ev.now _)) (out_bad _ rfl),Ev.congr (fun k => ?_) (Ev.now _)⟩
       · rw [hm]
         unfold ud.mid
         rw [if_pos rfl,hp,rowsM_bad _ _ _ _ rfl]
         rfl
       · rw [uk.err_cons,if_pos rfl]
         unfold u1o.top
         rw [i1]
         rfl
     · have hb2:∀ y ∈ r.drop 2,u3e y:=fun y hy => hr y (List.mem_of_mem_drop hy)
       have hb1:∀ y ∈ r.take 2,u3e y:=fun y hy => hr y (List.mem_of_mem_take hy)
       have l1:(r.take 2).length = 2:=by rw [List.length_take];omega
       have v1:=(val_is (r.take 2) (by omega) hb1).2.2
       rw [l1] at v1
       have v2:bv (r.take 2) < 65536:=by have:(256:Int) ^ 2 = 65536:=by decide
                                         omega
       have hwn:wrap64 (bv (r.take 2)) = bv (r.take 2):=by unfold wrap64;omega
       have htop:∀ k,u1o.top k r = u1o.rowsM k (bv (r.take 2)).toNat (r.drop 2) []:=fun k => by
        unfold u1o.top
        rw [i1]
        simp only [hwn]
       have hmid:∀ k,ud.mid k (wrap64 1) ⟨r,false⟩ = (ud.rowsM k (bv (r.take 2)).toNat ⟨r.drop 2,false⟩ []).map fun z => ((⟨1,z.1,[],0,0,0⟩:Ou),z.2):=fun k => by
        rw [hm]
        unfold ud.mid
        rw [if_pos rfl,i2]
       rcases rows_is (bv (r.take 2)).toNat (r.drop 2) [] (by rw [List.length_drop];omega) hb2 with ⟨j1,z,j2,j3⟩ | ⟨l2,q,j1,j2,j3,j4,j5,j6⟩
       · left
         refine ⟨ud.zero,ev_dec 1 _ _ hn _ _ (Ev.congr hmid (ev_map (fun z:List Rw × SS => ((⟨1,z.1,[],0,0,0⟩:Ou),z.2)) j2)) (out_bad _ j3),?_⟩
         refine Ev.congr (fun k => by rw [uk.err_cons,if_pos rfl,htop k]) (Ev.bind j1 ?_)
         exact Ev.now _
       · simp only [List.nil_append] at j1 j2
         have hmv:=Ev.congr hmid (ev_map (fun z:List Rw × SS => ((⟨1,z.1,[],0,0,0⟩:Ou),z.2)) j2)
         have herr:∀ e,Ev (fun k => uk.fin k 1 l2 [] 0 0 0 q) e → Ev (fun k => uk.err k (1 :: r)) e:=fun e he =>
          Ev.congr (fun k => by rw [uk.err_cons,if_pos rfl,htop k]) (Ev.bind j1 he)
         by_cases hq:q = []
         · subst hq
           have hcp:Ev (fun k => ud.canO k ⟨1,l2,[],0,0,0⟩) _:=can1_ev l2 [] 0 0 0 j6
           have hcr:=fin_can 1 l2 [] 0 0 0 _ (rcan1_ev l2 [] 0 0 0 j6)
           by_cases h200:0 < l2.length ∧ l2.length ≤ 200
           · right
             have hx:=ev_dec 1 _ _ hn _ _ hmv (out_can _ _ hcp)
             rw [decide_eq_true h200,if_pos rfl] at hx
             rw [decide_eq_true h200] at hcp
             have hr2:r = u2u.put (IntKind.u64.wrap (l2.length:Int)) 2 ++ l2.flatMap rEnc:=by
              have e1:(l2.length:Int) = bv (r.take 2):=by omega
              rw [e1,u64_of _ v1.1 (by omega),put2_bv _ l1 hb1]
              conv => lhs;rw [← List.take_append_drop 2 r,j4]
              simp
             have he:=enc1_ev l2 j6 h200 (by
              have:=congrArg List.length hr2
              unfold big at *
              simp only [List.length_append,List.length_cons,List.length_nil] at *
              omega)
             rw [← hr2] at he
             exact ⟨_,hx,he,hcp⟩
           · left
             have hx:=ev_dec 1 _ _ hn _ _ hmv (out_can _ _ hcp)
             rw [decide_eq_false h200,if_neg (by intro h9;cases h9)] at hx
             rw [decide_eq_false h200,if_neg (by intro h9;cases h9)] at hcr
             exact ⟨_,hx,herr 5 hcr⟩
         · left
           exact ⟨_,ev_dec 1 _ _ hn _ _ hmv (out_left _ _ hq),herr 5 (fin_left _ _ _ _ _ _ _ hq)⟩
   · by_cases h2:c = 2
     · subst h2
       obtain ⟨⟨m,q,e⟩,hz⟩:∃ z,u1i.dec r = z:=⟨_,rfl⟩
       have hrd:=mdec_ev r hrl hr
       rw [hz] at hrd
       have hmid:∀ k,ud.mid k (wrap64 2) ⟨r,false⟩ = some (⟨2,[],m,wrap64 (ue.num 8 ⟨q,e != 0⟩).1,wrap64 (ue.num 8 (ue.num 8 ⟨q,e != 0⟩).2).1,0⟩,(ue.num 8 (ue.num 8 ⟨q,e != 0⟩).2).2):=fun k => by
        rw [hm]
        unfold ud.mid
        rw [if_neg (by decide),if_pos rfl]
        simp only [hz,Bool.false_or]
       have herr:∀ x,Ev (fun k => if e ≠ 0 then some 5 else match ut.int 8 q with
        | none => some 5
        | some u => match ut.int 8 u.2 with
          | none => some 5
          | some v => uk.fin k 2 [] m u.1 v.1 0 v.2) x → Ev (fun k => uk.err k (2 :: r)) x:=fun x hx =>
        Ev.congr (fun k => by rw [uk.err_cons,if_neg (by decide),if_pos rfl]) (Ev.bind hrd hx)
       by_cases he:e = 0
       · subst he
         obtain ⟨i1,i2,i3⟩:=mdec_inv hr hz
         simp only [bne_self_eq_false] at hmid
         rcases num_int 8 q (by decide) i3 with ⟨a1,a2⟩ | ⟨a0,a1,a2⟩
         · left
           obtain ⟨⟨x1,⟨y1,y2⟩⟩,hp⟩:∃ p,ue.num 8 ⟨q,false⟩ = p:=⟨_,rfl⟩
           rw [hp] at a2 hmid
           simp only at a2
           subst a2
           simp only [num_bad] at hmid
           exact ⟨_,ev_dec 2 _ _ hn _ _ (Ev.congr hmid (Ev.now _)) (out_bad _ rfl),herr 5 (Ev.congr (fun k => by rw [if_neg (fun h9 => h9 rfl)];simp only [a1]) (Ev.now _))⟩
         · have hb2:∀ y ∈ q.drop 8,u3e y:=fun y hy => i3 y (List.mem_of_mem_drop hy)
           have hb1:∀ y ∈ q.take 8,u3e y:=fun y hy => i3 y (List.mem_of_mem_take hy)
           have l1:(q.take 8).length = 8:=by rw [List.length_take];omega
           have v1:=bv8_lt _ l1 hb1
           simp only [a2] at hmid
           rcases num_int 8 (q.drop 8) (by decide) hb2 with ⟨c1,c2⟩ | ⟨c0,c1,c2⟩
           · left
             exact ⟨_,ev_dec 2 _ _ hn _ _ (Ev.congr hmid (Ev.now _)) (out_bad _ c2),herr 5 (Ev.congr (fun k => by rw [if_neg (fun h9 => h9 rfl)];simp only [a1,c1]) (Ev.now _))⟩
           · have hb3:∀ y ∈ (q.drop 8).take 8,u3e y:=fun y hy => hb2 y (List.mem_of_mem_take hy)
             have l3:((q.drop 8).take 8).length = 8:=by rw [List.length_take];omega
             have v3:=bv8_lt _ l3 hb3
             simp only [c2] at hmid
             by_cases hq:(q.drop 8).drop 8 = []
             · right
               rw [hq] at hmid
               have hcp:Ev (fun k => ud.canO k ⟨2,[],m,wrap64 (bv (q.take 8)),wrap64 (bv ((q.drop 8).take 8)),0⟩) true:=⟨0,fun k _ => by rw [← i2];exact can_two k _ _ _ _ _⟩
               have hx:=ev_dec 2 _ _ hn _ _ (Ev.congr hmid (Ev.now _)) (out_can _ _ hcp)
               rw [if_pos rfl] at hx
               have hr2:r = mAll m ++ (uw.put8 (wrap64 (bv (q.take 8))) ++ uw.put8 (wrap64 (bv ((q.drop 8).take 8)))):=by
                unfold uw.put8
                rw [u64_w64 _ v1.1 v1.2,u64_w64 _ v3.1 v3.2,put8_bv _ l1 hb1,put8_bv _ l3 hb3]
                have h5:q.take 8 ++ (q.drop 8).take 8 = q:=by
                 conv => rhs;rw [← List.take_append_drop 8 q,← List.take_append_drop 8 (q.drop 8),hq]
                 simp
                rw [h5]
                exact i1
               have hlr:=congrArg List.length hr2
               simp only [List.length_append] at hlr
               have he2:=enc2_ev m (wrap64 (bv (q.take 8))) (wrap64 (bv ((q.drop 8).take 8))) i2 (by
                simp only [List.length_append,List.length_cons,List.length_nil] at *
                omega) (by
                simp only [List.length_cons] at hl
                omega)
               rw [← hr2] at he2
               exact ⟨_,hx,he2,hcp⟩
             · left
               exact ⟨_,ev_dec 2 _ _ hn _ _ (Ev.congr hmid (Ev.now _)) (out_left _ _ hq),herr 5 (Ev.congr (fun k => by rw [if_neg (fun h9 => h9 rfl)];simp only [a1,c1];rfl) (fin_left _ _ _ _ _ _ _ hq))⟩
       · left
         have e1:(e != 0) = true:=by simp [he]
         rw [e1] at hmid
         simp only [num_bad] at hmid
         exact ⟨_,ev_dec 2 _ _ hn _ _ (Ev.congr hmid (Ev.now _)) (out_bad _ rfl),herr 5 (Ev.congr (fun k => by rw [if_pos he]) (Ev.now _))⟩
     · by_cases h3:c = 3
       · subst h3
         have hmid:∀ k,ud.mid k (wrap64 3) ⟨r,false⟩ = some (⟨3,[],[],0,0,wrap64 (ue.num 8 ⟨r,false⟩).1⟩,(ue.num 8 ⟨r,false⟩).2):=fun k => by
          rw [hm]
          unfold ud.mid
          rw [if_neg (by decide),if_neg (by decide),if_pos rfl]
         have herr:∀ k,uk.err k (3 :: r) = match ut.int 8 r with
          | none => some 5
          | some u => uk.fin k 3 [] [] 0 0 u.1 u.2:=fun k => by
          rw [uk.err_cons,if_neg (by decide),if_neg (by decide),if_pos rfl]
          rfl
         rcases num_int 8 r (by decide) hr with ⟨a1,a2⟩ | ⟨a0,a1,a2⟩
         · left
           exact ⟨_,ev_dec 3 _ _ hn _ _ (Ev.congr hmid (Ev.now _)) (out_bad _ a2),Ev.congr (fun k => by rw [herr k];simp only [a1]) (Ev.now _)⟩
         · have hb1:∀ y ∈ r.take 8,u3e y:=fun y hy => hr y (List.mem_of_mem_take hy)
           have l1:(r.take 8).length = 8:=by rw [List.length_take];omega
           have v1:=bv8_lt _ l1 hb1
           simp only [a2] at hmid
           by_cases hq:r.drop 8 = []
           · rw [hq] at hmid
             have hcp:Ev (fun k => ud.canO k ⟨3,[],[],0,0,wrap64 (bv (r.take 8))⟩) (decide (0 ≤ wrap64 (bv (r.take 8)) ∧ wrap64 (bv (r.take 8)) ≤ 4611686018427387904)):=⟨0,fun k _ => can_three k _ _ _ _ _⟩
             by_cases hk:0 ≤ wrap64 (bv (r.take 8)) ∧ wrap64 (bv (r.take 8)) ≤ 4611686018427387904
             · right
               rw [decide_eq_true hk] at hcp
               have hx:=ev_dec 3 _ _ hn _ _ (Ev.congr hmid (Ev.now _)) (out_can _ _ hcp)
               rw [if_pos rfl] at hx
               have he:=enc3_ev _ hk
               have hr2:uw.put8 (wrap64 (bv (r.take 8))) = r:=by
                unfold uw.put8
                rw [u64_w64 _ v1.1 v1.2,put8_bv _ l1 hb1]
                conv => rhs;rw [← List.take_append_drop 8 r,hq]
                simp
               rw [hr2] at he
               exact ⟨_,hx,he,hcp⟩
             · left
               rw [decide_eq_false hk] at hcp
               have hx:=ev_dec 3 _ _ hn _ _ (Ev.congr hmid (Ev.now _)) (out_can _ _ hcp)
               rw [if_neg (by intro h9;cases h9)] at hx
               refine ⟨_,hx,Ev.congr (fun k => by rw [herr k];simp only [a1,hq];rfl) (fin_can 3 [] [] 0 0 _ false ⟨0,fun k _ => ?_⟩)⟩
               show u1g.f k 3 [] [] 0 0 (wrap64 (bv (r.take 8))) = some false
               unfold u1g.f
               simp only
               rw [if_neg (show ¬ (3:Int) = 1 by decide),if_neg (show ¬ (3:Int) = 2 by decide),if_pos trivial]
               by_cases h0:wrap64 (bv (r.take 8)) ≥ 0
               · rw [if_pos h0,decide_eq_false (by omega)]
               · rw [if_neg h0]
           · left
             exact ⟨_,ev_dec 3 _ _ hn _ _ (Ev.congr hmid (Ev.now _)) (out_left _ _ hq),Ev.congr (fun k => by rw [herr k];simp only [a1];rfl) (fin_left _ _ _ _ _ _ _ hq)⟩
       · left
         have hmid:∀ k,ud.mid k (wrap64 c) ⟨r,false⟩ = some (⟨c,[],[],0,0,0⟩,⟨r,false⟩):=fun k => by
          rw [hm]
          unfold ud.mid
          rw [if_neg h1,if_neg h2,if_neg h3]
         have herr:Ev (fun k => uk.err k (c :: r)) 5:=Ev.congr (fun k => by rw [uk.err_cons,if_neg h1,if_neg h2,if_neg h3]) (Ev.now _)
         by_cases hq:r = []
         · subst hq
           have hcp:Ev (fun k => ud.canO k ⟨c,[],[],0,0,0⟩) false:=⟨0,fun k _ => can_no k c _ _ _ _ _ h1 h2 h3⟩
           have hx:=ev_dec c _ _ hn _ _ (Ev.congr hmid (Ev.now _)) (out_can _ _ hcp)
           rw [if_neg (by intro h9;cases h9)] at hx
           exact ⟨_,hx,herr⟩
         · exact ⟨_,ev_dec c _ _ hn _ _ (Ev.congr hmid (Ev.now _)) (out_left _ _ hq),herr⟩
theorem awake10_ev:Ev (fun k => u3j.f k) true:=by
 unfold u3j.f
 refine Ev.bind (enc3_ev 7 (by omega)) ?_
 have e:(3 :: uw.put8 7:List Int) = [3,0,0,0,0,0,0,0,7]:=by decide
 rw [e]
 have h:=eqb_ev [3,0,0,0,0,0,0,0,7] [3,0,0,0,0,0,0,0,7] (by simp)
 rw [decide_eq_true rfl] at h
 exact Ev.congr (fun k => by rw [if_pos rfl]) (Ev.bind h (Ev.now true))
theorem once_walk (A0:Option Addr) (c0:Nat) (a0:List Int) (w:World) (hG:strings_ToValidUTF8.Gd w) (hr0:Kd.C (Kd.int .u8) w A0 a0.length a0) (hc0:a0.length ≤ c0) (b0:a0.length * 1 ≤ 140737488351232 ∧ ∀ y ∈ a0,(Lit.int .u8 y).wf = true) :
 Calls Tryz.prog 3 #[.slice A0 a0.length c0] w fun e w' => e = .returned (.bool true) ∧ Below w.heap.size w w':=by
 have hb:∀ y ∈ a0,u3e y:=fun y hy => by
  have h:=Go.bounds_u8 (b0.2 y hy)
  unfold u3e
  omega
 have hl:a0.length < big:=by
  unfold big
  omega
 rcases told a0 hl hb with ⟨o,⟨K1,h1⟩,⟨K2,h2⟩⟩ | ⟨o,⟨K1,h1⟩,⟨K2,h2⟩,⟨K3,h3⟩⟩
 · obtain ⟨K3,h3⟩:=awake10_ev
   exact dryrotlaw10_RecordOnce.calls_bad (K1 + K2 + K3) A0 c0 a0 o 5 w hr0 hc0 (by omega) hb hG (h1 _ (by omega)) (by decide) (h2 _ (by omega)) (h3 _ (by omega))
 · obtain ⟨K4,h4⟩:=eqb_ev a0 a0 (by omega)
   rw [decide_eq_true rfl] at h4
   exact dryrotlaw10_RecordOnce.calls_good (K1 + K2 + K3 + K4) A0 c0 a0 o w hr0 hc0 (by omega) hb hG (h1 _ (by omega)) (h2 _ (by omega)) (h4 _ (by omega)) (h3 _ (by omega))
end Go.Proofs.YtgnehcgaplnfkaaGreatDoor.Laws
