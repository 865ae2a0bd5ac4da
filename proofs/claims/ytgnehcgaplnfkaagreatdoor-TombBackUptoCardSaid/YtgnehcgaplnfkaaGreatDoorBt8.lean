/- Texts of this seat, joined in the order in which they build. -/
import Derived.Test.YtgnehcgaplnfkaaGreatDoorBt4
import Derived.Test.YtgnehcgaplnfkaaGreatDoorBt2
import Derived.Test.YtgnehcgaplnfkaaGreatDoorBt7
import Derived.Test.YtgnehcgaplnfkaaGreatDoorBt6
import Derived.Test.YtgnehcgaplnfkaaGreatDoorGx40Bt
import Derived.Test.YtgnehcgaplnfkaaGreatDoorGx66Bt
import Derived.Test.YtgnehcgaplnfkaaGreatDoorBt1
import Derived.Test.YtgnehcgaplnfkaaGreatDoorBt3
import Derived.Test.YtgnehcgaplnfkaaGreatDoorGx90Bt
import Derived.Test.YtgnehcgaplnfkaaGreatDoorGx94Bt
import Derived.OpenShut
namespace Go.Proofs.YtgnehcgaplnfkaaGreatDoor.Laws
open Go.RowKit Go.Proofs.YtgnehcgaplnfkaaGreatDoor.PAll Go.Proofs.YtgnehcgaplnfkaaGreatDoorW.PrintWords Go.Proofs.YtgnehcgaplnfkaaGreatDoorW.PrintLast
set_option linter.unusedVariables false
set_option linter.unusedSimpArgs false
abbrev SS:=ug.SS
theorem str_nums (xs:List Int) (hb:∀ y ∈ xs,u2j y):u3d (strOfNums xs) = xs:=by
 rw [u3d,strOfNums_data,List.map_map]
 conv => rhs;rw [← List.map_id xs]
 apply List.map_congr_left
 intro c hc
 have h:=hb c hc
 unfold u2j at h
 show (((UInt8.ofNat c.toNat).toNat:Nat):Int) = c
 rw [UInt8.toNat_ofNat']
 omega
theorem one_inv {b q:List Int} {s:ByteArray} (hb:∀ y ∈ b,u2j y) (h:u1x.one b = some (s,q)):b = u1m.piece s ++ q ∧ s.size < 256 ∧ ∀ y ∈ q,u2j y:=by
 cases b with
 | nil => cases h
 | cons c r =>
   simp only [u1x.one] at h
   have hc:=hb c (List.mem_cons_self ..)
   unfold u2j at hc
   split at h
   · rename_i hle
     obtain ⟨h1,h2⟩:=Prod.mk.inj (Option.some.inj h)
     have hbt:∀ y ∈ r.take c.toNat,u2j y:=fun y hy => hb y (List.mem_cons_of_mem _ (List.mem_of_mem_take hy))
     have hs:s.size = c.toNat:=by rw [← h1,strOfNums_size,List.length_take];omega
     refine ⟨?_,by omega,fun y hy => hb y (List.mem_cons_of_mem _ (by rw [← h2] at hy;exact List.mem_of_mem_drop hy))⟩
     rw [u1m.piece,List.cons_append,hs,← h1,str_nums _ hbt,← h2,List.take_append_drop]
     congr 1
     omega
   · cases h
theorem all_inv:∀ (n:Nat) (b q:List Int) (l:List S111),(∀ y ∈ b,u2j y) → u1x.all n b = some (l,q) → b = l.flatMap u1m.pieces ++ q ∧ ∀ y ∈ q,u2j y
 | 0,b,q,l,hb,h => by
   obtain ⟨h1,h2⟩:=Prod.mk.inj (Option.some.inj h)
   subst h1 h2
   exact ⟨rfl,hb⟩
 | n + 1,b,q,l,hb,h => by
   obtain ⟨⟨s0,b1⟩,h1,h⟩:=Option.bind_eq_some_iff.1 h
   obtain ⟨⟨s1,b2⟩,h2,h⟩:=Option.bind_eq_some_iff.1 h
   obtain ⟨⟨l2,q2⟩,h3,h⟩:=Option.map_eq_some_iff.1 h
   obtain ⟨e1,e2⟩:=Prod.mk.inj h
   subst e1 e2
   obtain ⟨i1,_,i2⟩:=one_inv hb h1
   obtain ⟨j1,_,j2⟩:=one_inv i2 h2
   obtain ⟨k1,k2⟩:=all_inv n b2 q2 l2 j2 h3
   refine ⟨?_,k2⟩
   rw [i1,j1,k1]
   simp [u1m.pieces]
theorem decL_inv {b q:List Int} {l:List S111} (hb:∀ y ∈ b,u2j y) (h:decL b = (l,q,0)):b = u1m.enc l ++ q ∧ canB l = true ∧ ∀ y ∈ q,u2j y:=by
 cases b with
 | nil => cases h
 | cons c r =>
   unfold decL at h
   have hc:=hb c (List.mem_cons_self ..)
   unfold u2j at hc
   cases ha:u1x.all c.toNat r with
   | none =>
     simp only [ha] at h
     cases h
   | some p =>
     obtain ⟨l2,q2⟩:=p
     simp only [ha] at h
     by_cases hcn:canB l2 = true
     · rw [if_pos hcn] at h
       obtain ⟨h1,h2⟩:=Prod.mk.inj h
       obtain ⟨h2,_⟩:=Prod.mk.inj h2
       subst h1 h2
       obtain ⟨i1,i2⟩:=all_inv _ _ _ _ (fun y hy => hb y (List.mem_cons_of_mem _ hy)) ha
       have hn:=(all_sizes _ _ _ _ ha).1
       refine ⟨?_,hcn,i2⟩
       rw [u1m.enc,hn,List.cons_append,← i1]
       congr 1
       omega
     · rw [if_neg hcn] at h
       cases h
def mEnc (m:Mt):List Int:=m.f0 % 256 :: (u1m.piece m.f1 ++ u1m.piece m.f2)
def mAll (l:List Mt):List Int:=(l.length:Int) % 256 :: l.flatMap mEnc
theorem byt_bad (b:List Int):ul.byt ⟨b,true⟩ = (0,⟨b,true⟩):=by cases b <;> rfl
theorem txt_bad (b:List Int):u1a.txt ⟨b,true⟩ = (⟨#[]⟩,⟨b,true⟩):=by
 unfold u1a.txt
 rw [byt_bad,if_pos (Or.inl rfl)]
theorem mat_bad (b:List Int):(u1d.mat ⟨b,true⟩).2.bad = true:=by
 unfold u1d.mat
 simp only [byt_bad,txt_bad]
theorem mats_bad:∀ (n:Nat) (s:SS) (l:List Mt),s.bad = true → (ux.mats n s l).2.bad = true
 | 0,s,l,h => h
 | n + 1,⟨b,bad⟩,l,h => by
   simp only at h
   subst h
   exact mats_bad n _ _ (mat_bad b)
theorem txt_one (b:List Int) (hb:∀ y ∈ b,u2j y):(u1x.one b = none ∧ (u1a.txt ⟨b,false⟩).2.bad = true) ∨ ∃ s q,u1x.one b = some (s,q) ∧ u1a.txt ⟨b,false⟩ = (s,⟨q,false⟩):=by
 cases b with
 | nil => exact Or.inl ⟨rfl,rfl⟩
 | cons c r =>
   have hc:=hb c (List.mem_cons_self ..)
   unfold u2j at hc
   simp only [u1x.one]
   unfold u1a.txt
   have e:ul.byt ⟨c :: r,false⟩ = (c,⟨r,false⟩):=rfl
   rw [e]
   by_cases h:c ≤ (r.length:Int)
   · right
     rw [if_pos h,if_neg (by rintro (h9 | h9);cases h9;simp only at h9;omega)]
     exact ⟨_,_,rfl,rfl⟩
   · left
     rw [if_neg h,if_pos (Or.inr (by simp only;omega))]
     exact ⟨rfl,rfl⟩
theorem txt_bad2 (b:List Int):(u1a.txt ⟨b,true⟩).2.bad = true:=by rw [txt_bad]
theorem rone9 (b:List Int):u3z.one b = u1x.one b:=by cases b <;> rfl
theorem mats_is:∀ (n:Nat) (b:List Int) (l:List Mt),(∀ y ∈ b,u2j y) → (u2b.mats n b l = none ∧ (ux.mats n ⟨b,false⟩ l).2.bad = true) ∨
 ∃ l2 q,u2b.mats n b l = some (l ++ l2,q) ∧ ux.mats n ⟨b,false⟩ l = (l ++ l2,⟨q,false⟩) ∧ l2.length = n ∧ b = l2.flatMap mEnc ++ q ∧ (∀ y ∈ q,u2j y) ∧ ∀ m ∈ l2,m.f1.size < 256 ∧ m.f2.size < 256
 | 0,b,l,hb => Or.inr ⟨[],b,by simp [u2b.mats],by simp [ux.mats],rfl,rfl,hb,fun m hm => by cases hm⟩
 | n + 1,[],l,hb => Or.inl ⟨rfl,by
     show (ux.mats n (u1d.mat ⟨[],false⟩).2 _).2.bad = true
     exact mats_bad _ _ _ (by rfl)⟩
 | n + 1,c :: r,l,hb => by
   have hc:=hb c (List.mem_cons_self ..)
   have hr:∀ y ∈ r,u2j y:=fun y hy => hb y (List.mem_cons_of_mem _ hy)
   have e:ul.byt ⟨c :: r,false⟩ = (c,⟨r,false⟩):=rfl
   have hm:ux.mats (n + 1) ⟨c :: r,false⟩ l = ux.mats n (u1d.mat ⟨c :: r,false⟩).2 (l ++ [(u1d.mat ⟨c :: r,false⟩).1]):=rfl
   have hrm:u2b.mats (n + 1) (c :: r) l = (u3z.one r).bind fun x => (u3z.one x.2).bind fun y => u2b.mats n y.2 (l ++ [⟨c,x.1,y.1⟩]):=rfl
   rw [hm,hrm,rone9]
   unfold u1d.mat
   simp only [e]
   rcases txt_one r hr with ⟨h1,h2⟩ | ⟨s1,q1,h1,h2⟩
   · left
     rw [h1]
     refine ⟨rfl,mats_bad _ _ _ ?_⟩
     obtain ⟨x,y,z⟩:∃ x y,u1a.txt ⟨r,false⟩ = (x,⟨y,true⟩):=by
      obtain ⟨⟨p1,⟨p2,p3⟩⟩,hp⟩:∃ p,u1a.txt ⟨r,false⟩ = p:=⟨_,rfl⟩
      rw [hp] at h2
      simp only at h2
      subst h2
      exact ⟨_,_,hp⟩
     rw [z]
     exact txt_bad2 _
   · obtain ⟨i1,i2,i3⟩:=one_inv hr h1
     rw [h1,Option.bind_some,h2]
     simp only [rone9]
     rcases txt_one q1 i3 with ⟨h3,h4⟩ | ⟨s2,q2,h3,h4⟩
     · left
       rw [h3]
       exact ⟨rfl,mats_bad _ _ _ h4⟩
     · obtain ⟨j1,j2,j3⟩:=one_inv i3 h3
       rw [h3,Option.bind_some,h4]
       simp only
       rcases mats_is n q2 (l ++ [⟨c,s1,s2⟩]) j3 with ⟨k1,k2⟩ | ⟨l2,q,k1,k2,k3,k4,k5,k6⟩
       · exact Or.inl ⟨k1,k2⟩
       · refine Or.inr ⟨⟨c,s1,s2⟩ :: l2,q,by rw [k1];simp,by rw [k2];simp,by simp [k3],?_,k5,fun m hm => ?_⟩
         · rw [i1,j1,k4]
           unfold u2j at hc
           have:c % 256 = c:=by omega
           simp [mEnc,this]
         · rcases List.mem_cons.1 hm with rfl | h9
           · exact ⟨i2,j2⟩
           · exact k6 m h9
theorem out_good (l:List Mt) (q:List Int):ux.out (l,⟨q,false⟩) = if u1l.CanB l = true then (l,q,0) else ([],[],5):=by
 unfold ux.out
 simp only [Bool.false_eq_true,if_false]
 cases u1l.CanB l <;> rfl
theorem okB9_of {b:List Int} (h1:b.length ≤ 140737488355328) (h2:∀ y ∈ b,u2j y):u2b.okB b = true:=by
 unfold u2b.okB
 rw [Bool.and_eq_true,decide_eq_true_eq,List.all_eq_true]
 refine ⟨h1,fun y hy => ?_⟩
 have:=h2 y hy
 unfold u2j at this
 simp only [Bool.and_eq_true,decide_eq_true_eq]
 exact this
theorem mdec_ev (b:List Int) (hl:b.length ≤ 140737488355328) (hb:∀ y ∈ b,u2j y):Ev (fun k => u2b.f k b) (ux.dec b):=by
 have ho:=okB9_of hl hb
 cases b with
 | nil => exact Ev.congr (fun k => by unfold u2b.f;rw [if_pos ho];rfl) (Ev.now _)
 | cons c r =>
   have hc:=hb c (List.mem_cons_self ..)
   have hr:∀ y ∈ r,u2j y:=fun y hy => hb y (List.mem_cons_of_mem _ hy)
   have hd:ux.dec (c :: r) = ux.out (ux.mats c.toNat ⟨r,false⟩ []):=rfl
   rw [hd]
   rcases mats_is c.toNat r [] hr with ⟨h1,h2⟩ | ⟨l2,q,h1,h2,h3,h4,h5,h6⟩
   · have ho2:ux.out (ux.mats c.toNat ⟨r,false⟩ []) = ([],[],3):=if_pos h2
     rw [ho2]
     exact Ev.congr (fun k => by unfold u2b.f;rw [if_pos ho];simp only [h1]) (Ev.now _)
   · simp only [List.nil_append] at h1 h2
     unfold u2j at hc
     have hcan:=r9Can_ev l2 (by omega) (fun y hy => by have:=h6 y hy;omega)
     rw [h2]
     refine Ev.congr (f:=fun k => (u2m.f k l2).bind fun b => if b = true then some (l2,q,0) else some ([],[],5)) (fun k => by unfold u2b.f;rw [if_pos ho];simp only [h1]) (Ev.bind hcan ?_)
     rw [out_good]
     cases u1l.CanB l2 with
     | true => exact Ev.congr (fun k => by simp) (Ev.now _)
     | false => exact Ev.congr (fun k => by simp) (Ev.now _)
theorem mdec_inv {b q:List Int} {l:List Mt} (hb:∀ y ∈ b,u2j y) (h:ux.dec b = (l,q,0)):b = mAll l ++ q ∧ u1l.CanB l = true ∧ ∀ y ∈ q,u2j y:=by
 cases b with
 | nil => cases h
 | cons c r =>
   have hc:=hb c (List.mem_cons_self ..)
   unfold u2j at hc
   have hr:∀ y ∈ r,u2j y:=fun y hy => hb y (List.mem_cons_of_mem _ hy)
   have hd:ux.dec (c :: r) = ux.out (ux.mats c.toNat ⟨r,false⟩ []):=rfl
   rw [hd] at h
   unfold ux.out at h
   rcases mats_is c.toNat r [] hr with ⟨h1,h2⟩ | ⟨l2,q2,h1,h2,h3,h4,h5,h6⟩
   · rw [if_pos h2] at h
     cases h
   · rw [h2] at h
     simp only [List.nil_append] at h
     rw [if_neg (by intro h9;cases h9)] at h
     cases hcn:u1l.CanB l2 with
     | false =>
       rw [if_pos hcn] at h
       cases h
     | true =>
       rw [if_neg (by rw [hcn];intro h9;cases h9)] at h
       obtain ⟨e1,e2⟩:=Prod.mk.inj h
       obtain ⟨e2,_⟩:=Prod.mk.inj e2
       subst e1 e2
       refine ⟨?_,hcn,h5⟩
       rw [mAll,h3,List.cons_append,← h4]
       congr 1
       omega
theorem menc_l0 (l:List Mt) (hl:l.length < 4611686018427387904):∀ (r:List Mt) (i:Nat) (acc:List Int),l.drop i = r → i ≤ l.length → (acc ++ r.flatMap mEnc).length < 140737488355328 → Ev (fun k => u2z.l0 k acc l (l.length:Int) (i:Int)) (acc ++ r.flatMap mEnc,0)
 | [],i,acc,h,hi,hb => by
   have:l.length ≤ i:=List.drop_eq_nil_iff.1 h
   refine Ev.step (f:=fun _ => some (acc ++ ([]:List Mt).flatMap mEnc,(0:Int))) (fun k => ?_) (Ev.now _)
   simp only [u2z.l0]
   rw [if_neg (by omega)]
   simp
 | x :: r,i,acc,h,hi,hb => by
   have hlt:i < l.length:=by
    rcases Nat.lt_or_ge i l.length with h9 | h9
    · exact h9
    · rw [List.drop_eq_nil_of_le h9] at h
      cases h
   rw [List.drop_eq_getElem_cons hlt] at h
   obtain ⟨h1,h2⟩:=List.cons.inj h
   have hx:u1s l (i:Int) = x:=by simp [u1s,hlt,h1]
   have e:acc ++ (x :: r).flatMap mEnc = acc ++ [x.f0 % 256,(x.f1.size:Int) % 256] ++ u3d x.f1 ++ [(x.f2.size:Int) % 256] ++ u3d x.f2 ++ r.flatMap mEnc:=by simp [mEnc,u1m.piece]
   rw [e] at hb ⊢
   have ih:=menc_l0 l hl r (i + 1) _ h2 (by omega) hb
   simp only [List.length_append,List.length_cons,List.length_nil,u3p] at hb
   refine Ev.step (f:=fun k => u2z.l0 k (acc ++ [x.f0 % 256,(x.f1.size:Int) % 256] ++ u3d x.f1 ++ [(x.f2.size:Int) % 256] ++ u3d x.f2) l (l.length:Int) ((i + 1:Nat):Int)) (fun k => ?_) ih
   simp only [u2z.l0]
   rw [if_pos (by omega),if_pos (by omega),if_pos (by omega),hx,show wrap64 ((i:Int) + 1) = ((i + 1:Nat):Int) by unfold wrap64;omega]
   simp only [Option.bind_some,List.length_append,List.length_cons,List.length_nil,u3p]
   rw [if_pos (by omega),if_pos (by omega),if_pos (by omega),if_pos (by omega)]
theorem menc_ev (l:List Mt) (hl:(mAll l).length < 140737488355328) (hc:u1l.CanB l = true):Ev (fun k => u2z.f k l) (mAll l,0):=by
 have h6:l.length ≤ 6:=by
  unfold u1l.CanB at hc
  rw [Bool.and_eq_true,decide_eq_true_eq] at hc
  exact hc.1
 have h:=menc_l0 l (by omega) l 0 [(l.length:Int) % 256] rfl (Nat.zero_le _) hl
 refine Ev.congr (fun k => ?_) h
 unfold u2z.f u1l.f
 rw [Option.bind_some,hc,if_pos rfl]
 rfl
abbrev Rw:=S59
abbrev Ou:=uq.Ou
def big:Nat:=140737488355328
theorem ev_map {α β:Type} {g:Nat → Option α} {a:α} (f:α → β) (h:Ev g a):Ev (fun k => (g k).map f) (f a):=by
 obtain ⟨K,hK⟩:=h
 exact ⟨K,fun k hk => by simp only [hK k hk,Option.map_some]⟩
theorem num1 (c:Int) (r:List Int) (hb:∀ y ∈ c :: r,u2j y):ug.num 1 ⟨c :: r,false⟩ = (c,⟨r,false⟩):=by
 rcases num_int 1 (c :: r) (by decide) hb with ⟨h1,h2⟩ | ⟨h0,h1,h2⟩
 · unfold u1t.int at h1
   rw [if_neg (by simp)] at h1
   cases h1
 · rw [h2]
   simp [bv,bvS]
def rEnc (x:Rw):List Int:=u1m.enc x.f0 ++ (u1b.put (IntKind.u64.wrap x.f1) 8 ++ u1b.put x.f2 8)
def rowG (z:List S111 × List Int × Int) (bad:Bool):(List S111 × Int × Int) × SS :=
 ((z.1,wrap64 (ug.num 8 ⟨z.2.1,bad || z.2.2 != 0⟩).1,(ug.num 8 (ug.num 8 ⟨z.2.1,bad || z.2.2 != 0⟩).2).1),(ug.num 8 (ug.num 8 ⟨z.2.1,bad || z.2.2 != 0⟩).2).2)
theorem row_ev (b:List Int) (hl:b.length ≤ big) (hb:∀ y ∈ b,u2j y):Ev (fun k => record_reader_row.rowM k ⟨b,false⟩) (rowG (decL b) false) :=
 ev_map (fun z => rowG z false) (decL_ev b hl hb).1
theorem rowG_bad (z:List S111 × List Int × Int) (h:z.2.2 ≠ 0):(rowG z false).2.bad = true:=by
 unfold rowG
 have e:(false || z.2.2 != 0) = true:=by simp [h]
 rw [e,num_bad,num_bad]
theorem row_is (b:List Int) (hb:∀ y ∈ b,u2j y):((rowG (decL b) false).2.bad = true ∧ ((decL b).2.2 ≠ 0 ∨ ((decL b).2.2 = 0 ∧ (u1t.int 8 (decL b).2.1 = none ∨ ∃ y,u1t.int 8 (decL b).2.1 = some y ∧ u1t.int 8 y.2 = none)))) ∨
 ∃ (x:Rw) (u:Int) (q1 q2 q:List Int),decL b = (x.f0,q1,0) ∧ u1t.int 8 q1 = some (x.f1,q2) ∧ u1t.int 8 q2 = some (u,q) ∧ IntKind.u64.wrap u = x.f2 ∧ rowG (decL b) false = ((x.f0,x.f1,x.f2),⟨q,false⟩) ∧ b = rEnc x ++ q ∧ canB x.f0 = true ∧ ∀ y ∈ q,u2j y:=by
 obtain ⟨⟨l,q1,e⟩,hz⟩:∃ z,decL b = z:=⟨_,rfl⟩
 by_cases he:e = 0
 · subst he
   obtain ⟨i1,i2,i3⟩:=decL_inv hb hz
   rw [hz]
   unfold rowG
   simp only [bne_self_eq_false,Bool.or_false]
   rcases num_int 8 q1 (by decide) i3 with ⟨h1,h2⟩ | ⟨h0,h1,h2⟩
   · left
     obtain ⟨⟨x1,⟨y1,y2⟩⟩,hp⟩:∃ p,ug.num 8 ⟨q1,false⟩ = p:=⟨_,rfl⟩
     rw [hp] at h2
     simp only at h2
     subst h2
     rw [hp]
     simp only [num_bad]
     exact ⟨trivial,Or.inr ⟨trivial,Or.inl h1⟩⟩
   · have hb2:∀ y ∈ q1.drop 8,u2j y:=fun y hy => i3 y (List.mem_of_mem_drop hy)
     have hb1:∀ y ∈ q1.take 8,u2j y:=fun y hy => i3 y (List.mem_of_mem_take hy)
     have l1:(q1.take 8).length = 8:=by rw [List.length_take];omega
     have v1:=bv8_lt _ l1 hb1
     rw [h2]
     simp only
     rcases num_int 8 (q1.drop 8) (by decide) hb2 with ⟨h3,h4⟩ | ⟨h30,h3,h4⟩
     · left
       refine ⟨h4,Or.inr ⟨trivial,Or.inr ⟨_,h1,h3⟩⟩⟩
     · right
       have hb3:∀ y ∈ (q1.drop 8).take 8,u2j y:=fun y hy => hb2 y (List.mem_of_mem_take hy)
       have l3:((q1.drop 8).take 8).length = 8:=by rw [List.length_take];omega
       have v3:=bv8_lt _ l3 hb3
       rw [h4]
       refine ⟨⟨l,wrap64 (bv (q1.take 8)),bv ((q1.drop 8).take 8)⟩,_,q1,q1.drop 8,(q1.drop 8).drop 8,rfl,h1,h3,u64_w64 _ v3.1 v3.2,rfl,?_,i2,fun y hy => hb2 y (List.mem_of_mem_drop hy)⟩
       show b = (u1m.enc l ++ (u1b.put (IntKind.u64.wrap (wrap64 (bv (q1.take 8)))) 8 ++ u1b.put (bv ((q1.drop 8).take 8)) 8)) ++ (q1.drop 8).drop 8
       rw [u64_w64 _ v1.1 v1.2,put8_bv _ l1 hb1,put8_bv _ l3 hb3,List.append_assoc,List.append_assoc,List.take_append_drop,List.take_append_drop]
       exact i1
 · left
   rw [hz]
   exact ⟨rowG_bad (l,q1,e) he,Or.inl he⟩
theorem rowsM_bad (k n:Nat) (s:SS) (l:List Rw) (h:s.bad = true):uq.rowsM k n s l = some (l,s):=by
 cases n with
 | zero => rfl
 | succ n => rw [uq.rowsM_succ,if_pos h]
theorem rrows_succ (k n:Nat) (b:List Int) (l:List Rw):u2u.rowsM k (n + 1) b l = (u3i.f k b).bind fun z => if z.2.2 ≠ 0 then some none else
 match u1t.int 8 z.2.1 with
 | none => some none
 | some y => match u1t.int 8 y.2 with
   | none => some none
   | some u => u2u.rowsM k n u.2 (l ++ [⟨z.1,y.1,IntKind.u64.wrap u.1⟩]):=rfl
theorem rows_is:∀ (n:Nat) (b:List Int) (l:List Rw),b.length ≤ big → (∀ y ∈ b,u2j y) → (Ev (fun k => u2u.rowsM k n b l) none ∧ ∃ z:List Rw × SS,Ev (fun k => uq.rowsM k n ⟨b,false⟩ l) z ∧ z.2.bad = true) ∨
 ∃ (l2:List Rw) (q:List Int),Ev (fun k => u2u.rowsM k n b l) (some (l ++ l2,q)) ∧ Ev (fun k => uq.rowsM k n ⟨b,false⟩ l) (l ++ l2,⟨q,false⟩) ∧ l2.length = n ∧ b = l2.flatMap rEnc ++ q ∧ (∀ y ∈ q,u2j y) ∧ ∀ x ∈ l2,canB x.f0 = true
 | 0,b,l,hl,hb => Or.inr ⟨[],b,by rw [List.append_nil];exact Ev.now _,by rw [List.append_nil];exact Ev.now _,rfl,rfl,hb,fun x hx => by cases hx⟩
 | n + 1,b,l,hl,hb => by
   have hr:=(decL_ev b hl hb).2
   have hp:=row_ev b hl hb
   have hps:∀ (z:List Rw × SS),Ev (fun k => uq.rowsM k n (rowG (decL b) false).2 (l ++ [⟨(rowG (decL b) false).1.1,(rowG (decL b) false).1.2.1,(rowG (decL b) false).1.2.2⟩])) z → Ev (fun k => uq.rowsM k (n + 1) ⟨b,false⟩ l) z:=fun z hz =>
    Ev.congr (fun k => by rw [uq.rowsM_succ,if_neg (by intro h9;cases h9)]) (Ev.bind (f:=fun k y => uq.rowsM k n y.2 (l ++ [⟨y.1.1,y.1.2.1,y.1.2.2⟩])) hp hz)
   rcases row_is b hb with ⟨h1,h2⟩ | ⟨x,u,q1,q2,q,d1,d2,d3,d4,d5,d6,d7,d8⟩
   · left
     refine ⟨?_,_,hps _ (Ev.congr (fun k => rowsM_bad k n _ _ h1) (Ev.now _)),h1⟩
     refine Ev.congr (fun k => rrows_succ k n b l) (Ev.bind hr ?_)
     rcases h2 with h3 | ⟨h30,h3 | ⟨y,h3,h4⟩⟩
     · simp only [if_pos h3]
       exact Ev.now _
     · exact Ev.congr (fun k => by rw [if_neg (fun h9 => h9 h30)];simp only [h3]) (Ev.now _)
     · exact Ev.congr (fun k => by rw [if_neg (fun h9 => h9 h30)];simp only [h3,h4]) (Ev.now _)
   · have hql:q.length ≤ big:=by
      have:=congrArg List.length d6
      rw [List.length_append] at this
      omega
     rw [d5] at hps
     have href:∀ (z:Option (List Rw × List Int)),Ev (fun k => u2u.rowsM k n q (l ++ [x])) z → Ev (fun k => u2u.rowsM k (n + 1) b l) z:=fun z hz => by
      refine Ev.congr (fun k => rrows_succ k n b l) (Ev.bind hr ?_)
      rw [d1]
      exact Ev.congr (fun k => by rw [if_neg (fun h9 => h9 rfl)];simp only [d2,d3,d4]) hz
     rcases rows_is n q (l ++ [x]) hql d8 with ⟨k1,z,k2,k3⟩ | ⟨l2,q9,k1,k2,k3,k4,k5,k6⟩
     · exact Or.inl ⟨href _ k1,z,hps z k2,k3⟩
     · refine Or.inr ⟨x :: l2,q9,?_,?_,by simp [k3],by rw [d6,k4];simp,k5,fun y hy => ?_⟩
       · have:=href _ k1
         simpa using this
       · have:=hps _ k2
         simpa using this
       · rcases List.mem_cons.1 hy with rfl | h9
         · exact d7
         · exact k6 y h9
theorem canB_sizes {l:List S111} (h:canB l = true):∀ y ∈ l,y.f0.size ≤ maxLen ∧ y.f1.size ≤ maxLen:=by
 unfold canB at h
 rw [Bool.and_eq_true] at h
 have h2:=okFrom_mem l [] h.2
 intro y hy
 have h3:=h2 y hy
 have h4:=nameB_size h3.1
 have h5:=valueB_size h3.2
 have:40 ≤ maxLen:=by decide
 omega
theorem rows_ev:∀ (l:List Rw),∃ K,∀ k,K ≤ k → ∀ x ∈ l,u3k.f k x.f0 = some (canB x.f0)
 | [] => ⟨0,fun _ _ x hx => by cases hx⟩
 | x :: r => by
   obtain ⟨K,hK⟩:=rows_ev r
   obtain ⟨M,hM⟩:=can_ev x.f0
   refine ⟨K + M,fun k hk y hy => ?_⟩
   rcases List.mem_cons.1 hy with rfl | h9
   · exact hM k (by omega)
   · exact hK k (by omega) y h9
theorem can_two (k:Nat) (l:List Rw) (m:List Mt) (x y z:Int):u3w.f k 2 l m x y z = some (u1l.CanB m):=by
 unfold u3w.f
 rw [if_neg (show ¬ (2:Int) = 1 by decide),if_pos rfl]
theorem can_three (k:Nat) (l:List Rw) (m:List Mt) (x y z:Int):u3w.f k 3 l m x y z = some (decide (0 ≤ z ∧ z ≤ 4611686018427387904)):=by
 unfold u3w.f
 rw [if_neg (show ¬ (3:Int) = 1 by decide),if_neg (show ¬ (3:Int) = 2 by decide)]
 simp
theorem can_no (k:Nat) (c:Int) (l:List Rw) (m:List Mt) (x y z:Int) (h1:¬ c = 1) (h2:¬ c = 2) (h3:¬ c = 3):u3w.f k c l m x y z = some false:=by
 unfold u3w.f
 rw [if_neg h1,if_neg h2]
 simp [h3]
theorem can1_ev (l:List Rw) (ms:List Mt) (x y z:Int) (h:∀ r ∈ l,canB r.f0 = true):Ev (fun k => u3w.f k 1 l ms x y z) (decide (0 < l.length ∧ l.length ≤ 200)):=by
 obtain ⟨K,hK⟩:=rows_ev l
 refine ⟨K,fun k hk => ?_⟩
 unfold u3w.f
 simp only [if_true]
 by_cases h1:0 < l.length ∧ l.length ≤ 200
 · have h2:l.all (fun x => (u3k.f k x.f0).isSome) = true:=List.all_eq_true.2 (fun y hy => by rw [hK k hk y hy];rfl)
   have h3:l.all (u3w.cn k) = true:=List.all_eq_true.2 (fun y hy => by
    unfold u3w.cn
    rw [hK k hk y hy,h y hy]
    rfl)
   rw [if_pos h1,if_pos h2,h3,decide_eq_true h1]
 · rw [if_neg h1,decide_eq_false h1]
theorem rcan1_l0 (l:List Rw) (hl:l.length ≤ 200) (hc:∀ r ∈ l,canB r.f0 = true):∀ (r:List Rw) (i:Nat),l.drop i = r → i ≤ l.length → Ev (fun k => u2n.l0 k l (l.length:Int) (i:Int)) true
 | [],i,h,hi => by
   have:l.length ≤ i:=List.drop_eq_nil_iff.1 h
   refine Ev.step (f:=fun _ => some true) (fun k => ?_) (Ev.now _)
   simp only [u2n.l0]
   rw [if_neg (by omega)]
 | x :: r,i,h,hi => by
   have hlt:i < l.length:=by
    rcases Nat.lt_or_ge i l.length with h9 | h9
    · exact h9
    · rw [List.drop_eq_nil_of_le h9] at h
      cases h
   rw [List.drop_eq_getElem_cons hlt] at h
   obtain ⟨h1,h2⟩:=List.cons.inj h
   have hx:rd_T59 l (i:Int) = x:=by simp [rd_T59,hlt,h1]
   have hm:x ∈ l:=by rw [← h1];exact List.getElem_mem hlt
   have ih:=rcan1_l0 l hl hc r (i + 1) h2 (by omega)
   refine Ev.step (f:=fun k => (u1v.f k x.f0).bind fun t => if t = true then u2n.l0 k l (l.length:Int) ((i + 1:Nat):Int) else some false) (fun k => ?_) ?_
   · simp only [u2n.l0]
     rw [if_pos (by omega),if_pos (by omega),if_pos (by omega),hx,show wrap64 ((i:Int) + 1) = ((i + 1:Nat):Int) by unfold wrap64;omega]
   · have h7:=rcan_ev x.f0 (canB_sizes (hc x hm))
     rw [hc x hm] at h7
     exact Ev.bind h7 (Ev.congr (fun k => by rw [if_pos rfl]) ih)
theorem rcan1_ev (l:List Rw) (ms:List Mt) (x y z:Int) (h:∀ r ∈ l,canB r.f0 = true):Ev (fun k => u2n.f k 1 l ms x y z) (decide (0 < l.length ∧ l.length ≤ 200)):=by
 by_cases h0:l.length = 0
 · rw [decide_eq_false (by omega)]
   refine Ev.congr (f:=fun k => u2n.j0 k true 1 l ms x y z) (fun k => by unfold u2n.f;rw [if_pos rfl,if_pos (by omega)]) ?_
   exact Ev.step (f:=fun _ => some false) (fun k => by simp [u2n.j0]) (Ev.now _)
 · refine Ev.congr (f:=fun k => u2n.j0 k (decide ((l.length:Int) > 200)) 1 l ms x y z) (fun k => by unfold u2n.f;rw [if_pos rfl,if_neg (by omega)]) ?_
   by_cases h2:l.length ≤ 200
   · rw [decide_eq_true (show 0 < l.length ∧ l.length ≤ 200 by omega)]
     refine Ev.step (f:=fun k => u2n.l0 k l (l.length:Int) 0) (fun k => ?_) (rcan1_l0 l h2 h l 0 rfl (Nat.zero_le _))
     simp only [u2n.j0]
     rw [if_neg (by simp;omega)]
   · rw [decide_eq_false (show ¬ (0 < l.length ∧ l.length ≤ 200) from fun h9 => h2 h9.2)]
     refine Ev.step (f:=fun _ => some false) (fun k => ?_) (Ev.now _)
     simp only [u2n.j0]
     rw [if_pos (by simp;omega)]
theorem rowsE_ev:∀ (l:List Rw),(∀ r ∈ l,canB r.f0 = true) → Ev (fun k => u1u.rowsE k l) (l.flatMap rEnc)
 | [],_ => Ev.now _
 | x :: r,hc => by
   have hlab:=encode_ev x.f0
   rw [hc x (List.mem_cons_self ..),if_pos rfl] at hlab
   have ih:=rowsE_ev r (fun y hy => hc y (List.mem_cons_of_mem _ hy))
   have h:=Ev.bind (f:=fun k e => (u1u.rowsE k r).map fun t => e.1 ++ (u1u.put8 x.f1 ++ (u1b.put x.f2 8 ++ t))) hlab (ev_map _ ih)
   have e:(x :: r).flatMap rEnc = u1m.enc x.f0 ++ (u1u.put8 x.f1 ++ (u1b.put x.f2 8 ++ r.flatMap rEnc)):=by simp [rEnc,u1u.put8]
   rw [e]
   exact h
theorem lim_is {b:List Int} (h:b.length ≤ big):u1u.lim b = some (b,0):=if_pos h
theorem enc1_ev (l:List Rw) (h:∀ r ∈ l,canB r.f0 = true) (h0:0 < l.length ∧ l.length ≤ 200) (hb:(1 :: (u1b.put (IntKind.u64.wrap (l.length:Int)) 2 ++ l.flatMap rEnc)).length ≤ big):Ev (fun k => u1u.f k 1 l [] 0 0 0) (1 :: (u1b.put (IntKind.u64.wrap (l.length:Int)) 2 ++ l.flatMap rEnc),0):=by
 have hc:=can1_ev l [] 0 0 0 h
 rw [decide_eq_true h0] at hc
 refine Ev.bind hc (Ev.congr (fun k => by rw [if_pos rfl,if_pos rfl]) (Ev.bind (rowsE_ev l h) ?_))
 simp only [lim_is hb]
 exact Ev.now _
theorem enc2_ev (m:List Mt) (x y:Int) (hc:u1l.CanB m = true) (hb:(2 :: (mAll m ++ (u1u.put8 x ++ u1u.put8 y))).length ≤ big) (hm:(mAll m).length < big):Ev (fun k => u1u.f k 2 [] m x y 0) (2 :: (mAll m ++ (u1u.put8 x ++ u1u.put8 y)),0):=by
 refine Ev.bind (a:=true) ⟨0,fun k _ => by rw [← hc];exact can_two k _ _ _ _ _⟩ (Ev.congr (fun k => by rw [if_pos rfl,if_neg (show ¬ (2:Int) = 1 by decide),if_pos rfl]) (Ev.bind (menc_ev m hm hc) ?_))
 simp only [lim_is hb]
 exact Ev.now _
theorem enc3_ev (x:Int) (hx:0 ≤ x ∧ x ≤ 4611686018427387904):Ev (fun k => u1u.f k 3 [] [] 0 0 x) (3 :: u1u.put8 x,0):=by
 refine Ev.bind (a:=true) ⟨0,fun k _ => by rw [← decide_eq_true hx];exact can_three k _ _ _ _ _⟩ (Ev.congr (fun k => by rw [if_pos rfl,if_neg (show ¬ (3:Int) = 1 by decide),if_neg (show ¬ (3:Int) = 2 by decide),if_pos rfl,lim_is (by unfold big;simp [u1u.put8,u1b.put8])]) (Ev.now _))
theorem ev_dec (k0:Int) (b:List Int) (s:SS) (h1:ug.num 1 ⟨b,false⟩ = (k0,s)) (z:Ou × SS) (r:Ou × Int) (h2:Ev (fun k => uq.mid k (wrap64 k0) s) z) (h3:Ev (fun k => uq.out k z) r):Ev (fun k => uq.dec k b) r :=
 Ev.congr (fun k => by unfold uq.dec;rw [h1]) (Ev.bind h2 h3)
theorem out_bad (z:Ou × SS) (h:z.2.bad = true):Ev (fun k => uq.out k z) (uq.zero,5):=Ev.congr (fun k => by unfold uq.out;rw [if_pos h]) (Ev.now _)
theorem out_left (o:Ou) (q:List Int) (h:q ≠ []):Ev (fun k => uq.out k (o,⟨q,false⟩)) (uq.zero,5):=Ev.congr (fun k => by unfold uq.out;rw [if_neg (by intro h9;cases h9),if_pos h]) (Ev.now _)
theorem out_can (o:Ou) (c:Bool) (h:Ev (fun k => uq.canO k o) c):Ev (fun k => uq.out k (o,⟨[],false⟩)) (if c = true then (o,0) else (uq.zero,5)):=by
 refine Ev.congr (fun k => by unfold uq.out;rw [if_neg (by intro h9;cases h9),if_neg (by intro h9;exact h9 rfl)]) (Ev.bind h ?_)
 cases c with
 | true => exact Ev.congr (fun k => by rw [if_pos rfl,if_pos rfl]) (Ev.now _)
 | false => exact Ev.congr (fun k => by rw [if_neg (by intro h9;cases h9),if_neg (by intro h9;cases h9)]) (Ev.now _)
theorem fin_left (a:Int) (l:List Rw) (m:List Mt) (x y z:Int) (q:List Int) (h:q ≠ []):Ev (fun k => u1k.fin k a l m x y z q) 5:=Ev.congr (fun k => by unfold u1k.fin;rw [if_pos h]) (Ev.now _)
theorem fin_can (a:Int) (l:List Rw) (m:List Mt) (x y z:Int) (c:Bool) (h:Ev (fun k => u2n.f k a l m x y z) c):Ev (fun k => u1k.fin k a l m x y z []) (if c = true then 0 else 5):=by
 refine Ev.congr (fun k => by unfold u1k.fin;rw [if_neg (by intro h9;exact h9 rfl)]) (Ev.bind h ?_)
 exact Ev.now _
def Told (b:List Int):Prop:=(∃ o,Ev (fun k => uq.dec k b) (o,5) ∧ Ev (fun k => u1k.err k b) 5) ∨
 ∃ o:Ou,Ev (fun k => uq.dec k b) (o,0) ∧ Ev (fun k => u1u.f k o.kd o.rows o.ms o.fr o.to_ o.kp) (b,0) ∧ Ev (fun k => u3w.f k o.kd o.rows o.ms o.fr o.to_ o.kp) true
theorem told (b:List Int) (hl:b.length < big) (hb:∀ y ∈ b,u2j y):Told b:=by
 cases b with
 | nil =>
   left
   refine ⟨uq.zero,ev_dec 0 [] ⟨[],true⟩ rfl (⟨0,[],[],0,0,0⟩,⟨[],true⟩) _ ?_ (out_bad _ rfl),Ev.now _⟩
   exact Ev.congr (fun k => by rw [show wrap64 0 = 0 by unfold wrap64;omega];rfl) (Ev.now _)
 | cons c r =>
   have hc:=hb c (List.mem_cons_self ..)
   have hr:∀ y ∈ r,u2j y:=fun y hy => hb y (List.mem_cons_of_mem _ hy)
   have hrl:r.length ≤ big:=by
    rw [List.length_cons] at hl
    omega
   have hn:=num1 c r hb
   unfold u2j at hc
   have hw:wrap64 c = c:=by unfold wrap64;omega
   have hm:∀ k,uq.mid k (wrap64 c) ⟨r,false⟩ = uq.mid k c ⟨r,false⟩:=fun k => by rw [hw]
   by_cases h1:c = 1
   · subst h1
     rcases num_int 2 r (by decide) hr with ⟨i1,i2⟩ | ⟨i0,i1,i2⟩
     · left
       obtain ⟨⟨x1,⟨y1,y2⟩⟩,hp⟩:∃ p,ug.num 2 ⟨r,false⟩ = p:=⟨_,rfl⟩
       rw [hp] at i2
       simp only at i2
       subst i2
       refine ⟨uq.zero,ev_dec 1 _ _ hn (⟨1,[],[],0,0,0⟩,⟨y1,true⟩) _ (Ev.congr (fun k => ?_) (Ev.now _)) (out_bad _ rfl),Ev.congr (fun k => ?_) (Ev.now _)⟩
       · rw [hm]
         unfold uq.mid
         rw [if_pos rfl,hp,rowsM_bad _ _ _ _ rfl]
         rfl
       · rw [u1k.err_cons,if_pos rfl]
         unfold u2u.top
         rw [i1]
         rfl
     · have hb2:∀ y ∈ r.drop 2,u2j y:=fun y hy => hr y (List.mem_of_mem_drop hy)
       have hb1:∀ y ∈ r.take 2,u2j y:=fun y hy => hr y (List.mem_of_mem_take hy)
       have l1:(r.take 2).length = 2:=by rw [List.length_take];omega
       have v1:=(val_is (r.take 2) (by omega) hb1).2.2
       rw [l1] at v1
       have v2:bv (r.take 2) < 65536:=by have:(256:Int) ^ 2 = 65536:=by decide
                                         omega
       have hwn:wrap64 (bv (r.take 2)) = bv (r.take 2):=by unfold wrap64;omega
       have htop:∀ k,u2u.top k r = u2u.rowsM k (bv (r.take 2)).toNat (r.drop 2) []:=fun k => by
        unfold u2u.top
        rw [i1]
        simp only [hwn]
       have hmid:∀ k,uq.mid k (wrap64 1) ⟨r,false⟩ = (uq.rowsM k (bv (r.take 2)).toNat ⟨r.drop 2,false⟩ []).map fun z => ((⟨1,z.1,[],0,0,0⟩:Ou),z.2):=fun k => by
        rw [hm]
        unfold uq.mid
        rw [if_pos rfl,i2]
       rcases rows_is (bv (r.take 2)).toNat (r.drop 2) [] (by rw [List.length_drop];omega) hb2 with ⟨j1,z,j2,j3⟩ | ⟨l2,q,j1,j2,j3,j4,j5,j6⟩
       · left
         refine ⟨uq.zero,ev_dec 1 _ _ hn _ _ (Ev.congr hmid (ev_map (fun z:List Rw × SS => ((⟨1,z.1,[],0,0,0⟩:Ou),z.2)) j2)) (out_bad _ j3),?_⟩
         refine Ev.congr (fun k => by rw [u1k.err_cons,if_pos rfl,htop k]) (Ev.bind j1 ?_)
         exact Ev.now _
       · simp only [List.nil_append] at j1 j2
         have hmv:=Ev.congr hmid (ev_map (fun z:List Rw × SS => ((⟨1,z.1,[],0,0,0⟩:Ou),z.2)) j2)
         have herr:∀ e,Ev (fun k => u1k.fin k 1 l2 [] 0 0 0 q) e → Ev (fun k => u1k.err k (1 :: r)) e:=fun e he =>
          Ev.congr (fun k => by rw [u1k.err_cons,if_pos rfl,htop k]) (Ev.bind j1 he)
         by_cases hq:q = []
         · subst hq
           have hcp:Ev (fun k => uq.canO k ⟨1,l2,[],0,0,0⟩) _:=can1_ev l2 [] 0 0 0 j6
           have hcr:=fin_can 1 l2 [] 0 0 0 _ (rcan1_ev l2 [] 0 0 0 j6)
           by_cases h200:0 < l2.length ∧ l2.length ≤ 200
           · right
             have hx:=ev_dec 1 _ _ hn _ _ hmv (out_can _ _ hcp)
             rw [decide_eq_true h200,if_pos rfl] at hx
             rw [decide_eq_true h200] at hcp
             have hr2:r = u1b.put (IntKind.u64.wrap (l2.length:Int)) 2 ++ l2.flatMap rEnc:=by
              have e1:(l2.length:Int) = bv (r.take 2):=by omega
              rw [e1,u64_of _ v1.1 (by omega),put2_bv _ l1 hb1]
              conv => lhs;rw [← List.take_append_drop 2 r,j4]
              simp
             have he:=enc1_ev l2 j6 h200 (by
              have:=congrArg List.length hr2
              unfold big at *
              simp only [List.length_append,List.length_cons,List.length_nil] at *
              omega)
             rw [← hr2] at he
             exact ⟨_,hx,he,hcp⟩
           · left
             have hx:=ev_dec 1 _ _ hn _ _ hmv (out_can _ _ hcp)
             rw [decide_eq_false h200,if_neg (by intro h9;cases h9)] at hx
             rw [decide_eq_false h200,if_neg (by intro h9;cases h9)] at hcr
             exact ⟨_,hx,herr 5 hcr⟩
         · left
           exact ⟨_,ev_dec 1 _ _ hn _ _ hmv (out_left _ _ hq),herr 5 (fin_left _ _ _ _ _ _ _ hq)⟩
   · by_cases h2:c = 2
     · subst h2
       obtain ⟨⟨m,q,e⟩,hz⟩:∃ z,ux.dec r = z:=⟨_,rfl⟩
       have hrd:=mdec_ev r hrl hr
       rw [hz] at hrd
       have hmid:∀ k,uq.mid k (wrap64 2) ⟨r,false⟩ = some (⟨2,[],m,wrap64 (ug.num 8 ⟨q,e != 0⟩).1,wrap64 (ug.num 8 (ug.num 8 ⟨q,e != 0⟩).2).1,0⟩,(ug.num 8 (ug.num 8 ⟨q,e != 0⟩).2).2):=fun k => by
        rw [hm]
        unfold uq.mid
        rw [if_neg (by decide),if_pos rfl]
        simp only [hz,Bool.false_or]
       have herr:∀ x,Ev (fun k => if e ≠ 0 then some 5 else match u1t.int 8 q with
        | none => some 5
        | some u => match u1t.int 8 u.2 with
          | none => some 5
          | some v => u1k.fin k 2 [] m u.1 v.1 0 v.2) x → Ev (fun k => u1k.err k (2 :: r)) x:=fun x hx =>
        Ev.congr (fun k => by rw [u1k.err_cons,if_neg (by decide),if_pos rfl]) (Ev.bind hrd hx)
       by_cases he:e = 0
       · subst he
         obtain ⟨i1,i2,i3⟩:=mdec_inv hr hz
         simp only [bne_self_eq_false] at hmid
         rcases num_int 8 q (by decide) i3 with ⟨a1,a2⟩ | ⟨a0,a1,a2⟩
         · left
           obtain ⟨⟨x1,⟨y1,y2⟩⟩,hp⟩:∃ p,ug.num 8 ⟨q,false⟩ = p:=⟨_,rfl⟩
           rw [hp] at a2 hmid
           simp only at a2
           subst a2
           simp only [num_bad] at hmid
           exact ⟨_,ev_dec 2 _ _ hn _ _ (Ev.congr hmid (Ev.now _)) (out_bad _ rfl),herr 5 (Ev.congr (fun k => by rw [if_neg (fun h9 => h9 rfl)];simp only [a1]) (Ev.now _))⟩
         · have hb2:∀ y ∈ q.drop 8,u2j y:=fun y hy => i3 y (List.mem_of_mem_drop hy)
           have hb1:∀ y ∈ q.take 8,u2j y:=fun y hy => i3 y (List.mem_of_mem_take hy)
           have l1:(q.take 8).length = 8:=by rw [List.length_take];omega
           have v1:=bv8_lt _ l1 hb1
           simp only [a2] at hmid
           rcases num_int 8 (q.drop 8) (by decide) hb2 with ⟨c1,c2⟩ | ⟨c0,c1,c2⟩
           · left
             exact ⟨_,ev_dec 2 _ _ hn _ _ (Ev.congr hmid (Ev.now _)) (out_bad _ c2),herr 5 (Ev.congr (fun k => by rw [if_neg (fun h9 => h9 rfl)];simp only [a1,c1]) (Ev.now _))⟩
           · have hb3:∀ y ∈ (q.drop 8).take 8,u2j y:=fun y hy => hb2 y (List.mem_of_mem_take hy)
             have l3:((q.drop 8).take 8).length = 8:=by rw [List.length_take];omega
             have v3:=bv8_lt _ l3 hb3
             simp only [c2] at hmid
             by_cases hq:(q.drop 8).drop 8 = []
             · right
               rw [hq] at hmid
               have hcp:Ev (fun k => uq.canO k ⟨2,[],m,wrap64 (bv (q.take 8)),wrap64 (bv ((q.drop 8).take 8)),0⟩) true:=⟨0,fun k _ => by rw [← i2];exact can_two k _ _ _ _ _⟩
               have hx:=ev_dec 2 _ _ hn _ _ (Ev.congr hmid (Ev.now _)) (out_can _ _ hcp)
               rw [if_pos rfl] at hx
               have hr2:r = mAll m ++ (u1u.put8 (wrap64 (bv (q.take 8))) ++ u1u.put8 (wrap64 (bv ((q.drop 8).take 8)))):=by
                unfold u1u.put8
                rw [u64_w64 _ v1.1 v1.2,u64_w64 _ v3.1 v3.2,put8_bv _ l1 hb1,put8_bv _ l3 hb3]
                have h5:q.take 8 ++ (q.drop 8).take 8 = q:=by
                 conv => rhs;rw [← List.take_append_drop 8 q,← List.take_append_drop 8 (q.drop 8),hq]
                 simp
                rw [h5]
                exact i1
               have hlr:=congrArg List.length hr2
               simp only [List.length_append] at hlr
               have he2:=enc2_ev m (wrap64 (bv (q.take 8))) (wrap64 (bv ((q.drop 8).take 8))) i2 (by
                simp only [List.length_append,List.length_cons,List.length_nil] at *
                omega) (by
                simp only [List.length_cons] at hl
                omega)
               rw [← hr2] at he2
               exact ⟨_,hx,he2,hcp⟩
             · left
               exact ⟨_,ev_dec 2 _ _ hn _ _ (Ev.congr hmid (Ev.now _)) (out_left _ _ hq),herr 5 (Ev.congr (fun k => by rw [if_neg (fun h9 => h9 rfl)];simp only [a1,c1];rfl) (fin_left _ _ _ _ _ _ _ hq))⟩
       · left
         have e1:(e != 0) = true:=by simp [he]
         rw [e1] at hmid
         simp only [num_bad] at hmid
         exact ⟨_,ev_dec 2 _ _ hn _ _ (Ev.congr hmid (Ev.now _)) (out_bad _ rfl),herr 5 (Ev.congr (fun k => by rw [if_pos he]) (Ev.now _))⟩
     · by_cases h3:c = 3
       · subst h3
         have hmid:∀ k,uq.mid k (wrap64 3) ⟨r,false⟩ = some (⟨3,[],[],0,0,wrap64 (ug.num 8 ⟨r,false⟩).1⟩,(ug.num 8 ⟨r,false⟩).2):=fun k => by
          rw [hm]
          unfold uq.mid
          rw [if_neg (by decide),if_neg (by decide),if_pos rfl]
         have herr:∀ k,u1k.err k (3 :: r) = match u1t.int 8 r with
          | none => some 5
          | some u => u1k.fin k 3 [] [] 0 0 u.1 u.2:=fun k => by
          rw [u1k.err_cons,if_neg (by decide),if_neg (by decide),if_pos rfl]
          rfl
         rcases num_int 8 r (by decide) hr with ⟨a1,a2⟩ | ⟨a0,a1,a2⟩
         · left
           exact ⟨_,ev_dec 3 _ _ hn _ _ (Ev.congr hmid (Ev.now _)) (out_bad _ a2),Ev.congr (fun k => by rw [herr k];simp only [a1]) (Ev.now _)⟩
         · have hb1:∀ y ∈ r.take 8,u2j y:=fun y hy => hr y (List.mem_of_mem_take hy)
           have l1:(r.take 8).length = 8:=by rw [List.length_take];omega
           have v1:=bv8_lt _ l1 hb1
           simp only [a2] at hmid
           by_cases hq:r.drop 8 = []
           · rw [hq] at hmid
             have hcp:Ev (fun k => uq.canO k ⟨3,[],[],0,0,wrap64 (bv (r.take 8))⟩) (decide (0 ≤ wrap64 (bv (r.take 8)) ∧ wrap64 (bv (r.take 8)) ≤ 4611686018427387904)):=⟨0,fun k _ => can_three k _ _ _ _ _⟩
             by_cases hk:0 ≤ wrap64 (bv (r.take 8)) ∧ wrap64 (bv (r.take 8)) ≤ 4611686018427387904
             · right
               rw [decide_eq_true hk] at hcp
               have hx:=ev_dec 3 _ _ hn _ _ (Ev.congr hmid (Ev.now _)) (out_can _ _ hcp)
               rw [if_pos rfl] at hx
               have he:=enc3_ev _ hk
               have hr2:u1u.put8 (wrap64 (bv (r.take 8))) = r:=by
                unfold u1u.put8
                rw [u64_w64 _ v1.1 v1.2,put8_bv _ l1 hb1]
                conv => rhs;rw [← List.take_append_drop 8 r,hq]
                simp
               rw [hr2] at he
               exact ⟨_,hx,he,hcp⟩
             · left
               rw [decide_eq_false hk] at hcp
               have hx:=ev_dec 3 _ _ hn _ _ (Ev.congr hmid (Ev.now _)) (out_can _ _ hcp)
               rw [if_neg (by intro h9;cases h9)] at hx
               refine ⟨_,hx,Ev.congr (fun k => by rw [herr k];simp only [a1,hq];rfl) (fin_can 3 [] [] 0 0 _ false ⟨0,fun k _ => ?_⟩)⟩
               show u2n.f k 3 [] [] 0 0 (wrap64 (bv (r.take 8))) = some false
               unfold u2n.f
               simp only
               rw [if_neg (show ¬ (3:Int) = 1 by decide),if_neg (show ¬ (3:Int) = 2 by decide),if_pos trivial]
               by_cases h0:wrap64 (bv (r.take 8)) ≥ 0
               · rw [if_pos h0,decide_eq_false (by omega)]
               · rw [if_neg h0]
           · left
             exact ⟨_,ev_dec 3 _ _ hn _ _ (Ev.congr hmid (Ev.now _)) (out_left _ _ hq),Ev.congr (fun k => by rw [herr k];simp only [a1];rfl) (fin_left _ _ _ _ _ _ _ hq)⟩
       · left
         have hmid:∀ k,uq.mid k (wrap64 c) ⟨r,false⟩ = some (⟨c,[],[],0,0,0⟩,⟨r,false⟩):=fun k => by
          rw [hm]
          unfold uq.mid
          rw [if_neg h1,if_neg h2,if_neg h3]
         have herr:Ev (fun k => u1k.err k (c :: r)) 5:=Ev.congr (fun k => by rw [u1k.err_cons,if_neg h1,if_neg h2,if_neg h3]) (Ev.now _)
         by_cases hq:r = []
         · subst hq
           have hcp:Ev (fun k => uq.canO k ⟨c,[],[],0,0,0⟩) false:=⟨0,fun k _ => can_no k c _ _ _ _ _ h1 h2 h3⟩
           have hx:=ev_dec c _ _ hn _ _ (Ev.congr hmid (Ev.now _)) (out_can _ _ hcp)
           rw [if_neg (by intro h9;cases h9)] at hx
           exact ⟨_,hx,herr⟩
         · exact ⟨_,ev_dec c _ _ hn _ _ (Ev.congr hmid (Ev.now _)) (out_left _ _ hq),herr⟩
theorem put_range (x:Int):∀ (n:Nat),∀ y ∈ u1b.put x n,u2j y
 | 0,y,h => by cases h
 | n + 1,y,h => by
   rcases List.mem_cons.1 h with rfl | h9
   · unfold u2j u1b.at
     exact ⟨Int.emod_nonneg _ (by decide),Int.emod_lt_of_pos _ (by decide)⟩
   · exact put_range x n y h9
theorem put_len (x:Int):∀ (n:Nat),(u1b.put x n).length = n
 | 0 => rfl
 | n + 1 => by
   show (u1b.put x n).length + 1 = n + 1
   rw [put_len x n]
theorem bv_put8 (x:Int) (h0:0 ≤ x) (h1:x < 18446744073709551616):bv (u1b.put x 8) = x:=by
 rw [u1b.put8]
 simp only [bv,List.foldl,bvS]
 omega
theorem num_put (n:Nat) (hn:n ≤ 8) (x:Int) (hx:bv (u1b.put x n) = x) (r:List Int) (hr:∀ y ∈ r,u2j y):ug.num n ⟨u1b.put x n ++ r,false⟩ = (x,⟨r,false⟩):=by
 have hb:∀ y ∈ u1b.put x n ++ r,u2j y:=fun y hy => by
  rcases List.mem_append.1 hy with h | h
  · exact put_range x n y h
  · exact hr y h
 rcases num_int n (u1b.put x n ++ r) hn hb with ⟨h1,h2⟩ | ⟨h0,h1,h2⟩
 · unfold u1t.int at h1
   rw [if_neg (by rw [List.length_append,put_len];omega)] at h1
   cases h1
 · rw [h2,List.take_left' (put_len x n),List.drop_left' (put_len x n),hx]
def I64 (x:Int):Prop:=-9223372036854775808 ≤ x ∧ x ≤ 9223372036854775807
def U64 (x:Int):Prop:=0 ≤ x ∧ x < 18446744073709551616
theorem u64_u (x:Int):U64 (IntKind.u64.wrap x):=by
 show 0 ≤ x % 18446744073709551616 ∧ x % 18446744073709551616 < 18446744073709551616
 omega
theorem w64_u64 (x:Int) (h:I64 x):wrap64 (IntKind.u64.wrap x) = x:=by
 show wrap64 (x % 18446744073709551616) = x
 unfold I64 at h
 unfold wrap64
 omega
theorem num_put8 (x:Int) (h:U64 x) (r:List Int) (hr:∀ y ∈ r,u2j y):ug.num 8 ⟨u1b.put x 8 ++ r,false⟩ = (x,⟨r,false⟩):=num_put 8 (by decide) x (bv_put8 x h.1 h.2) r hr
def MtWf (m:Mt):Prop:=0 ≤ m.f0 ∧ m.f0 < 256 ∧ m.f1.size < 256 ∧ m.f2.size < 256
theorem txt_piece (s:ByteArray) (r:List Int) (h:s.size < 256) (hr:∀ y ∈ r,u2j y):u1a.txt ⟨u1m.piece s ++ r,false⟩ = (s,⟨r,false⟩):=by
 have ho:=one_piece s r h
 rcases txt_one (u1m.piece s ++ r) (fun y hy => by
  rcases List.mem_append.1 hy with h | h
  · exact piece_range s y h
  · exact hr y h) with ⟨h1,_⟩ | ⟨s2,q,h1,h2⟩
 · rw [ho] at h1
   cases h1
 · rw [ho] at h1
   obtain ⟨rfl,rfl⟩:=Prod.mk.inj (Option.some.inj h1)
   exact h2
theorem mEnc_range (m:Mt):∀ y ∈ mEnc m,u2j y:=fun y hy => by
 unfold mEnc at hy
 rcases List.mem_cons.1 hy with rfl | h
 · unfold u2j
   omega
 · rcases List.mem_append.1 h with h | h
   · exact piece_range _ y h
   · exact piece_range _ y h
theorem mats_back:∀ (l:List Mt) (r:List Int) (acc:List Mt),(∀ m ∈ l,MtWf m) → (∀ y ∈ r,u2j y) → ux.mats l.length ⟨l.flatMap mEnc ++ r,false⟩ acc = (acc ++ l,⟨r,false⟩)
 | [],r,acc,_,_ => by simp [ux.mats]
 | m :: l,r,acc,hm,hr => by
   have hw:=hm m (List.mem_cons_self ..)
   have hb:∀ y ∈ l.flatMap mEnc ++ r,u2j y:=fun y hy => by
    rcases List.mem_append.1 hy with h | h
    · obtain ⟨x,_,h2⟩:=List.mem_flatMap.1 h
      exact mEnc_range x y h2
    · exact hr y h
   have hb2:∀ y ∈ u1m.piece m.f2 ++ (l.flatMap mEnc ++ r),u2j y:=fun y hy => by
    rcases List.mem_append.1 hy with h | h
    · exact piece_range _ y h
    · exact hb y h
   have e:(m :: l).flatMap mEnc ++ r = m.f0 :: (u1m.piece m.f1 ++ (u1m.piece m.f2 ++ (l.flatMap mEnc ++ r))):=by
    have:m.f0 % 256 = m.f0:=by unfold MtWf at hw;omega
    simp [mEnc,this]
   rw [e]
   have e2:ux.mats (m :: l).length ⟨m.f0 :: (u1m.piece m.f1 ++ (u1m.piece m.f2 ++ (l.flatMap mEnc ++ r))),false⟩ acc = ux.mats l.length (u1d.mat ⟨m.f0 :: (u1m.piece m.f1 ++ (u1m.piece m.f2 ++ (l.flatMap mEnc ++ r))),false⟩).2 (acc ++ [(u1d.mat ⟨m.f0 :: (u1m.piece m.f1 ++ (u1m.piece m.f2 ++ (l.flatMap mEnc ++ r))),false⟩).1]):=rfl
   rw [e2]
   have e3:u1d.mat ⟨m.f0 :: (u1m.piece m.f1 ++ (u1m.piece m.f2 ++ (l.flatMap mEnc ++ r))),false⟩ = (m,⟨l.flatMap mEnc ++ r,false⟩):=by
    unfold u1d.mat
    have e4:ul.byt ⟨m.f0 :: (u1m.piece m.f1 ++ (u1m.piece m.f2 ++ (l.flatMap mEnc ++ r))),false⟩ = (m.f0,⟨u1m.piece m.f1 ++ (u1m.piece m.f2 ++ (l.flatMap mEnc ++ r)),false⟩):=rfl
    simp only [e4,txt_piece _ _ hw.2.2.1 hb2,txt_piece _ _ hw.2.2.2 hb]
   rw [e3]
   simp only
   rw [mats_back l r (acc ++ [m]) (fun y hy => hm y (List.mem_cons_of_mem _ hy)) hr]
   simp
theorem okB_wf {m:Mt} (h:u1l.okB m = true):MtWf m ∧ m.f2.size ≤ 60 ∧ m.f1.size ≤ 24:=by
 unfold u1l.okB at h
 rw [← rcan_is] at h
 unfold rcanB at h
 rw [Bool.and_eq_true] at h
 have h1:=nameB_size h.1
 have h2:=h.2
 split at h2
 · rename_i hk
   rw [Bool.or_eq_true,decide_eq_true_eq] at h2
   have h3:m.f2.size ≤ 40:=by
    rcases h2 with h2 | h2
    · omega
    · exact (valueB_size h2).2
   exact ⟨⟨by omega,by omega,by omega,by omega⟩,by omega,by omega⟩
 · split at h2
   · rename_i hk
     rw [Bool.and_eq_true] at h2
     have h3:=h2.1
     unfold u2a.okB at h3
     rw [Bool.and_eq_true,Bool.not_eq_true'] at h3
     have h4:=h3.1
     unfold uz.early at h4
     rw [Bool.or_eq_false_iff,decide_eq_false_iff_not] at h4
     exact ⟨⟨by omega,by omega,by omega,by omega⟩,by omega,by omega⟩
   · cases h2
theorem canB_wf {l:List Mt} (h:u1l.CanB l = true):l.length ≤ 6 ∧ ∀ m ∈ l,MtWf m ∧ m.f2.size ≤ 60 ∧ m.f1.size ≤ 24:=by
 unfold u1l.CanB at h
 rw [Bool.and_eq_true,decide_eq_true_eq,List.all_eq_true] at h
 exact ⟨h.1,fun m hm => okB_wf (h.2 m hm)⟩
theorem mAll_len {l:List Mt} (h:u1l.CanB l = true):(mAll l).length ≤ 523:=by
 obtain ⟨h6,hw⟩:=canB_wf h
 have:∀ (l:List Mt),(∀ m ∈ l,MtWf m ∧ m.f2.size ≤ 60 ∧ m.f1.size ≤ 24) → (l.flatMap mEnc).length ≤ 87 * l.length:=fun l => by
  induction l with
  | nil => intro _;simp
  | cons x l ih =>
    intro h
    have h1:=h x (List.mem_cons_self ..)
    have h2:=ih (fun y hy => h y (List.mem_cons_of_mem _ hy))
    rw [List.flatMap_cons,List.length_append,List.length_cons]
    simp only [mEnc,u1m.piece,List.length_cons,List.length_append,u3p]
    omega
 have h3:=this l hw
 rw [mAll,List.length_cons]
 omega
theorem mAll_range (l:List Mt):∀ y ∈ mAll l,u2j y:=fun y hy => by
 unfold mAll at hy
 rcases List.mem_cons.1 hy with rfl | h
 · unfold u2j
   omega
 · obtain ⟨x,_,h2⟩:=List.mem_flatMap.1 h
   exact mEnc_range x y h2
theorem mdec_back (l:List Mt) (h:u1l.CanB l = true) (r:List Int) (hr:∀ y ∈ r,u2j y):ux.dec (mAll l ++ r) = (l,r,0):=by
 obtain ⟨h6,hw⟩:=canB_wf h
 have hn:(l.length:Int) % 256 = (l.length:Int):=by omega
 have hd:ux.dec (mAll l ++ r) = ux.out (ux.mats ((l.length:Int) % 256).toNat ⟨l.flatMap mEnc ++ r,false⟩ []):=rfl
 rw [hd,hn,Int.toNat_natCast,mats_back l r [] (fun m hm => (hw m hm).1) hr,List.nil_append,out_good,if_pos h]
def b1 (l:List Rw):List Int:=1 :: (u1b.put (l.length:Int) 2 ++ l.flatMap rEnc)
def b2 (m:List Mt) (x y:Int):List Int:=2 :: (mAll m ++ (u1u.put8 x ++ u1u.put8 y))
def b3 (x:Int):List Int:=3 :: u1u.put8 x
theorem byte_app {a r:List Int} (ha:∀ y ∈ a,u2j y) (hr:∀ y ∈ r,u2j y):∀ y ∈ a ++ r,u2j y:=fun y hy => by
 rcases List.mem_append.1 hy with h | h
 · exact ha y h
 · exact hr y h
theorem byte_cons {c:Int} {r:List Int} (hc:u2j c) (hr:∀ y ∈ r,u2j y):∀ y ∈ c :: r,u2j y:=fun y hy => by
 rcases List.mem_cons.1 hy with rfl | h
 · exact hc
 · exact hr y h
theorem one_byte {x:Int} (hx:u2j x):∀ y ∈ [x],u2j y:=fun y hy => by
 rcases List.mem_cons.1 hy with rfl | h
 · exact hx
 · cases h
end Go.Proofs.YtgnehcgaplnfkaaGreatDoor.Laws
namespace Go.Proofs.YtgnehcgaplnfkaaGreatDoor.PAll
open Go.RowKit Go.Proofs.YtgnehcgaplnfkaaGreatDoorW.PrintWords Go.Proofs.YtgnehcgaplnfkaaGreatDoorW.PrintLast Go.Proofs.YtgnehcgaplnfkaaGreatDoorW.PrintMore
attribute [local go_sem] u3r u3t u4c u4b u3n u3o u3u u3s
set_option linter.unusedVariables false
set_option linter.unusedSimpArgs false
def u2s.l0:Nat → List (S83) → List (S83) → Int → Int → Option (Bool)
 | 0,_,_,_,_ => none
 | k + 1,x0,x5,x6,x7 => if x7 < x6 then (if 0 ≤ x7 then (if x7 < (x5.length:Int) then ((u2m.f k ((u2t x5 x7).f0)).bind fun t161 => (if t161 = true then (if ((u2t x5 x7).f3) < 0 then (some false) else (if ((u2t x5 x7).f3) > 4611686018427387904 then (some false) else (u2s.l0 k x0 x5 x6 (wrap64 (x7 + 1))))) else (some false))) else (none)) else (none)) else (some (decide ((x0.length:Int) ≤ 10000)))
def u2s.f (k:Nat) (l0:List (S83)):Option (Bool):=u2s.l0 k l0 l0 (l0.length:Int) 0
set_option maxHeartbeats 8000000 in
set_option maxRecDepth 100000 in
theorem u2s.calls (k:Nat) (A0:Option Addr) (c0:Nat) (l0:List (S83)) (r:Bool) (w:World) (hr0:Kd.C k83 w A0 l0.length l0) (hc0:l0.length ≤ c0) (h:u2s.f k l0 = some r) :
 Calls Tryz.prog 44 #[.slice A0 l0.length c0] w fun e w' => e = .returned (.bool r) ∧ Below w.heap.size w w':=by
 have hu83:=Tryz.underlying83
 have HR0:=Aside0.mk hr0
 have HC0:=Aside0.mk hc0
 clear hr0 hc0
 have HB:=Aside0.mk (Below.refl w.heap.size w)
 have H:(u2s.l0 k l0 l0 (l0.length:Int) 0) = some r:=h
 clear h
 have H':=Aside0.mk H
 clear H
 go_enter Tryz.func44,Tryz.ntmps44
 go_wp2
 go_loopg [7] k (fun kq v7 w' => ∃ (x7_1:Int),v7 = .int .i64 x7_1 ∧ Aside0 (u2s.l0 kq l0 l0 (l0.length:Int) x7_1 = some r) ∧ Aside0 (kq ≤ k) ∧ Aside0 (Below w.heap.size w w'))
 case atStart => exact ⟨(0),(by first | rfl | (simp;done) | (simp [*];done)),H',⟨Nat.le_refl _⟩,⟨by repeat (first | (with_reducible first | exact HB.out | apply uj | apply uh | apply uu) | exact HB.out)⟩⟩
 case round =>
  clear H'
  obtain ⟨x7_1,rfl,HA,HK1,HB⟩:=hrel
  cases gk with
  | zero => exact absurd HA.out (by simp [u2s.l0])
  | succ k1 =>
    have H:=HA.out
    clear HA
    simp only [u2s.l0] at H
    by_cases c2:x7_1 < (l0.length:Int)
    · rw [if_pos c2] at H
      have c2b0:decide (x7_1 < (l0.length:Int)) = true:=decide_eq_true c2
      clear c2
      by_cases c3:0 ≤ x7_1
      · rw [if_pos c3] at H
        have c3b0:decide (0 ≤ x7_1) = true:=decide_eq_true c3
        clear c3
        by_cases c4:x7_1 < (l0.length:Int)
        · rw [if_pos c4] at H
          have c4b0:decide (x7_1 < (l0.length:Int)) = true:=decide_eq_true c4
          clear c4
          replace H:=Option.bind_eq_some_iff.mp H
          obtain ⟨t161,A50,H⟩:=H
          replace H:(if t161 = true then (if ((u2t l0 x7_1).f3) < 0 then (some false) else (if ((u2t l0 x7_1).f3) > 4611686018427387904 then (some false) else (u2s.l0 k1 l0 l0 (l0.length:Int) (wrap64 (x7_1 + 1))))) else (some false)) = some r:=H
          have A5:=Aside0.mk A50
          clear A50
          by_cases c6:t161 = true
          · subst c6
            have H1:(if ((u2t l0 x7_1).f3) < 0 then (some false) else (if ((u2t l0 x7_1).f3) > 4611686018427387904 then (some false) else (u2s.l0 k1 l0 l0 (l0.length:Int) (wrap64 (x7_1 + 1))))) = some r:=by rw [if_pos rfl] at H;exact H
            clear H
            have H:=H1
            clear H1
            by_cases c7:((u2t l0 x7_1).f3) < 0
            · rw [if_pos c7] at H
              have c7b0:decide (((u2t l0 x7_1).f3) < 0) = true:=decide_eq_true c7
              clear c7
              obtain rfl:=Option.some.inj H
              have p159:0 ≤ (x7_1:Int):=of_decide_eq_true (by first | (with_reducible assumption) | assumption)
              have q159:x7_1 < (l0.length:Int):=of_decide_eq_true (by first | (with_reducible assumption) | assumption)
              obtain ⟨ad159,A159_0,c159_0,e159,hx159_0,hx159_1,hx159_2,hx159_3,hl159_0,hi159_0⟩:=at_T83 HR0.out x7_1 p159 q159
              cases e159
              replace hx159_0:=(HB.out.cell (World.block_lt_of_cell? w _ hx159_0)).trans hx159_0
              replace hx159_1:=(HB.out.cell (World.block_lt_of_cell? w _ hx159_1)).trans hx159_1
              replace hx159_2:=(HB.out.cell (World.block_lt_of_cell? w _ hx159_2)).trans hx159_2
              replace hx159_3:=(HB.out.cell (World.block_lt_of_cell? w _ hx159_3)).trans hx159_3
              have HR159_0:=Aside0.mk hi159_0
              have HC159_0:=Aside0.mk hl159_0
              clear hi159_0 hl159_0
              replace p159:=eq_true p159
              replace q159:=eq_true q159
              go_wp2_with (first | ((with_reducible refine gate_dst (N:=4) rfl ?_);refine box_event ?hg (N:=4) ?hd (cs:=#[.slice none 0 0,.int .i64 0,.int .i64 0,.int .i64 0]) (t:=83) ?hr ?_;(case hd => rfl);(case hg => rfl);(case hr => first | (go_simp;done) | (go_simp;rfl));intro gb160 hg w8 hbox hb;have n0_:=Aside0.mk (u2o (by repeat (first | (with_reducible first | exact HB.out | apply uj | apply uh | apply uu) | exact HB.out)) hb);have n1_:=Aside0.mk (hbox);have n2_:=Aside0.mk ((by rw [hg];exact (u2k (by repeat (first | (with_reducible first | exact HB.out | apply uj | apply uh | apply uu) | exact HB.out))):w.heap.size ≤ gb160));have n3_:=Aside0.mk ((by rw [hg];exact (u2k (by repeat (first | (with_reducible first | exact HB.out | apply uj | apply uh | apply uu) | exact HB.out))):w.heap.size ≤ gb160));clear HB;have HB:=n0_;have BK160:=n1_;have GW160:=n2_;have GE160:=n3_;clear n0_ n1_ n2_ n3_;clear hb hbox hg;have hcz9_0:w8.cell? ⟨gb160,0,none⟩ = some (.slice none 0 0):=(uk BK160.out 0).trans rfl;have hcz9_1:w8.cell? ⟨gb160,1,none⟩ = some (.int .i64 0):=(uk BK160.out 1).trans rfl;have hcz9_2:w8.cell? ⟨gb160,2,none⟩ = some (.int .i64 0):=(uk BK160.out 2).trans rfl;have hcz9_3:w8.cell? ⟨gb160,3,none⟩ = some (.int .i64 0):=(uk BK160.out 3).trans rfl;have hfz9_0:=ut BK160.out 0;have hfz9_1:=ut BK160.out 1;have hfz9_2:=ut BK160.out 2;have hfz9_3:=ut BK160.out 3) | ((with_reducible refine u4h (f:=38) rfl ?_);refine goesL_ (some 13) rfl rfl Tryz.func38 (by kernel_rfl) rfl #[.slice A159_0 ((u2t l0 x7_1).f0).length c159_0] rfl (by (try simp only [List.map_toArray,List.map_cons,List.map_nil]);first | done | rfl | (simp only [List.length_drop,List.length_take];rfl)) ?_;(with_reducible refine (u2m.calls k1 _ _ ((u2t l0 x7_1).f0) true _ ?side1 ?side2 A5.out).mono ?_);(case side1 => exact Kd.C_below HR159_0.out (by repeat (first | (with_reducible first | exact HB.out | apply uj | apply uh | apply uu | refine u2r ?_ GE160.out) | exact HB.out)));(case side2 => exact HC159_0.out);rintro e w10 ⟨rfl,hb⟩;refine ⟨_,rfl,?_⟩;have n0_:=Aside0.mk (u1h (g:=gb160) (o:=.cells #[.slice A159_0 ((u2t l0 x7_1).f0).length c159_0,.int .i64 ((u2t l0 x7_1).f1),.int .i64 ((u2t l0 x7_1).f2),.int .i64 ((u2t l0 x7_1).f3)] 83 (0,0)) (by (with_reducible repeat (first | refine u2p ?_ _ | refine u2e ?_ | refine uo ?_ _));refine u4i (cs:=#[.slice A159_0 ((u2t l0 x7_1).f0).length c159_0,.int .i64 ((u2t l0 x7_1).f1),.int .i64 ((u2t l0 x7_1).f2),.int .i64 0]) ?_ 3 _ rfl;(with_reducible repeat (first | refine u2p ?_ _ | refine u2e ?_ | refine uo ?_ _));refine u4i (cs:=#[.slice A159_0 ((u2t l0 x7_1).f0).length c159_0,.int .i64 ((u2t l0 x7_1).f1),.int .i64 0,.int .i64 0]) ?_ 2 _ rfl;(with_reducible repeat (first | refine u2p ?_ _ | refine u2e ?_ | refine uo ?_ _));refine u4i (cs:=#[.slice A159_0 ((u2t l0 x7_1).f0).length c159_0,.int .i64 0,.int .i64 0,.int .i64 0]) ?_ 1 _ rfl;(with_reducible repeat (first | refine u2p ?_ _ | refine u2e ?_ | refine uo ?_ _));refine u4i (cs:=#[.slice none 0 0,.int .i64 0,.int .i64 0,.int .i64 0]) ?_ 0 _ rfl;(with_reducible repeat (first | refine u2p ?_ _ | refine u2e ?_ | refine uo ?_ _));exact BK160.out) hb);have n1_:=Aside0.mk (u2o (by repeat (first | (with_reducible first | exact HB.out | apply uj | apply uh | apply uu | refine u2r ?_ GE160.out) | exact HB.out)) hb);clear BK160;clear HB;have BK160:=n0_;have HB:=n1_;clear n0_ n1_;(try clear hb);(try clear hb2);(try clear hk);(try clear hi);have hcz11_0:w10.cell? ⟨gb160,0,none⟩ = some (.slice A159_0 ((u2t l0 x7_1).f0).length c159_0):=(uk BK160.out 0).trans rfl;have hcz11_1:w10.cell? ⟨gb160,1,none⟩ = some (.int .i64 ((u2t l0 x7_1).f1)):=(uk BK160.out 1).trans rfl;have hcz11_2:w10.cell? ⟨gb160,2,none⟩ = some (.int .i64 ((u2t l0 x7_1).f2)):=(uk BK160.out 2).trans rfl;have hcz11_3:w10.cell? ⟨gb160,3,none⟩ = some (.int .i64 ((u2t l0 x7_1).f3)):=(uk BK160.out 3).trans rfl;have hfz11_0:=ut BK160.out 0;have hfz11_1:=ut BK160.out 1;have hfz11_2:=ut BK160.out 2;have hfz11_3:=ut BK160.out 3))
              go_ret
              exact ⟨by first | rfl | (simp [u2x,u2w] <;> rfl) | (simp [*,u2x,u2w] <;> rfl),by repeat (first | (with_reducible first | exact HB.out | apply uj | apply uh | apply uu | refine u2r ?_ GE160.out) | exact HB.out)⟩
            · rw [if_neg c7] at H
              have c7b0:decide (((u2t l0 x7_1).f3) < 0) = false:=decide_eq_false c7
              clear c7
              by_cases c12:((u2t l0 x7_1).f3) > 4611686018427387904
              · rw [if_pos c12] at H
                have c12b0:decide (4611686018427387904 < ((u2t l0 x7_1).f3)) = true:=decide_eq_true c12
                clear c12
                obtain rfl:=Option.some.inj H
                have p159:0 ≤ (x7_1:Int):=of_decide_eq_true (by first | (with_reducible assumption) | assumption)
                have q159:x7_1 < (l0.length:Int):=of_decide_eq_true (by first | (with_reducible assumption) | assumption)
                obtain ⟨ad159,A159_0,c159_0,e159,hx159_0,hx159_1,hx159_2,hx159_3,hl159_0,hi159_0⟩:=at_T83 HR0.out x7_1 p159 q159
                cases e159
                replace hx159_0:=(HB.out.cell (World.block_lt_of_cell? w _ hx159_0)).trans hx159_0
                replace hx159_1:=(HB.out.cell (World.block_lt_of_cell? w _ hx159_1)).trans hx159_1
                replace hx159_2:=(HB.out.cell (World.block_lt_of_cell? w _ hx159_2)).trans hx159_2
                replace hx159_3:=(HB.out.cell (World.block_lt_of_cell? w _ hx159_3)).trans hx159_3
                have HR159_0:=Aside0.mk hi159_0
                have HC159_0:=Aside0.mk hl159_0
                clear hi159_0 hl159_0
                replace p159:=eq_true p159
                replace q159:=eq_true q159
                go_wp2_with (first | ((with_reducible refine gate_dst (N:=4) rfl ?_);refine box_event ?hg (N:=4) ?hd (cs:=#[.slice none 0 0,.int .i64 0,.int .i64 0,.int .i64 0]) (t:=83) ?hr ?_;(case hd => rfl);(case hg => rfl);(case hr => first | (go_simp;done) | (go_simp;rfl));intro gb160 hg w13 hbox hb;have n0_:=Aside0.mk (u2o (by repeat (first | (with_reducible first | exact HB.out | apply uj | apply uh | apply uu) | exact HB.out)) hb);have n1_:=Aside0.mk (hbox);have n2_:=Aside0.mk ((by rw [hg];exact (u2k (by repeat (first | (with_reducible first | exact HB.out | apply uj | apply uh | apply uu) | exact HB.out))):w.heap.size ≤ gb160));have n3_:=Aside0.mk ((by rw [hg];exact (u2k (by repeat (first | (with_reducible first | exact HB.out | apply uj | apply uh | apply uu) | exact HB.out))):w.heap.size ≤ gb160));clear HB;have HB:=n0_;have BK160:=n1_;have GW160:=n2_;have GE160:=n3_;clear n0_ n1_ n2_ n3_;clear hb hbox hg;have hcz14_0:w13.cell? ⟨gb160,0,none⟩ = some (.slice none 0 0):=(uk BK160.out 0).trans rfl;have hcz14_1:w13.cell? ⟨gb160,1,none⟩ = some (.int .i64 0):=(uk BK160.out 1).trans rfl;have hcz14_2:w13.cell? ⟨gb160,2,none⟩ = some (.int .i64 0):=(uk BK160.out 2).trans rfl;have hcz14_3:w13.cell? ⟨gb160,3,none⟩ = some (.int .i64 0):=(uk BK160.out 3).trans rfl;have hfz14_0:=ut BK160.out 0;have hfz14_1:=ut BK160.out 1;have hfz14_2:=ut BK160.out 2;have hfz14_3:=ut BK160.out 3) | ((with_reducible refine u4h (f:=38) rfl ?_);refine goesL_ (some 13) rfl rfl Tryz.func38 (by kernel_rfl) rfl #[.slice A159_0 ((u2t l0 x7_1).f0).length c159_0] rfl (by (try simp only [List.map_toArray,List.map_cons,List.map_nil]);first | done | rfl | (simp only [List.length_drop,List.length_take];rfl)) ?_;(with_reducible refine (u2m.calls k1 _ _ ((u2t l0 x7_1).f0) true _ ?side1 ?side2 A5.out).mono ?_);(case side1 => exact Kd.C_below HR159_0.out (by repeat (first | (with_reducible first | exact HB.out | apply uj | apply uh | apply uu | refine u2r ?_ GE160.out) | exact HB.out)));(case side2 => exact HC159_0.out);rintro e w15 ⟨rfl,hb⟩;refine ⟨_,rfl,?_⟩;have n0_:=Aside0.mk (u1h (g:=gb160) (o:=.cells #[.slice A159_0 ((u2t l0 x7_1).f0).length c159_0,.int .i64 ((u2t l0 x7_1).f1),.int .i64 ((u2t l0 x7_1).f2),.int .i64 ((u2t l0 x7_1).f3)] 83 (0,0)) (by (with_reducible repeat (first | refine u2p ?_ _ | refine u2e ?_ | refine uo ?_ _));refine u4i (cs:=#[.slice A159_0 ((u2t l0 x7_1).f0).length c159_0,.int .i64 ((u2t l0 x7_1).f1),.int .i64 ((u2t l0 x7_1).f2),.int .i64 0]) ?_ 3 _ rfl;(with_reducible repeat (first | refine u2p ?_ _ | refine u2e ?_ | refine uo ?_ _));refine u4i (cs:=#[.slice A159_0 ((u2t l0 x7_1).f0).length c159_0,.int .i64 ((u2t l0 x7_1).f1),.int .i64 0,.int .i64 0]) ?_ 2 _ rfl;(with_reducible repeat (first | refine u2p ?_ _ | refine u2e ?_ | refine uo ?_ _));refine u4i (cs:=#[.slice A159_0 ((u2t l0 x7_1).f0).length c159_0,.int .i64 0,.int .i64 0,.int .i64 0]) ?_ 1 _ rfl;(with_reducible repeat (first | refine u2p ?_ _ | refine u2e ?_ | refine uo ?_ _));refine u4i (cs:=#[.slice none 0 0,.int .i64 0,.int .i64 0,.int .i64 0]) ?_ 0 _ rfl;(with_reducible repeat (first | refine u2p ?_ _ | refine u2e ?_ | refine uo ?_ _));exact BK160.out) hb);have n1_:=Aside0.mk (u2o (by repeat (first | (with_reducible first | exact HB.out | apply uj | apply uh | apply uu | refine u2r ?_ GE160.out) | exact HB.out)) hb);clear BK160;clear HB;have BK160:=n0_;have HB:=n1_;clear n0_ n1_;(try clear hb);(try clear hb2);(try clear hk);(try clear hi);have hcz16_0:w15.cell? ⟨gb160,0,none⟩ = some (.slice A159_0 ((u2t l0 x7_1).f0).length c159_0):=(uk BK160.out 0).trans rfl;have hcz16_1:w15.cell? ⟨gb160,1,none⟩ = some (.int .i64 ((u2t l0 x7_1).f1)):=(uk BK160.out 1).trans rfl;have hcz16_2:w15.cell? ⟨gb160,2,none⟩ = some (.int .i64 ((u2t l0 x7_1).f2)):=(uk BK160.out 2).trans rfl;have hcz16_3:w15.cell? ⟨gb160,3,none⟩ = some (.int .i64 ((u2t l0 x7_1).f3)):=(uk BK160.out 3).trans rfl;have hfz16_0:=ut BK160.out 0;have hfz16_1:=ut BK160.out 1;have hfz16_2:=ut BK160.out 2;have hfz16_3:=ut BK160.out 3))
                go_ret
                exact ⟨by first | rfl | (simp [u2x,u2w] <;> rfl) | (simp [*,u2x,u2w] <;> rfl),by repeat (first | (with_reducible first | exact HB.out | apply uj | apply uh | apply uu | refine u2r ?_ GE160.out) | exact HB.out)⟩
              · rw [if_neg c12] at H
                have c12b0:decide (4611686018427387904 < ((u2t l0 x7_1).f3)) = false:=decide_eq_false c12
                clear c12
                have H':=Aside0.mk H
                clear H
                have p159:0 ≤ (x7_1:Int):=of_decide_eq_true (by first | (with_reducible assumption) | assumption)
                have q159:x7_1 < (l0.length:Int):=of_decide_eq_true (by first | (with_reducible assumption) | assumption)
                obtain ⟨ad159,A159_0,c159_0,e159,hx159_0,hx159_1,hx159_2,hx159_3,hl159_0,hi159_0⟩:=at_T83 HR0.out x7_1 p159 q159
                cases e159
                replace hx159_0:=(HB.out.cell (World.block_lt_of_cell? w _ hx159_0)).trans hx159_0
                replace hx159_1:=(HB.out.cell (World.block_lt_of_cell? w _ hx159_1)).trans hx159_1
                replace hx159_2:=(HB.out.cell (World.block_lt_of_cell? w _ hx159_2)).trans hx159_2
                replace hx159_3:=(HB.out.cell (World.block_lt_of_cell? w _ hx159_3)).trans hx159_3
                have HR159_0:=Aside0.mk hi159_0
                have HC159_0:=Aside0.mk hl159_0
                clear hi159_0 hl159_0
                replace p159:=eq_true p159
                replace q159:=eq_true q159
                go_wp2_with (first | ((with_reducible refine gate_dst (N:=4) rfl ?_);refine box_event ?hg (N:=4) ?hd (cs:=#[.slice none 0 0,.int .i64 0,.int .i64 0,.int .i64 0]) (t:=83) ?hr ?_;(case hd => rfl);(case hg => rfl);(case hr => first | (go_simp;done) | (go_simp;rfl));intro gb160 hg w17 hbox hb;have n0_:=Aside0.mk (u2o (by repeat (first | (with_reducible first | exact HB.out | apply uj | apply uh | apply uu) | exact HB.out)) hb);have n1_:=Aside0.mk (hbox);have n2_:=Aside0.mk ((by rw [hg];exact (u2k (by repeat (first | (with_reducible first | exact HB.out | apply uj | apply uh | apply uu) | exact HB.out))):w.heap.size ≤ gb160));have n3_:=Aside0.mk ((by rw [hg];exact (u2k (by repeat (first | (with_reducible first | exact HB.out | apply uj | apply uh | apply uu) | exact HB.out))):w.heap.size ≤ gb160));clear HB;have HB:=n0_;have BK160:=n1_;have GW160:=n2_;have GE160:=n3_;clear n0_ n1_ n2_ n3_;clear hb hbox hg;have hcz18_0:w17.cell? ⟨gb160,0,none⟩ = some (.slice none 0 0):=(uk BK160.out 0).trans rfl;have hcz18_1:w17.cell? ⟨gb160,1,none⟩ = some (.int .i64 0):=(uk BK160.out 1).trans rfl;have hcz18_2:w17.cell? ⟨gb160,2,none⟩ = some (.int .i64 0):=(uk BK160.out 2).trans rfl;have hcz18_3:w17.cell? ⟨gb160,3,none⟩ = some (.int .i64 0):=(uk BK160.out 3).trans rfl;have hfz18_0:=ut BK160.out 0;have hfz18_1:=ut BK160.out 1;have hfz18_2:=ut BK160.out 2;have hfz18_3:=ut BK160.out 3) | ((with_reducible refine u4h (f:=38) rfl ?_);refine goesL_ (some 13) rfl rfl Tryz.func38 (by kernel_rfl) rfl #[.slice A159_0 ((u2t l0 x7_1).f0).length c159_0] rfl (by (try simp only [List.map_toArray,List.map_cons,List.map_nil]);first | done | rfl | (simp only [List.length_drop,List.length_take];rfl)) ?_;(with_reducible refine (u2m.calls k1 _ _ ((u2t l0 x7_1).f0) true _ ?side1 ?side2 A5.out).mono ?_);(case side1 => exact Kd.C_below HR159_0.out (by repeat (first | (with_reducible first | exact HB.out | apply uj | apply uh | apply uu | refine u2r ?_ GE160.out) | exact HB.out)));(case side2 => exact HC159_0.out);rintro e w19 ⟨rfl,hb⟩;refine ⟨_,rfl,?_⟩;have n0_:=Aside0.mk (u1h (g:=gb160) (o:=.cells #[.slice A159_0 ((u2t l0 x7_1).f0).length c159_0,.int .i64 ((u2t l0 x7_1).f1),.int .i64 ((u2t l0 x7_1).f2),.int .i64 ((u2t l0 x7_1).f3)] 83 (0,0)) (by (with_reducible repeat (first | refine u2p ?_ _ | refine u2e ?_ | refine uo ?_ _));refine u4i (cs:=#[.slice A159_0 ((u2t l0 x7_1).f0).length c159_0,.int .i64 ((u2t l0 x7_1).f1),.int .i64 ((u2t l0 x7_1).f2),.int .i64 0]) ?_ 3 _ rfl;(with_reducible repeat (first | refine u2p ?_ _ | refine u2e ?_ | refine uo ?_ _));refine u4i (cs:=#[.slice A159_0 ((u2t l0 x7_1).f0).length c159_0,.int .i64 ((u2t l0 x7_1).f1),.int .i64 0,.int .i64 0]) ?_ 2 _ rfl;(with_reducible repeat (first | refine u2p ?_ _ | refine u2e ?_ | refine uo ?_ _));refine u4i (cs:=#[.slice A159_0 ((u2t l0 x7_1).f0).length c159_0,.int .i64 0,.int .i64 0,.int .i64 0]) ?_ 1 _ rfl;(with_reducible repeat (first | refine u2p ?_ _ | refine u2e ?_ | refine uo ?_ _));refine u4i (cs:=#[.slice none 0 0,.int .i64 0,.int .i64 0,.int .i64 0]) ?_ 0 _ rfl;(with_reducible repeat (first | refine u2p ?_ _ | refine u2e ?_ | refine uo ?_ _));exact BK160.out) hb);have n1_:=Aside0.mk (u2o (by repeat (first | (with_reducible first | exact HB.out | apply uj | apply uh | apply uu | refine u2r ?_ GE160.out) | exact HB.out)) hb);clear BK160;clear HB;have BK160:=n0_;have HB:=n1_;clear n0_ n1_;(try clear hb);(try clear hb2);(try clear hk);(try clear hi);have hcz20_0:w19.cell? ⟨gb160,0,none⟩ = some (.slice A159_0 ((u2t l0 x7_1).f0).length c159_0):=(uk BK160.out 0).trans rfl;have hcz20_1:w19.cell? ⟨gb160,1,none⟩ = some (.int .i64 ((u2t l0 x7_1).f1)):=(uk BK160.out 1).trans rfl;have hcz20_2:w19.cell? ⟨gb160,2,none⟩ = some (.int .i64 ((u2t l0 x7_1).f2)):=(uk BK160.out 2).trans rfl;have hcz20_3:w19.cell? ⟨gb160,3,none⟩ = some (.int .i64 ((u2t l0 x7_1).f3)):=(uk BK160.out 3).trans rfl;have hfz20_0:=ut BK160.out 0;have hfz20_1:=ut BK160.out 1;have hfz20_2:=ut BK160.out 2;have hfz20_3:=ut BK160.out 3))
                go_roundg k1
                case measure => have:=HK1.out;omega
                case rel => exact ⟨(wrap64 (x7_1 + 1)),(by first | rfl | (simp;done) | (simp [*];done)),H',⟨by have:=HK1.out;omega⟩,⟨by repeat (first | (with_reducible first | exact HB.out | apply uj | apply uh | apply uu | refine u2r ?_ GE160.out) | exact HB.out)⟩⟩
          · replace c6:=Bool.eq_false_iff.mpr c6
            subst c6
            have H1:(some false) = some r:=by rw [if_neg (show ¬ (false = true) by decide)] at H;exact H
            clear H
            have H:=H1
            clear H1
            obtain rfl:=Option.some.inj H
            have p159:0 ≤ (x7_1:Int):=of_decide_eq_true (by first | (with_reducible assumption) | assumption)
            have q159:x7_1 < (l0.length:Int):=of_decide_eq_true (by first | (with_reducible assumption) | assumption)
            obtain ⟨ad159,A159_0,c159_0,e159,hx159_0,hx159_1,hx159_2,hx159_3,hl159_0,hi159_0⟩:=at_T83 HR0.out x7_1 p159 q159
            cases e159
            replace hx159_0:=(HB.out.cell (World.block_lt_of_cell? w _ hx159_0)).trans hx159_0
            replace hx159_1:=(HB.out.cell (World.block_lt_of_cell? w _ hx159_1)).trans hx159_1
            replace hx159_2:=(HB.out.cell (World.block_lt_of_cell? w _ hx159_2)).trans hx159_2
            replace hx159_3:=(HB.out.cell (World.block_lt_of_cell? w _ hx159_3)).trans hx159_3
            have HR159_0:=Aside0.mk hi159_0
            have HC159_0:=Aside0.mk hl159_0
            clear hi159_0 hl159_0
            replace p159:=eq_true p159
            replace q159:=eq_true q159
            go_wp2_with (first | ((with_reducible refine gate_dst (N:=4) rfl ?_);refine box_event ?hg (N:=4) ?hd (cs:=#[.slice none 0 0,.int .i64 0,.int .i64 0,.int .i64 0]) (t:=83) ?hr ?_;(case hd => rfl);(case hg => rfl);(case hr => first | (go_simp;done) | (go_simp;rfl));intro gb160 hg w21 hbox hb;have n0_:=Aside0.mk (u2o (by repeat (first | (with_reducible first | exact HB.out | apply uj | apply uh | apply uu) | exact HB.out)) hb);have n1_:=Aside0.mk (hbox);have n2_:=Aside0.mk ((by rw [hg];exact (u2k (by repeat (first | (with_reducible first | exact HB.out | apply uj | apply uh | apply uu) | exact HB.out))):w.heap.size ≤ gb160));have n3_:=Aside0.mk ((by rw [hg];exact (u2k (by repeat (first | (with_reducible first | exact HB.out | apply uj | apply uh | apply uu) | exact HB.out))):w.heap.size ≤ gb160));clear HB;have HB:=n0_;have BK160:=n1_;have GW160:=n2_;have GE160:=n3_;clear n0_ n1_ n2_ n3_;clear hb hbox hg;have hcz22_0:w21.cell? ⟨gb160,0,none⟩ = some (.slice none 0 0):=(uk BK160.out 0).trans rfl;have hcz22_1:w21.cell? ⟨gb160,1,none⟩ = some (.int .i64 0):=(uk BK160.out 1).trans rfl;have hcz22_2:w21.cell? ⟨gb160,2,none⟩ = some (.int .i64 0):=(uk BK160.out 2).trans rfl;have hcz22_3:w21.cell? ⟨gb160,3,none⟩ = some (.int .i64 0):=(uk BK160.out 3).trans rfl;have hfz22_0:=ut BK160.out 0;have hfz22_1:=ut BK160.out 1;have hfz22_2:=ut BK160.out 2;have hfz22_3:=ut BK160.out 3) | ((with_reducible refine u4h (f:=38) rfl ?_);refine goesL_ (some 13) rfl rfl Tryz.func38 (by kernel_rfl) rfl #[.slice A159_0 ((u2t l0 x7_1).f0).length c159_0] rfl (by (try simp only [List.map_toArray,List.map_cons,List.map_nil]);first | done | rfl | (simp only [List.length_drop,List.length_take];rfl)) ?_;(with_reducible refine (u2m.calls k1 _ _ ((u2t l0 x7_1).f0) false _ ?side1 ?side2 A5.out).mono ?_);(case side1 => exact Kd.C_below HR159_0.out (by repeat (first | (with_reducible first | exact HB.out | apply uj | apply uh | apply uu | refine u2r ?_ GE160.out) | exact HB.out)));(case side2 => exact HC159_0.out);rintro e w23 ⟨rfl,hb⟩;refine ⟨_,rfl,?_⟩;have n0_:=Aside0.mk (u1h (g:=gb160) (o:=.cells #[.slice A159_0 ((u2t l0 x7_1).f0).length c159_0,.int .i64 ((u2t l0 x7_1).f1),.int .i64 ((u2t l0 x7_1).f2),.int .i64 ((u2t l0 x7_1).f3)] 83 (0,0)) (by (with_reducible repeat (first | refine u2p ?_ _ | refine u2e ?_ | refine uo ?_ _));refine u4i (cs:=#[.slice A159_0 ((u2t l0 x7_1).f0).length c159_0,.int .i64 ((u2t l0 x7_1).f1),.int .i64 ((u2t l0 x7_1).f2),.int .i64 0]) ?_ 3 _ rfl;(with_reducible repeat (first | refine u2p ?_ _ | refine u2e ?_ | refine uo ?_ _));refine u4i (cs:=#[.slice A159_0 ((u2t l0 x7_1).f0).length c159_0,.int .i64 ((u2t l0 x7_1).f1),.int .i64 0,.int .i64 0]) ?_ 2 _ rfl;(with_reducible repeat (first | refine u2p ?_ _ | refine u2e ?_ | refine uo ?_ _));refine u4i (cs:=#[.slice A159_0 ((u2t l0 x7_1).f0).length c159_0,.int .i64 0,.int .i64 0,.int .i64 0]) ?_ 1 _ rfl;(with_reducible repeat (first | refine u2p ?_ _ | refine u2e ?_ | refine uo ?_ _));refine u4i (cs:=#[.slice none 0 0,.int .i64 0,.int .i64 0,.int .i64 0]) ?_ 0 _ rfl;(with_reducible repeat (first | refine u2p ?_ _ | refine u2e ?_ | refine uo ?_ _));exact BK160.out) hb);have n1_:=Aside0.mk (u2o (by repeat (first | (with_reducible first | exact HB.out | apply uj | apply uh | apply uu | refine u2r ?_ GE160.out) | exact HB.out)) hb);clear BK160;clear HB;have BK160:=n0_;have HB:=n1_;clear n0_ n1_;(try clear hb);(try clear hb2);(try clear hk);(try clear hi)))
            go_ret
            exact ⟨by first | rfl | (simp [u2x,u2w] <;> rfl) | (simp [*,u2x,u2w] <;> rfl),by repeat (first | (with_reducible first | exact HB.out | apply uj | apply uh | apply uu | refine u2r ?_ GE160.out) | exact HB.out)⟩
        · rw [if_neg c4] at H
          exact absurd H (by simp)
      · rw [if_neg c3] at H
        exact absurd H (by simp)
    · rw [if_neg c2] at H
      have c2b0:decide (x7_1 < (l0.length:Int)) = false:=decide_eq_false c2
      clear c2
      obtain rfl:=Option.some.inj H
      go_wp2
      go_ret
      exact ⟨by first | rfl | (simp [u2x,u2w] <;> rfl) | (simp [*,u2x,u2w] <;> rfl),by repeat (first | (with_reducible first | exact HB.out | apply uj | apply uh | apply uu) | exact HB.out)⟩
set_option maxHeartbeats 2000000 in
theorem dryrotref14_Encode.calls_bad (k:Nat) (A0:Option Addr) (c0:Nat) (l0:List S83) (A1:Option Addr) (c1:Nat) (l1:List S48) (w:World) (hr0:Kd.C k83 w A0 l0.length l0) (hc0:l0.length ≤ c0) (hr1:Kd.C k48 w A1 l1.length l1) (hc1:l1.length ≤ c1)
 (h:u2s.f k l0 = some false ∨ (u2s.f k l0 = some true ∧ u2h.f k l1 = some false)) :
 Calls Tryz.prog 17 #[.slice A0 l0.length c0,.slice A1 l1.length c1] w fun e w' => e = .returned (.tuple #[.slice none 0 0,.int .i64 1]) ∧ Below w.heap.size w w':=by
 have HR0:=Aside0.mk hr0
 have HR1:=Aside0.mk hr1
 have HC0:=Aside0.mk hc0
 have HC1:=Aside0.mk hc1
 clear hr0 hr1 hc0 hc1
 rcases h with h | ⟨h,h2⟩
 · have H:=Aside0.mk h
   clear h
   go_enter Tryz.func17,Tryz.ntmps17
   go_wp2_with (go_at_call 44;(with_reducible refine (u2s.calls k A0 c0 l0 false _ HR0.out HC0.out H.out).mono ?_);rintro e W1 ⟨rfl,hB1⟩;have HB1:=Aside0.mk hB1;clear hB1)
   go_ret2
   exact ⟨rfl,HB1.out⟩
 · have H:=Aside0.mk h
   have H2:=Aside0.mk h2
   clear h h2
   go_enter Tryz.func17,Tryz.ntmps17
   go_wp2_with (first
    | (go_at_call 44;(with_reducible refine (u2s.calls k A0 c0 l0 true _ HR0.out HC0.out H.out).mono ?_);rintro e W1 ⟨rfl,hB1⟩;have HB1:=Aside0.mk hB1;clear hB1)
    | (go_at_call 45;(with_reducible refine (u2h.calls k A1 c1 l1 false _ (Kd.C_below HR1.out HB1.out) HC1.out H2.out).mono ?_);rintro e W2 ⟨rfl,hB2⟩;have HB2:=Aside0.mk (u1c HB1.out HB1.out.size hB2);clear hB2))
   go_ret2
   exact ⟨rfl,HB2.out⟩
section
variable {P:Program} {ops:Array Oper} {Q:Exit → Act → World → Prop} {md:Region.Mode} {S:World → Prop} {ds:List Nat}
theorem ur.twoO_ {n i j fuel:Nat} {ord:List (Nat × Nat)} {dn:List Nat} {Ni Nj:Option Tmp} {oi oj:Oper} {a:Act} {w:World} (hNi:oi.dst = Ni) (hNj:oj.dst = Nj) (hi:ops[i]? = some oi) (hj:ops[j]? = some oj) (hc:(Region.ready md ops (marks n dn) == [i,j]) = true) (hdi:i ∉ ds) (hdj:j ∉ ds)
 (h1:∀ K:Act → World → Prop,Shut (∀ a' w',S w' → (S w' → wpO P md ops Q S ds n ord (i :: dn) fuel a' w') → K a' w') → if Region.wanted oi (yielded ops a.tmps) = true then Oper.wp P oi a w K Q else K (a.put Ni undef) w)
 (h2:∀ K:Act → World → Prop,Shut (∀ a' w',S w' → (S w' → wpO P md ops Q S ds n ord (j :: dn) fuel a' w') → K a' w') → if Region.wanted oj (yielded ops a.tmps) = true then Oper.wp P oj a w K Q else K (a.put Nj undef) w) :
 wpO P md ops Q S ds n ord dn (fuel + 1) a w :=
 two_ (marks n (i :: dn)) (marks n (j :: dn)) hi hj hNi hNj (by simp only [Bool.and_eq_true];exact ⟨⟨hc,by simp [marks]⟩,by simp [marks]⟩) hdi hdj h1 h2
theorem ur.threeO_ {n i j k fuel:Nat} {ord:List (Nat × Nat)} {dn:List Nat} {Ni Nj Nk:Option Tmp} {oi oj ok:Oper} {a:Act} {w:World} (hNi:oi.dst = Ni) (hNj:oj.dst = Nj) (hNk:ok.dst = Nk) (hi:ops[i]? = some oi) (hj:ops[j]? = some oj) (hk:ops[k]? = some ok) (hc:(Region.ready md ops (marks n dn) == [i,j,k]) = true) (hdi:i ∉ ds) (hdj:j ∉ ds) (hdk:k ∉ ds)
 (h1:∀ K:Act → World → Prop,Shut (∀ a' w',S w' → (S w' → wpO P md ops Q S ds n ord (i :: dn) fuel a' w') → K a' w') → if Region.wanted oi (yielded ops a.tmps) = true then Oper.wp P oi a w K Q else K (a.put Ni undef) w)
 (h2:∀ K:Act → World → Prop,Shut (∀ a' w',S w' → (S w' → wpO P md ops Q S ds n ord (j :: dn) fuel a' w') → K a' w') → if Region.wanted oj (yielded ops a.tmps) = true then Oper.wp P oj a w K Q else K (a.put Nj undef) w)
 (h3:∀ K:Act → World → Prop,Shut (∀ a' w',S w' → (S w' → wpO P md ops Q S ds n ord (k :: dn) fuel a' w') → K a' w') → if Region.wanted ok (yielded ops a.tmps) = true then Oper.wp P ok a w K Q else K (a.put Nk undef) w) :
 wpO P md ops Q S ds n ord dn (fuel + 1) a w :=
 three_ (marks n (i :: dn)) (marks n (j :: dn)) (marks n (k :: dn)) hi hj hk hNi hNj hNk (by simp only [Bool.and_eq_true];exact ⟨⟨⟨hc,by simp [marks]⟩,by simp [marks]⟩,by simp [marks]⟩) hdi hdj hdk h1 h2 h3
theorem ur.oneP_ {n i fuel:Nat} {ord:List (Nat × Nat)} {dn:List Nat} {N:Option Tmp} {oi:Oper} {a:Act} {w:World} (hN:oi.dst = N) (hi:ops[i]? = some oi) (hc:(Region.ready md ops (marks n dn) == [i]) = true) (hd:i ∉ ds)
 (h:∀ K:Act → World → Prop,Shut (∀ a' w',S w' → (S w' → wpO P md ops Q S ds n ord (i :: dn) fuel a' w') → K a' w') → if Region.wanted oi (yielded ops a.tmps) = true then Oper.wp P oi a w K Q else K (a.put N undef) w) :
 wpO P md ops Q S ds n ord dn (fuel + 1) a w :=
 one_ (marks n (i :: dn)) hi hN (by unfold readyB;rw [Bool.and_eq_true];exact ⟨hc,by simp [marks]⟩) hd h
theorem ur.joinO_ {σ:Type} {n fuel:Nat} {ord ord':List (Nat × Nat)} {dn:List Nat} {a:Act} {w:World} (fuel':Nat) (dn':List Nat) (ns:σ → List (Tmp × Value)) (F:σ → World → Prop)
 (hcont:∀ s w',F s w' → wpO P md ops Q S ds n ord' dn' fuel' (putAll a (ns s)) w')
 (h:(∀ s w',F s w' → wpO P md ops Q S ds n ord' dn' fuel' (putAll a (ns s)) w') → wpO P md ops Q S ds n ord dn fuel a w):wpO P md ops Q S ds n ord dn fuel a w:=h hcont
theorem ur.permO_ {n fuel:Nat} {ord ord':List (Nat × Nat)} {dn:List Nat} {a:Act} {w:World} (dn':List Nat) (hd:marks n dn' = marks n dn) (h:wpO P md ops Q S ds n ord' dn' fuel a w):wpO P md ops Q S ds n ord dn fuel a w:=by
 unfold wpO at h ⊢
 rw [← hd]
 exact h
end
abbrev ur.Dl:=S83
abbrev ur.Sp:=S48
def ur.put8 (n:Int):List Int:=u1b.put (IntKind.u64.wrap n) 8
def ur.gB (mb:List Int) (x:ur.Dl):List Int:=mb ++ (ur.put8 x.f1 ++ (ur.put8 x.f2 ++ ur.put8 x.f3))
def ur.sB (x:ur.Sp):List Int:=((x.f0.size:Int) % 256) :: (u3d x.f0 ++ u1b.put (IntKind.u64.wrap x.f1) 4)
theorem ur.put_at (n:Int) (w:World):Calls Tryz.prog 28 #[.int .u64 n,.int .i64 8] w fun e w' => ∃ A c,e = .returned (.slice A 8 c) ∧ Kd.R (Kd.int .u8) 5 w' w.heap.size (fun _ => True) (.slice A 8 c) (u1b.put n 8) ∧ Below w.heap.size w w':=by
 refine (u1b.calls8 n w).mono ?_
 rintro e w' ⟨v,rfl,hR,hB⟩
 obtain ⟨A,c,e⟩:=Kd.R_slice hR
 subst e
 exact ⟨A,c,rfl,hR,hB⟩
theorem ur.put4_at (n:Int) (w:World):Calls Tryz.prog 28 #[.int .u64 n,.int .i64 4] w fun e w' => ∃ A c,e = .returned (.slice A 4 c) ∧ Kd.R (Kd.int .u8) 5 w' w.heap.size (fun _ => True) (.slice A 4 c) (u1b.put n 4) ∧ Below w.heap.size w w':=by
 refine (u1b.calls4 n w).mono ?_
 rintro e w' ⟨v,rfl,hR,hB⟩
 obtain ⟨A,c,e⟩:=Kd.R_slice hR
 subst e
 exact ⟨A,c,rfl,hR,hB⟩
def ur.Pt (W:World) (v:Value) (x:List Int):Prop:=∃ A c,v = .slice A x.length c ∧ x.length ≤ c ∧ Kd.C (Kd.int .u8) W A x.length x
theorem ur.Pt_below {W W':World} {v:Value} {x:List Int} (h:ur.Pt W v x) (hb:Below W.heap.size W W'):ur.Pt W' v x:=by
 obtain ⟨A,c,e,h1,h2⟩:=h
 exact ⟨A,c,e,h1,Kd.C_below h2 hb⟩
theorem ur.Pt_of {W:World} {b:Nat} {v:Value} {x:List Int} (h:Kd.R (Kd.int .u8) 5 W b (fun _ => True) v x):ur.Pt W v x:=by
 obtain ⟨A,c,e⟩:=Kd.R_slice h
 subst e
 exact ⟨A,c,rfl,(Kd.R_reads' h).2.1,(Kd.R_reads' h).2.2⟩
theorem ur.Pt_lit (W:World) (y:Int):ur.Pt (W.alloc (.cells #[.int .u8 y] 5)) (.slice (some ⟨W.heap.size,0,none⟩) 1 1) [y] :=
 ur.Pt_of (b:=W.heap.size) (Kd.R_of_own (own_lit W W.heap.size 5 .u8 [y] (Nat.le_refl _) (by simp)) (fun _ _ => trivial))
theorem ur.Pt_bytes (W:World) (s:ByteArray) (hs:s.size ≤ 1000000):ur.Pt (Lib.bytesWorld W 5 s) (.slice (some ⟨W.heap.size,0,none⟩) s.size (grownCap W s.size 0 5)) (u3d s):=by
 refine ⟨some ⟨W.heap.size,0,none⟩,grownCap W s.size 0 5,by rw [u3p],by rw [u3p];exact grownCap_ge _ _ _ _,?_⟩
 rw [u3p]
 exact Kd.C_of_reads (d:=(0:Int)) (h1:=fun _ => rfl) (bytes_reads W 5 s (by omega))
theorem ur.cat (W:World) (base:Nat) (l:List (Value × List Int)) (hb:base ≤ W.heap.size) (h:∀ p ∈ l,ur.Pt W p.1 p.2) (n:Nat) (hn:l.length = n) (hs:n ≤ 100) (hl:(l.flatMap (·.2)).length ≤ 140737488355328) (cs:Array Value) (hc:cs = (l.map (·.1)).toArray) :
 Calls Tryz.prog 30 #[.slice (some ⟨W.heap.size,0,none⟩) n n] (W.alloc (.cells cs 22)) fun e w' => ∃ v,e = .returned v ∧ Kd.R (Kd.int .u8) 5 w' base (fun _ => True) v (l.flatMap (·.2)) ∧ Below (W.heap.size + 1) (W.alloc (.cells cs 22)) w':=by
 subst hn hc
 refine (uy.callsG W.heap.size l _ (u3l W _) ?_ (by omega) hl).mono ?_
 · intro p hm
   obtain ⟨A,c,e,h1,h2⟩:=h p hm
   exact ⟨A,c,e,h1,Kd.C_alloc h2 _⟩
 · rintro e w' ⟨v,rfl,hR,hB⟩
   exact ⟨v,rfl,Kd.R_lower (by exact hR) (Nat.le_trans hb (by simp)),by simpa using hB⟩
set_option maxHeartbeats 8000000 in
set_option maxRecDepth 10000 in
theorem ur.calls_g (k:Nat) (x:ur.Dl) (A:Option Addr) (c:Nat) (mb:List Int) (e9:Int) (w:World) (hx:x.f0.length ≤ c) (gx:Kd.C k79 w A x.f0.length x.f0) (hG:strings_ToValidUTF8.Gd w) (hM:u2z.f k x.f0 = some (mb,e9)) (hl:(ur.gB mb x).length ≤ 140737488355328) :
 Calls Tryz.prog 43 #[.iface 86 (.agg #[.slice A x.f0.length c,.int .i64 x.f1,.int .i64 x.f2,.int .i64 x.f3])] w fun e w' => ∃ v,e = .returned v ∧ Kd.R (Kd.int .u8) 5 w' w.heap.size (fun _ => True) v (ur.gB mb x) ∧ Below w.heap.size w w':=by
 have hta:∀ (W:World) (v:Value),(Instr.typeAssert (.iface 86 v) 127 86 true).run Tryz.prog W = .ok (.tuple #[v,.bool true]) W:=fun W v => by kernel_rfl
 obtain ⟨W0,hW0⟩:∃ W0,Aside0 (w.alloc (.cells #[.slice A x.f0.length c,.int .i64 x.f1,.int .i64 x.f2,.int .i64 x.f3] 86) = W0):=⟨_,⟨rfl⟩⟩
 have hb0:Below w.heap.size w W0:=by rw [← hW0.out];exact uj (Below.refl _ _) _
 have HX:Aside0 (W0.heap[w.heap.size]? = some (.cells #[.slice A x.f0.length c,.int .i64 x.f1,.int .i64 x.f2,.int .i64 x.f3] 86 (0,0))):=⟨by rw [← hW0.out];exact u3l _ _⟩
 have HB0:=Aside0.mk hb0
 have GX:=Aside0.mk (Kd.C_below gx hb0)
 have HC:=Aside0.mk hx
 have HG:=Aside0.mk (hG.below hb0)
 have HME:=Aside0.mk hM
 have HL:=Aside0.mk hl
 clear gx hx hG hM hl hb0
 go_enter Tryz.func43,Tryz.ntmps43
 go_wp2_with (go_at_call 32;rw [hW0.out];(with_reducible refine (u2z.calls k A c x.f0 mb e9 W0 GX.out HC.out HG.out HME.out).mono ?_);rintro e W2 ⟨vm,rfl,hRm,hB2⟩;have HX2:=Aside0.mk (u1h HX.out hB2);have HZ:=Aside0.mk (u1c HB0.out HB0.out.size hB2);have HM2:=Aside0.mk (Kd.R_lower hRm HB0.out.size);clear hRm hB2)
 obtain ⟨Am,cm,em⟩:=Kd.R_slice HM2.out
 subst em
 have HD0:=Aside0.mk (u2e HX2.out)
 have HZ0:=Aside0.mk (uu HZ.out)
 have HM19:=Aside0.mk (Kd.R_drew HM2.out)
 refine startO_ (n:=19) (S:=fun w' => w'.heap[w.heap.size]? = some (.cells #[.slice A x.f0.length c,.int .i64 x.f1,.int .i64 x.f2,.int .i64 x.f3] 86 (0,0))) (ds:=[]) [(0,21),(1,22),(6,27),(11,32),(2,23),(7,28),(12,33),(3,24),(8,29),(13,34),(4,25),(9,30),(14,35),(5,0),(10,0),(15,0),(16,0),(17,0),(18,2)] (by kernel_rfl) rfl HD0.out (fun hHeld => ?_)
 iterate 7 (refine hd_ (v:=?_) (a':=?_) rfl rfl (by kernel_rfl) (Or.inl ⟨by kernel_rfl,?_⟩) ?_ ?_;rotate_left;(intro w';go_simp;with_reducible rfl);rotate_left;(simp only [Act.put,List.setIfInBounds_toArray,List.set_cons_zero,List.set_cons_succ,i64_w,i32_w];rfl))
 refine hdS_ (v:=?_) (a':=?_) rfl rfl (by kernel_rfl) (Or.inl ⟨by kernel_rfl,?_⟩) hHeld ?_ ?_
 rotate_left
 · rintro w' hS'
   have hcell:w'.cell? ⟨w.heap.size,1,none⟩ = some (.int .i64 x.f1):=(uk hS' 1).trans rfl
   go_simp
   (try with_reducible rfl)
 rotate_left
 · simp only [Act.put,List.setIfInBounds_toArray,List.set_cons_zero,List.set_cons_succ,i64_w,i32_w]
   rfl
 refine hdS_ (v:=?_) (a':=?_) rfl rfl (by kernel_rfl) (Or.inl ⟨by kernel_rfl,?_⟩) hHeld ?_ ?_
 rotate_left
 · rintro w' hS'
   have hcell:w'.cell? ⟨w.heap.size,2,none⟩ = some (.int .i64 x.f2):=(uk hS' 2).trans rfl
   go_simp
   (try with_reducible rfl)
 rotate_left
 · simp only [Act.put,List.setIfInBounds_toArray,List.set_cons_zero,List.set_cons_succ,i64_w,i32_w]
   rfl
 refine hdS_ (v:=?_) (a':=?_) rfl rfl (by kernel_rfl) (Or.inl ⟨by kernel_rfl,?_⟩) hHeld ?_ ?_
 rotate_left
 · rintro w' hS'
   have hcell:w'.cell? ⟨w.heap.size,3,none⟩ = some (.int .i64 x.f3):=(uk hS' 3).trans rfl
   go_simp
   (try with_reducible rfl)
 rotate_left
 · simp only [Act.put,List.setIfInBounds_toArray,List.set_cons_zero,List.set_cons_succ,i64_w,i32_w]
   rfl
 iterate 3 (refine hd_ (v:=?_) (a':=?_) rfl rfl (by kernel_rfl) (Or.inl ⟨by kernel_rfl,?_⟩) ?_ ?_;rotate_left;(intro w';go_simp;with_reducible rfl);rotate_left;(simp only [Act.put,List.setIfInBounds_toArray,List.set_cons_zero,List.set_cons_succ,i64_w,i32_w];rfl))
 refine oneO_ (N:=some 26) rfl rfl (by kernel_rfl) (by decide) (fun K hK => ?_)
 refine goes_ Tryz.func28 (by kernel_rfl) rfl #[.int .u64 (IntKind.u64.wrap x.f1),.int .i64 8] (by rfl) rfl rfl (by (try simp only [List.map_toArray,List.map_cons,List.map_nil]);first | done | rfl) ?_
 refine (ur.put_at (IntKind.u64.wrap x.f1) _).mono ?_
 rintro e W20 ⟨B20,d20,rfl,hR20,hB20⟩
 refine ⟨_,rfl,?_⟩
 have HD1:=Aside0.mk (u1h HD0.out hB20)
 have HP20:=Aside0.mk (Kd.R_lower hR20 HZ0.out.size)
 have HM20:=Aside0.mk (Kd.R_below HM19.out hB20)
 have HZ1:=Aside0.mk (u1c HZ0.out HZ0.out.size hB20)
 clear hR20 hB20
 refine hK.out (Act.put _ (some 26) (.slice B20 8 d20)) _ HD1.out (fun hNext => ?_)
 simp only [Act.put,List.setIfInBounds_toArray,List.set_cons_zero,List.set_cons_succ,i64_w,i32_w]
 clear hK hHeld K
 have hHeld:=hNext
 clear hNext
 refine oneO_ (N:=some 31) rfl rfl (by kernel_rfl) (by decide) (fun K hK => ?_)
 refine goes_ Tryz.func28 (by kernel_rfl) rfl #[.int .u64 (IntKind.u64.wrap x.f2),.int .i64 8] (by rfl) rfl rfl (by (try simp only [List.map_toArray,List.map_cons,List.map_nil]);first | done | rfl) ?_
 refine (ur.put_at (IntKind.u64.wrap x.f2) _).mono ?_
 rintro e W21 ⟨B21,d21,rfl,hR21,hB21⟩
 refine ⟨_,rfl,?_⟩
 have HD2:=Aside0.mk (u1h HD1.out hB21)
 have HQ21:=Aside0.mk (Kd.R_lower hR21 HZ1.out.size)
 have HM21:=Aside0.mk (Kd.R_below HM20.out hB21)
 have HP21:=Aside0.mk (Kd.R_below HP20.out hB21)
 have HZ2:=Aside0.mk (u1c HZ1.out HZ1.out.size hB21)
 clear hR21 hB21
 refine hK.out (Act.put _ (some 31) (.slice B21 8 d21)) _ HD2.out (fun hNext => ?_)
 simp only [Act.put,List.setIfInBounds_toArray,List.set_cons_zero,List.set_cons_succ,i64_w,i32_w]
 clear hK hHeld K
 have hHeld:=hNext
 clear hNext
 refine oneO_ (N:=some 36) rfl rfl (by kernel_rfl) (by decide) (fun K hK => ?_)
 refine goes_ Tryz.func28 (by kernel_rfl) rfl #[.int .u64 (IntKind.u64.wrap x.f3),.int .i64 8] (by rfl) rfl rfl (by (try simp only [List.map_toArray,List.map_cons,List.map_nil]);first | done | rfl) ?_
 refine (ur.put_at (IntKind.u64.wrap x.f3) _).mono ?_
 rintro e W22 ⟨B22,d22,rfl,hR22,hB22⟩
 refine ⟨_,rfl,?_⟩
 have HD3:=Aside0.mk (u1h HD2.out hB22)
 have HU22:=Aside0.mk (Kd.R_lower hR22 HZ2.out.size)
 have HM22:=Aside0.mk (Kd.R_below HM21.out hB22)
 have HP22:=Aside0.mk (Kd.R_below HP21.out hB22)
 have HQ22:=Aside0.mk (Kd.R_below HQ21.out hB22)
 have HZ3:=Aside0.mk (u1c HZ2.out HZ2.out.size hB22)
 clear hR22 hB22
 refine hK.out (Act.put _ (some 36) (.slice B22 8 d22)) _ HD3.out (fun hNext => ?_)
 simp only [Act.put,List.setIfInBounds_toArray,List.set_cons_zero,List.set_cons_succ,i64_w,i32_w]
 clear hK hHeld K
 have hHeld:=hNext
 clear hNext
 refine oneO_ (N:=some 37) rfl rfl (by kernel_rfl) (by decide) (fun K hK => ?_)
 refine value_ (w1:=W22.alloc (.cells #[.slice Am mb.length cm,.slice B20 8 d20,.slice B21 8 d21,.slice B22 8 d22] 22)) (v:=.slice (some ⟨W22.heap.size,0,none⟩) 4 4) (by rfl) rfl ?_ ?_
 · go_simp
 refine hK.out (Act.put _ (some 37) (.slice (some ⟨W22.heap.size,0,none⟩) 4 4)) _ (uo HD3.out _) (fun hNext => ?_)
 simp only [Act.put,List.setIfInBounds_toArray,List.set_cons_zero,List.set_cons_succ,i64_w,i32_w]
 clear hK hHeld K
 have hHeld:=hNext
 clear hNext
 refine oneO_ (N:=some 38) rfl rfl (by kernel_rfl) (by decide) (fun K hK => ?_)
 refine goes_ Tryz.func30 (by kernel_rfl) rfl #[.slice (some ⟨W22.heap.size,0,none⟩) 4 4] (by rfl) rfl rfl (by (try simp only [List.map_toArray,List.map_cons,List.map_nil]);first | done | rfl) ?_
 refine (ur.cat W22 w.heap.size [(.slice Am mb.length cm,mb),(.slice B20 8 d20,ur.put8 x.f1),(.slice B21 8 d21,ur.put8 x.f2),(.slice B22 8 d22,ur.put8 x.f3)] HZ3.out.size ?_ 4 rfl (by decide) (by have h9:=HL.out;simpa [ur.gB] using h9) _ rfl).mono ?_
 · intro p hp
   simp only [List.mem_cons,List.mem_nil_iff,or_false] at hp
   rcases hp with rfl | rfl | rfl | rfl
   · exact ur.Pt_of HM22.out
   · exact ur.Pt_of HP22.out
   · exact ur.Pt_of HQ22.out
   · exact ur.Pt_of HU22.out
 rintro e W30 ⟨v30,rfl,hR30,hB30⟩
 refine ⟨_,rfl,?_⟩
 have HR30:=Aside0.mk hR30
 have HZ9:Aside0 (Below w.heap.size w W30):=⟨u1c (uj HZ3.out _) (by simp;have:=HZ3.out.size;omega) (by simpa using hB30)⟩
 have HD9:=Aside0.mk (u1h (uo HD3.out (.cells #[.slice Am mb.length cm,.slice B20 8 d20,.slice B21 8 d21,.slice B22 8 d22] 22)) (by simpa using hB30))
 clear hR30 hB30
 refine hK.out (Act.put _ (some 38) v30) _ HD9.out (fun hNext => ?_)
 simp only [Act.put,List.setIfInBounds_toArray,List.set_cons_zero,List.set_cons_succ,i64_w,i32_w]
 clear hK hHeld K
 have hHeld:=hNext
 clear hNext
 (refine hd_ (v:=?_) (a':=?_) rfl rfl (by kernel_rfl) (Or.inl ⟨by kernel_rfl,?_⟩) ?_ ?_;rotate_left;(intro w';go_simp;with_reducible rfl);rotate_left;(simp only [Act.put,List.setIfInBounds_toArray,List.set_cons_zero,List.set_cons_succ,i64_w,i32_w];rfl))
 refine doneO_ (by kernel_rfl) ?_
 go_wp2
 go_ret
 refine ⟨_,rfl,?_,HZ9.out⟩
 have h9:=HR30.out
 simpa [ur.gB] using h9
set_option maxHeartbeats 8000000 in
set_option maxRecDepth 10000 in
theorem ur.calls_s (x:ur.Sp) (w:World) (hl:x.f0.size ≤ 1000000) :
 Calls Tryz.prog 43 #[.iface 88 (.agg #[.string x.f0,.int .i64 x.f1])] w fun e w' => ∃ v,e = .returned v ∧ Kd.R (Kd.int .u8) 5 w' w.heap.size (fun _ => True) v (ur.sB x) ∧ Below w.heap.size w w':=by
 have hta:∀ (W:World) (v:Value),(Instr.typeAssert (.iface 88 v) 127 86 true).run Tryz.prog W = .ok (.tuple #[.agg #[.slice none 0 0,.int .i64 0,.int .i64 0,.int .i64 0],.bool false]) W:=fun W v => by kernel_rfl
 have htb:∀ (W:World) (v:Value),(Instr.typeAssert (.iface 88 v) 127 88 false).run Tryz.prog W = .ok v W:=fun W v => by kernel_rfl
 go_enter Tryz.func43,Tryz.ntmps43
 go_wp2
 obtain ⟨Wa,hWa⟩:∃ Wa,Aside0 (((w.alloc (.cells #[.slice none 0 0,.int .i64 0,.int .i64 0,.int .i64 0] 86)).alloc (.cells #[.string x.f0,.int .i64 x.f1] 88)) = Wa):=⟨_,⟨rfl⟩⟩
 rw [hWa.out]
 have HD0:Aside0 (Wa.drew.heap[w.heap.size + 1]? = some (.cells #[.string x.f0,.int .i64 x.f1] 88 (0,0))):=⟨by rw [← hWa.out];exact u2e (by have h9:=u3l (w.alloc (.cells #[.slice none 0 0,.int .i64 0,.int .i64 0,.int .i64 0] 86)) (.cells #[.string x.f0,.int .i64 x.f1] 88);simpa using h9)⟩
 have HZ0:Aside0 (Below w.heap.size w Wa.drew):=⟨by rw [← hWa.out];exact uu (uj (uj (Below.refl _ _) _) _)⟩
 refine startO_ (n:=18) (S:=fun w' => w'.heap[w.heap.size + 1]? = some (.cells #[.string x.f0,.int .i64 x.f1] 88 (0,0))) (ds:=[]) [(0,41),(6,47),(10,51),(1,42),(7,48),(11,52),(2,43),(8,49),(12,53),(3,44),(4,45),(13,54)] (by kernel_rfl) rfl HD0.out (fun hHeld => ?_)
 iterate 6 (refine hd_ (v:=?_) (a':=?_) rfl rfl (by kernel_rfl) (Or.inl ⟨by kernel_rfl,?_⟩) ?_ ?_;rotate_left;(intro w';go_simp;with_reducible rfl);rotate_left;(simp only [Act.put,List.setIfInBounds_toArray,List.set_cons_zero,List.set_cons_succ,i64_w,i32_w];rfl))
 refine hdS_ (v:=?_) (a':=?_) rfl rfl (by kernel_rfl) (Or.inl ⟨by kernel_rfl,?_⟩) hHeld ?_ ?_
 rotate_left
 · rintro w' hS'
   have hcell:w'.cell? ⟨w.heap.size + 1,0,none⟩ = some (.string x.f0):=(uk hS' 0).trans rfl
   go_simp
   (try with_reducible rfl)
 rotate_left
 · simp only [Act.put,List.setIfInBounds_toArray,List.set_cons_zero,List.set_cons_succ,i64_w,i32_w]
   rfl
 refine hdS_ (v:=?_) (a':=?_) rfl rfl (by kernel_rfl) (Or.inl ⟨by kernel_rfl,?_⟩) hHeld ?_ ?_
 rotate_left
 · rintro w' hS'
   have hcell:w'.cell? ⟨w.heap.size + 1,0,none⟩ = some (.string x.f0):=(uk hS' 0).trans rfl
   go_simp
   (try with_reducible rfl)
 rotate_left
 · simp only [Act.put,List.setIfInBounds_toArray,List.set_cons_zero,List.set_cons_succ,i64_w,i32_w]
   rfl
 refine hdS_ (v:=?_) (a':=?_) rfl rfl (by kernel_rfl) (Or.inl ⟨by kernel_rfl,?_⟩) hHeld ?_ ?_
 rotate_left
 · rintro w' hS'
   have hcell:w'.cell? ⟨w.heap.size + 1,1,none⟩ = some (.int .i64 x.f1):=(uk hS' 1).trans rfl
   go_simp
   (try with_reducible rfl)
 rotate_left
 · simp only [Act.put,List.setIfInBounds_toArray,List.set_cons_zero,List.set_cons_succ,i64_w,i32_w]
   rfl
 iterate 3 (refine hd_ (v:=?_) (a':=?_) rfl rfl (by kernel_rfl) (Or.inl ⟨by kernel_rfl,?_⟩) ?_ ?_;rotate_left;(intro w';go_simp;with_reducible rfl);rotate_left;(simp only [Act.put,List.setIfInBounds_toArray,List.set_cons_zero,List.set_cons_succ,i64_w,i32_w];rfl))
 refine ur.joinO_ (ord':=[(15,0),(16,0),(17,2)]) (σ:=(Option Addr × Nat) × (Option Addr × Nat) × (Option Addr × Nat)) 3 [14,9,5,13,4,3,12,8,2,11,7,1,10,6,0] (fun s => [(46,.slice s.1.1 1 s.1.2),(50,.slice s.2.1.1 x.f0.size s.2.1.2),(55,.slice s.2.2.1 4 s.2.2.2)]) (fun s W => (Aside0 (ur.Pt W (.slice s.1.1 1 s.1.2) [(IntKind.u8.wrap (x.f0.size:Int))]) ∧ Aside0 (ur.Pt W (.slice s.2.1.1 x.f0.size s.2.1.2) (u3d x.f0)) ∧ Aside0 (ur.Pt W (.slice s.2.2.1 4 s.2.2.2) (u1b.put (IntKind.u64.wrap x.f1) 4))) ∧ Aside0 (Below w.heap.size w W) ∧ W.heap[w.heap.size + 1]? = some (.cells #[.string x.f0,.int .i64 x.f1] 88 (0,0))) ?_ (fun hcont => ?_)
 · rintro ⟨⟨y1,z1⟩,⟨y2,z2⟩,⟨y3,z3⟩⟩ W22 ⟨⟨KA,KB,KC⟩,HZ3,hHeld⟩
   have HL:Aside0 ([(IntKind.u8.wrap (x.f0.size:Int))].length + ((u3d x.f0).length + (u1b.put (IntKind.u64.wrap x.f1) 4).length) ≤ 140737488355328):=⟨by rw [u3p];simp [u1b.put];omega⟩
   have HD3:=Aside0.mk hHeld
   simp only [putAll,Act.put,List.setIfInBounds_toArray,List.set_cons_zero,List.set_cons_succ]
   refine oneO_ (N:=some 56) rfl rfl (by kernel_rfl) (by decide) (fun K hK => ?_)
   refine value_ (w1:=W22.alloc (.cells #[.slice y1 1 z1,.slice y2 x.f0.size z2,.slice y3 4 z3] 22)) (v:=.slice (some ⟨W22.heap.size,0,none⟩) 3 3) (by rfl) rfl ?_ ?_
   · go_simp
   refine hK.out (Act.put _ (some 56) (.slice (some ⟨W22.heap.size,0,none⟩) 3 3)) _ (uo HD3.out _) (fun hNext => ?_)
   simp only [Act.put,List.setIfInBounds_toArray,List.set_cons_zero,List.set_cons_succ,i64_w,i32_w]
   clear hK hHeld K
   have hHeld:=hNext
   clear hNext
   refine oneO_ (N:=some 57) rfl rfl (by kernel_rfl) (by decide) (fun K hK => ?_)
   refine goes_ Tryz.func30 (by kernel_rfl) rfl #[.slice (some ⟨W22.heap.size,0,none⟩) 3 3] (by rfl) rfl rfl (by (try simp only [List.map_toArray,List.map_cons,List.map_nil]);first | done | rfl) ?_
   refine (ur.cat W22 w.heap.size [(.slice y1 1 z1,[(IntKind.u8.wrap (x.f0.size:Int))]),(.slice y2 x.f0.size z2,u3d x.f0),(.slice y3 4 z3,u1b.put (IntKind.u64.wrap x.f1) 4)] HZ3.out.size ?_ 3 rfl (by decide) (by have h9:=HL.out;simp only [List.flatMap_cons,List.flatMap_nil,List.length_append,List.length_nil] at h9 ⊢;omega) _ rfl).mono ?_
   · intro p hp
     simp only [List.mem_cons,List.mem_nil_iff,or_false] at hp
     rcases hp with rfl | rfl | rfl
     · exact KA.out
     · exact KB.out
     · exact KC.out
   rintro e W30 ⟨v30,rfl,hR30,hB30⟩
   refine ⟨_,rfl,?_⟩
   have HR30:=Aside0.mk hR30
   have HZ9:Aside0 (Below w.heap.size w W30):=⟨u1c (uj HZ3.out _) (by simp;have:=HZ3.out.size;omega) (by simpa using hB30)⟩
   have HD9:=Aside0.mk (u1h (uo HD3.out (.cells #[.slice y1 1 z1,.slice y2 x.f0.size z2,.slice y3 4 z3] 22)) (by simpa using hB30))
   clear hR30 hB30
   refine hK.out (Act.put _ (some 57) v30) _ HD9.out (fun hNext => ?_)
   simp only [Act.put,List.setIfInBounds_toArray,List.set_cons_zero,List.set_cons_succ,i64_w,i32_w]
   clear hK hHeld K
   have hHeld:=hNext
   clear hNext
   (refine hd_ (v:=?_) (a':=?_) rfl rfl (by kernel_rfl) (Or.inl ⟨by kernel_rfl,?_⟩) ?_ ?_;rotate_left;(intro w';go_simp;with_reducible rfl);rotate_left;(simp only [Act.put,List.setIfInBounds_toArray,List.set_cons_zero,List.set_cons_succ,i64_w,i32_w];rfl))
   refine doneO_ (by kernel_rfl) ?_
   go_wp2
   go_ret
   refine ⟨_,rfl,?_,HZ9.out⟩
   have h9:=HR30.out
   have e9:ur.sB x = [IntKind.u8.wrap (x.f0.size:Int)] ++ (u3d x.f0 ++ u1b.put (IntKind.u64.wrap x.f1) 4):=rfl
   rw [e9]
   simpa using h9
 simp only [putAll,Act.put,List.setIfInBounds_toArray,List.set_cons_zero,List.set_cons_succ] at hcont
 obtain ⟨V,hV⟩:∃ V,Aside0 (Wa.drew = V):=⟨_,⟨rfl⟩⟩
 rw [hV.out] at HZ0 hHeld ⊢
 have HZ_V:=HZ0
 clear HD0 HZ0 hWa
 refine ur.threeO_ (i:=5) (j:=9) (k:=14) (Ni:=some 46) (Nj:=some 50) (Nk:=some 55) rfl rfl rfl rfl rfl rfl (by kernel_rfl) (by decide) (by decide) (by decide) (fun K hK => ?_) (fun K hK => ?_) (fun K hK => ?_)
 · skip
   refine value_ (w1:=(V.alloc (.cells #[.int .u8 (IntKind.u8.wrap (x.f0.size:Int))] 5))) (v:=(.slice (some ⟨V.heap.size,0,none⟩) 1 1)) (by rfl) rfl ?_ ?_
   · go_simp
   obtain ⟨V_5,hV_5⟩:∃ W9,Aside0 ((V.alloc (.cells #[.int .u8 (IntKind.u8.wrap (x.f0.size:Int))] 5)) = W9):=⟨_,⟨rfl⟩⟩
   have hb:Below V.heap.size V V_5:=by rw [← hV_5.out];exact uj (Below.refl _ _) _
   have KA_V_5:Aside0 (ur.Pt V_5 (.slice (some ⟨V.heap.size,0,none⟩) 1 1) [(IntKind.u8.wrap (x.f0.size:Int))]):=⟨by rw [← hV_5.out];exact ur.Pt_lit _ _⟩
   rw [hV_5.out]
   have HZ_V_5:=Aside0.mk (u1c HZ_V.out HZ_V.out.size hb)
   have hd9:=u1h hHeld hb
   refine hK.out (Act.put _ (some 46) (.slice (some ⟨V.heap.size,0,none⟩) 1 1)) _ hd9 (fun hNext => ?_)
   simp only [Act.put,List.setIfInBounds_toArray,List.set_cons_zero,List.set_cons_succ,i64_w,i32_w]
   clear hK hHeld K hd9 hb
   have hHeld:=hNext
   clear hNext
   refine ur.twoO_ (i:=9) (j:=14) (Ni:=some 50) (Nj:=some 55) rfl rfl rfl rfl (by kernel_rfl) (by decide) (by decide) (fun K hK => ?_) (fun K hK => ?_)
   · skip
     refine value_ (w1:=(Lib.bytesWorld V_5 5 x.f0)) (v:=(.slice (some ⟨V_5.heap.size,0,none⟩) x.f0.size (grownCap V_5 x.f0.size 0 5))) (by rfl) rfl ?_ ?_
     · have kb:=fun W => print_bytes (P:=Tryz.prog) 9 22 5 Tryz.underlying9 Tryz.underlying22 Tryz.underlying5 x.f0 W
       go_simp
     obtain ⟨V_5_9,hV_5_9⟩:∃ W9,Aside0 ((Lib.bytesWorld V_5 5 x.f0) = W9):=⟨_,⟨rfl⟩⟩
     have hb:Below V_5.heap.size V_5 V_5_9:=by rw [← hV_5_9.out];exact bytes_below (Below.refl _ _) (Nat.le_refl _) _ _
     have KB_V_5_9:Aside0 (ur.Pt V_5_9 (.slice (some ⟨V_5.heap.size,0,none⟩) x.f0.size (grownCap V_5 x.f0.size 0 5)) (u3d x.f0)):=⟨by rw [← hV_5_9.out];exact ur.Pt_bytes _ _ hl⟩
     rw [hV_5_9.out]
     have KA_V_5_9:=Aside0.mk (ur.Pt_below KA_V_5.out hb)
     have HZ_V_5_9:=Aside0.mk (u1c HZ_V_5.out HZ_V_5.out.size hb)
     have hd9:=u1h hHeld hb
     refine hK.out (Act.put _ (some 50) (.slice (some ⟨V_5.heap.size,0,none⟩) x.f0.size (grownCap V_5 x.f0.size 0 5))) _ hd9 (fun hNext => ?_)
     simp only [Act.put,List.setIfInBounds_toArray,List.set_cons_zero,List.set_cons_succ,i64_w,i32_w]
     clear hK hHeld K hd9 hb
     have hHeld:=hNext
     clear hNext
     refine ur.oneP_ (i:=14) (N:=some 55) rfl rfl (by kernel_rfl) (by decide) (fun K hK => ?_)
     · skip
       refine goes_ Tryz.func28 (by kernel_rfl) rfl #[.int .u64 (IntKind.u64.wrap x.f1),.int .i64 4] (by rfl) rfl rfl (by (try simp only [List.map_toArray,List.map_cons,List.map_nil]);first | done | rfl) ?_
       refine (ur.put4_at (IntKind.u64.wrap x.f1) _).mono ?_
       rintro e V_5_9_14 ⟨BV_5_9_14,dV_5_9_14,rfl,hR9,hb⟩
       refine ⟨_,rfl,?_⟩
       have KC_V_5_9_14:=Aside0.mk (ur.Pt_of hR9)
       clear hR9
       have KA_V_5_9_14:=Aside0.mk (ur.Pt_below KA_V_5_9.out hb)
       have KB_V_5_9_14:=Aside0.mk (ur.Pt_below KB_V_5_9.out hb)
       have HZ_V_5_9_14:=Aside0.mk (u1c HZ_V_5_9.out HZ_V_5_9.out.size hb)
       have hd9:=u1h hHeld hb
       refine hK.out (Act.put _ (some 55) (.slice BV_5_9_14 4 dV_5_9_14)) _ hd9 (fun hNext => ?_)
       simp only [Act.put,List.setIfInBounds_toArray,List.set_cons_zero,List.set_cons_succ,i64_w,i32_w]
       clear hK hHeld K hd9 hb
       have hHeld:=hNext
       clear hNext
       refine ur.permO_ (ord':=[(15,0),(16,0),(17,2)]) [14,9,5,13,4,3,12,8,2,11,7,1,10,6,0] (by kernel_rfl) ?_
       exact hcont ⟨(some ⟨V.heap.size,0,none⟩,1),(some ⟨V_5.heap.size,0,none⟩,grownCap V_5 x.f0.size 0 5),(BV_5_9_14,dV_5_9_14)⟩ V_5_9_14 ⟨⟨KA_V_5_9_14,KB_V_5_9_14,KC_V_5_9_14⟩,HZ_V_5_9_14,hHeld⟩
   · skip
     refine goes_ Tryz.func28 (by kernel_rfl) rfl #[.int .u64 (IntKind.u64.wrap x.f1),.int .i64 4] (by rfl) rfl rfl (by (try simp only [List.map_toArray,List.map_cons,List.map_nil]);first | done | rfl) ?_
     refine (ur.put4_at (IntKind.u64.wrap x.f1) _).mono ?_
     rintro e V_5_14 ⟨BV_5_14,dV_5_14,rfl,hR9,hb⟩
     refine ⟨_,rfl,?_⟩
     have KC_V_5_14:=Aside0.mk (ur.Pt_of hR9)
     clear hR9
     have KA_V_5_14:=Aside0.mk (ur.Pt_below KA_V_5.out hb)
     have HZ_V_5_14:=Aside0.mk (u1c HZ_V_5.out HZ_V_5.out.size hb)
     have hd9:=u1h hHeld hb
     refine hK.out (Act.put _ (some 55) (.slice BV_5_14 4 dV_5_14)) _ hd9 (fun hNext => ?_)
     simp only [Act.put,List.setIfInBounds_toArray,List.set_cons_zero,List.set_cons_succ,i64_w,i32_w]
     clear hK hHeld K hd9 hb
     have hHeld:=hNext
     clear hNext
     refine ur.oneP_ (i:=9) (N:=some 50) rfl rfl (by kernel_rfl) (by decide) (fun K hK => ?_)
     · skip
       refine value_ (w1:=(Lib.bytesWorld V_5_14 5 x.f0)) (v:=(.slice (some ⟨V_5_14.heap.size,0,none⟩) x.f0.size (grownCap V_5_14 x.f0.size 0 5))) (by rfl) rfl ?_ ?_
       · have kb:=fun W => print_bytes (P:=Tryz.prog) 9 22 5 Tryz.underlying9 Tryz.underlying22 Tryz.underlying5 x.f0 W
         go_simp
       obtain ⟨V_5_14_9,hV_5_14_9⟩:∃ W9,Aside0 ((Lib.bytesWorld V_5_14 5 x.f0) = W9):=⟨_,⟨rfl⟩⟩
       have hb:Below V_5_14.heap.size V_5_14 V_5_14_9:=by rw [← hV_5_14_9.out];exact bytes_below (Below.refl _ _) (Nat.le_refl _) _ _
       have KB_V_5_14_9:Aside0 (ur.Pt V_5_14_9 (.slice (some ⟨V_5_14.heap.size,0,none⟩) x.f0.size (grownCap V_5_14 x.f0.size 0 5)) (u3d x.f0)):=⟨by rw [← hV_5_14_9.out];exact ur.Pt_bytes _ _ hl⟩
       rw [hV_5_14_9.out]
       have KA_V_5_14_9:=Aside0.mk (ur.Pt_below KA_V_5_14.out hb)
       have KC_V_5_14_9:=Aside0.mk (ur.Pt_below KC_V_5_14.out hb)
       have HZ_V_5_14_9:=Aside0.mk (u1c HZ_V_5_14.out HZ_V_5_14.out.size hb)
       have hd9:=u1h hHeld hb
       refine hK.out (Act.put _ (some 50) (.slice (some ⟨V_5_14.heap.size,0,none⟩) x.f0.size (grownCap V_5_14 x.f0.size 0 5))) _ hd9 (fun hNext => ?_)
       simp only [Act.put,List.setIfInBounds_toArray,List.set_cons_zero,List.set_cons_succ,i64_w,i32_w]
       clear hK hHeld K hd9 hb
       have hHeld:=hNext
       clear hNext
       refine ur.permO_ (ord':=[(15,0),(16,0),(17,2)]) [14,9,5,13,4,3,12,8,2,11,7,1,10,6,0] (by kernel_rfl) ?_
       exact hcont ⟨(some ⟨V.heap.size,0,none⟩,1),(some ⟨V_5_14.heap.size,0,none⟩,grownCap V_5_14 x.f0.size 0 5),(BV_5_14,dV_5_14)⟩ V_5_14_9 ⟨⟨KA_V_5_14_9,KB_V_5_14_9,KC_V_5_14_9⟩,HZ_V_5_14_9,hHeld⟩
 · skip
   refine value_ (w1:=(Lib.bytesWorld V 5 x.f0)) (v:=(.slice (some ⟨V.heap.size,0,none⟩) x.f0.size (grownCap V x.f0.size 0 5))) (by rfl) rfl ?_ ?_
   · have kb:=fun W => print_bytes (P:=Tryz.prog) 9 22 5 Tryz.underlying9 Tryz.underlying22 Tryz.underlying5 x.f0 W
     go_simp
   obtain ⟨V_9,hV_9⟩:∃ W9,Aside0 ((Lib.bytesWorld V 5 x.f0) = W9):=⟨_,⟨rfl⟩⟩
   have hb:Below V.heap.size V V_9:=by rw [← hV_9.out];exact bytes_below (Below.refl _ _) (Nat.le_refl _) _ _
   have KB_V_9:Aside0 (ur.Pt V_9 (.slice (some ⟨V.heap.size,0,none⟩) x.f0.size (grownCap V x.f0.size 0 5)) (u3d x.f0)):=⟨by rw [← hV_9.out];exact ur.Pt_bytes _ _ hl⟩
   rw [hV_9.out]
   have HZ_V_9:=Aside0.mk (u1c HZ_V.out HZ_V.out.size hb)
   have hd9:=u1h hHeld hb
   refine hK.out (Act.put _ (some 50) (.slice (some ⟨V.heap.size,0,none⟩) x.f0.size (grownCap V x.f0.size 0 5))) _ hd9 (fun hNext => ?_)
   simp only [Act.put,List.setIfInBounds_toArray,List.set_cons_zero,List.set_cons_succ,i64_w,i32_w]
   clear hK hHeld K hd9 hb
   have hHeld:=hNext
   clear hNext
   refine ur.twoO_ (i:=5) (j:=14) (Ni:=some 46) (Nj:=some 55) rfl rfl rfl rfl (by kernel_rfl) (by decide) (by decide) (fun K hK => ?_) (fun K hK => ?_)
   · skip
     refine value_ (w1:=(V_9.alloc (.cells #[.int .u8 (IntKind.u8.wrap (x.f0.size:Int))] 5))) (v:=(.slice (some ⟨V_9.heap.size,0,none⟩) 1 1)) (by rfl) rfl ?_ ?_
     · go_simp
     obtain ⟨V_9_5,hV_9_5⟩:∃ W9,Aside0 ((V_9.alloc (.cells #[.int .u8 (IntKind.u8.wrap (x.f0.size:Int))] 5)) = W9):=⟨_,⟨rfl⟩⟩
     have hb:Below V_9.heap.size V_9 V_9_5:=by rw [← hV_9_5.out];exact uj (Below.refl _ _) _
     have KA_V_9_5:Aside0 (ur.Pt V_9_5 (.slice (some ⟨V_9.heap.size,0,none⟩) 1 1) [(IntKind.u8.wrap (x.f0.size:Int))]):=⟨by rw [← hV_9_5.out];exact ur.Pt_lit _ _⟩
     rw [hV_9_5.out]
     have KB_V_9_5:=Aside0.mk (ur.Pt_below KB_V_9.out hb)
     have HZ_V_9_5:=Aside0.mk (u1c HZ_V_9.out HZ_V_9.out.size hb)
     have hd9:=u1h hHeld hb
     refine hK.out (Act.put _ (some 46) (.slice (some ⟨V_9.heap.size,0,none⟩) 1 1)) _ hd9 (fun hNext => ?_)
     simp only [Act.put,List.setIfInBounds_toArray,List.set_cons_zero,List.set_cons_succ,i64_w,i32_w]
     clear hK hHeld K hd9 hb
     have hHeld:=hNext
     clear hNext
     refine ur.oneP_ (i:=14) (N:=some 55) rfl rfl (by kernel_rfl) (by decide) (fun K hK => ?_)
     · skip
       refine goes_ Tryz.func28 (by kernel_rfl) rfl #[.int .u64 (IntKind.u64.wrap x.f1),.int .i64 4] (by rfl) rfl rfl (by (try simp only [List.map_toArray,List.map_cons,List.map_nil]);first | done | rfl) ?_
       refine (ur.put4_at (IntKind.u64.wrap x.f1) _).mono ?_
       rintro e V_9_5_14 ⟨BV_9_5_14,dV_9_5_14,rfl,hR9,hb⟩
       refine ⟨_,rfl,?_⟩
       have KC_V_9_5_14:=Aside0.mk (ur.Pt_of hR9)
       clear hR9
       have KB_V_9_5_14:=Aside0.mk (ur.Pt_below KB_V_9_5.out hb)
       have KA_V_9_5_14:=Aside0.mk (ur.Pt_below KA_V_9_5.out hb)
       have HZ_V_9_5_14:=Aside0.mk (u1c HZ_V_9_5.out HZ_V_9_5.out.size hb)
       have hd9:=u1h hHeld hb
       refine hK.out (Act.put _ (some 55) (.slice BV_9_5_14 4 dV_9_5_14)) _ hd9 (fun hNext => ?_)
       simp only [Act.put,List.setIfInBounds_toArray,List.set_cons_zero,List.set_cons_succ,i64_w,i32_w]
       clear hK hHeld K hd9 hb
       have hHeld:=hNext
       clear hNext
       refine ur.permO_ (ord':=[(15,0),(16,0),(17,2)]) [14,9,5,13,4,3,12,8,2,11,7,1,10,6,0] (by kernel_rfl) ?_
       exact hcont ⟨(some ⟨V_9.heap.size,0,none⟩,1),(some ⟨V.heap.size,0,none⟩,grownCap V x.f0.size 0 5),(BV_9_5_14,dV_9_5_14)⟩ V_9_5_14 ⟨⟨KA_V_9_5_14,KB_V_9_5_14,KC_V_9_5_14⟩,HZ_V_9_5_14,hHeld⟩
   · skip
     refine goes_ Tryz.func28 (by kernel_rfl) rfl #[.int .u64 (IntKind.u64.wrap x.f1),.int .i64 4] (by rfl) rfl rfl (by (try simp only [List.map_toArray,List.map_cons,List.map_nil]);first | done | rfl) ?_
     refine (ur.put4_at (IntKind.u64.wrap x.f1) _).mono ?_
     rintro e V_9_14 ⟨BV_9_14,dV_9_14,rfl,hR9,hb⟩
     refine ⟨_,rfl,?_⟩
     have KC_V_9_14:=Aside0.mk (ur.Pt_of hR9)
     clear hR9
     have KB_V_9_14:=Aside0.mk (ur.Pt_below KB_V_9.out hb)
     have HZ_V_9_14:=Aside0.mk (u1c HZ_V_9.out HZ_V_9.out.size hb)
     have hd9:=u1h hHeld hb
     refine hK.out (Act.put _ (some 55) (.slice BV_9_14 4 dV_9_14)) _ hd9 (fun hNext => ?_)
     simp only [Act.put,List.setIfInBounds_toArray,List.set_cons_zero,List.set_cons_succ,i64_w,i32_w]
     clear hK hHeld K hd9 hb
     have hHeld:=hNext
     clear hNext
     refine ur.oneP_ (i:=5) (N:=some 46) rfl rfl (by kernel_rfl) (by decide) (fun K hK => ?_)
     · skip
       refine value_ (w1:=(V_9_14.alloc (.cells #[.int .u8 (IntKind.u8.wrap (x.f0.size:Int))] 5))) (v:=(.slice (some ⟨V_9_14.heap.size,0,none⟩) 1 1)) (by rfl) rfl ?_ ?_
       · go_simp
       obtain ⟨V_9_14_5,hV_9_14_5⟩:∃ W9,Aside0 ((V_9_14.alloc (.cells #[.int .u8 (IntKind.u8.wrap (x.f0.size:Int))] 5)) = W9):=⟨_,⟨rfl⟩⟩
       have hb:Below V_9_14.heap.size V_9_14 V_9_14_5:=by rw [← hV_9_14_5.out];exact uj (Below.refl _ _) _
       have KA_V_9_14_5:Aside0 (ur.Pt V_9_14_5 (.slice (some ⟨V_9_14.heap.size,0,none⟩) 1 1) [(IntKind.u8.wrap (x.f0.size:Int))]):=⟨by rw [← hV_9_14_5.out];exact ur.Pt_lit _ _⟩
       rw [hV_9_14_5.out]
       have KB_V_9_14_5:=Aside0.mk (ur.Pt_below KB_V_9_14.out hb)
       have KC_V_9_14_5:=Aside0.mk (ur.Pt_below KC_V_9_14.out hb)
       have HZ_V_9_14_5:=Aside0.mk (u1c HZ_V_9_14.out HZ_V_9_14.out.size hb)
       have hd9:=u1h hHeld hb
       refine hK.out (Act.put _ (some 46) (.slice (some ⟨V_9_14.heap.size,0,none⟩) 1 1)) _ hd9 (fun hNext => ?_)
       simp only [Act.put,List.setIfInBounds_toArray,List.set_cons_zero,List.set_cons_succ,i64_w,i32_w]
       clear hK hHeld K hd9 hb
       have hHeld:=hNext
       clear hNext
       refine ur.permO_ (ord':=[(15,0),(16,0),(17,2)]) [14,9,5,13,4,3,12,8,2,11,7,1,10,6,0] (by kernel_rfl) ?_
       exact hcont ⟨(some ⟨V_9_14.heap.size,0,none⟩,1),(some ⟨V.heap.size,0,none⟩,grownCap V x.f0.size 0 5),(BV_9_14,dV_9_14)⟩ V_9_14_5 ⟨⟨KA_V_9_14_5,KB_V_9_14_5,KC_V_9_14_5⟩,HZ_V_9_14_5,hHeld⟩
 · skip
   refine goes_ Tryz.func28 (by kernel_rfl) rfl #[.int .u64 (IntKind.u64.wrap x.f1),.int .i64 4] (by rfl) rfl rfl (by (try simp only [List.map_toArray,List.map_cons,List.map_nil]);first | done | rfl) ?_
   refine (ur.put4_at (IntKind.u64.wrap x.f1) _).mono ?_
   rintro e V_14 ⟨BV_14,dV_14,rfl,hR9,hb⟩
   refine ⟨_,rfl,?_⟩
   have KC_V_14:=Aside0.mk (ur.Pt_of hR9)
   clear hR9
   have HZ_V_14:=Aside0.mk (u1c HZ_V.out HZ_V.out.size hb)
   have hd9:=u1h hHeld hb
   refine hK.out (Act.put _ (some 55) (.slice BV_14 4 dV_14)) _ hd9 (fun hNext => ?_)
   simp only [Act.put,List.setIfInBounds_toArray,List.set_cons_zero,List.set_cons_succ,i64_w,i32_w]
   clear hK hHeld K hd9 hb
   have hHeld:=hNext
   clear hNext
   refine ur.twoO_ (i:=5) (j:=9) (Ni:=some 46) (Nj:=some 50) rfl rfl rfl rfl (by kernel_rfl) (by decide) (by decide) (fun K hK => ?_) (fun K hK => ?_)
   · skip
     refine value_ (w1:=(V_14.alloc (.cells #[.int .u8 (IntKind.u8.wrap (x.f0.size:Int))] 5))) (v:=(.slice (some ⟨V_14.heap.size,0,none⟩) 1 1)) (by rfl) rfl ?_ ?_
     · go_simp
     obtain ⟨V_14_5,hV_14_5⟩:∃ W9,Aside0 ((V_14.alloc (.cells #[.int .u8 (IntKind.u8.wrap (x.f0.size:Int))] 5)) = W9):=⟨_,⟨rfl⟩⟩
     have hb:Below V_14.heap.size V_14 V_14_5:=by rw [← hV_14_5.out];exact uj (Below.refl _ _) _
     have KA_V_14_5:Aside0 (ur.Pt V_14_5 (.slice (some ⟨V_14.heap.size,0,none⟩) 1 1) [(IntKind.u8.wrap (x.f0.size:Int))]):=⟨by rw [← hV_14_5.out];exact ur.Pt_lit _ _⟩
     rw [hV_14_5.out]
     have KC_V_14_5:=Aside0.mk (ur.Pt_below KC_V_14.out hb)
     have HZ_V_14_5:=Aside0.mk (u1c HZ_V_14.out HZ_V_14.out.size hb)
     have hd9:=u1h hHeld hb
     refine hK.out (Act.put _ (some 46) (.slice (some ⟨V_14.heap.size,0,none⟩) 1 1)) _ hd9 (fun hNext => ?_)
     simp only [Act.put,List.setIfInBounds_toArray,List.set_cons_zero,List.set_cons_succ,i64_w,i32_w]
     clear hK hHeld K hd9 hb
     have hHeld:=hNext
     clear hNext
     refine ur.oneP_ (i:=9) (N:=some 50) rfl rfl (by kernel_rfl) (by decide) (fun K hK => ?_)
     · skip
       refine value_ (w1:=(Lib.bytesWorld V_14_5 5 x.f0)) (v:=(.slice (some ⟨V_14_5.heap.size,0,none⟩) x.f0.size (grownCap V_14_5 x.f0.size 0 5))) (by rfl) rfl ?_ ?_
       · have kb:=fun W => print_bytes (P:=Tryz.prog) 9 22 5 Tryz.underlying9 Tryz.underlying22 Tryz.underlying5 x.f0 W
         go_simp
       obtain ⟨V_14_5_9,hV_14_5_9⟩:∃ W9,Aside0 ((Lib.bytesWorld V_14_5 5 x.f0) = W9):=⟨_,⟨rfl⟩⟩
       have hb:Below V_14_5.heap.size V_14_5 V_14_5_9:=by rw [← hV_14_5_9.out];exact bytes_below (Below.refl _ _) (Nat.le_refl _) _ _
       have KB_V_14_5_9:Aside0 (ur.Pt V_14_5_9 (.slice (some ⟨V_14_5.heap.size,0,none⟩) x.f0.size (grownCap V_14_5 x.f0.size 0 5)) (u3d x.f0)):=⟨by rw [← hV_14_5_9.out];exact ur.Pt_bytes _ _ hl⟩
       rw [hV_14_5_9.out]
       have KC_V_14_5_9:=Aside0.mk (ur.Pt_below KC_V_14_5.out hb)
       have KA_V_14_5_9:=Aside0.mk (ur.Pt_below KA_V_14_5.out hb)
       have HZ_V_14_5_9:=Aside0.mk (u1c HZ_V_14_5.out HZ_V_14_5.out.size hb)
       have hd9:=u1h hHeld hb
       refine hK.out (Act.put _ (some 50) (.slice (some ⟨V_14_5.heap.size,0,none⟩) x.f0.size (grownCap V_14_5 x.f0.size 0 5))) _ hd9 (fun hNext => ?_)
       simp only [Act.put,List.setIfInBounds_toArray,List.set_cons_zero,List.set_cons_succ,i64_w,i32_w]
       clear hK hHeld K hd9 hb
       have hHeld:=hNext
       clear hNext
       refine ur.permO_ (ord':=[(15,0),(16,0),(17,2)]) [14,9,5,13,4,3,12,8,2,11,7,1,10,6,0] (by kernel_rfl) ?_
       exact hcont ⟨(some ⟨V_14.heap.size,0,none⟩,1),(some ⟨V_14_5.heap.size,0,none⟩,grownCap V_14_5 x.f0.size 0 5),(BV_14,dV_14)⟩ V_14_5_9 ⟨⟨KA_V_14_5_9,KB_V_14_5_9,KC_V_14_5_9⟩,HZ_V_14_5_9,hHeld⟩
   · skip
     refine value_ (w1:=(Lib.bytesWorld V_14 5 x.f0)) (v:=(.slice (some ⟨V_14.heap.size,0,none⟩) x.f0.size (grownCap V_14 x.f0.size 0 5))) (by rfl) rfl ?_ ?_
     · have kb:=fun W => print_bytes (P:=Tryz.prog) 9 22 5 Tryz.underlying9 Tryz.underlying22 Tryz.underlying5 x.f0 W
       go_simp
     obtain ⟨V_14_9,hV_14_9⟩:∃ W9,Aside0 ((Lib.bytesWorld V_14 5 x.f0) = W9):=⟨_,⟨rfl⟩⟩
     have hb:Below V_14.heap.size V_14 V_14_9:=by rw [← hV_14_9.out];exact bytes_below (Below.refl _ _) (Nat.le_refl _) _ _
     have KB_V_14_9:Aside0 (ur.Pt V_14_9 (.slice (some ⟨V_14.heap.size,0,none⟩) x.f0.size (grownCap V_14 x.f0.size 0 5)) (u3d x.f0)):=⟨by rw [← hV_14_9.out];exact ur.Pt_bytes _ _ hl⟩
     rw [hV_14_9.out]
     have KC_V_14_9:=Aside0.mk (ur.Pt_below KC_V_14.out hb)
     have HZ_V_14_9:=Aside0.mk (u1c HZ_V_14.out HZ_V_14.out.size hb)
     have hd9:=u1h hHeld hb
     refine hK.out (Act.put _ (some 50) (.slice (some ⟨V_14.heap.size,0,none⟩) x.f0.size (grownCap V_14 x.f0.size 0 5))) _ hd9 (fun hNext => ?_)
     simp only [Act.put,List.setIfInBounds_toArray,List.set_cons_zero,List.set_cons_succ,i64_w,i32_w]
     clear hK hHeld K hd9 hb
     have hHeld:=hNext
     clear hNext
     refine ur.oneP_ (i:=5) (N:=some 46) rfl rfl (by kernel_rfl) (by decide) (fun K hK => ?_)
     · skip
       refine value_ (w1:=(V_14_9.alloc (.cells #[.int .u8 (IntKind.u8.wrap (x.f0.size:Int))] 5))) (v:=(.slice (some ⟨V_14_9.heap.size,0,none⟩) 1 1)) (by rfl) rfl ?_ ?_
       · go_simp
       obtain ⟨V_14_9_5,hV_14_9_5⟩:∃ W9,Aside0 ((V_14_9.alloc (.cells #[.int .u8 (IntKind.u8.wrap (x.f0.size:Int))] 5)) = W9):=⟨_,⟨rfl⟩⟩
       have hb:Below V_14_9.heap.size V_14_9 V_14_9_5:=by rw [← hV_14_9_5.out];exact uj (Below.refl _ _) _
       have KA_V_14_9_5:Aside0 (ur.Pt V_14_9_5 (.slice (some ⟨V_14_9.heap.size,0,none⟩) 1 1) [(IntKind.u8.wrap (x.f0.size:Int))]):=⟨by rw [← hV_14_9_5.out];exact ur.Pt_lit _ _⟩
       rw [hV_14_9_5.out]
       have KC_V_14_9_5:=Aside0.mk (ur.Pt_below KC_V_14_9.out hb)
       have KB_V_14_9_5:=Aside0.mk (ur.Pt_below KB_V_14_9.out hb)
       have HZ_V_14_9_5:=Aside0.mk (u1c HZ_V_14_9.out HZ_V_14_9.out.size hb)
       have hd9:=u1h hHeld hb
       refine hK.out (Act.put _ (some 46) (.slice (some ⟨V_14_9.heap.size,0,none⟩) 1 1)) _ hd9 (fun hNext => ?_)
       simp only [Act.put,List.setIfInBounds_toArray,List.set_cons_zero,List.set_cons_succ,i64_w,i32_w]
       clear hK hHeld K hd9 hb
       have hHeld:=hNext
       clear hNext
       refine ur.permO_ (ord':=[(15,0),(16,0),(17,2)]) [14,9,5,13,4,3,12,8,2,11,7,1,10,6,0] (by kernel_rfl) ?_
       exact hcont ⟨(some ⟨V_14_9.heap.size,0,none⟩,1),(some ⟨V_14.heap.size,0,none⟩,grownCap V_14 x.f0.size 0 5),(BV_14,dV_14)⟩ V_14_9_5 ⟨⟨KA_V_14_9_5,KB_V_14_9_5,KC_V_14_9_5⟩,HZ_V_14_9_5,hHeld⟩
abbrev u1e.Dl:=S83
abbrev u1e.Sp:=S48
noncomputable def u1e.delsE (k:Nat):List u1e.Dl → Option (List Int)
 | [] => some []
 | x :: r => (u2z.f k x.f0).bind fun e => (u1e.delsE k r).map fun t => ur.gB e.1 x ++ t
def u1e.spotsE (l:List u1e.Sp):List Int:=l.flatMap ur.sB
def u1e.lim (b:List Int):Option (List Int × Int):=if b.length ≤ 140737488355328 then some (b,0) else none
noncomputable def u1e.f (k:Nat) (l0:List u1e.Dl) (l1:List u1e.Sp):Option (List Int × Int) :=
 if u2f.CanB l0 = true then (if u2i.CanB l1 = true then (u1e.delsE k l0).bind fun t => u1e.lim (u1b.put (l0.length:Int) 4 ++ (t ++ (u1b.put (l1.length:Int) 4 ++ u1e.spotsE l1))) else some ([],1)) else some ([],1)
theorem u1e.info:(Tryz.prog.info? 5).map (fun i => (i.zero,i.size,i.bytes)) = some (some (.int .u8 0),1,1):=by kernel_rfl
theorem u1e.k_step {n g x:Nat} (h:n ≤ g + 1 + x):n ≤ g + (x + 1):=by omega
theorem u1e.put4_at (n:Int) (w:World):Calls Tryz.prog 28 #[.int .u64 n,.int .i64 4] w fun e w' => ∃ A c,e = .returned (.slice A 4 c) ∧ Kd.R (Kd.int .u8) 5 w' w.heap.size (fun _ => True) (.slice A 4 c) (u1b.put n 4) ∧ Below w.heap.size w w':=ur.put4_at n w
theorem u1e.g_at (k:Nat) (x:u1e.Dl) (A:Option Addr) (c:Nat) (mb:List Int) (e9:Int) (w:World) (hx:x.f0.length ≤ c) (gx:Kd.C k79 w A x.f0.length x.f0) (hG:strings_ToValidUTF8.Gd w) (hM:u2z.f k x.f0 = some (mb,e9)) (hl:(ur.gB mb x).length ≤ 140737488355328) :
 Calls Tryz.prog 43 #[.iface 86 (.agg #[.slice A x.f0.length c,.int .i64 x.f1,.int .i64 x.f2,.int .i64 x.f3])] w fun e w' => ∃ A9 c9,e = .returned (.slice A9 (ur.gB mb x).length c9) ∧ Kd.R (Kd.int .u8) 5 w' w.heap.size (fun _ => True) (.slice A9 (ur.gB mb x).length c9) (ur.gB mb x) ∧ Below w.heap.size w w':=by
 refine (ur.calls_g k x A c mb e9 w hx gx hG hM hl).mono ?_
 rintro e w' ⟨v,rfl,hR,hB⟩
 obtain ⟨A9,c9,e⟩:=Kd.R_slice hR
 subst e
 exact ⟨A9,c9,rfl,hR,hB⟩
theorem u1e.s_at (x:u1e.Sp) (w:World) (hl:x.f0.size ≤ 1000000) :
 Calls Tryz.prog 43 #[.iface 88 (.agg #[.string x.f0,.int .i64 x.f1])] w fun e w' => ∃ A9 c9,e = .returned (.slice A9 (ur.sB x).length c9) ∧ Kd.R (Kd.int .u8) 5 w' w.heap.size (fun _ => True) (.slice A9 (ur.sB x).length c9) (ur.sB x) ∧ Below w.heap.size w w':=by
 refine (ur.calls_s x w hl).mono ?_
 rintro e w' ⟨v,rfl,hR,hB⟩
 obtain ⟨A9,c9,e⟩:=Kd.R_slice hR
 subst e
 exact ⟨A9,c9,rfl,hR,hB⟩
theorem u1e.wrapl {n:Nat} (h:n ≤ 10000):IntKind.u64.wrap (n:Int) = (n:Int):=by
 show (n:Int) % 18446744073709551616 = _
 exact Int.emod_eq_of_lt (by omega) (by omega)
set_option maxHeartbeats 8000000 in
set_option maxRecDepth 10000 in
theorem u1e.callsP (k:Nat) (A0:Option Addr) (c0:Nat) (l0:List u1e.Dl) (A1:Option Addr) (c1:Nat) (l1:List u1e.Sp) (r1:List Int) (r2:Int) (w:World) (hr0:Kd.C k83 w A0 l0.length l0) (hc0:l0.length ≤ c0) (hr1:Kd.C k48 w A1 l1.length l1) (hc1:l1.length ≤ c1) (hG:strings_ToValidUTF8.Gd w) (h:u1e.f k l0 l1 = some (r1,r2)) :
 Calls Tryz.prog 16 #[.slice A0 l0.length c0,.slice A1 l1.length c1] w fun e w' => ∃ v0_:Value,e = .returned (.tuple #[v0_,.int .i64 r2]) ∧ Kd.R (Kd.int .u8) 5 w' w.heap.size (fun _ => True) v0_ r1 ∧ Below w.heap.size w w':=by
 have HR0:=Aside0.mk hr0
 have HR1:=Aside0.mk hr1
 have HC0:=Aside0.mk hc0
 have HC1:=Aside0.mk hc1
 have HG:=Aside0.mk hG
 clear hr0 hr1 hc0 hc1 hG
 unfold u1e.f at h
 by_cases hcan:u2f.CanB l0 = true
 · rw [if_pos hcan] at h
   have HCA:=Aside0.mk hcan
   by_cases hcan2:u2i.CanB l1 = true
   · rw [if_pos hcan2] at h
     have HCB:=Aside0.mk hcan2
     obtain ⟨T,hT,h2⟩:=Option.bind_eq_some_iff.1 h
     have hlim:(u1b.put (l0.length:Int) 4 ++ (T ++ (u1b.put (l1.length:Int) 4 ++ u1e.spotsE l1))).length ≤ 140737488355328 ∧ (u1b.put (l0.length:Int) 4 ++ (T ++ (u1b.put (l1.length:Int) 4 ++ u1e.spotsE l1))) = r1 ∧ 0 = r2:=by
      unfold u1e.lim at h2
      split at h2
      · rename_i h9
        exact ⟨h9,(Prod.mk.inj (Option.some.inj h2)).1,(Prod.mk.inj (Option.some.inj h2)).2⟩
      · cases h2
     obtain ⟨hlim,rfl,rfl⟩:=hlim
     have HL:=Aside0.mk hlim
     have HT:=Aside0.mk hT
     have hn0:l0.length ≤ 10000:=by
      unfold u2f.CanB at hcan
      rw [Bool.and_eq_true,decide_eq_true_eq] at hcan
      exact hcan.1
     have hn1:l1.length ≤ 10000:=by
      unfold u2i.CanB at hcan2
      rw [Bool.and_eq_true,decide_eq_true_eq] at hcan2
      exact hcan2.1
     have HSP:Aside0 (∀ x ∈ l1,x.f0.size ≤ 1000000):=⟨fun x hx => by
      unfold u2i.CanB at hcan2
      rw [Bool.and_eq_true,List.all_eq_true] at hcan2
      have h9:=hcan2.2 x hx
      unfold u2i.okB at h9
      simp only [Bool.and_eq_true,decide_eq_true_eq] at h9
      omega⟩
     have hw0:=u1e.wrapl hn0
     have HW1:=Aside0.mk (u1e.wrapl hn1)
     clear hlim h2 h hT hcan hcan2
     go_enter Tryz.func16,Tryz.ntmps16
     go_wp2_with (first
      | (go_at_call 41;(with_reducible refine (u2f.calls A0 c0 l0 _ HR0.out HC0.out HG.out).mono ?_);rintro e W1 ⟨rfl,hB1⟩;rw [HCA.out];have HB1:=Aside0.mk hB1;clear hB1)
      | (go_at_call 42;(with_reducible refine (u2i.calls A1 c1 l1 _ (Kd.C_below HR1.out HB1.out) HC1.out).mono ?_);rintro e W2 ⟨rfl,hB2⟩;rw [HCB.out];have HB2:=Aside0.mk (u1c HB1.out HB1.out.size hB2);clear hB2)
      | (go_at_call 28;(with_reducible refine (u1e.put4_at (l0.length:Int) _).mono ?_);rintro e W3 ⟨A8,c8,rfl,hR8,hB8⟩;have HR8:=Aside0.mk (Kd.R_lower hR8 HB2.out.size);have HB3:=Aside0.mk (u1c HB2.out HB2.out.size hB8);clear hR8 hB8))
     clear hw0
     go_loopg [6,25] (l0.length) (fun kq v6 v25 wr => ∃ (i:Nat) (acc t:List Int),i ≤ l0.length ∧ v25 = .int .i64 i ∧ Aside0 (Kd.R (Kd.int .u8) 5 wr w.heap.size (fun _ => True) v6 acc) ∧ Aside0 (u1e.delsE k (l0.drop i) = some t ∧ acc ++ t = u1b.put (l0.length:Int) 4 ++ T) ∧ l0.length ≤ kq + i ∧ Aside0 (Below w.heap.size w wr))
     case atStart => exact ⟨0,_,T,Nat.zero_le _,rfl,HR8,⟨HT.out,rfl⟩,by omega,HB3⟩
     case round =>
      clear HR8 HB3 HB2 HB1
      obtain ⟨i,acc,t,hi,rfl,HR,HN,hk,HB⟩:=hrel
      obtain ⟨Ab,cb,eb⟩:=Kd.R_slice HR.out
      subst eb
      by_cases hlt:i < l0.length
      · obtain ⟨ad,A3,c3,e,f0,f1,f2,f3,g0,g1⟩:=at_T83 HR0.out (i:Int) (by omega) (by omega)
        subst e
        obtain ⟨x,hx⟩:∃ x,Aside0 (u2t l0 (i:Int) = x):=⟨_,⟨rfl⟩⟩
        rw [hx.out] at f0 f1 f2 f3 g0 g1
        simp only [Int.toNat_natCast] at f0 f1 f2 f3
        have q0:wr.cell? (ad.add (i * 4)) = _:=(HB.out.cell (World.block_lt_of_cell? w _ f0)).trans f0
        have q1:wr.cell? ⟨(ad.add (i * 4)).block,(ad.add (i * 4)).off + 1,none⟩ = _:=(HB.out.cell (World.block_lt_of_cell? w _ f1)).trans f1
        have q2:wr.cell? ⟨(ad.add (i * 4)).block,(ad.add (i * 4)).off + 2,none⟩ = _:=(HB.out.cell (World.block_lt_of_cell? w _ f2)).trans f2
        have q3:wr.cell? ⟨(ad.add (i * 4)).block,(ad.add (i * 4)).off + 3,none⟩ = _:=(HB.out.cell (World.block_lt_of_cell? w _ f3)).trans f3
        have HX:=Aside0.mk g0
        have HGX:=Aside0.mk g1
        have hdr:l0.drop i = x :: l0.drop (i + 1):=by
         rw [List.drop_eq_getElem_cons hlt]
         congr 1
         rw [← hx.out]
         simp [u2t,hlt]
        have h9:=HN.out
        rw [hdr] at h9
        obtain ⟨h9,h10⟩:=h9
        obtain ⟨⟨e,e9⟩,he,h9⟩:=Option.bind_eq_some_iff.1 h9
        obtain ⟨t2,ht2,h9⟩:=Option.map_eq_some_iff.1 h9
        have HE:=Aside0.mk he
        have HN2:Aside0 (u1e.delsE k (l0.drop (i + 1)) = some t2 ∧ (acc ++ ur.gB e x) ++ t2 = u1b.put (l0.length:Int) 4 ++ T):=⟨ht2,by rw [← h10,← h9];simp⟩
        have HLA:Aside0 ((acc ++ ur.gB e x).length ≤ 140737488355328):=⟨by have h7:=congrArg List.length HN2.out.2;have h6:=HL.out;simp only [List.length_append] at h7 h6 ⊢;omega⟩
        have HLE:Aside0 ((ur.gB e x).length ≤ 140737488355328):=⟨by have h7:=HLA.out;rw [List.length_append] at h7;omega⟩
        clear f0 f1 f2 f3 g0 g1 hdr h9 h10 he ht2 HN
        obtain ⟨g2,rfl⟩:∃ g2,gk = g2 + 1:=⟨gk - 1,by omega⟩
        have HK:=Aside0.mk (u1e.k_step hk)
        clear hk
        obtain ⟨W4,hW4⟩:∃ W4,Aside0 (wr.alloc (.cells #[.slice A3 x.f0.length c3,.int .i64 x.f1,.int .i64 x.f2,.int .i64 x.f3] 83) = W4):=⟨_,⟨rfl⟩⟩
        have HB4:Aside0 (Below w.heap.size w W4):=⟨by rw [← hW4.out];exact uj HB.out _⟩
        have HR4:Aside0 (Kd.R (Kd.int .u8) 5 W4 w.heap.size (fun _ => True) (.slice Ab acc.length cb) acc):=⟨by rw [← hW4.out];exact Kd.R_alloc HR.out _⟩
        go_wp2_with (first
         | (go_at_call 43;rw [hW4.out];(with_reducible refine (u1e.g_at k x A3 c3 e e9 W4 HX.out (Kd.C_below HGX.out HB4.out) (HG.out.below HB4.out) HE.out HLE.out).mono ?_);rintro e W5 ⟨A9,c9,rfl,hR9,hB9⟩;have HR5:=Aside0.mk (Kd.R_below HR4.out hB9);have HR9:=Aside0.mk (Kd.R_reads' hR9);have HB5:=Aside0.mk (u1c HB4.out HB4.out.size hB9);clear hR9 hB9)
         | (at_builtin;refine Kd.R_append_row (w0:=w) (Value.int .u8) (0:Int) (h1:=fun _ => rfl) w.heap.size rfl (.tmp 29) (.tmp 33) 22 5 (.int .u8 0) 1 rfl Tryz.underlying22 u1e.info rfl (by decide) _ acc (ur.gB e x) A9 (ur.gB e x).length c9 (fun _ => True) rfl rfl (fun _ _ => trivial) HR5.out HR9.out.2.2 HB5.out HB5.out.size ?_ ?_))
        · have h7:=HLA.out
          simpa using h7
        · intro v9 W6 hR6 hB6 _ _
          have HR6:=Aside0.mk hR6
          have HB6:=Aside0.mk hB6
          clear hR6 hB6
          go_wp2
          go_roundg g2
          case rel => exact ⟨i + 1,_,t2,by omega,by go_num,HR6,HN2,HK.out,HB6⟩
          case measure => omega
      · have HH:Aside0 (acc = u1b.put (l0.length:Int) 4 ++ T):=⟨by
         have h9:=HN.out
         rw [List.drop_eq_nil_of_le (by omega)] at h9
         obtain ⟨h9,h10⟩:=h9
         have h8:=Option.some.inj h9
         rw [← h8,List.append_nil] at h10
         exact h10⟩
        have HLA:Aside0 ((acc ++ u1b.put (l1.length:Int) 4).length ≤ 140737488355328):=⟨by have h6:=HL.out;rw [HH.out];simp only [List.length_append] at h6 ⊢;omega⟩
        have hw1:=HW1.out
        clear HN hk
        go_wp2_with (first
         | (go_at_call 28;(with_reducible refine (u1e.put4_at (l1.length:Int) _).mono ?_);rintro e W3 ⟨A8,c8,rfl,hR8,hB8⟩;have HR3:=Aside0.mk (Kd.R_below HR.out hB8);have HR8:=Aside0.mk (Kd.R_reads' hR8);have HB3:=Aside0.mk (u1c HB.out HB.out.size hB8);clear hR8 hB8)
         | (at_builtin;refine Kd.R_append_row (w0:=w) (Value.int .u8) (0:Int) (h1:=fun _ => rfl) w.heap.size rfl (.tmp 36) (.tmp 40) 22 5 (.int .u8 0) 1 rfl Tryz.underlying22 u1e.info rfl (by decide) _ acc (u1b.put (l1.length:Int) 4) A8 4 c8 (fun _ => True) rfl rfl (fun _ _ => trivial) HR3.out HR8.out.2.2 HB3.out HB3.out.size ?_ ?_))
        · have h7:=HLA.out
          have h8:(u1b.put (l1.length:Int) 4).length = 4:=rfl
          rw [List.length_append,h8] at h7
          omega
        · intro v9 W6 hR6 hB6 _ _
          have HR6:=Aside0.mk hR6
          have HB6:=Aside0.mk hB6
          clear hR6 hB6 hw1
          go_wp2
          go_loopg [6,44] (l1.length) (fun kq v6 v44 wr => ∃ (i:Nat) (acc2:List Int),i ≤ l1.length ∧ v44 = .int .i64 i ∧ Aside0 (Kd.R (Kd.int .u8) 5 wr w.heap.size (fun _ => True) v6 acc2) ∧ Aside0 (acc2 ++ u1e.spotsE (l1.drop i) = u1b.put (l0.length:Int) 4 ++ (T ++ (u1b.put (l1.length:Int) 4 ++ u1e.spotsE l1))) ∧ l1.length ≤ kq + i ∧ Aside0 (Below w.heap.size w wr))
          case atStart => exact ⟨0,_,Nat.zero_le _,rfl,HR6,⟨by rw [HH.out];simp⟩,by omega,HB6⟩
          case round =>
           clear HR6 HB6 HB HR HH HLA hlt hi
           obtain ⟨i2,acc2,hi,rfl,HR,HN,hk,HB⟩:=hrel
           obtain ⟨Ab2,cb2,eb⟩:=Kd.R_slice HR.out
           subst eb
           by_cases hlt:i2 < l1.length
           · obtain ⟨ad,e,f0,f1⟩:=at_T48 HR1.out (i2:Int) (by omega) (by omega)
             subst e
             obtain ⟨x,hx⟩:∃ x,Aside0 (u3y l1 (i2:Int) = x):=⟨_,⟨rfl⟩⟩
             rw [hx.out] at f0 f1
             simp only [Int.toNat_natCast] at f0 f1
             have q0:wr.cell? (ad.add (i2 * 2)) = _:=(HB.out.cell (World.block_lt_of_cell? w _ f0)).trans f0
             have q1:wr.cell? ⟨(ad.add (i2 * 2)).block,(ad.add (i2 * 2)).off + 1,none⟩ = _:=(HB.out.cell (World.block_lt_of_cell? w _ f1)).trans f1
             have hget:l1[i2]'hlt = x:=by
              rw [← hx.out]
              simp [u3y,hlt]
             have hdr:l1.drop i2 = x :: l1.drop (i2 + 1):=by
              rw [List.drop_eq_getElem_cons hlt,hget]
             have HXS:Aside0 (x.f0.size ≤ 1000000):=⟨HSP.out x (by rw [← hget];exact List.getElem_mem hlt)⟩
             have HN2:Aside0 ((acc2 ++ ur.sB x) ++ u1e.spotsE (l1.drop (i2 + 1)) = u1b.put (l0.length:Int) 4 ++ (T ++ (u1b.put (l1.length:Int) 4 ++ u1e.spotsE l1))):=⟨by have h9:=HN.out;rw [hdr] at h9;rw [← h9];simp [u1e.spotsE]⟩
             have HLA:Aside0 ((acc2 ++ ur.sB x).length ≤ 140737488355328):=⟨by have h7:=congrArg List.length HN2.out;have h6:=HL.out;rw [List.length_append] at h7;omega⟩
             clear f0 f1 hdr hget HN
             obtain ⟨g2,rfl⟩:∃ g2,gk = g2 + 1:=⟨gk - 1,by omega⟩
             have HK:=Aside0.mk (u1e.k_step hk)
             clear hk
             obtain ⟨W4,hW4⟩:∃ W4,Aside0 (wr.alloc (.cells #[.string x.f0,.int .i64 x.f1] 48) = W4):=⟨_,⟨rfl⟩⟩
             have HB4:Aside0 (Below w.heap.size w W4):=⟨by rw [← hW4.out];exact uj HB.out _⟩
             have HR4:Aside0 (Kd.R (Kd.int .u8) 5 W4 w.heap.size (fun _ => True) (.slice Ab2 acc2.length cb2) acc2):=⟨by rw [← hW4.out];exact Kd.R_alloc HR.out _⟩
             go_wp2_with (first
              | (go_at_call 43;rw [hW4.out];(with_reducible refine (u1e.s_at x W4 HXS.out).mono ?_);rintro e W5 ⟨A9,c9,rfl,hR9,hB9⟩;have HR5:=Aside0.mk (Kd.R_below HR4.out hB9);have HR9:=Aside0.mk (Kd.R_reads' hR9);have HB5:=Aside0.mk (u1c HB4.out HB4.out.size hB9);clear hR9 hB9)
              | (at_builtin;refine Kd.R_append_row (w0:=w) (Value.int .u8) (0:Int) (h1:=fun _ => rfl) w.heap.size rfl (.tmp 48) (.tmp 52) 22 5 (.int .u8 0) 1 rfl Tryz.underlying22 u1e.info rfl (by decide) _ acc2 (ur.sB x) A9 (ur.sB x).length c9 (fun _ => True) rfl rfl (fun _ _ => trivial) HR5.out HR9.out.2.2 HB5.out HB5.out.size ?_ ?_))
             · have h7:=HLA.out
               simpa using h7
             · intro v9 W6 hR6 hB6 _ _
               have HR6:=Aside0.mk hR6
               have HB6:=Aside0.mk hB6
               clear hR6 hB6
               go_wp2
               go_roundg g2
               case rel => exact ⟨i2 + 1,_,by omega,by go_num,HR6,HN2,HK.out,HB6⟩
               case measure => omega
           · have HE:Aside0 (acc2 = u1b.put (l0.length:Int) 4 ++ (T ++ (u1b.put (l1.length:Int) 4 ++ u1e.spotsE l1))):=⟨by
              have h9:=HN.out
              rw [List.drop_eq_nil_of_le (by omega)] at h9
              simpa [u1e.spotsE] using h9⟩
             clear HN hk
             go_wp2
             go_ret2
             exact ⟨_,rfl,by rw [← HE.out];exact HR.out,HB.out⟩
   · rw [if_neg hcan2] at h
     obtain ⟨rfl,rfl⟩:=Prod.mk.inj (Option.some.inj h)
     have HCB:Aside0 (u2i.CanB l1 = false):=⟨by simpa using hcan2⟩
     clear h hcan hcan2
     go_enter Tryz.func16,Tryz.ntmps16
     go_wp2_with (first
      | (go_at_call 41;(with_reducible refine (u2f.calls A0 c0 l0 _ HR0.out HC0.out HG.out).mono ?_);rintro e W1 ⟨rfl,hB1⟩;rw [HCA.out];have HB1:=Aside0.mk hB1;clear hB1)
      | (go_at_call 42;(with_reducible refine (u2i.calls A1 c1 l1 _ (Kd.C_below HR1.out HB1.out) HC1.out).mono ?_);rintro e W2 ⟨rfl,hB2⟩;rw [HCB.out];have HB2:=Aside0.mk (u1c HB1.out HB1.out.size hB2);clear hB2))
     go_ret2
     exact ⟨_,rfl,Kd.R_nil _ _ _ _ _,HB2.out⟩
 · rw [if_neg hcan] at h
   obtain ⟨rfl,rfl⟩:=Prod.mk.inj (Option.some.inj h)
   have HCA:Aside0 (u2f.CanB l0 = false):=⟨by simpa using hcan⟩
   clear h hcan
   go_enter Tryz.func16,Tryz.ntmps16
   go_wp2_with (go_at_call 41;(with_reducible refine (u2f.calls A0 c0 l0 _ HR0.out HC0.out HG.out).mono ?_);rintro e W1 ⟨rfl,hB1⟩;rw [HCA.out];have HB1:=Aside0.mk hB1;clear hB1)
   go_ret2
   exact ⟨_,rfl,Kd.R_nil _ _ _ _ _,HB1.out⟩
theorem u3j.info:(Tryz.prog.info? 5).map (fun i => (i.zero,i.size,i.bytes)) = some (some (.int .u8 0),1,1):=by kernel_rfl
theorem u3j.enc_at (k:Nat) (A0:Option Addr) (c0:Nat) (l0:List S83) (A1:Option Addr) (c1:Nat) (l1:List S48) (r1:List Int) (r2:Int) (w:World) (hr0:Kd.C k83 w A0 l0.length l0) (hc0:l0.length ≤ c0) (hr1:Kd.C k48 w A1 l1.length l1) (hc1:l1.length ≤ c1) (hG:strings_ToValidUTF8.Gd w) (h:u1e.f k l0 l1 = some (r1,r2)) :
 Calls Tryz.prog 16 #[.slice A0 l0.length c0,.slice A1 l1.length c1] w fun e w' => ∃ A c,e = .returned (.tuple #[.slice A r1.length c,.int .i64 r2]) ∧ r1.length ≤ c ∧ Kd.C (Kd.int .u8) w' A r1.length r1 ∧ Below w.heap.size w w':=by
 refine (u1e.callsP k A0 c0 l0 A1 c1 l1 r1 r2 w hr0 hc0 hr1 hc1 hG h).mono ?_
 rintro e w' ⟨v,rfl,hR,hB⟩
 obtain ⟨A,c,e⟩:=Kd.R_slice hR
 subst e
 exact ⟨A,c,rfl,(Kd.R_reads' hR).2.1,(Kd.R_reads' hR).2.2,hB⟩
theorem u3j.dec_at (A:Option Addr) (c n:Nat) (l:List Int) (a:List S83) (b:List S48) (e9:Int) (W:World) (hn:l.length = n) (hC:Kd.C (Kd.int .u8) W A l.length l) (hc:n ≤ c) (hl:l.length ≤ 140737488355328) (h256:∀ y ∈ l,0 ≤ y ∧ y < 256) (hG:strings_ToValidUTF8.Gd W) (h:ui.dec l = (a,b,e9)) :
 Calls Tryz.prog 19 #[.slice A n c] W fun e W' => ∃ A1 c1 A2 c2,e = .returned (.tuple #[.slice A1 a.length c1,.slice A2 b.length c2,.int .i64 e9]) ∧ (a.length ≤ c1 ∧ Kd.C k83 W' A1 a.length a) ∧ (b.length ≤ c2 ∧ Kd.C k48 W' A2 b.length b) ∧ Below W.heap.size W W':=by
 subst hn
 refine (ui.callsD A c l _ W hC hc hl h256 hG h).mono ?_
 rintro e W' ⟨v1,v2,rfl,hR1,hR2,hB⟩
 obtain ⟨A1,c1,rfl⟩:=Kd.S_slice hR1
 obtain ⟨A2,c2,rfl⟩:=Kd.R_slice hR2
 exact ⟨A1,c1,A2,c2,rfl,⟨(Kd.S_reads' hR1).2.1,(Kd.S_reads' hR1).2.2⟩,⟨(Kd.R_reads' hR2).2.1,(Kd.R_reads' hR2).2.2⟩,hB⟩
set_option maxHeartbeats 8000000 in
set_option maxRecDepth 10000 in
theorem u3j.calls_bad (k:Nat) (A0:Option Addr) (c0:Nat) (l0:List S83) (A1:Option Addr) (c1:Nat) (l1:List S48) (w:World) (hr0:Kd.C k83 w A0 l0.length l0) (hc0:l0.length ≤ c0) (hr1:Kd.C k48 w A1 l1.length l1) (hc1:l1.length ≤ c1) (hG:strings_ToValidUTF8.Gd w)
 (he:u1e.f k (l0.take 40) (l1.take 40) = some ([],1)) (hc:u2s.f k (l0.take 40) = some false ∨ (u2s.f k (l0.take 40) = some true ∧ u2h.f k (l1.take 40) = some false)) :
 Calls Tryz.prog 5 #[.slice A0 l0.length c0,.slice A1 l1.length c1] w fun e w' => e = .returned (.bool true) ∧ Below w.heap.size w w':=by
 obtain ⟨a,ha⟩:∃ a,Aside0 (l0.take 40 = a):=⟨_,⟨rfl⟩⟩
 obtain ⟨b,hb⟩:∃ b,Aside0 (l1.take 40 = b):=⟨_,⟨rfl⟩⟩
 have hla:Aside0 (a.length = min 40 l0.length):=⟨by rw [← ha.out,List.length_take]⟩
 have hlb:Aside0 (b.length = min 40 l1.length):=⟨by rw [← hb.out,List.length_take]⟩
 have hm0:(if (40:Int) < (l0.length:Int) then 40 else (l0.length:Int)) = (a.length:Int):=by have:=hla.out;split <;> omega
 have hm1:(if (40:Int) < (l1.length:Int) then 40 else (l1.length:Int)) = (b.length:Int):=by have:=hlb.out;split <;> omega
 obtain ⟨i0,hi0⟩:=Option.isSome_iff_exists.1 (show (Tryz.prog.info? 83).isSome = true by kernel_rfl)
 obtain ⟨i1,hi1⟩:=Option.isSome_iff_exists.1 (show (Tryz.prog.info? 48).isSome = true by kernel_rfl)
 have hcut0:∀ W:World,(Instr.slice 40 (.slice A0 l0.length c0) none (some (.int .i64 (a.length:Int))) none).run Tryz.prog W = .ok (.slice A0 a.length c0) W:=fun W => by
  have h9:=cut_to (P:=Tryz.prog) 40 83 .i64 Tryz.underlying40 hi0 A0 l0.length c0 (a.length:Int) (by omega) (by have:=hla.out;omega) hc0 W
  simpa using h9
 have hcut1:∀ W:World,(Instr.slice 41 (.slice A1 l1.length c1) none (some (.int .i64 (b.length:Int))) none).run Tryz.prog W = .ok (.slice A1 b.length c1) W:=fun W => by
  have h9:=cut_to (P:=Tryz.prog) 41 48 .i64 Tryz.underlying41 hi1 A1 l1.length c1 (b.length:Int) (by omega) (by have:=hlb.out;omega) hc1 W
  simpa using h9
 have HA:Aside0 (Kd.C k83 w A0 a.length a):=⟨by
  have h8:l0.take a.length = a:=by rw [hla.out,← List.take_take,List.take_length,ha.out] <;> simp
  have h7:=Kd.C_take (m:=a.length) hr0 (by have:=hla.out;omega)
  rw [h8] at h7
  exact h7⟩
 have HB1:Aside0 (Kd.C k48 w A1 b.length b):=⟨by
  have h8:l1.take b.length = b:=by rw [hlb.out,← List.take_take,List.take_length,hb.out] <;> simp
  have h7:=Kd.C_take (m:=b.length) hr1 (by have:=hlb.out;omega)
  rw [h8] at h7
  exact h7⟩
 have HCA:Aside0 (a.length ≤ c0):=⟨by have:=hla.out;omega⟩
 have HCB:Aside0 (b.length ≤ c1):=⟨by have:=hlb.out;omega⟩
 rw [ha.out,hb.out] at he
 rw [ha.out,hb.out] at hc
 have HE:=Aside0.mk he
 have HCN:=Aside0.mk hc
 have HG:=Aside0.mk hG
 clear hla hlb ha hb hr0 hr1 hc0 hc1 hi0 hi1 he hc hG
 go_enter Tryz.func5,Tryz.ntmps5
 go_wp2
 repeat (go_quiet (fail))
 obtain ⟨V,hV⟩:∃ V,Aside0 (w.drewN nq = V):=⟨_,⟨rfl⟩⟩
 have hbv:Below w.heap.size w V:=by rw [← hV.out];exact uh (Below.refl _ _) nq
 have HBV:=Aside0.mk hbv
 have HAV:=Aside0.mk (Kd.C_below HA.out hbv)
 have HBB:=Aside0.mk (Kd.C_below HB1.out hbv)
 have HGV:=Aside0.mk (HG.out.below hbv)
 clear hbv hcut0 hcut1 hm0 hm1
 go_wp2_with (first
  | (go_at_call 16;rw [hV.out];(with_reducible refine (u3j.enc_at k A0 c0 a A1 c1 b [] 1 V HAV.out HCA.out HBB.out HCB.out HGV.out HE.out).mono ?_);rintro e W1 ⟨A9,c9,rfl,hq9,hC9,hB9⟩;have HQ9:=Aside0.mk hq9;have HR9:=Aside0.mk hC9;have HBa:=Aside0.mk (u1c HBV.out HBV.out.size hB9);have HA2:=Aside0.mk (Kd.C_below HAV.out hB9);have HB2:=Aside0.mk (Kd.C_below HBB.out hB9);clear hq9 hC9 hB9)
  | (go_at_call 17;(with_reducible refine (dryrotref14_Encode.calls_bad k A0 c0 a A1 c1 b _ HA2.out HCA.out HB2.out HCB.out HCN.out).mono ?_);rintro e W2 ⟨rfl,hB2⟩;have HBb:=Aside0.mk (u1c HBa.out HBa.out.size hB2);clear hB2)
  | (go_at_call 18;(with_reducible refine (dryrotlaw14_awake.calls true _ rfl).mono ?_);rintro e W3 ⟨rfl,hB3⟩;have HBc:=Aside0.mk (u1c HBb.out HBb.out.size hB3);clear hB3))
 go_ret
 exact ⟨rfl,HBc.out⟩
set_option maxHeartbeats 8000000 in
set_option maxRecDepth 10000 in
theorem u3j.calls_good (k:Nat) (A0:Option Addr) (c0:Nat) (l0:List S83) (A1:Option Addr) (c1:Nat) (l1:List S48) (bs:List Int) (w:World) (hr0:Kd.C k83 w A0 l0.length l0) (hc0:l0.length ≤ c0) (hr1:Kd.C k48 w A1 l1.length l1) (hc1:l1.length ≤ c1) (hG:strings_ToValidUTF8.Gd w)
 (he:u1e.f k (l0.take 40) (l1.take 40) = some (bs,0)) (hbl:bs.length ≤ 1000000) (h256:∀ y ∈ bs,0 ≤ y ∧ y < 256) (hd1:ui.dec bs = (l0.take 40,l1.take 40,0)) (hd2:ui.dec (bs ++ [0]) = ([],[],5)) (hs1:u1n.f k (l0.take 40) (l0.take 40) = some true) (hs2:api_Spot.f k (l1.take 40) (l1.take 40) = some true) :
 Calls Tryz.prog 5 #[.slice A0 l0.length c0,.slice A1 l1.length c1] w fun e w' => e = .returned (.bool true) ∧ Below w.heap.size w w':=by
 obtain ⟨a,ha⟩:∃ a,Aside0 (l0.take 40 = a):=⟨_,⟨rfl⟩⟩
 obtain ⟨b,hb⟩:∃ b,Aside0 (l1.take 40 = b):=⟨_,⟨rfl⟩⟩
 have hla:Aside0 (a.length = min 40 l0.length):=⟨by rw [← ha.out,List.length_take]⟩
 have hlb:Aside0 (b.length = min 40 l1.length):=⟨by rw [← hb.out,List.length_take]⟩
 have hm0:(if (40:Int) < (l0.length:Int) then 40 else (l0.length:Int)) = (a.length:Int):=by have:=hla.out;split <;> omega
 have hm1:(if (40:Int) < (l1.length:Int) then 40 else (l1.length:Int)) = (b.length:Int):=by have:=hlb.out;split <;> omega
 obtain ⟨i0,hi0⟩:=Option.isSome_iff_exists.1 (show (Tryz.prog.info? 83).isSome = true by kernel_rfl)
 obtain ⟨i1,hi1⟩:=Option.isSome_iff_exists.1 (show (Tryz.prog.info? 48).isSome = true by kernel_rfl)
 have hcut0:∀ W:World,(Instr.slice 40 (.slice A0 l0.length c0) none (some (.int .i64 (a.length:Int))) none).run Tryz.prog W = .ok (.slice A0 a.length c0) W:=fun W => by
  have h9:=cut_to (P:=Tryz.prog) 40 83 .i64 Tryz.underlying40 hi0 A0 l0.length c0 (a.length:Int) (by omega) (by have:=hla.out;omega) hc0 W
  simpa using h9
 have hcut1:∀ W:World,(Instr.slice 41 (.slice A1 l1.length c1) none (some (.int .i64 (b.length:Int))) none).run Tryz.prog W = .ok (.slice A1 b.length c1) W:=fun W => by
  have h9:=cut_to (P:=Tryz.prog) 41 48 .i64 Tryz.underlying41 hi1 A1 l1.length c1 (b.length:Int) (by omega) (by have:=hlb.out;omega) hc1 W
  simpa using h9
 have HA:Aside0 (Kd.C k83 w A0 a.length a):=⟨by
  have h8:l0.take a.length = a:=by rw [hla.out,← List.take_take,List.take_length,ha.out] <;> simp
  have h7:=Kd.C_take (m:=a.length) hr0 (by have:=hla.out;omega)
  rw [h8] at h7
  exact h7⟩
 have HB1:Aside0 (Kd.C k48 w A1 b.length b):=⟨by
  have h8:l1.take b.length = b:=by rw [hlb.out,← List.take_take,List.take_length,hb.out] <;> simp
  have h7:=Kd.C_take (m:=b.length) hr1 (by have:=hlb.out;omega)
  rw [h8] at h7
  exact h7⟩
 have HCA:Aside0 (a.length ≤ c0):=⟨by have:=hla.out;omega⟩
 have HCB:Aside0 (b.length ≤ c1):=⟨by have:=hlb.out;omega⟩
 rw [ha.out,hb.out] at he
 rw [ha.out,hb.out] at hd1
 rw [ha.out] at hs1
 rw [hb.out] at hs2
 have HE:=Aside0.mk he
 have HD1:=Aside0.mk hd1
 have HD2:=Aside0.mk hd2
 have HS1:=Aside0.mk hs1
 have HS2:=Aside0.mk hs2
 have HBL:=Aside0.mk hbl
 have H256:=Aside0.mk h256
 have H256x:Aside0 (∀ y ∈ bs ++ [0],0 ≤ y ∧ y < 256):=⟨fun y hy => by rcases List.mem_append.1 hy with h9 | h9;exact h256 y h9;rcases List.mem_cons.1 h9 with rfl | h8;exact ⟨by decide,by decide⟩;cases h8⟩
 have HCL:Aside0 (u3m.f bs = some bs):=⟨if_pos (by omega)⟩
 have HG:=Aside0.mk hG
 clear hla hlb ha hb hr0 hr1 hc0 hc1 hi0 hi1 he hd1 hd2 hs1 hs2 hbl h256 hG
 go_enter Tryz.func5,Tryz.ntmps5
 go_wp2
 repeat (go_quiet (fail))
 obtain ⟨V,hV⟩:∃ V,Aside0 (w.drewN nq = V):=⟨_,⟨rfl⟩⟩
 have hbv:Below w.heap.size w V:=by rw [← hV.out];exact uh (Below.refl _ _) nq
 have HBV:=Aside0.mk hbv
 have HAV:=Aside0.mk (Kd.C_below HA.out hbv)
 have HBB:=Aside0.mk (Kd.C_below HB1.out hbv)
 have HGV:=Aside0.mk (HG.out.below hbv)
 clear hbv hcut0 hcut1 hm0 hm1
 go_wp2_with (first
  | (go_at_call 16;rw [hV.out];(with_reducible refine (u3j.enc_at k A0 c0 a A1 c1 b bs 0 V HAV.out HCA.out HBB.out HCB.out HGV.out HE.out).mono ?_);rintro e W1 ⟨A9,c9,rfl,hq9,hC9,hB9⟩;have HQ9:=Aside0.mk hq9;have HR9:=Aside0.mk hC9;have HBa:=Aside0.mk (u1c HBV.out HBV.out.size hB9);have HA2:=Aside0.mk (Kd.C_below HAV.out hB9);have HB2:=Aside0.mk (Kd.C_below HBB.out hB9);clear hq9 hC9 hB9)
  | (go_at_call 19;(with_reducible refine (u3j.dec_at A9 c9 bs.length bs a b 0 _ rfl HR9.out HQ9.out (by have h9:=HBL.out;omega) H256.out (HG.out.below HBa.out) HD1.out).mono ?_);rintro e W4 ⟨D1,e1,D2,e2,rfl,⟨hq1,hS1⟩,⟨hq2,hS2⟩,hB4⟩;have HQ1:=Aside0.mk hq1;have HQ2:=Aside0.mk hq2;have HT1:=Aside0.mk hS1;have HT2:=Aside0.mk hS2;have HBb:=Aside0.mk (u1c HBa.out HBa.out.size hB4);have HA4:=Aside0.mk (Kd.C_below HA2.out hB4);have HB4:=Aside0.mk (Kd.C_below HB2.out hB4);have HR4:=Aside0.mk (Kd.C_below HR9.out hB4);clear hq1 hS1 hq2 hS2 hB4)
  | (go_at_call 14;(with_reducible refine (u3m.calls A9 c9 bs bs W4 HR4.out HQ9.out HCL.out).mono ?_);rintro e W6 ⟨v6,rfl,hR6,hB6⟩;have HR6:=Aside0.mk hR6;have HB6:=Aside0.mk hB6;clear hR6 hB6)
  | (at_builtin;refine Kd.R_append (Kd.int .u8) (w0:=W4) (W:=W6) W4.heap.size rfl (.tmp 57) (.tmp 58) 22 5 (.int .u8 0) 1 rfl Tryz.underlying22 u3j.info rfl (by decide) (by decide) _ bs 0 [.int .u8 0] (fun _ => True) (fun _ => False) rfl rfl rfl (fun _ hk => hk.elim) (fun _ _ => trivial) HR6.out HB6.out HB6.out.size ?hbig ?hgo))
 case hbig =>
  have h9:=HBL.out
  omega
 case hgo =>
  intro v7 W7 hR7 hB7 _ _
  obtain ⟨A7,c7,e7⟩:=Kd.R_slice hR7
  replace e7:v7 = .slice A7 (bs.length + 1) c7:=by rw [e7,List.length_append];rfl
  have HR7:Aside0 (bs.length + 1 ≤ c7 ∧ Kd.C (Kd.int .u8) W7 A7 (bs ++ [0]).length (bs ++ [0])):=⟨by
   rw [e7] at hR7
   have h9:=Kd.R_reads' hR7
   rw [h9.1] at h9
   refine ⟨?_,h9.2.2⟩
   have h8:=h9.2.1
   rw [List.length_append] at h8
   exact h8⟩
  subst e7
  have HB7:=Aside0.mk (u1c HBb.out HBb.out.size hB7)
  have HA7:=Aside0.mk (Kd.C_below HA4.out hB7)
  have HB71:=Aside0.mk (Kd.C_below HB4.out hB7)
  have HT17:=Aside0.mk (Kd.C_below HT1.out hB7)
  have HT27:=Aside0.mk (Kd.C_below HT2.out hB7)
  clear hR7 hB7
  go_wp2_with (first
   | (go_at_call 19;(with_reducible refine (u3j.dec_at A7 c7 (bs.length + 1) (bs ++ [0]) [] [] 5 W7 (by simp) HR7.out.2 HR7.out.1 (by have h9:=HBL.out;simp;omega) H256x.out (HG.out.below HB7.out) HD2.out).mono ?_);rintro e W8 ⟨F1,f1,F2,f2,rfl,_,_,hB8⟩;have HB8:=Aside0.mk (u1c HB7.out HB7.out.size hB8);have HA8:=Aside0.mk (Kd.C_below HA7.out hB8);have HB81:=Aside0.mk (Kd.C_below HB71.out hB8);have HT18:=Aside0.mk (Kd.C_below HT17.out hB8);have HT28:=Aside0.mk (Kd.C_below HT27.out hB8);clear hB8)
   | (go_at_call 20;(with_reducible refine (u1n.calls k D1 e1 a A0 c0 a true _ HT18.out HQ1.out HA8.out HCA.out HS1.out).mono ?_);rintro e W9 ⟨rfl,hB9⟩;have HB9:=Aside0.mk (u1c HB8.out HB8.out.size hB9);have HB91:=Aside0.mk (Kd.C_below HB81.out hB9);have HT29:=Aside0.mk (Kd.C_below HT28.out hB9);clear hB9)
   | (go_at_call 21;(with_reducible refine (api_Spot.calls k D2 e2 b A1 c1 b true _ HT29.out HQ2.out HB91.out HCB.out HS2.out).mono ?_);rintro e W10 ⟨rfl,hD10⟩;have HB10:=Aside0.mk (u1c HB9.out HB9.out.size hD10.below);clear hD10))
  go_ret
  exact ⟨rfl,HB10.out⟩
end Go.Proofs.YtgnehcgaplnfkaaGreatDoor.PAll
namespace Go.Proofs.YtgnehcgaplnfkaaGreatDoor.Laws
open Go.RowKit Go.Proofs.YtgnehcgaplnfkaaGreatDoor.PAll Go.Proofs.YtgnehcgaplnfkaaGreatDoorW.PrintWords Go.Proofs.YtgnehcgaplnfkaaGreatDoorW.PrintLast
set_option linter.unusedVariables false
set_option linter.unusedSimpArgs false
abbrev Dl:=S83
abbrev Sp:=S48
theorem bv_put4 (x:Int) (h0:0 ≤ x) (h1:x < 4294967296):bv (u1b.put x 4) = x:=by
 rw [u1b.put4]
 simp only [bv,List.foldl,bvS]
 omega
theorem tnum8 (x:Int) (hx:I64 x) (r:List Int) (hr:∀ y ∈ r,u2j y):un.num 8 ⟨ur.put8 x ++ r,false⟩ = (x,⟨r,false⟩):=by
 unfold un.num ur.put8
 rw [num_put8 _ (u64_u _) _ hr]
 simp only [w64_u64 _ hx]
theorem tnum4 (x:Int) (h0:0 ≤ x) (h1:x < 4294967296) (r:List Int) (hr:∀ y ∈ r,u2j y):un.num 4 ⟨u1b.put x 4 ++ r,false⟩ = (x,⟨r,false⟩):=by
 unfold un.num
 rw [num_put 4 (by decide) x (bv_put4 x h0 h1) r hr]
 have:wrap64 x = x:=by unfold wrap64;omega
 simp only [this]
theorem tnum1 (c:Int) (hc:u2j c) (r:List Int) (hr:∀ y ∈ r,u2j y):un.num 1 ⟨c :: r,false⟩ = (c,⟨r,false⟩):=by
 unfold un.num
 rw [num1 c r (byte_cons hc hr)]
 have:wrap64 c = c:=by unfold u2j at hc;unfold wrap64;omega
 simp only [this]
theorem tcnt (x:Int) (h0:0 ≤ x) (h1:x ≤ 10000) (r:List Int) (hr:∀ y ∈ r,u2j y):u1r.cnt ⟨u1b.put x 4 ++ r,false⟩ = (x,⟨r,false⟩):=by
 unfold u1r.cnt
 rw [tnum4 x h0 (by omega) r hr,if_neg (by rintro (h9 | h9);cases h9;simp only at h9;omega)]
theorem ttk (a r:List Int) (n:Nat) (h:a.length = n):us.tk n ⟨a ++ r,false⟩ = (a,⟨r,false⟩):=by
 unfold us.tk
 rw [if_neg (by rintro (h9 | h9);cases h9;simp only [List.length_append] at h9;omega),List.take_left' h,List.drop_left' h]
def gBm (x:Dl):List Int:=ur.gB (mAll x.f0) x
def DlWf (x:Dl):Prop:=u1l.CanB x.f0 = true ∧ I64 x.f1 ∧ I64 x.f2 ∧ I64 x.f3
def SpWf (x:Sp):Prop:=x.f0.size ≤ 24 ∧ 0 ≤ x.f1 ∧ x.f1 ≤ 2147483647
theorem gBm_range (x:Dl):∀ y ∈ gBm x,u2j y:=byte_app (mAll_range _) (byte_app (put_range _ _) (byte_app (put_range _ _) (put_range _ _)))
theorem flat_range {α:Type} (f:α → List Int) (h:∀ x,∀ y ∈ f x,u2j y) (l:List α):∀ y ∈ l.flatMap f,u2j y:=fun y hy => by
 obtain ⟨x,_,h2⟩:=List.mem_flatMap.1 hy
 exact h x y h2
theorem sB_range (x:Sp):∀ y ∈ ur.sB x,u2j y:=by
 unfold ur.sB
 exact byte_cons (by unfold u2j;omega) (byte_app (bytesOf_range _) (put_range _ _))
theorem oneD_back (x:Dl) (hx:DlWf x) (r:List Int) (hr:∀ y ∈ r,u2j y):ui.oneD ⟨gBm x ++ r,false⟩ = (x,⟨r,false⟩):=by
 have e:gBm x ++ r = mAll x.f0 ++ (ur.put8 x.f1 ++ (ur.put8 x.f2 ++ (ur.put8 x.f3 ++ r))):=by simp [gBm,ur.gB]
 have h3:∀ y ∈ ur.put8 x.f3 ++ r,u2j y:=byte_app (put_range _ _) hr
 have h2:∀ y ∈ ur.put8 x.f2 ++ (ur.put8 x.f3 ++ r),u2j y:=byte_app (put_range _ _) h3
 have h1:∀ y ∈ ur.put8 x.f1 ++ (ur.put8 x.f2 ++ (ur.put8 x.f3 ++ r)),u2j y:=byte_app (put_range _ _) h2
 have hd:=mdec_back x.f0 hx.1 _ h1
 have hs:ui.s1 ⟨gBm x ++ r,false⟩ = ⟨ur.put8 x.f1 ++ (ur.put8 x.f2 ++ (ur.put8 x.f3 ++ r)),false⟩:=by
  unfold ui.s1
  simp only [e,hd,bne_self_eq_false]
 unfold ui.oneD
 rw [hs,tnum8 _ hx.2.1 _ h2]
 simp only [tnum8 _ hx.2.2.1 _ h3,tnum8 _ hx.2.2.2 _ hr,e,hd]
theorem dels_back:∀ (l:List Dl) (r:List Int) (acc:List Dl),(∀ x ∈ l,DlWf x) → (∀ y ∈ r,u2j y) → ui.delsM l.length ⟨l.flatMap gBm ++ r,false⟩ acc = (acc ++ l,⟨r,false⟩)
 | [],r,acc,_,_ => by simp [ui.delsM]
 | x :: l,r,acc,hx,hr => by
   have e:(x :: l).flatMap gBm ++ r = gBm x ++ (l.flatMap gBm ++ r):=by simp
   have hb:∀ y ∈ l.flatMap gBm ++ r,u2j y:=byte_app (flat_range _ gBm_range l) hr
   rw [e]
   show ui.delsM (l.length + 1) _ acc = _
   unfold ui.delsM
   rw [if_neg (by intro h9;cases h9),oneD_back x (hx x (List.mem_cons_self ..)) _ hb]
   simp only
   rw [dels_back l r _ (fun y hy => hx y (List.mem_cons_of_mem _ hy)) hr]
   simp
theorem oneS_back (x:Sp) (hx:SpWf x) (r:List Int) (hr:∀ y ∈ r,u2j y):ui.oneS ⟨ur.sB x ++ r,false⟩ = (x,⟨r,false⟩):=by
 have hw:IntKind.u64.wrap x.f1 = x.f1:=u64_of _ hx.2.1 (by have:=hx.2.2;omega)
 have e:ur.sB x ++ r = ((x.f0.size:Nat):Int) :: (u3d x.f0 ++ (u1b.put x.f1 4 ++ r)):=by
  have h9:(x.f0.size:Int) % 256 = (x.f0.size:Int):=by have:=hx.1;omega
  simp [ur.sB,h9,hw]
 have h1:∀ y ∈ u1b.put x.f1 4 ++ r,u2j y:=byte_app (put_range _ _) hr
 have h2:∀ y ∈ u3d x.f0 ++ (u1b.put x.f1 4 ++ r),u2j y:=byte_app (bytesOf_range _) h1
 have n1:=tnum1 ((x.f0.size:Nat):Int) (by unfold u2j;have:=hx.1;omega) _ h2
 rw [e]
 unfold ui.oneS
 rw [n1]
 simp only [Int.toNat_natCast]
 rw [ttk (u3d x.f0) _ x.f0.size (u3p _)]
 simp only
 rw [tnum4 x.f1 hx.2.1 (by have:=hx.2.2;omega) r hr,str_bytes]
theorem spots_back:∀ (l:List Sp) (r:List Int) (acc:List Sp),(∀ x ∈ l,SpWf x) → (∀ y ∈ r,u2j y) → ui.spotsM l.length ⟨u1e.spotsE l ++ r,false⟩ acc = (acc ++ l,⟨r,false⟩)
 | [],r,acc,_,_ => by simp [ui.spotsM,u1e.spotsE]
 | x :: l,r,acc,hx,hr => by
   have e:u1e.spotsE (x :: l) ++ r = ur.sB x ++ (u1e.spotsE l ++ r):=by simp [u1e.spotsE]
   have hb:∀ y ∈ u1e.spotsE l ++ r,u2j y:=byte_app (flat_range _ sB_range l) hr
   rw [e]
   show ui.spotsM (l.length + 1) _ acc = _
   unfold ui.spotsM
   rw [if_neg (by intro h9;cases h9),oneS_back x (hx x (List.mem_cons_self ..)) _ hb]
   simp only
   rw [spots_back l r _ (fun y hy => hx y (List.mem_cons_of_mem _ hy)) hr]
   simp
def encT (a:List Dl) (b:List Sp):List Int:=u1b.put (a.length:Int) 4 ++ (a.flatMap gBm ++ (u1b.put (b.length:Int) 4 ++ u1e.spotsE b))
theorem encT_range (a:List Dl) (b:List Sp):∀ y ∈ encT a b,u2j y:=byte_app (put_range _ _) (byte_app (flat_range _ gBm_range a) (byte_app (put_range _ _) (flat_range _ sB_range b)))
theorem dec_encT (a:List Dl) (b:List Sp) (ha:u2f.CanB a = true) (hb:u2i.CanB b = true) (la:a.length ≤ 40) (lb:b.length ≤ 40) (wa:∀ x ∈ a,DlWf x) (wb:∀ x ∈ b,SpWf x) (r:List Int) (hr:∀ y ∈ r,u2j y):ui.dec (encT a b ++ r) = if r = [] then (a,b,0) else ([],[],5):=by
 have e:encT a b ++ r = u1b.put (a.length:Int) 4 ++ (a.flatMap gBm ++ (u1b.put (b.length:Int) 4 ++ (u1e.spotsE b ++ r))):=by simp [encT]
 have h3:∀ y ∈ u1e.spotsE b ++ r,u2j y:=byte_app (flat_range _ sB_range b) hr
 have h2:∀ y ∈ u1b.put (b.length:Int) 4 ++ (u1e.spotsE b ++ r),u2j y:=byte_app (put_range _ _) h3
 have h1:∀ y ∈ a.flatMap gBm ++ (u1b.put (b.length:Int) 4 ++ (u1e.spotsE b ++ r)),u2j y:=byte_app (flat_range _ gBm_range a) h2
 rw [e]
 unfold ui.dec
 rw [tcnt _ (by omega) (by omega) _ h1]
 simp only [Int.toNat_natCast]
 rw [dels_back a _ [] wa h2,List.nil_append]
 unfold ui.back
 simp only
 rw [tcnt _ (by omega) (by omega) _ h3]
 simp only [Int.toNat_natCast]
 rw [spots_back b r [] wb hr,List.nil_append]
 unfold ui.out
 simp only
 rw [if_neg (by intro h9;cases h9)]
 by_cases h0:r = []
 · rw [if_neg (fun h9 => h9 h0),if_pos h0,if_pos ha,if_pos hb]
 · rw [if_pos h0,if_neg h0]
theorem gBm_len (x:Dl) (h:u1l.CanB x.f0 = true):(gBm x).length ≤ 547:=by
 have:=mAll_len h
 simp only [gBm,ur.gB,ur.put8,List.length_append,put_len]
 omega
theorem sB_len (x:Sp) (h:x.f0.size ≤ 24):(ur.sB x).length ≤ 29:=by
 simp only [ur.sB,List.length_cons,List.length_append,u3p,put_len]
 omega
theorem flat_len {α:Type} (f:α → List Int) (n:Nat):∀ (l:List α),(∀ x ∈ l,(f x).length ≤ n) → (l.flatMap f).length ≤ n * l.length
 | [],_ => by simp
 | x :: l,h => by
   have h1:=h x (List.mem_cons_self ..)
   have h2:=flat_len f n l (fun y hy => h y (List.mem_cons_of_mem _ hy))
   rw [List.flatMap_cons,List.length_append,List.length_cons,Nat.mul_succ]
   omega
theorem encT_len (a:List Dl) (b:List Sp) (la:a.length ≤ 40) (lb:b.length ≤ 40) (wa:∀ x ∈ a,DlWf x) (wb:∀ x ∈ b,SpWf x):(encT a b).length ≤ 100000:=by
 have h1:=flat_len gBm 547 a (fun x hx => gBm_len x (wa x hx).1)
 have h2:=flat_len ur.sB 29 b (fun x hx => sB_len x (wb x hx).1)
 simp only [encT,u1e.spotsE,List.length_append,put_len]
 omega
theorem delsE_ev:∀ (l:List Dl),(∀ x ∈ l,u1l.CanB x.f0 = true) → Ev (fun k => u1e.delsE k l) (l.flatMap gBm)
 | [],_ => Ev.now _
 | x :: r,h => by
   have hm:=mAll_len (h x (List.mem_cons_self ..))
   have h1:=menc_ev x.f0 (by omega) (h x (List.mem_cons_self ..))
   have ih:=delsE_ev r (fun y hy => h y (List.mem_cons_of_mem _ hy))
   have h2:=Ev.bind (f:=fun k e => (u1e.delsE k r).map fun t => ur.gB e.1 x ++ t) h1 (ev_map _ ih)
   exact h2
theorem trdd_m (l:List S79) (i:Nat) (x:S79) (r:List S79) (h:l.drop i = x :: r):u1s l (i:Int) = x ∧ i < l.length ∧ l.drop (i + 1) = r:=by
 have hlt:i < l.length:=by
  rcases Nat.lt_or_ge i l.length with h1 | h1
  · exact h1
  · rw [List.drop_eq_nil_of_le h1] at h
    cases h
 rw [List.drop_eq_getElem_cons hlt] at h
 obtain ⟨h1,h2⟩:=List.cons.inj h
 refine ⟨?_,hlt,h2⟩
 simp [u1s,List.getD_eq_getElem?_getD,hlt,h1]
theorem tsame_m0 (m:List S79) (hm:m.length ≤ 9223372036854775806):∀ (r:List S79) (i:Nat),m.drop i = r → Ev (fun k => u3v.l0 k m m (m.length:Int) (i:Int)) true:=by
 intro r
 induction r with
 | nil =>
   intro i h
   have hi:m.length ≤ i:=List.drop_eq_nil_iff.1 h
   refine Ev.step (f:=fun _ => some true) (fun k => ?_) (Ev.now true)
   simp only [u3v.l0]
   rw [if_neg (by omega)]
 | cons x r ih =>
   intro i h
   obtain ⟨hx,hi,hr⟩:=trdd_m m i x r h
   have hw:=wrap_up i (by omega)
   refine Ev.step (fun k => ?_) (ih (i + 1) hr)
   simp only [u3v.l0]
   rw [if_pos (by omega),if_pos (by omega),if_pos (by omega),if_pos (by omega),hx,if_neg (by simp),hw]
theorem tsame_ms (m:List S79) (hm:m.length ≤ 9223372036854775806):Ev (fun k => u3v.f k m m) true:=by
 refine Ev.congr (fun k => ?_) (tsame_m0 m hm m 0 rfl)
 show u3v.f k m m = _
 unfold u3v.f
 rw [if_pos rfl]
 rfl
theorem same_d:∀ (l:List Dl),(∀ x ∈ l,x.f0.length ≤ 9223372036854775806) → Ev (fun k => u1n.all k l l) true
 | [],_ => Ev.now true
 | x :: l,h => by
   refine Ev.bind (a:=true) (g:=fun k => u1n.same k x x) ?_ ?_
   · refine Ev.bind (tsame_ms x.f0 (h x (List.mem_cons_self ..))) ?_
     exact Ev.congr (fun k => by simp) (Ev.now true)
   · exact Ev.congr (fun k => by simp) (same_d l (fun y hy => h y (List.mem_cons_of_mem _ hy)))
theorem same_df (l:List Dl) (hl:l.length ≤ 1000) (h:∀ x ∈ l,x.f0.length ≤ 9223372036854775806):Ev (fun k => u1n.f k l l) true:=by
 refine Ev.congr (fun k => ?_) (same_d l h)
 show u1n.f k l l = _
 unfold u1n.f
 rw [if_pos rfl,if_pos (by omega)]
theorem rdd_s (l:List Sp) (i:Nat) (x:Sp) (r:List Sp) (h:l.drop i = x :: r):u3y l (i:Int) = x ∧ i < l.length ∧ l.drop (i + 1) = r:=by
 have hlt:i < l.length:=by
  rcases Nat.lt_or_ge i l.length with h1 | h1
  · exact h1
  · rw [List.drop_eq_nil_of_le h1] at h
    cases h
 rw [List.drop_eq_getElem_cons hlt] at h
 obtain ⟨h1,h2⟩:=List.cons.inj h
 refine ⟨?_,hlt,h2⟩
 simp [u3y,List.getD_eq_getElem?_getD,hlt,h1]
theorem same_s0 (m:List Sp) (hm:m.length ≤ 9223372036854775806):∀ (r:List Sp) (i:Nat),m.drop i = r → Ev (fun k => api_Spot.l0 k m m (m.length:Int) (i:Int)) true:=by
 intro r
 induction r with
 | nil =>
   intro i h
   have hi:m.length ≤ i:=List.drop_eq_nil_iff.1 h
   refine Ev.step (f:=fun _ => some true) (fun k => ?_) (Ev.now true)
   simp only [api_Spot.l0]
   rw [if_neg (by omega)]
 | cons x r ih =>
   intro i h
   obtain ⟨hx,hi,hr⟩:=rdd_s m i x r h
   have hw:=wrap_up i (by omega)
   refine Ev.step (fun k => ?_) (ih (i + 1) hr)
   simp only [api_Spot.l0]
   rw [if_pos (by omega),if_pos (by omega),if_pos (by omega),if_pos (by omega),hx,if_neg (by simp),hw]
theorem same_ss (m:List Sp) (hm:m.length ≤ 9223372036854775806):Ev (fun k => api_Spot.f k m m) true:=by
 refine Ev.congr (fun k => ?_) (same_s0 m hm m 0 rfl)
 show api_Spot.f k m m = _
 unfold api_Spot.f
 rw [if_pos rfl]
 rfl
theorem rdd_d (l:List Dl) (i:Nat) (x:Dl) (r:List Dl) (h:l.drop i = x :: r):u2t l (i:Int) = x ∧ i < l.length ∧ l.drop (i + 1) = r:=by
 have hlt:i < l.length:=by
  rcases Nat.lt_or_ge i l.length with h1 | h1
  · exact h1
  · rw [List.drop_eq_nil_of_le h1] at h
    cases h
 rw [List.drop_eq_getElem_cons hlt] at h
 obtain ⟨h1,h2⟩:=List.cons.inj h
 refine ⟨?_,hlt,h2⟩
 simp [u2t,List.getD_eq_getElem?_getD,hlt,h1]
theorem rcan14_l0 (l:List Dl) (hl:l.length ≤ 10000) (hs:∀ x ∈ l,x.f0.length ≤ 1048576 ∧ ∀ y ∈ x.f0,y.f1.size ≤ 1048576 ∧ y.f2.size ≤ 1048576):∀ (r:List Dl) (i:Nat),l.drop i = r → Ev (fun k => u2s.l0 k l l (l.length:Int) (i:Int)) (r.all u2f.okB):=by
 intro r
 induction r with
 | nil =>
   intro i h
   have hi:l.length ≤ i:=List.drop_eq_nil_iff.1 h
   refine Ev.step (f:=fun _ => some true) (fun k => ?_) (Ev.now true)
   simp only [u2s.l0]
   rw [if_neg (by omega),decide_eq_true (by omega)]
 | cons x r ih =>
   intro i h
   obtain ⟨hx,hi,hr⟩:=rdd_d l i x r h
   have hw:=wrap_up i (by omega)
   have hm:x ∈ l:=List.mem_of_mem_drop (by rw [h];simp)
   have h9:=r9Can_ev x.f0 (by have:=(hs x hm).1;omega) (fun y hy => by have:=(hs x hm).2 y hy;omega)
   refine Ev.step (f:=fun k => (u2m.f k x.f0).bind fun t => if t = true then (if x.f3 < 0 then some false else if x.f3 > 4611686018427387904 then some false else u2s.l0 k l l (l.length:Int) ((i + 1:Nat):Int)) else some false) (fun k => ?_) (Ev.bind h9 ?_)
   · simp only [u2s.l0]
     rw [if_pos (by omega),if_pos (by omega),if_pos (by omega),hx,hw]
   · rw [List.all_cons]
     rw [show u2f.okB x = (u1l.CanB x.f0 && (decide (0 ≤ x.f3) && decide (x.f3 ≤ 4611686018427387904))) from rfl]
     cases hcm:u1l.CanB x.f0 with
     | false => exact Ev.congr (fun k => by rw [if_neg (by intro h8;cases h8)]) (by simpa using Ev.now false)
     | true =>
       by_cases h0:x.f3 < 0
       · exact Ev.congr (fun k => by rw [if_pos rfl,if_pos h0]) (by rw [decide_eq_false (show ¬ 0 ≤ x.f3 by omega)];simpa using Ev.now false)
       · by_cases h1:x.f3 > 4611686018427387904
         · exact Ev.congr (fun k => by rw [if_pos rfl,if_neg h0,if_pos h1]) (by rw [decide_eq_false (show ¬ x.f3 ≤ 4611686018427387904 by omega)];simpa using Ev.now false)
         · refine Ev.congr (fun k => by rw [if_pos rfl,if_neg h0,if_neg h1]) ?_
           rw [decide_eq_true (show 0 ≤ x.f3 by omega),decide_eq_true (show x.f3 ≤ 4611686018427387904 by omega)]
           simpa using ih (i + 1) hr
theorem rcan14_ev (l:List Dl) (hl:l.length ≤ 40) (hs:∀ x ∈ l,x.f0.length ≤ 1048576 ∧ ∀ y ∈ x.f0,y.f1.size ≤ 1048576 ∧ y.f2.size ≤ 1048576):Ev (fun k => u2s.f k l) (u2f.CanB l):=by
 have h:=rcan14_l0 l (by omega) hs l 0 rfl
 unfold u2f.CanB
 rw [decide_eq_true (show l.length ≤ 10000 by omega),Bool.true_and]
 exact h
theorem rled_l0 (l:List Sp) (hl:l.length ≤ 10000):∀ (r:List Sp) (i:Nat),l.drop i = r → Ev (fun k => u2h.l0 k l l (l.length:Int) (i:Int)) (r.all u2i.okB):=by
 intro r
 induction r with
 | nil =>
   intro i h
   have hi:l.length ≤ i:=List.drop_eq_nil_iff.1 h
   refine Ev.step (f:=fun _ => some true) (fun k => ?_) (Ev.now true)
   simp only [u2h.l0]
   rw [if_neg (by omega),decide_eq_true (by omega)]
 | cons x r ih =>
   intro i h
   obtain ⟨hx,hi,hr⟩:=rdd_s l i x r h
   have hw:=wrap_up i (by omega)
   refine Ev.step (f:=fun k => if (x.f0.size:Int) < 1 then some false else if (x.f0.size:Int) > 24 then some false else if x.f1 < 0 then some false else if x.f1 > 2147483647 then some false else u2h.l0 k l l (l.length:Int) ((i + 1:Nat):Int)) (fun k => ?_) ?_
   · simp only [u2h.l0]
     rw [if_pos (by omega),if_pos (by omega),if_pos (by omega),hx,hw]
   · rw [List.all_cons]
     rw [show u2i.okB x = (decide (0 < x.f0.size) && (decide (x.f0.size ≤ 24) && (decide (0 ≤ x.f1) && decide (x.f1 ≤ 2147483647)))) from rfl]
     by_cases h0:(x.f0.size:Int) < 1
     · exact Ev.congr (fun k => by rw [if_pos h0]) (by rw [decide_eq_false (show ¬ 0 < x.f0.size by omega)];simpa using Ev.now false)
     · by_cases h1:(x.f0.size:Int) > 24
       · exact Ev.congr (fun k => by rw [if_neg h0,if_pos h1]) (by rw [decide_eq_false (show ¬ x.f0.size ≤ 24 by omega)];simpa using Ev.now false)
       · by_cases h2:x.f1 < 0
         · exact Ev.congr (fun k => by rw [if_neg h0,if_neg h1,if_pos h2]) (by rw [decide_eq_false (show ¬ 0 ≤ x.f1 by omega)];simpa using Ev.now false)
         · by_cases h3:x.f1 > 2147483647
           · exact Ev.congr (fun k => by rw [if_neg h0,if_neg h1,if_neg h2,if_pos h3]) (by rw [decide_eq_false (show ¬ x.f1 ≤ 2147483647 by omega)];simpa using Ev.now false)
           · refine Ev.congr (fun k => by rw [if_neg h0,if_neg h1,if_neg h2,if_neg h3]) ?_
             rw [decide_eq_true (show 0 < x.f0.size by omega),decide_eq_true (show x.f0.size ≤ 24 by omega),decide_eq_true (show 0 ≤ x.f1 by omega),decide_eq_true (show x.f1 ≤ 2147483647 by omega)]
             simpa using ih (i + 1) hr
theorem rled_ev (l:List Sp) (hl:l.length ≤ 40):Ev (fun k => u2h.f k l) (u2i.CanB l):=by
 have h:=rled_l0 l (by omega) l 0 rfl
 unfold u2i.CanB
 rw [decide_eq_true (show l.length ≤ 10000 by omega),Bool.true_and]
 exact h
theorem tback_walk (A0:Option Addr) (c0:Nat) (l0:List Dl) (A1:Option Addr) (c1:Nat) (l1:List Sp) (w:World) (hG:strings_ToValidUTF8.Gd w) (hr0:Kd.C k83 w A0 l0.length l0) (hc0:l0.length ≤ c0) (hr1:Kd.C k48 w A1 l1.length l1) (hc1:l1.length ≤ c1)
 (q0:∀ x ∈ l0,(x.f0.length ≤ 1048576 ∧ ∀ y ∈ x.f0,(Lit.int .i64 y.f0).wf = true ∧ y.f1.size ≤ 1048576 ∧ y.f2.size ≤ 1048576) ∧ (Lit.int .i64 x.f1).wf = true ∧ (Lit.int .i64 x.f2).wf = true ∧ (Lit.int .i64 x.f3).wf = true) :
 Calls Tryz.prog 5 #[.slice A0 l0.length c0,.slice A1 l1.length c1] w fun e w' => e = .returned (.bool true) ∧ Below w.heap.size w w':=by
 have i64:∀ n:Int,(Lit.int .i64 n).wf = true → I64 n:=fun n hn => by
  have h:=Go.bounds_i64 hn
  unfold I64
  omega
 have la:(l0.take 40).length ≤ 40:=by rw [List.length_take];omega
 have lb:(l1.take 40).length ≤ 40:=by rw [List.length_take];omega
 have qa:∀ x ∈ l0.take 40,x.f0.length ≤ 1048576 ∧ ∀ y ∈ x.f0,y.f1.size ≤ 1048576 ∧ y.f2.size ≤ 1048576:=fun x hx => ⟨(q0 x (List.mem_of_mem_take hx)).1.1,fun y hy => ((q0 x (List.mem_of_mem_take hx)).1.2 y hy).2⟩
 obtain ⟨K1,h1⟩:=rcan14_ev (l0.take 40) la qa
 obtain ⟨K2,h2⟩:=rled_ev (l1.take 40) lb
 cases ha:u2f.CanB (l0.take 40) with
 | false =>
   rw [ha] at h1
   exact u3j.calls_bad (K1 + K2) A0 c0 l0 A1 c1 l1 w hr0 hc0 hr1 hc1 hG (by unfold u1e.f;rw [ha,if_neg (by intro h9;cases h9)]) (Or.inl (h1 _ (by omega)))
 | true =>
   rw [ha] at h1
   cases hb:u2i.CanB (l1.take 40) with
   | false =>
     rw [hb] at h2
     exact u3j.calls_bad (K1 + K2) A0 c0 l0 A1 c1 l1 w hr0 hc0 hr1 hc1 hG (by unfold u1e.f;rw [ha,if_pos rfl,hb,if_neg (by intro h9;cases h9)]) (Or.inr ⟨h1 _ (by omega),h2 _ (by omega)⟩)
   | true =>
     have wa:∀ x ∈ l0.take 40,DlWf x:=fun x hx => by
      have h9:=ha
      unfold u2f.CanB at h9
      rw [Bool.and_eq_true,List.all_eq_true] at h9
      have h8:=h9.2 x hx
      unfold u2f.okB at h8
      rw [Bool.and_eq_true] at h8
      have h7:=q0 x (List.mem_of_mem_take hx)
      exact ⟨h8.1,i64 _ h7.2.1,i64 _ h7.2.2.1,i64 _ h7.2.2.2⟩
     have wb:∀ x ∈ l1.take 40,SpWf x:=fun x hx => by
      have h9:=hb
      unfold u2i.CanB at h9
      rw [Bool.and_eq_true,List.all_eq_true] at h9
      have h8:=h9.2 x hx
      unfold u2i.okB at h8
      simp only [Bool.and_eq_true,decide_eq_true_eq] at h8
      exact ⟨h8.2.1,h8.2.2.1,h8.2.2.2⟩
     have hlen:=encT_len (l0.take 40) (l1.take 40) la lb wa wb
     have he:Ev (fun k => u1e.f k (l0.take 40) (l1.take 40)) (encT (l0.take 40) (l1.take 40),0):=by
      refine Ev.congr (fun k => by unfold u1e.f;rw [ha,if_pos rfl,hb,if_pos rfl]) (Ev.bind (delsE_ev (l0.take 40) (fun x hx => (wa x hx).1)) ?_)
      have hbig:u1e.lim (encT (l0.take 40) (l1.take 40)) = some (encT (l0.take 40) (l1.take 40),0):=if_pos (by omega)
      unfold encT at hbig ⊢
      simp only [hbig]
      exact Ev.now _
     obtain ⟨K3,h3⟩:=he
     obtain ⟨K4,h4⟩:=same_df (l0.take 40) (by omega) (fun x hx => by have:=(qa x hx).1;omega)
     obtain ⟨K5,h5⟩:=same_ss (l1.take 40) (by omega)
     have d1:=dec_encT (l0.take 40) (l1.take 40) ha hb la lb wa wb [] (fun y hy => by cases hy)
     rw [List.append_nil,if_pos rfl] at d1
     have d2:=dec_encT (l0.take 40) (l1.take 40) ha hb la lb wa wb [0] (one_byte ⟨by decide,by decide⟩)
     rw [if_neg (by simp)] at d2
     exact u3j.calls_good (K3 + K4 + K5) A0 c0 l0 A1 c1 l1 (encT (l0.take 40) (l1.take 40)) w hr0 hc0 hr1 hc1 hG (h3 _ (by omega)) (by omega) (encT_range _ _) d1 d2 (h4 _ (by omega)) (h5 _ (by omega))
end Go.Proofs.YtgnehcgaplnfkaaGreatDoor.Laws
