/- Texts of this seat, joined in the order in which they build. -/
import Derived.Test.YtgnehcgaplnfkaaGreatDoorBt1
import Derived.Test.YtgnehcgaplnfkaaGreatDoorGx44Bt
import Derived.Test.YtgnehcgaplnfkaaGreatDoorBt2
import Derived.Test.YtgnehcgaplnfkaaGreatDoorBt3
import Derived.Test.YtgnehcgaplnfkaaGreatDoorGx33Bt
import Derived.Test.YtgnehcgaplnfkaaGreatDoorGx21Bt
namespace Go.Proofs.YtgnehcgaplnfkaaGreatDoor.PAll
open Go.RowKit Go.Proofs.YtgnehcgaplnfkaaGreatDoorW.PrintWords Go.Proofs.YtgnehcgaplnfkaaGreatDoorW.PrintLast Go.Proofs.YtgnehcgaplnfkaaGreatDoorW.PrintMore
attribute [local go_sem] u3r u3t u4c u4b u3n u3o u3u u3s
set_option linter.unusedVariables false
set_option linter.unusedSimpArgs false
def u3i.all:Nat → List Int → Option (List S111 × List Int)
 | 0,b => some ([],b)
 | n + 1,b => (u3z.one b).bind fun x => (u3z.one x.2).bind fun y => (u3i.all n y.2).map fun z => (⟨x.1,y.1⟩ :: z.1,z.2)
def u3i.okB (l0:List Int):Bool:=decide (l0.length ≤ 140737488355328) && l0.all (fun c => decide (0 ≤ c) && decide (c < 256))
def u3i.f (k:Nat) (l0:List Int):Option (List S111 × List Int × Int):=if u3i.okB l0 = true then (match l0 with
 | [] => some ([],[],3)
 | c :: r => match u3i.all c.toNat r with
   | none => some ([],[],3)
   | some (l,q) => (u1v.f k l).bind fun b => if b = true then some (l,q,0) else some ([],[],5)) else none
abbrev u2u.Rw:=S59
def u2u.rowsM (k:Nat):Nat → List Int → List u2u.Rw → Option (Option (List u2u.Rw × List Int))
 | 0,b,l => some (some (l,b))
 | n + 1,b,l => (u3i.f k b).bind fun z => if z.2.2 ≠ 0 then some none else
   match u1t.int 8 z.2.1 with
   | none => some none
   | some y => match u1t.int 8 y.2 with
     | none => some none
     | some u => u2u.rowsM k n u.2 (l ++ [⟨z.1,y.1,IntKind.u64.wrap u.1⟩])
def u2u.top (k:Nat) (l0:List Int):Option (Option (List u2u.Rw × List Int)):=match u1t.int 2 l0 with
 | none => some none
 | some y => u2u.rowsM k y.1.toNat y.2 []
end Go.Proofs.YtgnehcgaplnfkaaGreatDoor.PAll
namespace Go.Proofs.YtgnehcgaplnfkaaGreatDoor.Laws
open Go.RowKit Go.Proofs.YtgnehcgaplnfkaaGreatDoor.PAll Go.Proofs.YtgnehcgaplnfkaaGreatDoorW.PrintWords Go.Proofs.YtgnehcgaplnfkaaGreatDoorW.PrintLast
set_option linter.unusedVariables false
set_option linter.unusedSimpArgs false
theorem wrap_up (i:Nat) (h:i < 9223372036854775807):wrap64 ((i:Int) + 1) = ((i + 1:Nat):Int):=by
 unfold wrap64
 omega
theorem at_byte (s:ByteArray) (i:Nat) (c:UInt8) (r:List UInt8) (h:s.data.toList.drop i = c :: r):i < s.size ∧ bt s (i:Int) = (c.toNat:Int) ∧ s.data.toList.drop (i + 1) = r:=by
 have hlt:i < s.data.toList.length:=by
  rcases Nat.lt_or_ge i s.data.toList.length with h1 | h1
  · exact h1
  · rw [List.drop_eq_nil_of_le h1] at h
    cases h
 have hs:s.size = s.data.toList.length:=Base.size_list s
 rw [List.drop_eq_getElem_cons hlt] at h
 obtain ⟨h1,h2⟩:=List.cons.inj h
 refine ⟨by omega,?_,h2⟩
 rw [Base.bt_list s i (by omega),List.getD_eq_getElem?_getD,List.getElem?_eq_getElem hlt,h1]
 rfl
theorem no_byte (s:ByteArray) (i:Nat) (h:s.data.toList.drop i = []):s.size ≤ i:=by
 have hs:s.size = s.data.toList.length:=Base.size_list s
 have:=List.drop_eq_nil_iff.1 h
 omega
def letterI (c:Int):Bool:=(decide (97 ≤ c) && decide (c ≤ 122)) || (decide (65 ≤ c) && decide (c ≤ 90)) || decide (c = 95)
theorem letter_fin:∀ n:Fin 256,Base.letterB (n.val:Int) = letterI (n.val:Int):=by decide +kernel
theorem letter_is (c:UInt8):Base.letterB (c.toNat:Int) = letterI (c.toNat:Int):=letter_fin ⟨c.toNat,c.toNat_lt⟩
theorem name_step (k:Nat) (s:ByteArray) (i:Nat) (hi:i < s.size) (hs:s.size ≤ 9223372036854775807) :
 u1o.l0 (k + 1) s (i:Int) = if letterI (bt s i) = true then u1o.l0 k s ((i + 1:Nat):Int) else if i = 0 then some false else
  if Base.digitB (bt s i) = true then u1o.l0 k s ((i + 1:Nat):Int) else some false:=by
 have hw:=wrap_up i (by omega)
 simp only [u1o.l0]
 rw [if_pos (by omega),if_pos (by omega),hw]
 generalize bt s (i:Int) = c
 have e0:((i:Int) = 0) = (i = 0):=by simp
 simp only [e0]
 unfold letterI Base.digitB
 by_cases h1:97 ≤ c <;> by_cases h2:c ≤ 122 <;> by_cases h3:65 ≤ c <;> by_cases h4:c ≤ 90 <;> by_cases h5:c = 95 <;> first | (exfalso;omega) | skip
 all_goals by_cases h6:48 ≤ c <;> by_cases h7:c ≤ 57 <;> first | (exfalso;omega) | skip
 all_goals simp [h1,h2,h3,h4,h5,h6,h7]
 all_goals rw [if_neg (show ¬ c < 48 by omega),if_neg (show ¬ 57 < c by omega)]
theorem name_l0 (s:ByteArray) (hs:s.size ≤ 9223372036854775807):∀ (r:List UInt8) (i:Nat),1 ≤ i → s.data.toList.drop i = r →
 Ev (fun k => u1o.l0 k s (i:Int)) (r.all (fun c => Base.letterB (c.toNat:Int) || Base.digitB (c.toNat:Int)) && (decide (1 ≤ s.size) && decide (s.size ≤ 24))):=by
 intro r
 induction r with
 | nil =>
   intro i hi h
   have h1:=no_byte s i h
   refine Ev.step (f:=fun _ => some (decide (1 ≤ s.size) && decide (s.size ≤ 24))) (fun k => ?_) (by simpa using Ev.now _)
   simp only [u1o.l0]
   rw [if_neg (by omega)]
   by_cases h2:1 ≤ s.size
   · rw [if_pos (by omega)]
     simp [h2]
     omega
   · rw [if_neg (by omega)]
     simp [h2]
 | cons c r ih =>
   intro i hi h
   obtain ⟨hlt,hbt,hr⟩:=at_byte s i c r h
   have ih2:=ih (i + 1) (by omega) hr
   cases hl:Base.letterB (c.toNat:Int) with
   | true =>
     have e:(c :: r).all (fun c => Base.letterB (c.toNat:Int) || Base.digitB (c.toNat:Int)) = r.all (fun c => Base.letterB (c.toNat:Int) || Base.digitB (c.toNat:Int)):=by rw [List.all_cons,hl];rfl
     rw [e]
     refine Ev.step (fun k => ?_) ih2
     rw [name_step k s i hlt hs,hbt,← letter_is,if_pos hl]
   | false =>
     cases hd:Base.digitB (c.toNat:Int) with
     | true =>
       have e:(c :: r).all (fun c => Base.letterB (c.toNat:Int) || Base.digitB (c.toNat:Int)) = r.all (fun c => Base.letterB (c.toNat:Int) || Base.digitB (c.toNat:Int)):=by rw [List.all_cons,hl,hd];rfl
       rw [e]
       refine Ev.step (fun k => ?_) ih2
       rw [name_step k s i hlt hs,hbt,← letter_is,if_neg (by rw [hl];simp),if_neg (by omega),if_pos hd]
     | false =>
       have e:(c :: r).all (fun c => Base.letterB (c.toNat:Int) || Base.digitB (c.toNat:Int)) = false:=by rw [List.all_cons,hl,hd];rfl
       rw [e]
       refine Ev.step (f:=fun _ => some false) (fun k => ?_) (Ev.now _)
       rw [name_step k s i hlt hs,hbt,← letter_is,if_neg (by rw [hl];simp),if_neg (by omega),if_neg (by rw [hd];simp)]
theorem all_bytes (s:ByteArray) (p:Int → Bool):(u3d s).all p = s.data.toList.all (fun c => p (c.toNat:Int)):=by
 rw [u3d,List.all_map]
 rfl
theorem rname_ev (s:ByteArray) (hs:s.size ≤ 9223372036854775807):Ev (fun k => u1o.f k s) (Base.nameB s):=by
 refine Ev.congr (f:=fun k => u1o.l0 k s ((0:Nat):Int)) (fun k => rfl) ?_
 have hz:=Base.size_list s
 cases hd:s.data.toList with
 | nil =>
   have h0:s.size = 0:=by rw [hz,hd];rfl
   have e:Base.nameB s = false:=by simp [Base.nameB,h0]
   rw [e]
   refine Ev.step (f:=fun _ => some false) (fun k => ?_) (Ev.now _)
   simp only [u1o.l0]
   rw [if_neg (by omega),if_neg (by omega)]
 | cons c r =>
   obtain ⟨hlt,hbt,hr⟩:=at_byte s 0 c r (by rw [hd];rfl)
   have ih:=name_l0 s hs r 1 (Nat.le_refl _) (by rw [hd];rfl)
   have hb:(u3d s).headD 0 = (c.toNat:Int):=by rw [u3d,hd];rfl
   have e:Base.nameB s = (Base.letterB (c.toNat:Int) && (r.all (fun c => Base.letterB (c.toNat:Int) || Base.digitB (c.toNat:Int)) && (decide (1 ≤ s.size) && decide (s.size ≤ 24)))):=by
    rw [Base.nameB,all_bytes,hb,hd,List.all_cons]
    have h1:decide (0 < s.size) = decide (1 ≤ s.size):=rfl
    rw [h1]
    cases Base.letterB (c.toNat:Int) <;> cases decide (1 ≤ s.size) <;> cases decide (s.size ≤ 24) <;> simp
   rw [e]
   cases hl:Base.letterB (c.toNat:Int) with
   | true =>
     rw [Bool.true_and]
     refine Ev.step (fun k => ?_) ih
     rw [name_step k s 0 hlt hs,hbt,← letter_is,if_pos hl]
   | false =>
     rw [Bool.false_and]
     refine Ev.step (f:=fun _ => some false) (fun k => ?_) (Ev.now _)
     rw [name_step k s 0 hlt hs,hbt,← letter_is,if_neg (by rw [hl];simp),if_pos rfl]
theorem plain_is (r:Int):(!(decide (r < 32) || decide (r = 127) || decide (r = 65533))) = Base.plainB r:=by
 unfold Base.plainB
 by_cases h:r < 32
 · have:¬ 32 ≤ r:=by omega
   simp [h,this]
 · have:32 ≤ r:=by omega
   simp [h,this]
theorem rvalue_is (s:ByteArray):u3q.f s = some (Base.valueB s):=by
 have e:Base.plainTextB s = (Base.runesOf s).all Base.plainB:=by
  unfold Base.plainTextB
  congr 1
  funext r
  exact plain_is r
 simp only [u3q.f,u2y.f,Option.bind_some,e,Base.valueB]
 by_cases h1:1 ≤ s.size
 · rw [if_pos (by omega)]
   by_cases h2:s.size ≤ 40
   · rw [if_pos (by omega)]
     have:0 < s.size:=h1
     simp [h2,this]
   · rw [if_neg (by omega)]
     simp [h2]
 · rw [if_neg (by omega)]
   have:¬ 0 < s.size:=h1
   simp [this]
theorem names_ev:∀ (l:List S111),(∀ y ∈ l,y.f0.size ≤ maxLen ∧ y.f1.size ≤ maxLen) → ∃ K,∀ k,K ≤ k → ∀ x ∈ l,u1o.f k x.f0 = some (Base.nameB x.f0)
 | [],_ => ⟨0,fun _ _ x hx => by cases hx⟩
 | x :: r,hs => by
   obtain ⟨K,hK⟩:=names_ev r (fun y hy => hs y (List.mem_cons_of_mem _ hy))
   obtain ⟨M,hM⟩:=rname_ev x.f0 (Nat.le_trans (hs x (List.mem_cons_self ..)).1 (by decide))
   refine ⟨K + M,fun k hk y hy => ?_⟩
   rcases List.mem_cons.1 hy with rfl | h9
   · exact hM k (by omega)
   · exact hK k (by omega) y h9
theorem less_nil {x:ByteArray} (h:Base.nameB x = true):Op.bytesLess [] x.data.toList = true:=by
 have hz:=nameB_size h
 cases hd:x.data.toList with
 | nil => rw [Base.size_list,hd] at hz;simp at hz
 | cons c q => simp [Op.bytesLess]
theorem steps_ok (k:Nat) (l:List S111) (hn:∀ x ∈ l,u1o.f k x.f0 = some (Base.nameB x.f0)):∀ (r:List S111) (i:Nat) (last:ByteArray),l.drop i = r → (i = 0 → last = ⟨#[]⟩) → (0 < i → (rd_T111 l ((i - 1:Nat):Int)).f0 = last) →
 (List.range' i r.length).all (u1v.stepB k l) = okFrom last.data.toList r:=by
 intro r
 induction r with
 | nil => intro i last _ _ _;rfl
 | cons x r ih =>
   intro i last h hfst hlast
   obtain ⟨hx,hi,hr⟩:=rd_drop l i x r h
   have hmem:x ∈ l:=List.mem_of_mem_drop (by rw [h];simp)
   have e2:=ih (i + 1) x.f0 hr (fun h => by omega) (fun _ => by rw [show i + 1 - 1 = i by omega,hx])
   have e3:u1v.stepB k l i = (Base.nameB x.f0 && Base.valueB x.f1 && Op.bytesLess last.data.toList x.f0.data.toList):=by
    unfold u1v.stepB u1v.nm u1v.vl
    rw [hx,hn x hmem,rvalue_is]
    simp only [Option.getD_some,ByteArray.toList_eq]
    by_cases h0:i = 0
    · rw [hfst h0,decide_eq_true h0,Bool.true_or]
      cases hm:Base.nameB x.f0 with
      | false => rfl
      | true =>
        have e4:Op.bytesLess (⟨#[]⟩:ByteArray).data.toList x.f0.data.toList = true:=less_nil hm
        rw [e4]
    · rw [decide_eq_false h0,Bool.false_or,show (i:Int) - 1 = ((i - 1:Nat):Int) by omega,hlast (by omega)]
   rw [List.length_cons,List.range'_succ,List.all_cons,e2,e3]
   rfl
theorem rcan_ev (l:List S111) (hs:∀ y ∈ l,y.f0.size ≤ maxLen ∧ y.f1.size ≤ maxLen):Ev (fun k => u1v.f k l) (canB l):=by
 obtain ⟨K,hK⟩:=names_ev l hs
 refine ⟨K,fun k hk => ?_⟩
 have h1:u1v.okB k l = true:=List.all_eq_true.2 (fun x hx => by rw [hK k hk x hx,rvalue_is];rfl)
 have h2:=steps_ok k l (hK k hk) l 0 ⟨#[]⟩ rfl (fun _ => rfl) (fun h => by omega)
 rw [← List.range_eq_range'] at h2
 show u1v.f k l = some (canB l)
 unfold u1v.f
 rw [if_pos h1,u1v.canB,h2]
 rfl
theorem enc_size:∀ (l:List S111),(∀ x ∈ l,Base.nameB x.f0 = true ∧ Base.valueB x.f1 = true) → (l.flatMap u1m.pieces).length ≤ 66 * l.length
 | [],_ => by simp
 | x :: l,h => by
   have ih:=enc_size l (fun y hy => h y (List.mem_cons_of_mem _ hy))
   have h0:=nameB_size (h x (List.mem_cons_self ..)).1
   have h1:=valueB_size (h x (List.mem_cons_self ..)).2
   simp only [List.flatMap_cons,List.length_append,u1m.pieces,u1m.piece,List.length_cons,u3p]
   omega
theorem enc_le {l:List S111} (h:canB l = true):(u1m.enc l).length ≤ 529 ∧ 1 ≤ (u1m.enc l).length:=by
 simp only [canB,Bool.and_eq_true,decide_eq_true_eq] at h
 have:=enc_size l (okFrom_mem l [] h.2)
 simp only [u1m.enc,List.length_cons]
 omega
theorem encode_ev (l:List S111):Ev (fun k => u1m.f k l) (if canB l = true then (u1m.enc l,0) else ([],1)):=by
 refine Ev.bind (can_ev l) ?_
 cases hc:canB l with
 | false => exact Ev.congr (fun k => by simp) (Ev.now _)
 | true =>
   have:=(enc_le hc).1
   refine Ev.congr (fun k => ?_) (Ev.now _)
   rw [if_pos rfl,if_pos (by omega),if_pos rfl]
theorem bytesOf_range (s:ByteArray):∀ y ∈ u3d s,0 ≤ y ∧ y < 256:=by
 intro y hy
 simp only [u3d,List.mem_map] at hy
 obtain ⟨c,_,rfl⟩:=hy
 have:=c.toNat_lt
 omega
theorem piece_range (s:ByteArray):∀ y ∈ u1m.piece s,0 ≤ y ∧ y < 256:=by
 intro y hy
 simp only [u1m.piece,List.mem_cons] at hy
 rcases hy with rfl | hy
 · omega
 · exact bytesOf_range s y hy
theorem str_bytes (s:ByteArray):strOfNums (u3d s) = s:=Base.ext_data (by
 rw [strOfNums_data,u3d,List.map_map]
 conv => rhs;rw [← List.map_id s.data.toList]
 apply List.map_congr_left
 intro c _
 simp)
theorem one_piece (s:ByteArray) (r:List Int) (h:s.size < 256):u1x.one (u1m.piece s ++ r) = some (s,r):=by
 have e:(s.size:Int) % 256 = (s.size:Nat):=by omega
 rw [u1m.piece,List.cons_append,e,u1x.one_cons (by rw [List.length_append,u3p];omega)]
 rw [← u3p s,List.take_left',List.drop_left',str_bytes]
 · rfl
 · rfl
theorem okB_of {b:List Int} (h1:b.length ≤ 140737488355328) (h2:∀ y ∈ b,0 ≤ y ∧ y < 256):u1x.okB b = true:=by
 simp only [u1x.okB,Bool.and_eq_true,decide_eq_true_eq,List.all_eq_true]
 exact ⟨h1,h2⟩
theorem rone_is:∀ b:List Int,u3z.one b = u1x.one b
 | [] => rfl
 | _ :: _ => rfl
theorem rall_is:∀ (n:Nat) (b:List Int),u3i.all n b = u1x.all n b
 | 0,_ => rfl
 | n + 1,b => by
   simp only [u3i.all,u1x.all,rone_is,rall_is n]
theorem one_sizes {b q:List Int} {s:ByteArray} (h:u1x.one b = some (s,q)):s.size ≤ b.length ∧ q.length ≤ b.length:=by
 cases b with
 | nil => cases h
 | cons c r =>
   simp only [u1x.one] at h
   split at h
   · obtain ⟨h1,h2⟩:=Prod.mk.inj (Option.some.inj h)
     subst h1 h2
     rw [strOfNums_size,List.length_take,List.length_drop,List.length_cons]
     omega
   · cases h
theorem all_sizes:∀ (n:Nat) (b:List Int) (l:List S111) (q:List Int),u1x.all n b = some (l,q) → l.length = n ∧ q.length ≤ b.length ∧ ∀ y ∈ l,y.f0.size ≤ b.length ∧ y.f1.size ≤ b.length
 | 0,b,l,q,h => by
   obtain ⟨h1,h2⟩:=Prod.mk.inj (Option.some.inj h)
   subst h1 h2
   exact ⟨rfl,Nat.le_refl _,fun y hy => by cases hy⟩
 | n + 1,b,l,q,h => by
   obtain ⟨⟨s0,b1⟩,h1,h⟩:=Option.bind_eq_some_iff.1 h
   obtain ⟨⟨s1,b2⟩,h2,h⟩:=Option.bind_eq_some_iff.1 h
   obtain ⟨⟨l2,q2⟩,h3,h⟩:=Option.map_eq_some_iff.1 h
   obtain ⟨e1,e2⟩:=Prod.mk.inj h
   subst e1 e2
   obtain ⟨i1,i2,i3⟩:=all_sizes n b2 l2 q2 h3
   have j1:=one_sizes h1
   have j2:=one_sizes h2
   simp only at j2
   refine ⟨by simp [i1],by show q2.length ≤ b.length;omega,fun y hy => ?_⟩
   rcases List.mem_cons.1 hy with rfl | hy
   · simp only
     omega
   · have:=i3 y hy
     omega
def decL:List Int → List S111 × List Int × Int
 | [] => ([],[],3)
 | c :: r => match u1x.all c.toNat r with
   | none => ([],[],3)
   | some (l,q) => if canB l = true then (l,q,0) else ([],[],5)
theorem decL_ev (b:List Int) (hl:b.length ≤ 140737488355328) (hb:∀ y ∈ b,0 ≤ y ∧ y < 256):Ev (fun k => u1x.f k b) (decL b) ∧ Ev (fun k => u3i.f k b) (decL b):=by
 have ho:=okB_of (b:=b) hl hb
 have ho2:u3i.okB b = true:=ho
 cases b with
 | nil => exact ⟨Ev.congr (fun k => by unfold u1x.f;rw [if_pos ho];rfl) (Ev.now _),Ev.congr (fun k => by unfold u3i.f;rw [if_pos ho2];rfl) (Ev.now _)⟩
 | cons c r =>
   cases ha:u1x.all c.toNat r with
   | none =>
     rw [show decL (c :: r) = ([],[],3) by simp only [decL,ha]]
     exact ⟨Ev.congr (fun k => by unfold u1x.f;rw [if_pos ho];simp only [ha]) (Ev.now _),Ev.congr (fun k => by unfold u3i.f;rw [if_pos ho2];simp only [rall_is,ha]) (Ev.now _)⟩
   | some p =>
     obtain ⟨l,q⟩:=p
     obtain ⟨i1,i2,i3⟩:=all_sizes _ _ _ _ ha
     have hm:140737488355328 ≤ maxLen:=by decide
     have hl2:r.length + 1 ≤ 140737488355328:=by simpa using hl
     have h1:=can_ev l
     have h2:=rcan_ev l (fun y hy => by have:=i3 y hy;omega)
     rw [show decL (c :: r) = if canB l = true then (l,q,0) else ([],[],5) by simp only [decL,ha]]
     refine ⟨?_,?_⟩
     · refine Ev.congr (f:=fun k => (u3k.f k l).bind fun b => if b = true then some (l,q,0) else some ([],[],5)) (fun k => by unfold u1x.f;rw [if_pos ho];simp only [ha]) (Ev.bind h1 ?_)
       cases canB l with
       | true => exact Ev.congr (fun k => by simp) (Ev.now _)
       | false => exact Ev.congr (fun k => by simp) (Ev.now _)
     · refine Ev.congr (f:=fun k => (u1v.f k l).bind fun b => if b = true then some (l,q,0) else some ([],[],5)) (fun k => by unfold u3i.f;rw [if_pos ho2];simp only [rall_is,ha]) (Ev.bind h2 ?_)
       cases canB l with
       | true => exact Ev.congr (fun k => by simp) (Ev.now _)
       | false => exact Ev.congr (fun k => by simp) (Ev.now _)
end Go.Proofs.YtgnehcgaplnfkaaGreatDoor.Laws
namespace Go.Proofs.YtgnehcgaplnfkaaGreatDoor.PAll
open Go.RowKit Go.Proofs.YtgnehcgaplnfkaaGreatDoorW.PrintWords Go.Proofs.YtgnehcgaplnfkaaGreatDoorW.PrintLast Go.Proofs.YtgnehcgaplnfkaaGreatDoorW.PrintMore
attribute [local go_sem] u3r u3t u4c u4b u3n u3o u3u u3s
set_option linter.unusedVariables false
set_option linter.unusedSimpArgs false
def regex_coder_atom.f:Option Int:=none
abbrev regex_coder_atom.CS:=ud.CS
def regex_coder_atom.put (s:regex_coder_atom.CS) (l:List S164):regex_coder_atom.CS:={ s with code:=s.code ++ l }
def regex_coder_atom.close (s:regex_coder_atom.CS):regex_coder_atom.CS:=(ud.step ⟨s.p,s.code,s.bad || u2q.nx s != 41⟩).2
def regex_coder_atom.atomM (alts:Nat → regex_coder_atom.CS → regex_coder_atom.CS) (d:Nat) (s:regex_coder_atom.CS):regex_coder_atom.CS :=
 if uw.am ⟨#[42,43,63,124,41,93]⟩ s = true then { s with bad:=true }
 else if (ud.step s).1 = 46 then regex_coder_atom.put (ud.step s).2 [⟨1,[],true,0,0⟩]
 else if (ud.step s).1 = 91 then uf.cls (ud.step s).2
 else if (ud.step s).1 = 40 then
  if (ud.step s).2.bad = true ∨ 10 ≤ d then { (ud.step s).2 with bad:=true }
  else regex_coder_atom.close (alts (d + 1) (ud.step s).2)
 else if (ud.step s).1 = 92 then regex_coder_atom.put (ud.step (ud.step s).2).2 [⟨1,[⟨(ud.step (ud.step s).2).1,(ud.step (ud.step s).2).1⟩],false,0,0⟩]
 else regex_coder_atom.put (ud.step s).2 [⟨1,[⟨(ud.step s).1,(ud.step s).1⟩],false,0,0⟩]
def regex_coder_atom.qual (n:Nat) (s:regex_coder_atom.CS):regex_coder_atom.CS :=
 if s.bad = false ∧ uw.am ⟨#[42,43,63]⟩ s = true then
  if (ud.step { s with code:=s.code.take n }).1 = 42 then regex_coder_atom.put (regex_coder_atom.put (regex_coder_atom.put (ud.step { s with code:=s.code.take n }).2 [⟨2,[],false,(n:Int) + 1,(n:Int) + ((s.code.drop n).length:Int) + 2⟩]) ((s.code.drop n).map (u1y.sh 1))) [⟨3,[],false,n,0⟩]
  else if (ud.step { s with code:=s.code.take n }).1 = 43 then regex_coder_atom.put (regex_coder_atom.put (ud.step { s with code:=s.code.take n }).2 (s.code.drop n)) [⟨2,[],false,n,(n:Int) + ((s.code.drop n).length:Int) + 1⟩]
  else regex_coder_atom.put (regex_coder_atom.put (ud.step { s with code:=s.code.take n }).2 [⟨2,[],false,(n:Int) + 1,(n:Int) + ((s.code.drop n).length:Int) + 1⟩]) ((s.code.drop n).map (u1y.sh 1))
 else s
def regex_coder_atom.bar (n:Nat) (s:regex_coder_atom.CS):regex_coder_atom.CS :=
 regex_coder_atom.put (regex_coder_atom.put (regex_coder_atom.put { (ud.step s).2 with code:=s.code.take n } [⟨2,[],false,(n:Int) + 1,(n:Int) + ((s.code.drop n).length:Int) + 2⟩]) ((s.code.drop n).map (u1y.sh 1))) [⟨3,[],false,0,0⟩]
def regex_coder_atom.aim (j:Nat) (s:regex_coder_atom.CS):regex_coder_atom.CS:=match s.code[j]? with
 | some x => { s with code:=s.code.set j ⟨x.f0,x.f1,x.f2,(s.code.length:Int),x.f4⟩ }
 | none => s
def regex_coder_atom.M:Nat → Nat → Nat → regex_coder_atom.CS → regex_coder_atom.CS
 | 0,_,_,s => s
 | f + 1,0,d,s => regex_coder_atom.atomM (fun d' s' => regex_coder_atom.M f 2 d' s') d s
 | f + 1,1,d,s => if u2g.mo s = true ∧ uw.am ⟨#[124,41]⟩ s = false then regex_coder_atom.M f 1 d (regex_coder_atom.qual s.code.length (regex_coder_atom.M f 0 d s)) else s
 | f + 1,_ + 2,d,s =>
   if u2g.mo (regex_coder_atom.M f 1 d s) = true ∧ u2q.nx (regex_coder_atom.M f 1 d s) = 124 then
    regex_coder_atom.aim (s.code.length + 1 + ((regex_coder_atom.M f 1 d s).code.drop s.code.length).length) (regex_coder_atom.M f 2 d (regex_coder_atom.bar s.code.length (regex_coder_atom.M f 1 d s)))
   else regex_coder_atom.M f 1 d s
def regex_coder_atom.need (k:Nat) (n:Nat):Nat:=4 * n + 1 + k
theorem regex_coder_atom.step_ne {s:regex_coder_atom.CS} (h:s.p ≠ []):(ud.step s).2.p.length + 1 = s.p.length ∧ (ud.step s).2.bad = s.bad ∧ (ud.step s).2.code = s.code:=by
 obtain ⟨p,code,bad⟩:=s
 cases p with
 | nil => exact absurd rfl h
 | cons r q => exact ⟨rfl,rfl,rfl⟩
theorem regex_coder_atom.am_ne {m:ByteArray} {s:regex_coder_atom.CS} (h:uw.am m s = true):s.p ≠ []:=by
 intro h0
 unfold uw.am at h
 rw [h0] at h
 cases h
theorem regex_coder_atom.mo_ne {s:regex_coder_atom.CS} (h:u2g.mo s = true):s.p ≠ [] ∧ s.bad = false:=by
 unfold u2g.mo at h
 refine ⟨?_,?_⟩
 · rintro h0
   rw [h0] at h
   simp at h
 · cases hb:s.bad with
   | false => rfl
   | true => rw [hb] at h;simp at h
theorem regex_coder_atom.cls_dec (s:regex_coder_atom.CS):(uf.cls s).p.length ≤ s.p.length ∧ (uf.cls s).code.length = s.code.length + 1:=by
 unfold uf.cls
 dsimp only
 have h3:=uf.step_code (uf.loopM ((if uf.neg s = true then (ud.step s).2 else s).p.length + 2) true (if uf.neg s = true then (ud.step s).2 else s) []).2
 have h4:=(uf.step_dec (uf.loopM ((if uf.neg s = true then (ud.step s).2 else s).p.length + 2) true (if uf.neg s = true then (ud.step s).2 else s) []).2).1
 obtain ⟨h1,h2⟩:=uf.loopM_code ((if uf.neg s = true then (ud.step s).2 else s).p.length + 2) true (if uf.neg s = true then (ud.step s).2 else s) []
 have h5:(if uf.neg s = true then (ud.step s).2 else s).p.length ≤ s.p.length ∧ (if uf.neg s = true then (ud.step s).2 else s).code = s.code:=by
  split
  · exact ⟨(uf.step_dec s).1,uf.step_code s⟩
  · exact ⟨Nat.le_refl _,rfl⟩
 refine ⟨by omega,?_⟩
 rw [List.length_append,h3,h1,h5.2]
 rfl
theorem regex_coder_atom.close_dec (s:regex_coder_atom.CS):(regex_coder_atom.close s).p.length ≤ s.p.length ∧ (regex_coder_atom.close s).code = s.code :=
 ⟨(uf.step_dec ⟨s.p,s.code,s.bad || u2q.nx s != 41⟩).1,uf.step_code ⟨s.p,s.code,s.bad || u2q.nx s != 41⟩⟩
structure regex_coder_atom.Dec (s s':regex_coder_atom.CS):Prop where
 p:s'.p.length ≤ s.p.length
 code:s.code.length ≤ s'.code.length
 both:s'.code.length + 2 * s'.p.length ≤ s.code.length + 2 * s.p.length
theorem regex_coder_atom.Dec.refl (s:regex_coder_atom.CS):regex_coder_atom.Dec s s:=⟨Nat.le_refl _,Nat.le_refl _,Nat.le_refl _⟩
theorem regex_coder_atom.Dec.trans {s s' s'':regex_coder_atom.CS} (h:regex_coder_atom.Dec s s') (h':regex_coder_atom.Dec s' s''):regex_coder_atom.Dec s s'':=⟨Nat.le_trans h'.p h.p,Nat.le_trans h.code h'.code,Nat.le_trans h'.both h.both⟩
theorem regex_coder_atom.qual_dec {n:Nat} {s:regex_coder_atom.CS} (hn:n ≤ s.code.length):(regex_coder_atom.qual n s).p.length ≤ s.p.length ∧ n ≤ (regex_coder_atom.qual n s).code.length ∧ (regex_coder_atom.qual n s).code.length + 2 * (regex_coder_atom.qual n s).p.length ≤ s.code.length + 2 * s.p.length ∧ (s.bad = true → (regex_coder_atom.qual n s).bad = true):=by
 unfold regex_coder_atom.qual
 by_cases hc:s.bad = false ∧ uw.am ⟨#[42,43,63]⟩ s = true
 · rw [if_pos hc]
   obtain ⟨h1,h2,h3⟩:=regex_coder_atom.step_ne (s:={ s with code:=s.code.take n }) (regex_coder_atom.am_ne hc.2)
   simp only at h1 h2 h3
   have hl:(ud.step { s with code:=s.code.take n }).2.code.length = n:=by rw [h3,List.length_take];omega
   refine ⟨?_,?_,?_,fun h => absurd h (by rw [hc.1];decide)⟩
   all_goals (split;(simp only [regex_coder_atom.put,List.length_append,List.length_map,List.length_drop,List.length_cons,List.length_nil,hl];omega);split;(simp only [regex_coder_atom.put,List.length_append,List.length_map,List.length_drop,List.length_cons,List.length_nil,hl];omega);(simp only [regex_coder_atom.put,List.length_append,List.length_map,List.length_drop,List.length_cons,List.length_nil,hl];omega))
 · rw [if_neg hc]
   exact ⟨Nat.le_refl _,hn,Nat.le_refl _,fun h => h⟩
theorem regex_coder_atom.bar_dec {n:Nat} {s:regex_coder_atom.CS} (hn:n ≤ s.code.length) (hp:s.p ≠ []):regex_coder_atom.Dec s (regex_coder_atom.bar n s) ∧ (regex_coder_atom.bar n s).p.length + 1 = s.p.length ∧ (regex_coder_atom.bar n s).code.length = s.code.length + 2:=by
 obtain ⟨h1,h2,h3⟩:=regex_coder_atom.step_ne hp
 have hl:(regex_coder_atom.bar n s).code.length = s.code.length + 2:=by
  simp only [regex_coder_atom.bar,regex_coder_atom.put,List.length_append,List.length_map,List.length_drop,List.length_cons,List.length_nil,List.length_take]
  omega
 have hq:(regex_coder_atom.bar n s).p.length + 1 = s.p.length:=h1
 exact ⟨⟨by omega,by omega,by omega⟩,hq,hl⟩
theorem regex_coder_atom.aim_len (j:Nat) (s:regex_coder_atom.CS):(regex_coder_atom.aim j s).code.length = s.code.length ∧ (regex_coder_atom.aim j s).p = s.p ∧ (regex_coder_atom.aim j s).bad = s.bad:=by
 unfold regex_coder_atom.aim
 split
 · exact ⟨List.length_set,rfl,rfl⟩
 · exact ⟨rfl,rfl,rfl⟩
theorem regex_coder_atom.M_dec (f:Nat):∀ (k d:Nat) (s:regex_coder_atom.CS),(k = 0 → s.p ≠ []) → regex_coder_atom.Dec s (regex_coder_atom.M f k d s) ∧ (k = 0 → 0 < f → (regex_coder_atom.M f k d s).bad = true ∨ (regex_coder_atom.M f k d s).p.length + 1 ≤ s.p.length):=by
 induction f with
 | zero => exact fun k d s _ => ⟨regex_coder_atom.Dec.refl s,fun _ h => absurd h (by omega)⟩
 | succ f ih =>
   intro k d s hk
   match k with
   | 0 =>
     obtain ⟨a1,a2,a3⟩:=regex_coder_atom.step_ne (hk rfl)
     simp only [regex_coder_atom.M]
     unfold regex_coder_atom.atomM
     by_cases c1:uw.am ⟨#[42,43,63,124,41,93]⟩ s = true
     · rw [if_pos c1]
       exact ⟨⟨Nat.le_refl _,Nat.le_refl _,Nat.le_refl _⟩,fun _ _ => Or.inl rfl⟩
     rw [if_neg c1]
     by_cases c2:(ud.step s).1 = 46
     · rw [if_pos c2]
       refine ⟨⟨?_,?_,?_⟩,fun _ _ => Or.inr ?_⟩
       all_goals simp only [regex_coder_atom.put,List.length_append,List.length_cons,List.length_nil,a3]
       all_goals omega
     rw [if_neg c2]
     by_cases c3:(ud.step s).1 = 91
     · rw [if_pos c3]
       obtain ⟨b1,b2⟩:=regex_coder_atom.cls_dec (ud.step s).2
       rw [a3] at b2
       exact ⟨⟨by omega,by omega,by omega⟩,fun _ _ => Or.inr (by omega)⟩
     rw [if_neg c3]
     by_cases c4:(ud.step s).1 = 40
     · rw [if_pos c4]
       by_cases c5:(ud.step s).2.bad = true ∨ 10 ≤ d
       · rw [if_pos c5]
         refine ⟨⟨?_,?_,?_⟩,fun _ _ => Or.inl rfl⟩
         all_goals simp only [a3]
         all_goals omega
       · rw [if_neg c5]
         obtain ⟨⟨b1,b2,b3⟩,_⟩:=ih 2 (d + 1) (ud.step s).2 (fun h => absurd h (by decide))
         dsimp only
         obtain ⟨e2,e1⟩:=regex_coder_atom.close_dec (regex_coder_atom.M f 2 (d + 1) (ud.step s).2)
         rw [a3] at b2 b3
         refine ⟨⟨?_,?_,?_⟩,fun _ _ => Or.inr ?_⟩
         all_goals first | rw [e1] | skip
         all_goals omega
     rw [if_neg c4]
     by_cases c5:(ud.step s).1 = 92
     · rw [if_pos c5]
       have e1:=uf.step_code (ud.step s).2
       have e2:=(uf.step_dec (ud.step s).2).1
       refine ⟨⟨?_,?_,?_⟩,fun _ _ => Or.inr ?_⟩
       all_goals simp only [regex_coder_atom.put,List.length_append,List.length_cons,List.length_nil,e1,a3]
       all_goals omega
     · rw [if_neg c5]
       refine ⟨⟨?_,?_,?_⟩,fun _ _ => Or.inr ?_⟩
       all_goals simp only [regex_coder_atom.put,List.length_append,List.length_cons,List.length_nil,a3]
       all_goals omega
   | 1 =>
     refine ⟨?_,fun h => absurd h (by decide)⟩
     simp only [regex_coder_atom.M]
     split
     · rename_i hc
       have hp:=(regex_coder_atom.mo_ne hc.1).1
       obtain ⟨⟨b1,b2,b3⟩,_⟩:=ih 0 d s (fun _ => hp)
       obtain ⟨e1,e2,e3,_⟩:=regex_coder_atom.qual_dec b2
       obtain ⟨⟨g1,g2,g3⟩,_⟩:=ih 1 d (regex_coder_atom.qual s.code.length (regex_coder_atom.M f 0 d s)) (fun h => absurd h (by decide))
       exact ⟨by omega,by omega,by omega⟩
     · exact regex_coder_atom.Dec.refl s
   | k + 2 =>
     refine ⟨?_,fun h => absurd h (by omega)⟩
     simp only [regex_coder_atom.M]
     obtain ⟨hb,_⟩:=ih 1 d s (fun h => absurd h (by decide))
     split
     · rename_i hc
       have hp:=(regex_coder_atom.mo_ne hc.1).1
       obtain ⟨hd,_,_⟩:=regex_coder_atom.bar_dec hb.code hp
       obtain ⟨hl,_⟩:=ih 2 d (regex_coder_atom.bar s.code.length (regex_coder_atom.M f 1 d s)) (fun h => absurd h (by decide))
       obtain ⟨i1,i2,i3⟩:=regex_coder_atom.aim_len (s.code.length + 1 + ((regex_coder_atom.M f 1 d s).code.drop s.code.length).length) (regex_coder_atom.M f 2 d (regex_coder_atom.bar s.code.length (regex_coder_atom.M f 1 d s)))
       obtain ⟨j1,j2,j3⟩:=hb.trans (hd.trans hl)
       exact ⟨by rw [i2];exact j1,by rw [i1];exact j2,by rw [i1,i2];exact j3⟩
     · exact hb
def regex_coder_atom.Sp (n k f:Nat):Prop:=∀ (w0 W:World) (g gp:Nat) (vc:Value) (s:regex_coder_atom.CS) (d:Nat),ud.St w0 W g gp vc s → d ≤ 10 → (s.bad = true ∨ regex_coder_atom.need k s.p.length ≤ f) → s.code.length + 2 * s.p.length ≤ 1000 → (k = 0 → s.bad = false ∧ s.p ≠ []) →
 Calls Tryz.prog n #[.pointer (some ⟨g,0,none⟩),.int .i64 (d:Int)] W fun e W' => e = .returned (.tuple #[]) ∧ ∃ vc',ud.St w0 W' g gp vc' (regex_coder_atom.M f k d s)
set_option maxHeartbeats 4000000 in
set_option maxRecDepth 10000 in
theorem regex_coder_atom.calls (f:Nat) (hL:regex_coder_atom.Sp 102 2 f):regex_coder_atom.Sp 133 0 (f + 1):=by
 intro w0 W g gp vc s d h hd hneed hsz hk
 obtain ⟨hbad,hp⟩:=hk rfl
 obtain ⟨A,c,⟨h0,h1,h2⟩,⟨f0,f1,f2⟩,hl,hb,hr⟩:=h.look
 obtain ⟨am1,ham⟩:∃ am1,Aside0 (uw.am ⟨#[42,43,63,124,41,93]⟩ s = am1):=⟨_,⟨rfl⟩⟩
 have HM:Aside0 (regex_coder_atom.M (f + 1) 0 d s = regex_coder_atom.atomM (fun d' s' => regex_coder_atom.M f 2 d' s') d s):=⟨rfl⟩
 have HS:=Aside0.mk h
 have HN:Aside0 (4 * s.p.length + 1 ≤ f + 1):=⟨by
  have:=hneed.resolve_left (by simp [hbad])
  simpa [regex_coder_atom.need] using this⟩
 cases am1 with
 | true =>
   have HB:Aside0 (ud.St w0 (W.setCell ⟨g,2,none⟩ (.bool true)) g gp vc { s with bad:=true }):=⟨h.set hb rfl hl hr rfl⟩
   have HM2:Aside0 (regex_coder_atom.M (f + 1) 0 d s = { s with bad:=true }):=⟨by
    rw [HM.out]
    unfold regex_coder_atom.atomM
    rw [if_pos ham.out]⟩
   clear h hb hr hl hneed hk hp hbad
   go_enter Tryz.func133,Tryz.ntmps133
   go_wp2_with (go_at_call 132;(with_reducible refine (uw.calls w0 W g gp vc s _ HS.out).mono ?_);rintro e W1 ⟨rfl,hW1⟩;rw [hW1,ham.out])
   (try simp only [Exit.inBlock,Exit.then]);refine bodyPost_ret (results_none rfl _ _ _) rfl ?_
   exact ⟨rfl,vc,by rw [HM2.out];exact HB.out⟩
 | false =>
   obtain ⟨a1,a2,a3⟩:=regex_coder_atom.step_ne hp
   obtain ⟨x1,hx1⟩:∃ x1,Aside0 (ud.step s = x1):=⟨_,⟨rfl⟩⟩
   obtain ⟨r1,s1⟩:=x1
   rw [hx1.out] at a1 a2 a3
   rw [hbad] at a2
   have A1:=Aside0.mk a1
   have A2:=Aside0.mk a2
   have A3:=Aside0.mk (congrArg List.length a3)
   have HM2:Aside0 (regex_coder_atom.M (f + 1) 0 d s = if r1 = 46 then regex_coder_atom.put s1 [⟨1,[],true,0,0⟩] else if r1 = 91 then uf.cls s1 else if r1 = 40 then if s1.bad = true ∨ 10 ≤ d then { s1 with bad:=true } else regex_coder_atom.close (regex_coder_atom.M f 2 (d + 1) s1) else if r1 = 92 then regex_coder_atom.put (ud.step s1).2 [⟨1,[⟨(ud.step s1).1,(ud.step s1).1⟩],false,0,0⟩] else regex_coder_atom.put s1 [⟨1,[⟨r1,r1⟩],false,0,0⟩]):=⟨by
    rw [HM.out]
    unfold regex_coder_atom.atomM
    rw [if_neg (by rw [ham.out];decide),hx1.out]⟩
   have HK:Aside0 (d ≤ 10 ∧ s.code.length + 2 * s.p.length ≤ 1000):=⟨hd,hsz⟩
   clear h hb hr hl hneed hk hp hbad a1 a2 a3 HM hd hsz
   by_cases c46:r1 = 46
   · subst c46
     rw [if_pos rfl] at HM2
     go_enter Tryz.func133,Tryz.ntmps133
     go_wp2_with (first
      | (go_at_call 132;(with_reducible refine (uw.calls w0 W g gp vc s _ HS.out).mono ?_);rintro e W1 ⟨rfl,hW1⟩;rw [hW1,ham.out])
      | (go_at_call 121;(with_reducible refine (ud.calls w0 W g gp vc s HS.out).mono ?_);rintro e W1 ⟨rfl,hS1,hK1⟩;rw [hx1.out] at hS1 ⊢;have HS1:=Aside0.mk hS1;clear hS1 hK1)
      | (go_at_call 103;(with_reducible refine (u1p.put1 HS1.out (Kd.R_nil _ _ _ _ _) (by have:=A3.out;have:=HK.out.2;omega)).mono ?_);rintro e W3 ⟨rfl,vc3,hS3,hF3⟩;have HS3:=Aside0.mk hS3;clear hS3 hF3))
     (try simp only [Exit.inBlock,Exit.then]);refine bodyPost_ret (results_none rfl _ _ _) rfl ?_
     exact ⟨rfl,_,by rw [HM2.out];exact HS3.out⟩
   rw [if_neg c46] at HM2
   by_cases c91:r1 = 91
   · subst c91
     rw [if_pos rfl] at HM2
     go_enter Tryz.func133,Tryz.ntmps133
     go_wp2_with (first
      | (go_at_call 132;(with_reducible refine (uw.calls w0 W g gp vc s _ HS.out).mono ?_);rintro e W1 ⟨rfl,hW1⟩;rw [hW1,ham.out])
      | (go_at_call 121;(with_reducible refine (ud.calls w0 W g gp vc s HS.out).mono ?_);rintro e W1 ⟨rfl,hS1,hK1⟩;rw [hx1.out] at hS1 ⊢;have HS1:=Aside0.mk hS1;clear hS1 hK1)
      | (go_at_call 144;(with_reducible refine (uf.calls w0 W1 g gp vc s1 HS1.out (by have:=A1.out;have:=A3.out;have:=HK.out.2;omega)).mono ?_);rintro e W3 ⟨rfl,vc3,hS3⟩;have HS3:=Aside0.mk hS3;clear hS3))
     (try simp only [Exit.inBlock,Exit.then]);refine bodyPost_ret (results_none rfl _ _ _) rfl ?_
     exact ⟨rfl,_,by rw [HM2.out];exact HS3.out⟩
   rw [if_neg c91] at HM2
   by_cases c40:r1 = 40
   · subst c40
     rw [if_pos rfl] at HM2
     by_cases hd10:10 ≤ d
     · rw [if_pos (Or.inr hd10)] at HM2
       have hdd:decide (10 ≤ (d:Int)) = true:=by simp;omega
       go_enter Tryz.func133,Tryz.ntmps133
       go_wp2_with (first
        | (go_at_call 132;(with_reducible refine (uw.calls w0 W g gp vc s _ HS.out).mono ?_);rintro e W1 ⟨rfl,hW1⟩;rw [hW1,ham.out])
        | (go_at_call 121;(with_reducible refine (ud.calls w0 W g gp vc s HS.out).mono ?_);rintro e W1 ⟨rfl,hS1,hK1⟩;rw [hx1.out] at hS1 ⊢
           obtain ⟨B1,c1,⟨k0,k1,k2⟩,⟨q0,q1,q2⟩,kl,kb,kr⟩:=hS1.look
           rw [A2.out] at k2
           have HT1:Aside0 (ud.St w0 (W1.setCell ⟨g,2,none⟩ (.bool true)) g gp vc { s1 with bad:=true }):=⟨hS1.set kb rfl kl kr rfl⟩
           clear hS1 hK1 kb kr kl))
       (try simp only [Exit.inBlock,Exit.then]);refine bodyPost_ret (results_none rfl _ _ _) rfl ?_
       exact ⟨rfl,_,by rw [HM2.out];exact HT1.out⟩
     · rw [if_neg (by rw [A2.out];simp;omega)] at HM2
       have hdd:decide (10 ≤ (d:Int)) = false:=by simp;omega
       obtain ⟨s2,hs2⟩:∃ s2,Aside0 (regex_coder_atom.M f 2 (d + 1) s1 = s2):=⟨_,⟨rfl⟩⟩
       rw [hs2.out] at HM2
       have hw:Aside0 (((d + 1:Nat):Int) = (d:Int) + 1):=⟨by omega⟩
       by_cases hn2:u2q.nx s2 = 41
       · have HC:Aside0 (regex_coder_atom.close s2 = (ud.step s2).2):=⟨by
          unfold regex_coder_atom.close
          rw [hn2]
          obtain ⟨p,code,bad⟩:=s2
          cases bad <;> rfl⟩
         have HN2:=Aside0.mk hn2
         clear hn2
         obtain ⟨x3,hx3⟩:∃ x3,Aside0 (ud.step s2 = x3):=⟨_,⟨rfl⟩⟩
         obtain ⟨r3,s3⟩:=x3
         go_enter Tryz.func133,Tryz.ntmps133
         go_wp2_with (first
          | (go_at_call 132;(with_reducible refine (uw.calls w0 W g gp vc s _ HS.out).mono ?_);rintro e W1 ⟨rfl,hW1⟩;rw [hW1,ham.out])
          | (go_at_call 121;(with_reducible refine (ud.calls w0 W g gp vc s HS.out).mono ?_);rintro e W1 ⟨rfl,hS1,hK1⟩;rw [hx1.out] at hS1 ⊢
             obtain ⟨B1,c1,⟨k0,k1,k2⟩,⟨q0,q1,q2⟩,kl,kb,kr⟩:=hS1.look
             rw [A2.out] at k2
             have HT1:Aside0 (ud.St w0 (W1.setCell ⟨g,2,none⟩ (.bool false)) g gp vc s1):=⟨hS1.set kb (by rw [A2.out];rfl) kl kr rfl⟩
             clear hS1 hK1 kb kr kl)
          | (go_at_call 102
             have hLd:=hL w0 (W1.setCell ⟨g,2,none⟩ (.bool false)) g gp vc s1 (d + 1) HT1.out (by omega) (Or.inr (by have:=A1.out;have:=HN.out;unfold regex_coder_atom.need;omega)) (by have:=A1.out;have:=A3.out;have:=HK.out.2;omega) (fun h => absurd h (by decide))
             rw [hw.out,hs2.out] at hLd
             (with_reducible refine hLd.mono ?_)
             rintro e W2 ⟨rfl,vc2,hS2⟩
             have HS2:=Aside0.mk hS2
             clear hS2 hLd)
          | (go_at_call 120;(with_reducible refine (u2q.calls w0 W2 g gp vc2 s2 HS2.out).mono ?_);rintro e W3 ⟨rfl,hW3⟩;rw [hW3,HN2.out])
          | (go_at_call 121;(with_reducible refine (ud.calls w0 W2 g gp vc2 s2 HS2.out).mono ?_);rintro e W3 ⟨rfl,hS3,hK3⟩;rw [hx3.out] at hS3 ⊢;have HS3:=Aside0.mk hS3;clear hS3 hK3))
         (try simp only [Exit.inBlock,Exit.then]);refine bodyPost_ret (results_none rfl _ _ _) rfl ?_
         exact ⟨rfl,_,by rw [HM2.out,HC.out,hx3.out];exact HS3.out⟩
       · have HC:Aside0 (regex_coder_atom.close s2 = (ud.step ⟨s2.p,s2.code,true⟩).2):=⟨by
          unfold regex_coder_atom.close
          rw [show (u2q.nx s2 != 41) = true from by simpa using hn2,Bool.or_true]⟩
         obtain ⟨n2,HN2⟩:∃ n2,Aside0 (u2q.nx s2 = n2):=⟨_,⟨rfl⟩⟩
         rw [HN2.out] at hn2
         have hn3:(n2 != 41) = true:=by simpa using hn2
         clear hn2
         obtain ⟨x3,hx3⟩:∃ x3,Aside0 (ud.step ⟨s2.p,s2.code,true⟩ = x3):=⟨_,⟨rfl⟩⟩
         obtain ⟨r3,s3⟩:=x3
         go_enter Tryz.func133,Tryz.ntmps133
         go_wp2_with (first
          | (go_at_call 132;(with_reducible refine (uw.calls w0 W g gp vc s _ HS.out).mono ?_);rintro e W1 ⟨rfl,hW1⟩;rw [hW1,ham.out])
          | (go_at_call 121;(with_reducible refine (ud.calls w0 W g gp vc s HS.out).mono ?_);rintro e W1 ⟨rfl,hS1,hK1⟩;rw [hx1.out] at hS1 ⊢
             obtain ⟨B1,c1,⟨k0,k1,k2⟩,⟨q0,q1,q2⟩,kl,kb,kr⟩:=hS1.look
             rw [A2.out] at k2
             have HT1:Aside0 (ud.St w0 (W1.setCell ⟨g,2,none⟩ (.bool false)) g gp vc s1):=⟨hS1.set kb (by rw [A2.out];rfl) kl kr rfl⟩
             clear hS1 hK1 kb kr kl)
          | (go_at_call 102
             have hLd:=hL w0 (W1.setCell ⟨g,2,none⟩ (.bool false)) g gp vc s1 (d + 1) HT1.out (by omega) (Or.inr (by have:=A1.out;have:=HN.out;unfold regex_coder_atom.need;omega)) (by have:=A1.out;have:=A3.out;have:=HK.out.2;omega) (fun h => absurd h (by decide))
             rw [hw.out,hs2.out] at hLd
             (with_reducible refine hLd.mono ?_)
             rintro e W2 ⟨rfl,vc2,hS2⟩
             obtain ⟨B2,c2,⟨z0,z1,z2⟩,⟨y0,y1,y2⟩,kl,kb,kr⟩:=hS2.look
             have HS2:=Aside0.mk hS2
             have HT2:Aside0 (ud.St w0 (W2.setCell ⟨g,2,none⟩ (.bool true)) g gp vc2 ⟨s2.p,s2.code,true⟩):=⟨hS2.set kb rfl kl kr rfl⟩
             clear hS2 hLd kl kb kr z0 z1)
          | (go_at_call 120;(with_reducible refine (u2q.calls w0 W2 g gp vc2 s2 HS2.out).mono ?_);rintro e W3 ⟨rfl,hW3⟩;rw [hW3,HN2.out])
          | (go_at_call 121;(with_reducible refine (ud.calls w0 (W2.setCell ⟨g,2,none⟩ (.bool true)) g gp vc2 ⟨s2.p,s2.code,true⟩ HT2.out).mono ?_);rintro e W3 ⟨rfl,hS3,hK3⟩;rw [hx3.out] at hS3 ⊢;have HS3:=Aside0.mk hS3;clear hS3 hK3))
         (try simp only [Exit.inBlock,Exit.then]);refine bodyPost_ret (results_none rfl _ _ _) rfl ?_
         exact ⟨rfl,_,by rw [HM2.out,HC.out,hx3.out];exact HS3.out⟩
   rw [if_neg c40] at HM2
   by_cases c92:r1 = 92
   · subst c92
     rw [if_pos rfl] at HM2
     obtain ⟨x2,hx2⟩:∃ x2,Aside0 (ud.step s1 = x2):=⟨_,⟨rfl⟩⟩
     obtain ⟨r2,s2⟩:=x2
     rw [hx2.out] at HM2
     have A4:Aside0 (s2.code.length = s1.code.length):=⟨by
      have h9:=uf.step_code s1
      rw [hx2.out] at h9
      exact congrArg List.length h9⟩
     go_enter Tryz.func133,Tryz.ntmps133
     go_wp2_with (first
      | (go_at_call 132;(with_reducible refine (uw.calls w0 W g gp vc s _ HS.out).mono ?_);rintro e W1 ⟨rfl,hW1⟩;rw [hW1,ham.out])
      | (go_at_call 121;(with_reducible refine (ud.calls w0 W g gp vc s HS.out).mono ?_);rintro e W1 ⟨rfl,hS1,hK1⟩;rw [hx1.out] at hS1 ⊢;have HS1:=Aside0.mk hS1;clear hS1 hK1)
      | (go_at_call 121;(with_reducible refine (ud.calls w0 W1 g gp vc s1 HS1.out).mono ?_);rintro e W2 ⟨rfl,hS2,hK2⟩;rw [hx2.out] at hS2 ⊢;have HS2:=Aside0.mk hS2;clear hS2 hK2)
      | (go_at_call 103;(with_reducible refine (u1p.put1a (by simp) (u3f.St_below HS2.out (uj (Below.refl _ _) _)) (u1p.span1 rfl HS2.out.below) (by have:=A3.out;have:=A4.out;have:=HK.out.2;omega)).mono ?_);rintro e W3 ⟨rfl,vc3,hS3,hF3⟩;have HS3:=Aside0.mk hS3;clear hS3 hF3))
     go_end0
     exact ⟨rfl,_,by rw [HM2.out];exact HS3.out⟩
   · rw [if_neg c92] at HM2
     have b46:(r1 == 46) = false:=by simp [c46]
     have b91:(r1 == 91) = false:=by simp [c91]
     have b40:(r1 == 40) = false:=by simp [c40]
     have b92:(r1 == 92) = false:=by simp [c92]
     clear c46 c91 c40 c92
     go_enter Tryz.func133,Tryz.ntmps133
     go_wp2_with (first
      | (go_at_call 132;(with_reducible refine (uw.calls w0 W g gp vc s _ HS.out).mono ?_);rintro e W1 ⟨rfl,hW1⟩;rw [hW1,ham.out])
      | (go_at_call 121;(with_reducible refine (ud.calls w0 W g gp vc s HS.out).mono ?_);rintro e W1 ⟨rfl,hS1,hK1⟩;rw [hx1.out] at hS1 ⊢;have HS1:=Aside0.mk hS1;clear hS1 hK1)
      | (go_at_call 103;(with_reducible refine (u1p.put1a (by simp) (u3f.St_below HS1.out (uj (Below.refl _ _) _)) (u1p.span1 rfl HS1.out.below) (by have:=A3.out;have:=HK.out.2;omega)).mono ?_);rintro e W3 ⟨rfl,vc3,hS3,hF3⟩;have HS3:=Aside0.mk hS3;clear hS3 hF3))
     go_end0
     exact ⟨rfl,_,by rw [HM2.out];exact HS3.out⟩
end Go.Proofs.YtgnehcgaplnfkaaGreatDoor.PAll
