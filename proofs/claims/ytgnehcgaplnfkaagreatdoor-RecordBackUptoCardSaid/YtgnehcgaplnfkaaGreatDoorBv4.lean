/- Texts of this seat, joined in the order in which they build. -/
import Derived.Test.YtgnehcgaplnfkaaGreatDoorBv1
import Derived.Test.YtgnehcgaplnfkaaGreatDoorGx44Bv
import Derived.Test.YtgnehcgaplnfkaaGreatDoorBv3
import Derived.Test.YtgnehcgaplnfkaaGreatDoorBv2
import Derived.Test.YtgnehcgaplnfkaaGreatDoorGx33Bv
import Derived.Test.YtgnehcgaplnfkaaGreatDoorGx23Bv
namespace Go.Proofs.YtgnehcgaplnfkaaGreatDoor.PAll
open Go.RowKit Go.Proofs.YtgnehcgaplnfkaaGreatDoorW.PrintWords Go.Proofs.YtgnehcgaplnfkaaGreatDoorW.PrintLast Go.Proofs.YtgnehcgaplnfkaaGreatDoorW.PrintMore
attribute [local go_sem] u3o u3n u3x u3w u3j u3i u3p u3q
set_option linter.unusedVariables false
set_option linter.unusedSimpArgs false
def u3f.all:Nat → List Int → Option (List S111 × List Int)
 | 0,b => some ([],b)
 | n + 1,b => (u3u.one b).bind fun x => (u3u.one x.2).bind fun y => (u3f.all n y.2).map fun z => (⟨x.1,y.1⟩ :: z.1,z.2)
def u3f.okB (l0:List Int):Bool:=decide (l0.length ≤ 140737488355328) && l0.all (fun c => decide (0 ≤ c) && decide (c < 256))
def u3f.f (k:Nat) (l0:List Int):Option (List S111 × List Int × Int):=if u3f.okB l0 = true then (match l0 with
 | [] => some ([],[],3)
 | c :: r => match u3f.all c.toNat r with
   | none => some ([],[],3)
   | some (l,q) => (uv.f k l).bind fun b => if b = true then some (l,q,0) else some ([],[],5)) else none
abbrev u2u.Rw:=S59
def u2u.rowsM (k:Nat):Nat → List Int → List u2u.Rw → Option (Option (List u2u.Rw × List Int))
 | 0,b,l => some (some (l,b))
 | n + 1,b,l => (u3f.f k b).bind fun z => if z.2.2 ≠ 0 then some none else
   match u2a.int 8 z.2.1 with
   | none => some none
   | some y => match u2a.int 8 y.2 with
     | none => some none
     | some u => u2u.rowsM k n u.2 (l ++ [⟨z.1,y.1,IntKind.u64.wrap u.1⟩])
def u2u.top (k:Nat) (l0:List Int):Option (Option (List u2u.Rw × List Int)):=match u2a.int 2 l0 with
 | none => some none
 | some y => u2u.rowsM k y.1.toNat y.2 []
end Go.Proofs.YtgnehcgaplnfkaaGreatDoor.PAll
namespace Go.Proofs.YtgnehcgaplnfkaaGreatDoor.Laws
open Go.RowKit Go.Proofs.YtgnehcgaplnfkaaGreatDoor.PAll Go.Proofs.YtgnehcgaplnfkaaGreatDoorW.PrintWords Go.Proofs.YtgnehcgaplnfkaaGreatDoorW.PrintLast
set_option linter.unusedVariables false
set_option linter.unusedSimpArgs false
theorem wrap_up (i:Nat) (h:i < 9223372036854775807):wrap64 ((i:Int) + 1) = ((i + 1:Nat):Int):=by
 unfold wrap64
 omega
theorem at_byte (s:ByteArray) (i:Nat) (c:UInt8) (r:List UInt8) (h:s.data.toList.drop i = c :: r):i < s.size ∧ bt s (i:Int) = (c.toNat:Int) ∧ s.data.toList.drop (i + 1) = r:=by
 have hlt:i < s.data.toList.length:=by
  rcases Nat.lt_or_ge i s.data.toList.length with h1 | h1
  · exact h1
  · rw [List.drop_eq_nil_of_le h1] at h
    cases h
 have hs:s.size = s.data.toList.length:=Base.size_list s
 rw [List.drop_eq_getElem_cons hlt] at h
 obtain ⟨h1,h2⟩:=List.cons.inj h
 refine ⟨by omega,?_,h2⟩
 rw [Base.bt_list s i (by omega),List.getD_eq_getElem?_getD,List.getElem?_eq_getElem hlt,h1]
 rfl
theorem no_byte (s:ByteArray) (i:Nat) (h:s.data.toList.drop i = []):s.size ≤ i:=by
 have hs:s.size = s.data.toList.length:=Base.size_list s
 have:=List.drop_eq_nil_iff.1 h
 omega
def letterI (c:Int):Bool:=(decide (97 ≤ c) && decide (c ≤ 122)) || (decide (65 ≤ c) && decide (c ≤ 90)) || decide (c = 95)
theorem letter_fin:∀ n:Fin 256,Base.letterB (n.val:Int) = letterI (n.val:Int):=by decide +kernel
theorem letter_is (c:UInt8):Base.letterB (c.toNat:Int) = letterI (c.toNat:Int):=letter_fin ⟨c.toNat,c.toNat_lt⟩
theorem name_step (k:Nat) (s:ByteArray) (i:Nat) (hi:i < s.size) (hs:s.size ≤ 9223372036854775807) :
 u1e.l0 (k + 1) s (i:Int) = if letterI (bt s i) = true then u1e.l0 k s ((i + 1:Nat):Int) else if i = 0 then some false else
  if Base.digitB (bt s i) = true then u1e.l0 k s ((i + 1:Nat):Int) else some false:=by
 have hw:=wrap_up i (by omega)
 simp only [u1e.l0]
 rw [if_pos (by omega),if_pos (by omega),hw]
 generalize bt s (i:Int) = c
 have e0:((i:Int) = 0) = (i = 0):=by simp
 simp only [e0]
 unfold letterI Base.digitB
 by_cases h1:97 ≤ c <;> by_cases h2:c ≤ 122 <;> by_cases h3:65 ≤ c <;> by_cases h4:c ≤ 90 <;> by_cases h5:c = 95 <;> first | (exfalso;omega) | skip
 all_goals by_cases h6:48 ≤ c <;> by_cases h7:c ≤ 57 <;> first | (exfalso;omega) | skip
 all_goals simp [h1,h2,h3,h4,h5,h6,h7]
 all_goals rw [if_neg (show ¬ c < 48 by omega),if_neg (show ¬ 57 < c by omega)]
theorem name_l0 (s:ByteArray) (hs:s.size ≤ 9223372036854775807):∀ (r:List UInt8) (i:Nat),1 ≤ i → s.data.toList.drop i = r →
 Ev (fun k => u1e.l0 k s (i:Int)) (r.all (fun c => Base.letterB (c.toNat:Int) || Base.digitB (c.toNat:Int)) && (decide (1 ≤ s.size) && decide (s.size ≤ 24))):=by
 intro r
 induction r with
 | nil =>
   intro i hi h
   have h1:=no_byte s i h
   refine Ev.step (f:=fun _ => some (decide (1 ≤ s.size) && decide (s.size ≤ 24))) (fun k => ?_) (by simpa using Ev.now _)
   simp only [u1e.l0]
   rw [if_neg (by omega)]
   by_cases h2:1 ≤ s.size
   · rw [if_pos (by omega)]
     simp [h2]
     omega
   · rw [if_neg (by omega)]
     simp [h2]
 | cons c r ih =>
   intro i hi h
   obtain ⟨hlt,hbt,hr⟩:=at_byte s i c r h
   have ih2:=ih (i + 1) (by omega) hr
   cases hl:Base.letterB (c.toNat:Int) with
   | true =>
     have e:(c :: r).all (fun c => Base.letterB (c.toNat:Int) || Base.digitB (c.toNat:Int)) = r.all (fun c => Base.letterB (c.toNat:Int) || Base.digitB (c.toNat:Int)):=by rw [List.all_cons,hl];rfl
     rw [e]
     refine Ev.step (fun k => ?_) ih2
     rw [name_step k s i hlt hs,hbt,← letter_is,if_pos hl]
   | false =>
     cases hd:Base.digitB (c.toNat:Int) with
     | true =>
       have e:(c :: r).all (fun c => Base.letterB (c.toNat:Int) || Base.digitB (c.toNat:Int)) = r.all (fun c => Base.letterB (c.toNat:Int) || Base.digitB (c.toNat:Int)):=by rw [List.all_cons,hl,hd];rfl
       rw [e]
       refine Ev.step (fun k => ?_) ih2
       rw [name_step k s i hlt hs,hbt,← letter_is,if_neg (by rw [hl];simp),if_neg (by omega),if_pos hd]
     | false =>
       have e:(c :: r).all (fun c => Base.letterB (c.toNat:Int) || Base.digitB (c.toNat:Int)) = false:=by rw [List.all_cons,hl,hd];rfl
       rw [e]
       refine Ev.step (f:=fun _ => some false) (fun k => ?_) (Ev.now _)
       rw [name_step k s i hlt hs,hbt,← letter_is,if_neg (by rw [hl];simp),if_neg (by omega),if_neg (by rw [hd];simp)]
theorem all_bytes (s:ByteArray) (p:Int → Bool):(u3g s).all p = s.data.toList.all (fun c => p (c.toNat:Int)):=by
 rw [u3g,List.all_map]
 rfl
theorem rname_ev (s:ByteArray) (hs:s.size ≤ 9223372036854775807):Ev (fun k => u1e.f k s) (Base.nameB s):=by
 refine Ev.congr (f:=fun k => u1e.l0 k s ((0:Nat):Int)) (fun k => rfl) ?_
 have hz:=Base.size_list s
 cases hd:s.data.toList with
 | nil =>
   have h0:s.size = 0:=by rw [hz,hd];rfl
   have e:Base.nameB s = false:=by simp [Base.nameB,h0]
   rw [e]
   refine Ev.step (f:=fun _ => some false) (fun k => ?_) (Ev.now _)
   simp only [u1e.l0]
   rw [if_neg (by omega),if_neg (by omega)]
 | cons c r =>
   obtain ⟨hlt,hbt,hr⟩:=at_byte s 0 c r (by rw [hd];rfl)
   have ih:=name_l0 s hs r 1 (Nat.le_refl _) (by rw [hd];rfl)
   have hb:(u3g s).headD 0 = (c.toNat:Int):=by rw [u3g,hd];rfl
   have e:Base.nameB s = (Base.letterB (c.toNat:Int) && (r.all (fun c => Base.letterB (c.toNat:Int) || Base.digitB (c.toNat:Int)) && (decide (1 ≤ s.size) && decide (s.size ≤ 24)))):=by
    rw [Base.nameB,all_bytes,hb,hd,List.all_cons]
    have h1:decide (0 < s.size) = decide (1 ≤ s.size):=rfl
    rw [h1]
    cases Base.letterB (c.toNat:Int) <;> cases decide (1 ≤ s.size) <;> cases decide (s.size ≤ 24) <;> simp
   rw [e]
   cases hl:Base.letterB (c.toNat:Int) with
   | true =>
     rw [Bool.true_and]
     refine Ev.step (fun k => ?_) ih
     rw [name_step k s 0 hlt hs,hbt,← letter_is,if_pos hl]
   | false =>
     rw [Bool.false_and]
     refine Ev.step (f:=fun _ => some false) (fun k => ?_) (Ev.now _)
     rw [name_step k s 0 hlt hs,hbt,← letter_is,if_neg (by rw [hl];simp),if_pos rfl]
theorem plain_is (r:Int):(!(decide (r < 32) || decide (r = 127) || decide (r = 65533))) = Base.plainB r:=by
 unfold Base.plainB
 by_cases h:r < 32
 · have:¬ 32 ≤ r:=by omega
   simp [h,this]
 · have:32 ≤ r:=by omega
   simp [h,this]
theorem rvalue_is (s:ByteArray):u2y.f s = some (Base.valueB s):=by
 have e:Base.plainTextB s = (Base.runesOf s).all Base.plainB:=by
  unfold Base.plainTextB
  congr 1
  funext r
  exact plain_is r
 simp only [u2y.f,u2v.f,Option.bind_some,e,Base.valueB]
 by_cases h1:1 ≤ s.size
 · rw [if_pos (by omega)]
   by_cases h2:s.size ≤ 40
   · rw [if_pos (by omega)]
     have:0 < s.size:=h1
     simp [h2,this]
   · rw [if_neg (by omega)]
     simp [h2]
 · rw [if_neg (by omega)]
   have:¬ 0 < s.size:=h1
   simp [this]
theorem names_ev:∀ (l:List S111),(∀ y ∈ l,y.f0.size ≤ maxLen ∧ y.f1.size ≤ maxLen) → ∃ K,∀ k,K ≤ k → ∀ x ∈ l,u1e.f k x.f0 = some (Base.nameB x.f0)
 | [],_ => ⟨0,fun _ _ x hx => by cases hx⟩
 | x :: r,hs => by
   obtain ⟨K,hK⟩:=names_ev r (fun y hy => hs y (List.mem_cons_of_mem _ hy))
   obtain ⟨M,hM⟩:=rname_ev x.f0 (Nat.le_trans (hs x (List.mem_cons_self ..)).1 (by decide))
   refine ⟨K + M,fun k hk y hy => ?_⟩
   rcases List.mem_cons.1 hy with rfl | h9
   · exact hM k (by omega)
   · exact hK k (by omega) y h9
theorem less_nil {x:ByteArray} (h:Base.nameB x = true):Op.bytesLess [] x.data.toList = true:=by
 have hz:=nameB_size h
 cases hd:x.data.toList with
 | nil => rw [Base.size_list,hd] at hz;simp at hz
 | cons c q => simp [Op.bytesLess]
theorem steps_ok (k:Nat) (l:List S111) (hn:∀ x ∈ l,u1e.f k x.f0 = some (Base.nameB x.f0)):∀ (r:List S111) (i:Nat) (last:ByteArray),l.drop i = r → (i = 0 → last = ⟨#[]⟩) → (0 < i → (u1r l ((i - 1:Nat):Int)).f0 = last) →
 (List.range' i r.length).all (uv.stepB k l) = okFrom last.data.toList r:=by
 intro r
 induction r with
 | nil => intro i last _ _ _;rfl
 | cons x r ih =>
   intro i last h hfst hlast
   obtain ⟨hx,hi,hr⟩:=rd_drop l i x r h
   have hmem:x ∈ l:=List.mem_of_mem_drop (by rw [h];simp)
   have e2:=ih (i + 1) x.f0 hr (fun h => by omega) (fun _ => by rw [show i + 1 - 1 = i by omega,hx])
   have e3:uv.stepB k l i = (Base.nameB x.f0 && Base.valueB x.f1 && Op.bytesLess last.data.toList x.f0.data.toList):=by
    unfold uv.stepB uv.nm uv.vl
    rw [hx,hn x hmem,rvalue_is]
    simp only [Option.getD_some,ByteArray.toList_eq]
    by_cases h0:i = 0
    · rw [hfst h0,decide_eq_true h0,Bool.true_or]
      cases hm:Base.nameB x.f0 with
      | false => rfl
      | true =>
        have e4:Op.bytesLess (⟨#[]⟩:ByteArray).data.toList x.f0.data.toList = true:=less_nil hm
        rw [e4]
    · rw [decide_eq_false h0,Bool.false_or,show (i:Int) - 1 = ((i - 1:Nat):Int) by omega,hlast (by omega)]
   rw [List.length_cons,List.range'_succ,List.all_cons,e2,e3]
   rfl
theorem rcan_ev (l:List S111) (hs:∀ y ∈ l,y.f0.size ≤ maxLen ∧ y.f1.size ≤ maxLen):Ev (fun k => uv.f k l) (canB l):=by
 obtain ⟨K,hK⟩:=names_ev l hs
 refine ⟨K,fun k hk => ?_⟩
 have h1:uv.okB k l = true:=List.all_eq_true.2 (fun x hx => by rw [hK k hk x hx,rvalue_is];rfl)
 have h2:=steps_ok k l (hK k hk) l 0 ⟨#[]⟩ rfl (fun _ => rfl) (fun h => by omega)
 rw [← List.range_eq_range'] at h2
 show uv.f k l = some (canB l)
 unfold uv.f
 rw [if_pos h1,uv.canB,h2]
 rfl
theorem enc_size:∀ (l:List S111),(∀ x ∈ l,Base.nameB x.f0 = true ∧ Base.valueB x.f1 = true) → (l.flatMap us.pieces).length ≤ 66 * l.length
 | [],_ => by simp
 | x :: l,h => by
   have ih:=enc_size l (fun y hy => h y (List.mem_cons_of_mem _ hy))
   have h0:=nameB_size (h x (List.mem_cons_self ..)).1
   have h1:=valueB_size (h x (List.mem_cons_self ..)).2
   simp only [List.flatMap_cons,List.length_append,us.pieces,us.piece,List.length_cons,u2x]
   omega
theorem enc_le {l:List S111} (h:canB l = true):(us.enc l).length ≤ 529 ∧ 1 ≤ (us.enc l).length:=by
 simp only [canB,Bool.and_eq_true,decide_eq_true_eq] at h
 have:=enc_size l (okFrom_mem l [] h.2)
 simp only [us.enc,List.length_cons]
 omega
theorem encode_ev (l:List S111):Ev (fun k => us.f k l) (if canB l = true then (us.enc l,0) else ([],1)):=by
 refine Ev.bind (can_ev l) ?_
 cases hc:canB l with
 | false => exact Ev.congr (fun k => by simp) (Ev.now _)
 | true =>
   have:=(enc_le hc).1
   refine Ev.congr (fun k => ?_) (Ev.now _)
   rw [if_pos rfl,if_pos (by omega),if_pos rfl]
theorem bytesOf_range (s:ByteArray):∀ y ∈ u3g s,0 ≤ y ∧ y < 256:=by
 intro y hy
 simp only [u3g,List.mem_map] at hy
 obtain ⟨c,_,rfl⟩:=hy
 have:=c.toNat_lt
 omega
theorem piece_range (s:ByteArray):∀ y ∈ us.piece s,0 ≤ y ∧ y < 256:=by
 intro y hy
 simp only [us.piece,List.mem_cons] at hy
 rcases hy with rfl | hy
 · omega
 · exact bytesOf_range s y hy
theorem enc_range (l:List S111):∀ y ∈ us.enc l,0 ≤ y ∧ y < 256:=by
 intro y hy
 simp only [us.enc,List.mem_cons,List.mem_flatMap,us.pieces,List.mem_append] at hy
 rcases hy with rfl | ⟨x,_,h | h⟩
 · omega
 · exact piece_range _ y h
 · exact piece_range _ y h
theorem str_bytes (s:ByteArray):strOfNums (u3g s) = s:=Base.ext_data (by
 rw [strOfNums_data,u3g,List.map_map]
 conv => rhs;rw [← List.map_id s.data.toList]
 apply List.map_congr_left
 intro c _
 simp)
theorem one_piece (s:ByteArray) (r:List Int) (h:s.size < 256):uo.one (us.piece s ++ r) = some (s,r):=by
 have e:(s.size:Int) % 256 = (s.size:Nat):=by omega
 rw [us.piece,List.cons_append,e,uo.one_cons (by rw [List.length_append,u2x];omega)]
 rw [← u2x s,List.take_left',List.drop_left',str_bytes]
 · rfl
 · rfl
theorem all_enc:∀ (l:List S111) (r:List Int),(∀ x ∈ l,Base.nameB x.f0 = true ∧ Base.valueB x.f1 = true) → uo.all l.length (l.flatMap us.pieces ++ r) = some (l,r)
 | [],r,_ => rfl
 | x :: l,r,h => by
   have h0:=nameB_size (h x (List.mem_cons_self ..)).1
   have h1:=valueB_size (h x (List.mem_cons_self ..)).2
   have ih:=all_enc l r (fun y hy => h y (List.mem_cons_of_mem _ hy))
   simp only [List.length_cons,List.flatMap_cons,uo.all,us.pieces,List.append_assoc]
   rw [one_piece _ _ (by omega)]
   simp only [Option.bind_some]
   rw [one_piece _ _ (by omega)]
   simp only [Option.bind_some]
   rw [ih]
   rfl
theorem okB_of {b:List Int} (h1:b.length ≤ 140737488355328) (h2:∀ y ∈ b,0 ≤ y ∧ y < 256):uo.okB b = true:=by
 simp only [uo.okB,Bool.and_eq_true,decide_eq_true_eq,List.all_eq_true]
 exact ⟨h1,h2⟩
theorem decode_back (l:List S111) (hc:canB l = true) (r:List Int) (hl:r.length ≤ 140737488351232) (hr:∀ y ∈ r,0 ≤ y ∧ y < 256):Ev (fun k => uo.f k (us.enc l ++ r)) (l,r,0):=by
 have hc2:=hc
 simp only [canB,Bool.and_eq_true,decide_eq_true_eq] at hc2
 have he:=(enc_le hc).1
 have hb:=okB_of (b:=us.enc l ++ r) (by rw [List.length_append];omega) (fun y hy => by
  rcases List.mem_append.1 hy with h | h
  · exact enc_range l y h
  · exact hr y h)
 refine Ev.congr (f:=fun k => (u1s.f k l).bind fun b => if b = true then some (l,r,0) else some ([],[],5)) (fun k => ?_) (Ev.bind (can_ev l) ?_)
 · unfold uo.f
   rw [if_pos hb]
   have e:(((l.length:Int) % 256)).toNat = l.length:=by omega
   simp only [us.enc,List.cons_append,e]
   rw [all_enc l r (okFrom_mem l [] hc2.2)]
 · rw [hc]
   exact Ev.congr (fun k => by rw [if_pos rfl]) (Ev.now _)
theorem rd_drop_int (l:List Int) (i:Nat) (x:Int) (r:List Int) (h:l.drop i = x :: r):rd l (i:Int) = x ∧ i < l.length ∧ l.drop (i + 1) = r:=by
 have hi:i < l.length:=by
  rcases Nat.lt_or_ge i l.length with h1 | h1
  · exact h1
  · rw [List.drop_eq_nil_of_le h1] at h
    cases h
 rw [List.drop_eq_getElem_cons hi] at h
 obtain ⟨h1,h2⟩:=List.cons.inj h
 refine ⟨?_,hi,h2⟩
 simp [rd,List.getD_eq_getElem?_getD,hi,h1]
theorem eqb_l0 (a b:List Int) (ha:a.length ≤ 9223372036854775807) (hab:a.length = b.length):∀ (r q:List Int) (i:Nat),a.drop i = r → b.drop i = q →
 Ev (fun k => u1o.l0 k a b (a.length:Int) (i:Int)) (decide (r = q)):=by
 intro r
 induction r with
 | nil =>
   intro q i h1 h2
   have hi:a.length ≤ i:=List.drop_eq_nil_iff.1 h1
   have hq:q = []:=by rw [← h2];exact List.drop_eq_nil_of_le (by omega)
   subst hq
   refine Ev.step (f:=fun _ => some true) (fun k => ?_) (by simpa using Ev.now true)
   simp only [u1o.l0]
   rw [if_neg (by omega)]
 | cons x r ih =>
   intro q i h1 h2
   obtain ⟨hx,hi,hr⟩:=rd_drop_int a i x r h1
   cases q with
   | nil =>
     have:=List.drop_eq_nil_iff.1 h2
     omega
   | cons y q =>
     obtain ⟨hy,hj,hq⟩:=rd_drop_int b i y q h2
     by_cases he:x = y
     · refine Ev.step (f:=fun k => u1o.l0 k a b (a.length:Int) ((i + 1:Nat):Int)) (fun k => ?_) (by simpa [he] using ih q (i + 1) hr hq)
       simp only [u1o.l0]
       rw [if_pos (by omega),if_pos (by omega),if_pos (by omega),if_pos (by omega),hx,hy,if_pos he,wrap_up i (by omega)]
     · refine Ev.step (f:=fun _ => some false) (fun k => ?_) (by simpa [he] using Ev.now false)
       simp only [u1o.l0]
       rw [if_pos (by omega),if_pos (by omega),if_pos (by omega),if_pos (by omega),hx,hy,if_neg he]
theorem eqb_ev (a b:List Int) (ha:a.length ≤ 9223372036854775807):Ev (fun k => u1o.f k a b) (decide (a = b)):=by
 by_cases hab:a.length = b.length
 · refine Ev.congr (fun k => ?_) (eqb_l0 a b ha hab a b 0 rfl rfl)
   show u1o.f k a b = _
   unfold u1o.f
   rw [if_pos (by omega)]
   rfl
 · have e:decide (a = b) = false:=decide_eq_false (fun h => hab (by rw [h]))
   rw [e]
   refine Ev.congr (fun k => ?_) (Ev.now _)
   show u1o.f k a b = _
   unfold u1o.f
   rw [if_neg (by omega)]
theorem rone_is:∀ b:List Int,u3u.one b = uo.one b
 | [] => rfl
 | _ :: _ => rfl
theorem rall_is:∀ (n:Nat) (b:List Int),u3f.all n b = uo.all n b
 | 0,_ => rfl
 | n + 1,b => by
   simp only [u3f.all,uo.all,rone_is,rall_is n]
theorem one_sizes {b q:List Int} {s:ByteArray} (h:uo.one b = some (s,q)):s.size ≤ b.length ∧ q.length ≤ b.length:=by
 cases b with
 | nil => cases h
 | cons c r =>
   simp only [uo.one] at h
   split at h
   · obtain ⟨h1,h2⟩:=Prod.mk.inj (Option.some.inj h)
     subst h1 h2
     rw [strOfNums_size,List.length_take,List.length_drop,List.length_cons]
     omega
   · cases h
theorem all_sizes:∀ (n:Nat) (b:List Int) (l:List S111) (q:List Int),uo.all n b = some (l,q) → l.length = n ∧ q.length ≤ b.length ∧ ∀ y ∈ l,y.f0.size ≤ b.length ∧ y.f1.size ≤ b.length
 | 0,b,l,q,h => by
   obtain ⟨h1,h2⟩:=Prod.mk.inj (Option.some.inj h)
   subst h1 h2
   exact ⟨rfl,Nat.le_refl _,fun y hy => by cases hy⟩
 | n + 1,b,l,q,h => by
   obtain ⟨⟨s0,b1⟩,h1,h⟩:=Option.bind_eq_some_iff.1 h
   obtain ⟨⟨s1,b2⟩,h2,h⟩:=Option.bind_eq_some_iff.1 h
   obtain ⟨⟨l2,q2⟩,h3,h⟩:=Option.map_eq_some_iff.1 h
   obtain ⟨e1,e2⟩:=Prod.mk.inj h
   subst e1 e2
   obtain ⟨i1,i2,i3⟩:=all_sizes n b2 l2 q2 h3
   have j1:=one_sizes h1
   have j2:=one_sizes h2
   simp only at j2
   refine ⟨by simp [i1],by show q2.length ≤ b.length;omega,fun y hy => ?_⟩
   rcases List.mem_cons.1 hy with rfl | hy
   · simp only
     omega
   · have:=i3 y hy
     omega
def decL:List Int → List S111 × List Int × Int
 | [] => ([],[],3)
 | c :: r => match uo.all c.toNat r with
   | none => ([],[],3)
   | some (l,q) => if canB l = true then (l,q,0) else ([],[],5)
theorem decL_ev (b:List Int) (hl:b.length ≤ 140737488355328) (hb:∀ y ∈ b,0 ≤ y ∧ y < 256):Ev (fun k => uo.f k b) (decL b) ∧ Ev (fun k => u3f.f k b) (decL b):=by
 have ho:=okB_of (b:=b) hl hb
 have ho2:u3f.okB b = true:=ho
 cases b with
 | nil => exact ⟨Ev.congr (fun k => by unfold uo.f;rw [if_pos ho];rfl) (Ev.now _),Ev.congr (fun k => by unfold u3f.f;rw [if_pos ho2];rfl) (Ev.now _)⟩
 | cons c r =>
   cases ha:uo.all c.toNat r with
   | none =>
     rw [show decL (c :: r) = ([],[],3) by simp only [decL,ha]]
     exact ⟨Ev.congr (fun k => by unfold uo.f;rw [if_pos ho];simp only [ha]) (Ev.now _),Ev.congr (fun k => by unfold u3f.f;rw [if_pos ho2];simp only [rall_is,ha]) (Ev.now _)⟩
   | some p =>
     obtain ⟨l,q⟩:=p
     obtain ⟨i1,i2,i3⟩:=all_sizes _ _ _ _ ha
     have hm:140737488355328 ≤ maxLen:=by decide
     have hl2:r.length + 1 ≤ 140737488355328:=by simpa using hl
     have h1:=can_ev l
     have h2:=rcan_ev l (fun y hy => by have:=i3 y hy;omega)
     rw [show decL (c :: r) = if canB l = true then (l,q,0) else ([],[],5) by simp only [decL,ha]]
     refine ⟨?_,?_⟩
     · refine Ev.congr (f:=fun k => (u1s.f k l).bind fun b => if b = true then some (l,q,0) else some ([],[],5)) (fun k => by unfold uo.f;rw [if_pos ho];simp only [ha]) (Ev.bind h1 ?_)
       cases canB l with
       | true => exact Ev.congr (fun k => by simp) (Ev.now _)
       | false => exact Ev.congr (fun k => by simp) (Ev.now _)
     · refine Ev.congr (f:=fun k => (uv.f k l).bind fun b => if b = true then some (l,q,0) else some ([],[],5)) (fun k => by unfold u3f.f;rw [if_pos ho2];simp only [rall_is,ha]) (Ev.bind h2 ?_)
       cases canB l with
       | true => exact Ev.congr (fun k => by simp) (Ev.now _)
       | false => exact Ev.congr (fun k => by simp) (Ev.now _)
end Go.Proofs.YtgnehcgaplnfkaaGreatDoor.Laws
namespace Go.Proofs.YtgnehcgaplnfkaaGreatDoor.PAll
open Go.RowKit Go.Proofs.YtgnehcgaplnfkaaGreatDoorW.PrintWords Go.Proofs.YtgnehcgaplnfkaaGreatDoorW.PrintLast Go.Proofs.YtgnehcgaplnfkaaGreatDoorW.PrintMore
attribute [local go_sem] u3o u3n u3x u3w u3j u3i u3p u3q
set_option linter.unusedVariables false
set_option linter.unusedSimpArgs false
def u3e.f:Option Int:=none
theorem u3e.calls0 (hP:regex_coder_atom.Sp 118 1 0):regex_coder_atom.Sp 102 2 0:=by
 intro w0 W g gp vc s d h hd hneed hsz hk
 clear hk
 have hbad:s.bad = true:=hneed.resolve_right (by unfold regex_coder_atom.need;omega)
 obtain ⟨Ac,cc,ev⟩:=Kd.R_slice h.code
 subst ev
 obtain ⟨A0,c0,⟨j0,j1,j2⟩,⟨p0,p1,p2⟩,jl,jb,jr⟩:=h.look
 have HS:=Aside0.mk h
 have HMO:Aside0 (u2l.mo s = false):=⟨by unfold u2l.mo;rw [hbad];simp⟩
 have HPN:Aside0 (s.bad = true ∨ regex_coder_atom.need 1 s.p.length ≤ 0):=⟨Or.inl hbad⟩
 have HZ:=Aside0.mk hsz
 obtain ⟨s1,hs1⟩:∃ s1,Aside0 (regex_coder_atom.M 0 1 d s = s1):=⟨_,⟨rfl⟩⟩
 have hss:Aside0 (s1 = s):=⟨hs1.out.symm⟩
 rw [← hss.out] at HMO
 clear h jl jb jr j0 p0 hbad hneed hsz
 go_enter Tryz.func102,Tryz.ntmps102
 go_wp2_with (first
  | (go_at_call 118;have hPd:=hP w0 W g gp (.slice Ac s.code.length cc) s d HS.out hd HPN.out HZ.out (fun h => absurd h (by decide));(with_reducible refine hPd.mono ?_);clear hPd;rintro e W1 ⟨rfl,vc1,hS1⟩
     rw [hs1.out] at hS1
     have HS1:=Aside0.mk hS1
     clear hS1)
  | (go_at_call 119;(with_reducible refine (u2l.calls w0 W1 g gp vc1 s1 HS1.out).mono ?_);rintro e W0 ⟨rfl,hW0⟩;rw [hW0,HMO.out]))
 (try simp only [Exit.inBlock,Exit.then]);refine bodyPost_ret (results_none rfl _ _ _) rfl ?_
 exact ⟨rfl,_,by rw [show regex_coder_atom.M 0 2 d s = s1 from hss.out.symm];exact HS1.out⟩
theorem u3e.aimed {w0 W:World} {g gp gb n c j:Nat} {u:Value} {p:List Int} {code code':List S164} {bad:Bool} (h:uf.St w0 W g gp (.slice (some ⟨gb,0,none⟩) n c) ⟨p,code,bad⟩)
 (hr:Kd.R k164 164 (W.setCell ⟨gb,j,none⟩ u) w0.heap.size (fun _ => True) (.slice (some ⟨gb,0,none⟩) n c) code'):uf.St w0 (W.drew.setCell ⟨gb,j,none⟩ u) g gp (.slice (some ⟨gb,0,none⟩) n c) ⟨p,code',bad⟩:=by
 obtain ⟨A,k,h1,h2,h3⟩:=h.cells
 obtain ⟨cz,hcz⟩:=h3.1
 have hg:g ≠ gb:=fun he => Kd.R_ne h.code h1 (by decide) (by rw [he];rfl)
 have hgp:gp ≠ gb:=fun he => Kd.R_ne h.code hcz (by decide) (by rw [he];rfl)
 have hgb:w0.heap.size ≤ gb:=by
  rcases Kd.R_base2 h.code with h9 | ⟨k,h9,h8⟩
  · cases h9
  · have:gb = k:=by simpa [Value.ownBlock] using h9
    omega
 have hb:Below w0.heap.size w0 W.drew:=⟨h.below.os,h.below.tape,h.below.output,h.below.size,h.below.block⟩
 exact ⟨hb.setCell hgb _,h.base,⟨A,k,(Below.heap_setCell W.drew ⟨gb,j,none⟩ u g hg).trans h1,h2,h3.move (Below.heap_setCell W.drew ⟨gb,j,none⟩ u gp hgp)⟩,Kd.R_step hr (fun _ _ _ => rfl)⟩
set_option maxHeartbeats 4000000 in
set_option maxRecDepth 10000 in
theorem u3e.calls1 (f:Nat) (hP:regex_coder_atom.Sp 118 1 f) (hL:regex_coder_atom.Sp 102 2 f):regex_coder_atom.Sp 102 2 (f + 1):=by
 intro w0 W g gp vc s d h hd hneed hsz hk
 clear hk
 obtain ⟨Ac,cc,ev⟩:=Kd.R_slice h.code
 subst ev
 obtain ⟨A0,c0,⟨j0,j1,j2⟩,⟨p0,p1,p2⟩,jl,jb,jr⟩:=h.look
 have HS:=Aside0.mk h
 have HZ:=Aside0.mk hsz
 have hN:s.bad = true ∨ 4 * s.p.length + 3 ≤ f + 1:=by
  rcases hneed with h9 | h9
  · exact Or.inl h9
  · exact Or.inr (by unfold regex_coder_atom.need at h9;omega)
 have HPN:Aside0 (s.bad = true ∨ regex_coder_atom.need 1 s.p.length ≤ f):=⟨by
  rcases hN with h9 | h9
  · exact Or.inl h9
  · exact Or.inr (by unfold regex_coder_atom.need;omega)⟩
 obtain ⟨s1,hs1⟩:∃ s1,Aside0 (regex_coder_atom.M f 1 d s = s1):=⟨_,⟨rfl⟩⟩
 obtain ⟨mo,HMO⟩:∃ mo,Aside0 (u2l.mo s1 = mo):=⟨_,⟨rfl⟩⟩
 obtain ⟨nx,HNX⟩:∃ nx,Aside0 (u2r.nx s1 = nx):=⟨_,⟨rfl⟩⟩
 obtain ⟨⟨d1,d2,d3⟩,_⟩:=regex_coder_atom.M_dec f 1 d s (fun h => absurd h (by decide))
 rw [hs1.out] at d1 d2 d3
 by_cases hcond:mo = true ∧ nx = 124
 · obtain ⟨rfl,rfl⟩:=hcond
   obtain ⟨hpne,hbad⟩:=regex_coder_atom.mo_ne HMO.out
   obtain ⟨a1,a2,a3⟩:=regex_coder_atom.step_ne hpne
   obtain ⟨x2,hx2⟩:∃ x2,Aside0 (uf.step s1 = x2):=⟨_,⟨rfl⟩⟩
   obtain ⟨r2,s2⟩:=x2
   rw [hx2.out] at a1 a2 a3
   simp only at a1 a2 a3
   obtain ⟨dr,hdr⟩:∃ dr,Aside0 (s2.code.drop s.code.length = dr):=⟨_,⟨rfl⟩⟩
   have hdl:dr.length = s1.code.length - s.code.length:=by rw [← hdr.out,a3];exact List.length_drop
   have HD2:Aside0 (s.code.length ≤ s2.code.length ∧ s2.code.length ≤ 1000000):=⟨by rw [a3];omega⟩
   have hdl2:dr.length ≤ 1000:=by omega
   have hcl:s.code.length ≤ 1000:=by omega
   obtain ⟨s6,hs6⟩:∃ s6:uf.CS,Aside0 ((⟨s2.p,s2.code.take s.code.length ++ [⟨2,[],false,(s.code.length:Int) + 1,(s.code.length:Int) + (dr.length:Int) + 2⟩] ++ dr.map (u2c.sh 1),s2.bad⟩:uf.CS) = s6):=⟨_,⟨rfl⟩⟩
   obtain ⟨jn,hjn⟩:∃ jn,s.code.length + 1 + dr.length = jn:=⟨_,rfl⟩
   have HJ:Aside0 (s6.code.length = jn):=⟨by
    rw [← hs6.out]
    simp only [List.length_append,List.length_take,List.length_map,List.length_cons,List.length_nil]
    have:=HD2.out.1
    omega⟩
   have HJ6:Aside0 (s6.code.length + 1 ≤ 1000000):=⟨by rw [HJ.out];omega⟩
   obtain ⟨s7,hs7⟩:∃ s7:uf.CS,Aside0 ((⟨s6.p,s6.code ++ [⟨3,[],false,0,0⟩],s6.bad⟩:uf.CS) = s7):=⟨_,⟨rfl⟩⟩
   have hbar:Aside0 (regex_coder_atom.bar s.code.length s1 = s7):=⟨by
    rw [← hs7.out,← hs6.out]
    unfold regex_coder_atom.bar regex_coder_atom.put
    rw [hx2.out]
    dsimp only
    rw [← a3,hdr.out]⟩
   obtain ⟨⟨b1,b2,b3⟩,b4,b5⟩:=regex_coder_atom.bar_dec d2 hpne
   rw [hbar.out] at b1 b2 b3 b4 b5
   have HLN:Aside0 (s7.bad = true ∨ regex_coder_atom.need 2 s7.p.length ≤ f):=⟨by
    rcases hN with h9 | h9
    · exfalso
      have h8:s.bad = true:=h9
      have h7:regex_coder_atom.M f 1 d s = s:=by
       cases f with
       | zero => rfl
       | succ f =>
         simp only [regex_coder_atom.M]
         rw [if_neg (by unfold u2l.mo;rw [h8];simp)]
      rw [hs1.out] at h7
      rw [h7,h8] at hbad
      cases hbad
    · exact Or.inr (by unfold regex_coder_atom.need;omega)⟩
   have HLZ:Aside0 (s7.code.length + 2 * s7.p.length ≤ 1000):=⟨by omega⟩
   obtain ⟨s8,hs8⟩:∃ s8,Aside0 (regex_coder_atom.M f 2 d s7 = s8):=⟨_,⟨rfl⟩⟩
   obtain ⟨⟨g1,g2,g3⟩,_⟩:=regex_coder_atom.M_dec f 2 d s7 (fun h => absurd h (by decide))
   rw [hs8.out] at g1 g2 g3
   obtain ⟨n8,HLEN8⟩:∃ n8,Aside0 (s8.code.length = n8):=⟨_,⟨rfl⟩⟩
   rw [HLEN8.out] at g2 g3
   have hjn8:jn < n8:=by omega
   have hn8:n8 ≤ 1000:=by omega
   obtain ⟨x8,HX8⟩:∃ x8,Aside0 (s8.code[jn]? = some x8):=⟨s8.code[jn]'(by rw [HLEN8.out];exact hjn8),⟨List.getElem?_eq_getElem (by rw [HLEN8.out];exact hjn8)⟩⟩
   have HFIN:Aside0 (regex_coder_atom.M (f + 1) 2 d s = ⟨s8.p,s8.code.set jn ⟨x8.f0,x8.f1,x8.f2,(n8:Int),x8.f4⟩,s8.bad⟩):=⟨by
    simp only [regex_coder_atom.M]
    rw [hs1.out,if_pos ⟨HMO.out,HNX.out⟩,hbar.out,hs8.out,← a3,hdr.out,hjn]
    unfold regex_coder_atom.aim
    rw [HX8.out]
    dsimp only
    rw [HLEN8.out]⟩
   clear h jl jb jr j0 p0 hneed hsz hN d1 d2 d3 hpne hbad a1 a2 a3 b1 b2 b3 b4 b5 g1 g2 g3 hbar hdl
   go_enter Tryz.func102,Tryz.ntmps102
   go_wp2_with (first
    | (go_at_call 118;have hPd:=hP w0 W g gp (.slice Ac s.code.length cc) s d HS.out hd HPN.out HZ.out (fun h => absurd h (by decide));(with_reducible refine hPd.mono ?_);clear hPd;rintro e W1 ⟨rfl,vc1,hS1⟩
       rw [hs1.out] at hS1
       have HS1:=Aside0.mk hS1
       clear hS1)
    | (go_at_call 119;(with_reducible refine (u2l.calls w0 W1 g gp vc1 s1 HS1.out).mono ?_);rintro e W0 ⟨rfl,hW0⟩;rw [hW0,HMO.out])
    | (go_at_call 120;(with_reducible refine (u2r.calls w0 W1 g gp vc1 s1 HS1.out).mono ?_);rintro e W0 ⟨rfl,hW0⟩;rw [hW0,HNX.out])
    | (go_at_call 121;(with_reducible refine (uf.calls w0 W1 g gp vc1 s1 HS1.out).mono ?_);rintro e W2 ⟨rfl,hS2,hK2⟩
       rw [hx2.out] at hS2 ⊢
       have HS2:=Aside0.mk hS2
       clear hS2 hK2)
    | (go_at_call 122;(with_reducible refine (u3c.calls w0 W2 g gp vc1 s2 s.code.length HS2.out HD2.out.1 HD2.out.2).mono ?_);rintro e W3 ⟨v3,vc3,rfl,hR3,hS3,hN3⟩
       rw [hdr.out] at hR3
       obtain ⟨Av,cv,ev⟩:=Kd.R_slice hR3
       subst ev
       have hcv:dr.length ≤ cv:=(Kd.R_reads' hR3).2.1
       have HH3:Aside0 (u2n.Held w0 W3 vc3 (.slice Av dr.length cv) dr):=⟨⟨hR3,hN3⟩⟩
       have HS3:=Aside0.mk hS3
       clear hS3 hR3 hN3)
    | (go_at_call 103;(with_reducible refine (u1n.put1a rfl HS3.out (Kd.R_nil _ _ _ _ _) (by have:=HD2.out.2;simp only [List.length_take];omega)).mono ?_);rintro e W4 ⟨rfl,vc4,hS4,hF4⟩
       have HH4:=Aside0.mk (HH3.out.fr HS3.out hF4)
       have HS4:=Aside0.mk hS4
       clear hS4 hF4)
    | (go_at_call 123;(with_reducible refine (u2c.calls w0 W4 Av cv dr 1 HS4.out.below HH4.out.reads hcv (by omega)).mono ?_);rintro e W5 ⟨v5,rfl,hR5,hB5,hN5⟩
       have HS5:=Aside0.mk (u3c.St_below HS4.out hB5)
       have HR5:=Aside0.mk hR5
       clear hR5 hB5 hN5)
    | (go_at_call 103;(with_reducible refine (u1n.calls w0 W5 g gp vc4 v5 _ _ HS5.out HR5.out (by have:=HD2.out.2;simp only [List.length_append,List.length_map,List.length_cons,List.length_nil,List.length_take];omega)).mono ?_);rintro e W6 ⟨rfl,vc6,hS6,hF6⟩
       simp only at hS6
       rw [hs6.out] at hS6
       obtain ⟨A6,c6,e6⟩:=Kd.R_slice hS6.code
       rw [HJ.out] at e6
       subst e6
       obtain ⟨B6,b6,⟨k0,k1,k2⟩,⟨q0,q1,q2⟩,kl,kb,kr⟩:=hS6.look
       have HS6:=Aside0.mk hS6
       clear hS6 hF6 kl kb kr k0 q0)
    | (go_at_call 103;(with_reducible refine (u1n.put1a rfl HS6.out (Kd.R_nil _ _ _ _ _) HJ6.out).mono ?_);rintro e W7 ⟨rfl,vc7,hS7,hF7⟩
       rw [hs7.out] at hS7
       have HS7:=Aside0.mk hS7
       clear hS7 hF7)
    | (go_at_call 102;have hLd:=hL w0 W7 g gp vc7 s7 d HS7.out hd HLN.out HLZ.out (fun h => absurd h (by decide));(with_reducible refine hLd.mono ?_);clear hLd;rintro e W8 ⟨rfl,vc8,hS8⟩
       rw [hs8.out] at hS8
       obtain ⟨A8,c8,e8⟩:=Kd.R_slice hS8.code
       rw [HLEN8.out] at e8
       subst e8
       obtain ⟨gb,eg⟩:=u2t.form hS8.code (by omega)
       subst eg
       obtain ⟨B8,b8,⟨z0,z1,z2⟩,⟨y0,y1,y2⟩,zl,zb,zr⟩:=hS8.look
       obtain ⟨t1,t2,t3,t4⟩:=u2t.store (w0:=w0) jn 3 (n8:Int) (Or.inl rfl) hS8.code x8 HX8.out ⟨x8.f0,x8.f1,x8.f2,(n8:Int),x8.f4⟩ rfl
       simp only [if_true] at t1
       have HS8:=Aside0.mk hS8
       have HT3:=Aside0.mk t3
       have HT4:=Aside0.mk t4
       clear hS8 zl zb zr z0 y0 t3 t4))
   go_still_tail 12,(by kernel_rfl)
   have u1:W8.drew.frozen? ⟨gb,jn * 5 + 3,none⟩ = false:=t2
   have u2:W8.drew.cell? ⟨gb,jn * 5 + 3,none⟩ = some (.int .i64 x8.f3):=t1
   change wpList _ _ _ _ _ W8.drew
   generalize hW9:W8.drew = W9 at u1 u2 ⊢
   have HW9:=Aside0.mk hW9
   clear hW9
   go_wp2
   go_end0
   refine ⟨rfl,.slice (some ⟨gb,0,none⟩) n8 c8,?_⟩
   rw [HFIN.out,← HW9.out]
   exact u3e.aimed HS8.out HT3.out
 · have HFIN:Aside0 (regex_coder_atom.M (f + 1) 2 d s = s1):=⟨by
    simp only [regex_coder_atom.M]
    rw [hs1.out,HMO.out,HNX.out,if_neg hcond]⟩
   clear h jl jb jr j0 p0 hneed hsz hN d1 d2 d3
   cases mo with
   | false =>
     clear hcond
     go_enter Tryz.func102,Tryz.ntmps102
     go_wp2_with (first
      | (go_at_call 118;have hPd:=hP w0 W g gp (.slice Ac s.code.length cc) s d HS.out hd HPN.out HZ.out (fun h => absurd h (by decide));(with_reducible refine hPd.mono ?_);clear hPd;rintro e W1 ⟨rfl,vc1,hS1⟩
         rw [hs1.out] at hS1
         have HS1:=Aside0.mk hS1
         clear hS1)
      | (go_at_call 119;(with_reducible refine (u2l.calls w0 W1 g gp vc1 s1 HS1.out).mono ?_);rintro e W0 ⟨rfl,hW0⟩;rw [hW0,HMO.out])
      | (go_at_call 120;(with_reducible refine (u2r.calls w0 W1 g gp vc1 s1 HS1.out).mono ?_);rintro e W0 ⟨rfl,hW0⟩;rw [hW0,HNX.out]))
     (try simp only [Exit.inBlock,Exit.then]);refine bodyPost_ret (results_none rfl _ _ _) rfl ?_
     exact ⟨rfl,_,by rw [HFIN.out];exact HS1.out⟩
   | true =>
     have hnx:(nx != 124) = true:=by
      have:nx ≠ 124:=fun h9 => hcond ⟨rfl,h9⟩
      simpa using this
     clear hcond
     go_enter Tryz.func102,Tryz.ntmps102
     go_wp2_with (first
      | (go_at_call 118;have hPd:=hP w0 W g gp (.slice Ac s.code.length cc) s d HS.out hd HPN.out HZ.out (fun h => absurd h (by decide));(with_reducible refine hPd.mono ?_);clear hPd;rintro e W1 ⟨rfl,vc1,hS1⟩
         rw [hs1.out] at hS1
         have HS1:=Aside0.mk hS1
         clear hS1)
      | (go_at_call 119;(with_reducible refine (u2l.calls w0 W1 g gp vc1 s1 HS1.out).mono ?_);rintro e W0 ⟨rfl,hW0⟩;rw [hW0,HMO.out])
      | (go_at_call 120;(with_reducible refine (u2r.calls w0 W1 g gp vc1 s1 HS1.out).mono ?_);rintro e W0 ⟨rfl,hW0⟩;rw [hW0,HNX.out]))
     (try simp only [Exit.inBlock,Exit.then]);refine bodyPost_ret (results_none rfl _ _ _) rfl ?_
     exact ⟨rfl,_,by rw [HFIN.out];exact HS1.out⟩
theorem u3e.all (f:Nat):(∀ f',f' ≤ f → regex_coder_atom.Sp 133 0 f') ∧ (∀ f',f' ≤ f → regex_coder_atom.Sp 118 1 f') ∧ (∀ f',f' ≤ f → regex_coder_atom.Sp 102 2 f'):=by
 induction f with
 | zero =>
   have ha:regex_coder_atom.Sp 133 0 0:=by
    intro w0 W g gp vc s d h hd hneed hsz hk
    exfalso
    rcases hneed with h9 | h9
    · rw [(hk rfl).1] at h9
      cases h9
    · unfold regex_coder_atom.need at h9
      omega
   have hp:regex_coder_atom.Sp 118 1 0:=u2n.calls 0 (fun f' hf => absurd hf (by omega))
   refine ⟨fun f' hf => ?_,fun f' hf => ?_,fun f' hf => ?_⟩
   · obtain rfl:f' = 0:=by omega
     exact ha
   · obtain rfl:f' = 0:=by omega
     exact hp
   · obtain rfl:f' = 0:=by omega
     exact u3e.calls0 hp
 | succ f ih =>
   obtain ⟨ia,ip,il⟩:=ih
   have ha:regex_coder_atom.Sp 133 0 (f + 1):=regex_coder_atom.calls f (il f (Nat.le_refl _))
   have hp:regex_coder_atom.Sp 118 1 (f + 1):=u2n.calls (f + 1) (fun f' hf => ia f' (by omega))
   have hl:regex_coder_atom.Sp 102 2 (f + 1):=u3e.calls1 f (ip f (Nat.le_refl _)) (il f (Nat.le_refl _))
   refine ⟨fun f' hf => ?_,fun f' hf => ?_,fun f' hf => ?_⟩
   · rcases Nat.lt_or_ge f f' with h9 | h9
     · obtain rfl:f' = f + 1:=by omega
       exact ha
     · exact ia f' h9
   · rcases Nat.lt_or_ge f f' with h9 | h9
     · obtain rfl:f' = f + 1:=by omega
       exact hp
     · exact ip f' h9
   · rcases Nat.lt_or_ge f f' with h9 | h9
     · obtain rfl:f' = f + 1:=by omega
       exact hl
     · exact il f' h9
end Go.Proofs.YtgnehcgaplnfkaaGreatDoor.PAll
