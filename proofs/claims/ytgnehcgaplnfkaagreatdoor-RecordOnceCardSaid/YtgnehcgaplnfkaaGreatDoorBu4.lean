/- Texts of this seat, joined in the order in which they build. -/
import Derived.Test.YtgnehcgaplnfkaaGreatDoorBu3
import Derived.Test.YtgnehcgaplnfkaaGreatDoorGx44Bu
import Derived.Test.YtgnehcgaplnfkaaGreatDoorBu2
import Derived.Test.YtgnehcgaplnfkaaGreatDoorGx33Bu
import Derived.Test.YtgnehcgaplnfkaaGreatDoorBu1
import Derived.Test.YtgnehcgaplnfkaaGreatDoorGx23Bu
namespace Go.Proofs.YtgnehcgaplnfkaaGreatDoor.Laws
open Go.RowKit Go.Proofs.YtgnehcgaplnfkaaGreatDoor.PAll Go.Proofs.YtgnehcgaplnfkaaGreatDoorW.PrintWords Go.Proofs.YtgnehcgaplnfkaaGreatDoorW.PrintLast
set_option linter.unusedVariables false
set_option linter.unusedSimpArgs false
theorem wrap_up (i:Nat) (h:i < 9223372036854775807):wrap64 ((i:Int) + 1) = ((i + 1:Nat):Int):=by
 unfold wrap64
 omega
theorem at_byte (s:ByteArray) (i:Nat) (c:UInt8) (r:List UInt8) (h:s.data.toList.drop i = c :: r):i < s.size ∧ bt s (i:Int) = (c.toNat:Int) ∧ s.data.toList.drop (i + 1) = r:=by
 have hlt:i < s.data.toList.length:=by
  rcases Nat.lt_or_ge i s.data.toList.length with h1 | h1
  · exact h1
  · rw [List.drop_eq_nil_of_le h1] at h
    cases h
 have hs:s.size = s.data.toList.length:=Base.size_list s
 rw [List.drop_eq_getElem_cons hlt] at h
 obtain ⟨h1,h2⟩:=List.cons.inj h
 refine ⟨by omega,?_,h2⟩
 rw [Base.bt_list s i (by omega),List.getD_eq_getElem?_getD,List.getElem?_eq_getElem hlt,h1]
 rfl
theorem no_byte (s:ByteArray) (i:Nat) (h:s.data.toList.drop i = []):s.size ≤ i:=by
 have hs:s.size = s.data.toList.length:=Base.size_list s
 have:=List.drop_eq_nil_iff.1 h
 omega
def letterI (c:Int):Bool:=(decide (97 ≤ c) && decide (c ≤ 122)) || (decide (65 ≤ c) && decide (c ≤ 90)) || decide (c = 95)
theorem letter_fin:∀ n:Fin 256,Base.letterB (n.val:Int) = letterI (n.val:Int):=by decide +kernel
theorem letter_is (c:UInt8):Base.letterB (c.toNat:Int) = letterI (c.toNat:Int):=letter_fin ⟨c.toNat,c.toNat_lt⟩
theorem name_step (k:Nat) (s:ByteArray) (i:Nat) (hi:i < s.size) (hs:s.size ≤ 9223372036854775807) :
 u1b.l0 (k + 1) s (i:Int) = if letterI (bt s i) = true then u1b.l0 k s ((i + 1:Nat):Int) else if i = 0 then some false else
  if Base.digitB (bt s i) = true then u1b.l0 k s ((i + 1:Nat):Int) else some false:=by
 have hw:=wrap_up i (by omega)
 simp only [u1b.l0]
 rw [if_pos (by omega),if_pos (by omega),hw]
 generalize bt s (i:Int) = c
 have e0:((i:Int) = 0) = (i = 0):=by simp
 simp only [e0]
 unfold letterI Base.digitB
 by_cases h1:97 ≤ c <;> by_cases h2:c ≤ 122 <;> by_cases h3:65 ≤ c <;> by_cases h4:c ≤ 90 <;> by_cases h5:c = 95 <;> first | (exfalso;omega) | skip
 all_goals by_cases h6:48 ≤ c <;> by_cases h7:c ≤ 57 <;> first | (exfalso;omega) | skip
 all_goals simp [h1,h2,h3,h4,h5,h6,h7]
 all_goals rw [if_neg (show ¬ c < 48 by omega),if_neg (show ¬ 57 < c by omega)]
theorem name_l0 (s:ByteArray) (hs:s.size ≤ 9223372036854775807):∀ (r:List UInt8) (i:Nat),1 ≤ i → s.data.toList.drop i = r →
 Ev (fun k => u1b.l0 k s (i:Int)) (r.all (fun c => Base.letterB (c.toNat:Int) || Base.digitB (c.toNat:Int)) && (decide (1 ≤ s.size) && decide (s.size ≤ 24))):=by
 intro r
 induction r with
 | nil =>
   intro i hi h
   have h1:=no_byte s i h
   refine Ev.step (f:=fun _ => some (decide (1 ≤ s.size) && decide (s.size ≤ 24))) (fun k => ?_) (by simpa using Ev.now _)
   simp only [u1b.l0]
   rw [if_neg (by omega)]
   by_cases h2:1 ≤ s.size
   · rw [if_pos (by omega)]
     simp [h2]
     omega
   · rw [if_neg (by omega)]
     simp [h2]
 | cons c r ih =>
   intro i hi h
   obtain ⟨hlt,hbt,hr⟩:=at_byte s i c r h
   have ih2:=ih (i + 1) (by omega) hr
   cases hl:Base.letterB (c.toNat:Int) with
   | true =>
     have e:(c :: r).all (fun c => Base.letterB (c.toNat:Int) || Base.digitB (c.toNat:Int)) = r.all (fun c => Base.letterB (c.toNat:Int) || Base.digitB (c.toNat:Int)):=by rw [List.all_cons,hl];rfl
     rw [e]
     refine Ev.step (fun k => ?_) ih2
     rw [name_step k s i hlt hs,hbt,← letter_is,if_pos hl]
   | false =>
     cases hd:Base.digitB (c.toNat:Int) with
     | true =>
       have e:(c :: r).all (fun c => Base.letterB (c.toNat:Int) || Base.digitB (c.toNat:Int)) = r.all (fun c => Base.letterB (c.toNat:Int) || Base.digitB (c.toNat:Int)):=by rw [List.all_cons,hl,hd];rfl
       rw [e]
       refine Ev.step (fun k => ?_) ih2
       rw [name_step k s i hlt hs,hbt,← letter_is,if_neg (by rw [hl];simp),if_neg (by omega),if_pos hd]
     | false =>
       have e:(c :: r).all (fun c => Base.letterB (c.toNat:Int) || Base.digitB (c.toNat:Int)) = false:=by rw [List.all_cons,hl,hd];rfl
       rw [e]
       refine Ev.step (f:=fun _ => some false) (fun k => ?_) (Ev.now _)
       rw [name_step k s i hlt hs,hbt,← letter_is,if_neg (by rw [hl];simp),if_neg (by omega),if_neg (by rw [hd];simp)]
theorem all_bytes (s:ByteArray) (p:Int → Bool):(bytesOf s).all p = s.data.toList.all (fun c => p (c.toNat:Int)):=by
 rw [bytesOf,List.all_map]
 rfl
theorem rname_ev (s:ByteArray) (hs:s.size ≤ 9223372036854775807):Ev (fun k => u1b.f k s) (Base.nameB s):=by
 refine Ev.congr (f:=fun k => u1b.l0 k s ((0:Nat):Int)) (fun k => rfl) ?_
 have hz:=Base.size_list s
 cases hd:s.data.toList with
 | nil =>
   have h0:s.size = 0:=by rw [hz,hd];rfl
   have e:Base.nameB s = false:=by simp [Base.nameB,h0]
   rw [e]
   refine Ev.step (f:=fun _ => some false) (fun k => ?_) (Ev.now _)
   simp only [u1b.l0]
   rw [if_neg (by omega),if_neg (by omega)]
 | cons c r =>
   obtain ⟨hlt,hbt,hr⟩:=at_byte s 0 c r (by rw [hd];rfl)
   have ih:=name_l0 s hs r 1 (Nat.le_refl _) (by rw [hd];rfl)
   have hb:(bytesOf s).headD 0 = (c.toNat:Int):=by rw [bytesOf,hd];rfl
   have e:Base.nameB s = (Base.letterB (c.toNat:Int) && (r.all (fun c => Base.letterB (c.toNat:Int) || Base.digitB (c.toNat:Int)) && (decide (1 ≤ s.size) && decide (s.size ≤ 24)))):=by
    rw [Base.nameB,all_bytes,hb,hd,List.all_cons]
    have h1:decide (0 < s.size) = decide (1 ≤ s.size):=rfl
    rw [h1]
    cases Base.letterB (c.toNat:Int) <;> cases decide (1 ≤ s.size) <;> cases decide (s.size ≤ 24) <;> simp
   rw [e]
   cases hl:Base.letterB (c.toNat:Int) with
   | true =>
     rw [Bool.true_and]
     refine Ev.step (fun k => ?_) ih
     rw [name_step k s 0 hlt hs,hbt,← letter_is,if_pos hl]
   | false =>
     rw [Bool.false_and]
     refine Ev.step (f:=fun _ => some false) (fun k => ?_) (Ev.now _)
     rw [name_step k s 0 hlt hs,hbt,← letter_is,if_neg (by rw [hl];simp),if_pos rfl]
theorem plain_is (r:Int):(!(decide (r < 32) || decide (r = 127) || decide (r = 65533))) = Base.plainB r:=by
 unfold Base.plainB
 by_cases h:r < 32
 · have:¬ 32 ≤ r:=by omega
   simp [h,this]
 · have:32 ≤ r:=by omega
   simp [h,this]
theorem rvalue_is (s:ByteArray):u2y.f s = some (Base.valueB s):=by
 have e:Base.plainTextB s = (Base.runesOf s).all Base.plainB:=by
  unfold Base.plainTextB
  congr 1
  funext r
  exact plain_is r
 simp only [u2y.f,u2s.f,Option.bind_some,e,Base.valueB]
 by_cases h1:1 ≤ s.size
 · rw [if_pos (by omega)]
   by_cases h2:s.size ≤ 40
   · rw [if_pos (by omega)]
     have:0 < s.size:=h1
     simp [h2,this]
   · rw [if_neg (by omega)]
     simp [h2]
 · rw [if_neg (by omega)]
   have:¬ 0 < s.size:=h1
   simp [this]
theorem names_ev:∀ (l:List S111),(∀ y ∈ l,y.f0.size ≤ maxLen ∧ y.f1.size ≤ maxLen) → ∃ K,∀ k,K ≤ k → ∀ x ∈ l,u1b.f k x.f0 = some (Base.nameB x.f0)
 | [],_ => ⟨0,fun _ _ x hx => by cases hx⟩
 | x :: r,hs => by
   obtain ⟨K,hK⟩:=names_ev r (fun y hy => hs y (List.mem_cons_of_mem _ hy))
   obtain ⟨M,hM⟩:=rname_ev x.f0 (Nat.le_trans (hs x (List.mem_cons_self ..)).1 (by decide))
   refine ⟨K + M,fun k hk y hy => ?_⟩
   rcases List.mem_cons.1 hy with rfl | h9
   · exact hM k (by omega)
   · exact hK k (by omega) y h9
theorem less_nil {x:ByteArray} (h:Base.nameB x = true):Op.bytesLess [] x.data.toList = true:=by
 have hz:=nameB_size h
 cases hd:x.data.toList with
 | nil => rw [Base.size_list,hd] at hz;simp at hz
 | cons c q => simp [Op.bytesLess]
theorem steps_ok (k:Nat) (l:List S111) (hn:∀ x ∈ l,u1b.f k x.f0 = some (Base.nameB x.f0)):∀ (r:List S111) (i:Nat) (last:ByteArray),l.drop i = r → (i = 0 → last = ⟨#[]⟩) → (0 < i → (u2f l ((i - 1:Nat):Int)).f0 = last) →
 (List.range' i r.length).all (uv.stepB k l) = okFrom last.data.toList r:=by
 intro r
 induction r with
 | nil => intro i last _ _ _;rfl
 | cons x r ih =>
   intro i last h hfst hlast
   obtain ⟨hx,hi,hr⟩:=rd_drop l i x r h
   have hmem:x ∈ l:=List.mem_of_mem_drop (by rw [h];simp)
   have e2:=ih (i + 1) x.f0 hr (fun h => by omega) (fun _ => by rw [show i + 1 - 1 = i by omega,hx])
   have e3:uv.stepB k l i = (Base.nameB x.f0 && Base.valueB x.f1 && Op.bytesLess last.data.toList x.f0.data.toList):=by
    unfold uv.stepB uv.nm uv.vl
    rw [hx,hn x hmem,rvalue_is]
    simp only [Option.getD_some,ByteArray.toList_eq]
    by_cases h0:i = 0
    · rw [hfst h0,decide_eq_true h0,Bool.true_or]
      cases hm:Base.nameB x.f0 with
      | false => rfl
      | true =>
        have e4:Op.bytesLess (⟨#[]⟩:ByteArray).data.toList x.f0.data.toList = true:=less_nil hm
        rw [e4]
    · rw [decide_eq_false h0,Bool.false_or,show (i:Int) - 1 = ((i - 1:Nat):Int) by omega,hlast (by omega)]
   rw [List.length_cons,List.range'_succ,List.all_cons,e2,e3]
   rfl
theorem rcan_ev (l:List S111) (hs:∀ y ∈ l,y.f0.size ≤ maxLen ∧ y.f1.size ≤ maxLen):Ev (fun k => uv.f k l) (canB l):=by
 obtain ⟨K,hK⟩:=names_ev l hs
 refine ⟨K,fun k hk => ?_⟩
 have h1:uv.okB k l = true:=List.all_eq_true.2 (fun x hx => by rw [hK k hk x hx,rvalue_is];rfl)
 have h2:=steps_ok k l (hK k hk) l 0 ⟨#[]⟩ rfl (fun _ => rfl) (fun h => by omega)
 rw [← List.range_eq_range'] at h2
 show uv.f k l = some (canB l)
 unfold uv.f
 rw [if_pos h1,uv.canB,h2]
 rfl
theorem enc_size:∀ (l:List S111),(∀ x ∈ l,Base.nameB x.f0 = true ∧ Base.valueB x.f1 = true) → (l.flatMap u1d.pieces).length ≤ 66 * l.length
 | [],_ => by simp
 | x :: l,h => by
   have ih:=enc_size l (fun y hy => h y (List.mem_cons_of_mem _ hy))
   have h0:=nameB_size (h x (List.mem_cons_self ..)).1
   have h1:=valueB_size (h x (List.mem_cons_self ..)).2
   simp only [List.flatMap_cons,List.length_append,u1d.pieces,u1d.piece,List.length_cons,u3d]
   omega
theorem enc_le {l:List S111} (h:canB l = true):(u1d.enc l).length ≤ 529 ∧ 1 ≤ (u1d.enc l).length:=by
 simp only [canB,Bool.and_eq_true,decide_eq_true_eq] at h
 have:=enc_size l (okFrom_mem l [] h.2)
 simp only [u1d.enc,List.length_cons]
 omega
theorem encode_ev (l:List S111):Ev (fun k => u1d.f k l) (if canB l = true then (u1d.enc l,0) else ([],1)):=by
 refine Ev.bind (can_ev l) ?_
 cases hc:canB l with
 | false => exact Ev.congr (fun k => by simp) (Ev.now _)
 | true =>
   have:=(enc_le hc).1
   refine Ev.congr (fun k => ?_) (Ev.now _)
   rw [if_pos rfl,if_pos (by omega),if_pos rfl]
theorem okB_of {b:List Int} (h1:b.length ≤ 140737488355328) (h2:∀ y ∈ b,0 ≤ y ∧ y < 256):ur.okB b = true:=by
 simp only [ur.okB,Bool.and_eq_true,decide_eq_true_eq,List.all_eq_true]
 exact ⟨h1,h2⟩
theorem rd_drop_int (l:List Int) (i:Nat) (x:Int) (r:List Int) (h:l.drop i = x :: r):rd l (i:Int) = x ∧ i < l.length ∧ l.drop (i + 1) = r:=by
 have hi:i < l.length:=by
  rcases Nat.lt_or_ge i l.length with h1 | h1
  · exact h1
  · rw [List.drop_eq_nil_of_le h1] at h
    cases h
 rw [List.drop_eq_getElem_cons hi] at h
 obtain ⟨h1,h2⟩:=List.cons.inj h
 refine ⟨?_,hi,h2⟩
 simp [rd,List.getD_eq_getElem?_getD,hi,h1]
theorem eqb_l0 (a b:List Int) (ha:a.length ≤ 9223372036854775807) (hab:a.length = b.length):∀ (r q:List Int) (i:Nat),a.drop i = r → b.drop i = q →
 Ev (fun k => u1c.l0 k a b (a.length:Int) (i:Int)) (decide (r = q)):=by
 intro r
 induction r with
 | nil =>
   intro q i h1 h2
   have hi:a.length ≤ i:=List.drop_eq_nil_iff.1 h1
   have hq:q = []:=by rw [← h2];exact List.drop_eq_nil_of_le (by omega)
   subst hq
   refine Ev.step (f:=fun _ => some true) (fun k => ?_) (by simpa using Ev.now true)
   simp only [u1c.l0]
   rw [if_neg (by omega)]
 | cons x r ih =>
   intro q i h1 h2
   obtain ⟨hx,hi,hr⟩:=rd_drop_int a i x r h1
   cases q with
   | nil =>
     have:=List.drop_eq_nil_iff.1 h2
     omega
   | cons y q =>
     obtain ⟨hy,hj,hq⟩:=rd_drop_int b i y q h2
     by_cases he:x = y
     · refine Ev.step (f:=fun k => u1c.l0 k a b (a.length:Int) ((i + 1:Nat):Int)) (fun k => ?_) (by simpa [he] using ih q (i + 1) hr hq)
       simp only [u1c.l0]
       rw [if_pos (by omega),if_pos (by omega),if_pos (by omega),if_pos (by omega),hx,hy,if_pos he,wrap_up i (by omega)]
     · refine Ev.step (f:=fun _ => some false) (fun k => ?_) (by simpa [he] using Ev.now false)
       simp only [u1c.l0]
       rw [if_pos (by omega),if_pos (by omega),if_pos (by omega),if_pos (by omega),hx,hy,if_neg he]
theorem eqb_ev (a b:List Int) (ha:a.length ≤ 9223372036854775807):Ev (fun k => u1c.f k a b) (decide (a = b)):=by
 by_cases hab:a.length = b.length
 · refine Ev.congr (fun k => ?_) (eqb_l0 a b ha hab a b 0 rfl rfl)
   show u1c.f k a b = _
   unfold u1c.f
   rw [if_pos (by omega)]
   rfl
 · have e:decide (a = b) = false:=decide_eq_false (fun h => hab (by rw [h]))
   rw [e]
   refine Ev.congr (fun k => ?_) (Ev.now _)
   show u1c.f k a b = _
   unfold u1c.f
   rw [if_neg (by omega)]
end Go.Proofs.YtgnehcgaplnfkaaGreatDoor.Laws
namespace Go.Proofs.YtgnehcgaplnfkaaGreatDoor.PAll
open Go.RowKit Go.Proofs.YtgnehcgaplnfkaaGreatDoorW.PrintWords Go.Proofs.YtgnehcgaplnfkaaGreatDoorW.PrintLast Go.Proofs.YtgnehcgaplnfkaaGreatDoorW.PrintMore
attribute [local go_sem] u3r u3o u3w u3x u3h u3g u3p u3q
set_option linter.unusedVariables false
set_option linter.unusedSimpArgs false
def uz.all:Nat → List Int → Option (List S111 × List Int)
 | 0,b => some ([],b)
 | n + 1,b => (u1a.one b).bind fun x => (u1a.one x.2).bind fun y => (uz.all n y.2).map fun z => (⟨x.1,y.1⟩ :: z.1,z.2)
def uz.okB (l0:List Int):Bool:=decide (l0.length ≤ 140737488355328) && l0.all (fun c => decide (0 ≤ c) && decide (c < 256))
def uz.f (k:Nat) (l0:List Int):Option (List S111 × List Int × Int):=if uz.okB l0 = true then (match l0 with
 | [] => some ([],[],3)
 | c :: r => match uz.all c.toNat r with
   | none => some ([],[],3)
   | some (l,q) => (uv.f k l).bind fun b => if b = true then some (l,q,0) else some ([],[],5)) else none
theorem uz.mono:∀ a0 k,LeO (uz.f k a0) (uz.f (k + 1) a0):=by
 intro a0 k
 unfold uz.f
 split
 · split
   · exact LeO.refl _
   · split
     · exact LeO.refl _
     · exact LeO.bind (uv.mono _ _) (fun _ => LeO.refl _)
 · exact LeO.refl _
theorem uz.infoL:(Tryz.prog.info? 111).map (fun i => (i.zero,i.size,i.bytes)) = some (some (.agg #[(.string ⟨#[]⟩),(.string ⟨#[]⟩)]),2,32):=by kernel_rfl
theorem uz.info:(Tryz.prog.info? 5).map (fun i => (i.zero,i.size,i.bytes)) = some (some (.int .u8 0),1,1):=by kernel_rfl
def uz.Rest (w:World) (r bs:List Int) (A':Option Addr) (c':Nat):Prop:=bs.length ≤ c' ∧ Kd.C (Kd.int .u8) w A' bs.length bs ∧ bs.length ≤ r.length ∧ bs.all (fun c => decide (0 ≤ c) && decide (c < 256)) = true
theorem uz.fails {k n m:Nat} {r bs:List Int} {done r1:List S111} {r2:List Int} {r3:Int} (h:(match uz.all (n:Int).toNat r with
 | none => some (([]:List S111),([]:List Int),(3:Int))
 | some (l,q) => (uv.f k l).bind fun b => if b = true then some (l,q,0) else some ([],[],5)) = some (r1,r2,r3)) (hn:uz.all n r = (uz.all m bs).map (fun z => (done ++ z.1,z.2))) (hb:uz.all m bs = none):r1 = [] ∧ r2 = [] ∧ r3 = 3:=by
 rw [hb] at hn
 rw [show (n:Int).toNat = n from rfl,hn] at h
 obtain ⟨h1,h2⟩:=Prod.mk.inj (Option.some.inj h)
 obtain ⟨h2,h3⟩:=Prod.mk.inj h2
 exact ⟨h1.symm,h2.symm,h3.symm⟩
set_option maxHeartbeats 8000000 in
set_option maxRecDepth 100000 in
theorem uz.calls (k:Nat) (A0:Option Addr) (c0:Nat) (l0:List Int) (r1:List S111) (r2:List Int) (r3:Int) (w:World) (hr0:Kd.C (Kd.int .u8) w A0 l0.length l0) (hc0:l0.length ≤ c0) (h:uz.f k l0 = some (r1,r2,r3)) :
 Calls Tryz.prog 59 #[.slice A0 l0.length c0] w fun e w' => ∃ v0_ v1_:Value,e = .returned (.tuple #[v0_,v1_,.int .i64 r3]) ∧ Kd.R k111 111 w' w.heap.size (fun _ => True) v0_ r1 ∧ Kd.R (Kd.int .u8) 5 w' w.heap.size (fun _ => True) v1_ r2 ∧ Below w.heap.size w w':=by
 unfold uz.f at h
 by_cases hok:uz.okB l0 = true
 · rw [if_pos hok] at h
   cases l0 with
   | nil =>
     simp only [Option.some.injEq,Prod.mk.injEq] at h
     obtain ⟨rfl,rfl,rfl⟩:=h
     clear hok hr0
     go_enter Tryz.func59,Tryz.ntmps59
     go_wp2
     go_ret3
     exact ⟨_,_,rfl,Kd.R_nil _ _ _ _ _,Kd.R_nil _ _ _ _ _,Below.refl _ _⟩
   | cons c r =>
     have HO:=Aside0.mk hok
     have H:=Aside0.mk h
     clear hok h
     obtain ⟨n,hn,hn2⟩:∃ n:Nat,c = (n:Int) ∧ n < 256:=by
      have h1:=HO.out
      simp only [uz.okB,Bool.and_eq_true,List.all_cons,decide_eq_true_eq] at h1
      exact ⟨c.toNat,by omega,by omega⟩
     subst hn
     have hrl:r.length + 1 ≤ 140737488355328:=by
      have h1:=HO.out
      simp only [uz.okB,Bool.and_eq_true,decide_eq_true_eq,List.length_cons] at h1
      exact h1.1
     have hrb:Aside0 (r.all (fun c => decide (0 ≤ c) && decide (c < 256)) = true):=⟨by
      have h1:=HO.out
      simp only [uz.okB,Bool.and_eq_true,List.all_cons] at h1
      exact h1.2.2⟩
     clear HO
     obtain ⟨ad,e,hx⟩:=Kd.at_int hr0 0 (by omega) (by simp)
     subst e
     have hx0:w.cell? ad = some (.int .u8 (n:Int)):=by simpa [rd,Addr.add] using hx
     clear hx
     have HR0:=Aside0.mk hr0
     clear hr0
     simp only [List.length_cons] at hc0
     go_enter Tryz.func59,Tryz.ntmps59
     go_wp2
     all_goals
      have HC:Aside0 (uz.Rest w r r (if c0 = 1 then some ad else some ⟨ad.block,ad.off + 1,none⟩) (c0 - 1)):=⟨by
       have hd:=Kd.C_drop (m:=1) (c:=c0) HR0.out (by simp) (by simpa using hc0)
       have hsz:(Kd.int .u8).sz = 1:=rfl
       refine ⟨by omega,?_,Nat.le_refl _,hrb.out⟩
       by_cases h9:c0 = 1
       · simpa [h9,hsz,Addr.add] using hd
       · simpa [h9,hsz,Addr.add] using hd⟩
      have HN:Aside0 (uz.all n r = (uz.all (n - 0) r).map (fun z => (([]:List S111) ++ z.1,z.2))):=⟨by simp⟩
      clear hx0
      go_loopg [0,6,23] n (fun kq v0 v6 v23 wr => ∃ (i:Nat) (A':Option Addr) (c':Nat) (bs:List Int) (done:List S111),i ≤ n ∧ v23 = .int .i64 i ∧ v0 = .slice A' bs.length c' ∧ done.length = i ∧ Aside0 (uz.Rest w r bs A' c') ∧ Aside0 (uz.all n r = (uz.all (n - i) bs).map (fun z => (done ++ z.1,z.2))) ∧ Aside0 (Kd.R k111 111 wr w.heap.size (fun _ => True) v6 done) ∧ n ≤ kq + i ∧ Aside0 (Below w.heap.size w wr))
      case atStart => exact ⟨0,(if c0 = 1 then some ad else some ⟨ad.block,ad.off + 1,none⟩),c0 - 1,r,[],by omega,rfl,(by by_cases h9:c0 = 1 <;> first | (exfalso;omega) | simp [h9,Addr.add] | rfl),rfl,HC,HN,⟨Kd.R_nil _ _ _ _ _⟩,by omega,⟨Below.refl _ _⟩⟩
      case round =>
       clear HC HN
       obtain ⟨i,A',c',bs,done,hi,rfl,rfl,hdl,HT,HN,HR,hk,HB⟩:=hrel
       by_cases hlt:i < n
       · obtain ⟨g1,rfl⟩:∃ g1,gk = g1 + 1:=⟨gk - 1,by omega⟩
         obtain ⟨m,hm⟩:∃ m,n - i = m + 1:=⟨n - i - 1,by omega⟩
         have hl1:bs.length ≤ 140737488355328:=by have:=HT.out.2.2.1;omega
         have hT1:bs.length ≤ c':=HT.out.1
         have HT4:=Aside0.mk HT.out.2.2.2
         have HT2:=Aside0.mk HT.out.2.1
         have HS1:=Aside0.mk (Kd.C_below HT.out.2.1 HB.out)
         obtain ho | ⟨s1,b1,ho⟩:Aside0 (u1a.one bs = none) ∨ ∃ s1 b1,Aside0 (u1a.one bs = some (s1,b1)):=by
          cases hh:u1a.one bs with
          | none => exact .inl ⟨rfl⟩
          | some p => exact .inr ⟨p.1,p.2,⟨rfl⟩⟩
         · have hfin:=uz.fails H.out HN.out (by rw [hm];simp [uz.all,ho.out])
           obtain ⟨hf1,hf2,hf3⟩:=hfin
           subst hf1 hf2 hf3
           go_wp2_with (first
            | (go_at_call 60;(with_reducible refine (u1a.calls_none A' c' bs _ HS1.out hT1 hl1 HT4.out ho.out).mono ?_);rintro e w3 ⟨rfl,hb3⟩)
            | (go_at_call 60;(with_reducible refine (u1a.calls_nil _).mono ?_);rintro e w4 ⟨rfl,hb4⟩))
           go_ret3
           exact ⟨_,_,rfl,Kd.R_nil _ _ _ _ _,Kd.R_nil _ _ _ _ _,u1y (u1y HB.out hb3) hb4⟩
         · have hq1:=u1a.one_some ho.out
           have HQ1:=Aside0.mk (hq1.2 HT4.out)
           have hl2:b1.length ≤ 140737488355328:=by omega
           have hl3:b1.length ≤ r.length:=by have:=HT.out.2.2.1;omega
           clear hq1
           obtain ho2 | ⟨s2,b2,ho2⟩:Aside0 (u1a.one b1 = none) ∨ ∃ s2 b2,Aside0 (u1a.one b1 = some (s2,b2)):=by
            cases hh:u1a.one b1 with
            | none => exact .inl ⟨rfl⟩
            | some p => exact .inr ⟨p.1,p.2,⟨rfl⟩⟩
           · have hfin:=uz.fails H.out HN.out (by rw [hm];simp [uz.all,ho.out,ho2.out])
             obtain ⟨hf1,hf2,hf3⟩:=hfin
             subst hf1 hf2 hf3
             go_wp2_with (first
              | (go_at_call 60;(with_reducible refine (u1a.calls_one A' c' bs s1 b1 _ HS1.out hT1 hl1 HT4.out ho.out).mono ?_);rintro e w3 ⟨A1,c1,rfl,hc1,hC1,hb3⟩;have HC1:=Aside0.mk hC1;clear hC1)
              | (go_at_call 60;(with_reducible refine (u1a.calls_none A1 c1 b1 _ (HC1.out _ (Kd.C_below HS1.out hb3)) hc1 hl2 HQ1.out ho2.out).mono ?_);rintro e w4 ⟨rfl,hb4⟩))
             go_ret3
             exact ⟨_,_,rfl,Kd.R_nil _ _ _ _ _,Kd.R_nil _ _ _ _ _,u1y (u1y HB.out hb3) hb4⟩
           · have hq2:=u1a.one_some ho2.out
             have HQ2:=Aside0.mk (hq2.2 HQ1.out)
             have hl4:b2.length ≤ r.length:=by omega
             clear hq2
             have HN2:Aside0 (uz.all n r = (uz.all (n - (i + 1)) b2).map (fun z => ((done ++ [⟨s1,s2⟩]) ++ z.1,z.2))):=⟨by
              rw [HN.out,hm,show n - (i + 1) = m by omega]
              simp only [uz.all,ho.out,ho2.out,Option.bind_some,Option.map_map]
              congr 1
              funext z
              simp⟩
             have hld:(done.length + 1) * 32 ≤ 140737488355328:=by omega
             go_wp2_with (first
              | (go_at_call 60;(with_reducible refine (u1a.calls_one A' c' bs s1 b1 _ HS1.out hT1 hl1 HT4.out ho.out).mono ?_);rintro e w3 ⟨A1,c1,rfl,hc1,hC1,hb3⟩;have HC1:=Aside0.mk hC1;have HB3:=Aside0.mk (u1y HB.out hb3);have HR3:=Aside0.mk (Kd.R_below HR.out hb3);clear hC1 hb3)
              | (go_at_call 60;(with_reducible refine (u1a.calls_one A1 c1 b1 s2 b2 _ (HC1.out _ (Kd.C_below HT2.out HB3.out)) hc1 hl2 HQ1.out ho2.out).mono ?_);rintro e w4 ⟨A2,c2,rfl,hc2,hC2,hb4⟩;have HC2:=Aside0.mk hC2;have HB4:=Aside0.mk (u1y HB3.out hb4);have HR4:=Aside0.mk (Kd.R_below HR3.out hb4);clear hC2 hb4)
              | ((with_reducible refine u2v (b:=.append) (xs:=#[.tmp 43,.tmp 47]) rfl ?_);(try (refine u3t (by rfl) ?_;dsimp only));at_builtin;refine Kd.R_append k111 (w0:=w) w.heap.size rfl (.tmp 43) (.tmp 47) 57 111 (.agg #[(.string ⟨#[]⟩),(.string ⟨#[]⟩)]) 32 rfl Tryz.underlying57 uz.infoL rfl (by decide) (by omega) _ done (⟨s1,s2⟩:S111) [.string s1,.string s2] (fun _ => True) (fun _ => False) rfl rfl (k111_mkM _ _ _ (⟨s1,s2⟩:S111)) (fun _ hk => hk.elim) (fun _ _ => trivial) HR4.out HB4.out HB4.out.size hld ?_;intro v6n w5 ho5 hb5 hg5 hat5;have HR5:=Aside0.mk ho5;have HB5:=Aside0.mk hb5;clear ho5 hb5 hg5 hat5))
             go_roundg g1
             case rel => exact ⟨i + 1,A2,c2,b2,done ++ [⟨s1,s2⟩],by omega,by go_num,rfl,by simp;omega,⟨hc2,HC2.out _ (HC1.out _ HT2.out),hl4,HQ2.out⟩,HN2,HR5,by omega,HB5⟩
             case measure => omega
       · have hin:i = n:=by omega
         subst hin
         have hall:uz.all done.length r = some (done,bs):=by
          have h1:=HN.out
          rw [← hdl,Nat.sub_self] at h1
          simpa [uz.all] using h1
         obtain ⟨Av,cv,ev⟩:=Kd.R_slice HR.out
         subst ev
         have HRd:=HR
         have h2:=H.out
         rw [← hdl] at h2
         rw [show ((done.length:Nat):Int).toNat = done.length from rfl,hall] at h2
         obtain ⟨b,hb,h3⟩:=Option.bind_eq_some_iff.1 h2
         have HBc:=Aside0.mk hb
         clear h2 hb hall HN HR
         subst hdl
         cases b with
         | false =>
           obtain ⟨e1,e2,e3⟩:r1 = [] ∧ r2 = [] ∧ 5 = r3:=by simpa using h3
           subst e1 e2 e3
           go_wp2_with (go_at_call 37;(with_reducible refine (uv.calls k _ _ done false _ (Kd.R_reads' HRd.out).2.2 (Kd.R_reads' HRd.out).2.1 HBc.out).mono ?_);rintro e w6 ⟨rfl,hb6⟩)
           go_ret3
           exact ⟨_,_,rfl,Kd.R_nil _ _ _ _ _,Kd.R_nil _ _ _ _ _,u1y HB.out hb6⟩
         | true =>
           have HE:Aside0 (done = r1 ∧ bs = r2 ∧ 0 = r3):=⟨by simpa using h3⟩
           clear h3
           have hbs:bs.length ≤ 140737488355328:=by have:=HT.out.2.2.1;omega
           go_wp2_with (first
            | (go_at_call 37;(with_reducible refine (uv.calls k _ _ done true _ (Kd.R_reads' HRd.out).2.2 (Kd.R_reads' HRd.out).2.1 HBc.out).mono ?_);rintro e w6 ⟨rfl,hb6⟩
               have HB6:=Aside0.mk (u1y HB.out hb6)
               have hlt6:∀ g,(Value.slice Av done.length cv).ownBlock = some g → g < w6.heap.size:=fun g hg => Nat.lt_of_lt_of_le (Kd.R_lt HRd.out g hg) hb6.size
               have ho0:=own_made w6 w.heap.size 5 .u8 0 HB6.out.size (by omega)
               rw [show madeCells #[Value.int .u8 0] 0 = #[] from by simp [madeCells]] at ho0
               have HO:Aside0 ((Kd.int .u8).R 5 (w6.alloc (.cells #[] 5)) w.heap.size (fun _ => True) (.slice (some ⟨w6.heap.size,0,none⟩) 0 0) []):=⟨Kd.R_of_own ho0 (fun _ _ => trivial)⟩
               have HC6:=Aside0.mk (Kd.C_below HT.out.2.1 (HB6.out.alloc HB6.out.size (.cells #[] 5)))
               have HR6:Aside0 (Kd.R k111 111 (w6.alloc (.cells #[] 5)) w.heap.size (fun _ => True) (.slice Av done.length cv) done):=⟨Kd.R_alloc (Kd.R_below HRd.out hb6) _⟩
               clear ho0 hb6)
            | (at_builtin;refine Kd.R_append_row (w0:=w) (Value.int .u8) (0:Int) (h1:=fun _ => rfl) w.heap.size rfl (.tmp 55) (.tmp 56) 22 5 (.int .u8 0) 1 rfl Tryz.underlying22 uz.info rfl (by decide) _ [] bs _ bs.length _ (fun _ => True) rfl rfl (fun _ _ => trivial) HO.out HC6.out (HB6.out.alloc HB6.out.size _) (Nat.le_trans HB6.out.size (by simp)) ?_ ?_))
           · simpa using hbs
           · intro v1 w7 hR7 hB7 hg7 _
             have HR7:=Aside0.mk hR7
             have HB7:=Aside0.mk hB7
             have HR8:=Aside0.mk (Kd.R_grown1 HR6.out rfl hg7 (fun he => Nat.lt_irrefl _ (hlt6 _ he.symm)))
             clear hR7 hB7 hg7
             go_wp2
             go_ret3
             obtain ⟨e1,e2,e3⟩:=HE.out
             subst e1 e2 e3
             exact ⟨_,_,rfl,HR8.out,HR7.out,HB7.out⟩
 · rw [if_neg hok] at h
   cases h
end Go.Proofs.YtgnehcgaplnfkaaGreatDoor.PAll
namespace Go.Proofs.YtgnehcgaplnfkaaGreatDoor.Laws
open Go.RowKit Go.Proofs.YtgnehcgaplnfkaaGreatDoor.PAll Go.Proofs.YtgnehcgaplnfkaaGreatDoorW.PrintWords Go.Proofs.YtgnehcgaplnfkaaGreatDoorW.PrintLast
set_option linter.unusedVariables false
set_option linter.unusedSimpArgs false
theorem rone_is:∀ b:List Int,u1a.one b = ur.one b
 | [] => rfl
 | _ :: _ => rfl
theorem rall_is:∀ (n:Nat) (b:List Int),uz.all n b = ur.all n b
 | 0,_ => rfl
 | n + 1,b => by
   simp only [uz.all,ur.all,rone_is,rall_is n]
theorem one_sizes {b q:List Int} {s:ByteArray} (h:ur.one b = some (s,q)):s.size ≤ b.length ∧ q.length ≤ b.length:=by
 cases b with
 | nil => cases h
 | cons c r =>
   simp only [ur.one] at h
   split at h
   · obtain ⟨h1,h2⟩:=Prod.mk.inj (Option.some.inj h)
     subst h1 h2
     rw [strOfNums_size,List.length_take,List.length_drop,List.length_cons]
     omega
   · cases h
theorem all_sizes:∀ (n:Nat) (b:List Int) (l:List S111) (q:List Int),ur.all n b = some (l,q) → l.length = n ∧ q.length ≤ b.length ∧ ∀ y ∈ l,y.f0.size ≤ b.length ∧ y.f1.size ≤ b.length
 | 0,b,l,q,h => by
   obtain ⟨h1,h2⟩:=Prod.mk.inj (Option.some.inj h)
   subst h1 h2
   exact ⟨rfl,Nat.le_refl _,fun y hy => by cases hy⟩
 | n + 1,b,l,q,h => by
   obtain ⟨⟨s0,b1⟩,h1,h⟩:=Option.bind_eq_some_iff.1 h
   obtain ⟨⟨s1,b2⟩,h2,h⟩:=Option.bind_eq_some_iff.1 h
   obtain ⟨⟨l2,q2⟩,h3,h⟩:=Option.map_eq_some_iff.1 h
   obtain ⟨e1,e2⟩:=Prod.mk.inj h
   subst e1 e2
   obtain ⟨i1,i2,i3⟩:=all_sizes n b2 l2 q2 h3
   have j1:=one_sizes h1
   have j2:=one_sizes h2
   simp only at j2
   refine ⟨by simp [i1],by show q2.length ≤ b.length;omega,fun y hy => ?_⟩
   rcases List.mem_cons.1 hy with rfl | hy
   · simp only
     omega
   · have:=i3 y hy
     omega
def decL:List Int → List S111 × List Int × Int
 | [] => ([],[],3)
 | c :: r => match ur.all c.toNat r with
   | none => ([],[],3)
   | some (l,q) => if canB l = true then (l,q,0) else ([],[],5)
theorem decL_ev (b:List Int) (hl:b.length ≤ 140737488355328) (hb:∀ y ∈ b,0 ≤ y ∧ y < 256):Ev (fun k => ur.f k b) (decL b) ∧ Ev (fun k => uz.f k b) (decL b):=by
 have ho:=okB_of (b:=b) hl hb
 have ho2:uz.okB b = true:=ho
 cases b with
 | nil => exact ⟨Ev.congr (fun k => by unfold ur.f;rw [if_pos ho];rfl) (Ev.now _),Ev.congr (fun k => by unfold uz.f;rw [if_pos ho2];rfl) (Ev.now _)⟩
 | cons c r =>
   cases ha:ur.all c.toNat r with
   | none =>
     rw [show decL (c :: r) = ([],[],3) by simp only [decL,ha]]
     exact ⟨Ev.congr (fun k => by unfold ur.f;rw [if_pos ho];simp only [ha]) (Ev.now _),Ev.congr (fun k => by unfold uz.f;rw [if_pos ho2];simp only [rall_is,ha]) (Ev.now _)⟩
   | some p =>
     obtain ⟨l,q⟩:=p
     obtain ⟨i1,i2,i3⟩:=all_sizes _ _ _ _ ha
     have hm:140737488355328 ≤ maxLen:=by decide
     have hl2:r.length + 1 ≤ 140737488355328:=by simpa using hl
     have h1:=can_ev l
     have h2:=rcan_ev l (fun y hy => by have:=i3 y hy;omega)
     rw [show decL (c :: r) = if canB l = true then (l,q,0) else ([],[],5) by simp only [decL,ha]]
     refine ⟨?_,?_⟩
     · refine Ev.congr (f:=fun k => (u1l.f k l).bind fun b => if b = true then some (l,q,0) else some ([],[],5)) (fun k => by unfold ur.f;rw [if_pos ho];simp only [ha]) (Ev.bind h1 ?_)
       cases canB l with
       | true => exact Ev.congr (fun k => by simp) (Ev.now _)
       | false => exact Ev.congr (fun k => by simp) (Ev.now _)
     · refine Ev.congr (f:=fun k => (uv.f k l).bind fun b => if b = true then some (l,q,0) else some ([],[],5)) (fun k => by unfold uz.f;rw [if_pos ho2];simp only [rall_is,ha]) (Ev.bind h2 ?_)
       cases canB l with
       | true => exact Ev.congr (fun k => by simp) (Ev.now _)
       | false => exact Ev.congr (fun k => by simp) (Ev.now _)
end Go.Proofs.YtgnehcgaplnfkaaGreatDoor.Laws
namespace Go.Proofs.YtgnehcgaplnfkaaGreatDoor.PAll
open Go.RowKit Go.Proofs.YtgnehcgaplnfkaaGreatDoorW.PrintWords Go.Proofs.YtgnehcgaplnfkaaGreatDoorW.PrintLast Go.Proofs.YtgnehcgaplnfkaaGreatDoorW.PrintMore
attribute [local go_sem] u3r u3o u3w u3x u3h u3g u3p u3q
set_option linter.unusedVariables false
set_option linter.unusedSimpArgs false
theorem u1o.infoR:(Tryz.prog.info? 59).map (fun i => (i.zero,i.size,i.bytes)) = some (some (.agg #[.slice none 0 0,.int .i64 0,.int .u64 0]),3,40):=by kernel_rfl
def u1o.f:Option Int:=none
abbrev u1o.Rw:=S59
def u1o.rowsM (k:Nat):Nat → List Int → List u1o.Rw → Option (Option (List u1o.Rw × List Int))
 | 0,b,l => some (some (l,b))
 | n + 1,b,l => (uz.f k b).bind fun z => if z.2.2 ≠ 0 then some none else
   match ut.int 8 z.2.1 with
   | none => some none
   | some y => match ut.int 8 y.2 with
     | none => some none
     | some u => u1o.rowsM k n u.2 (l ++ [⟨z.1,y.1,IntKind.u64.wrap u.1⟩])
def u1o.top (k:Nat) (l0:List Int):Option (Option (List u1o.Rw × List Int)):=match ut.int 2 l0 with
 | none => some none
 | some y => u1o.rowsM k y.1.toNat y.2 []
def u1o.Ret (w w':World) (res:Option (List u1o.Rw × List Int)) (e:Ending):Prop:=match res with
 | none => e = .returned (.tuple #[.slice none 0 0,.slice none 0 0,.bool false])
 | some z => ∃ v A c,e = .returned (.tuple #[v,.slice A z.2.length c,.bool true]) ∧ Kd.R k59 59 w' w.heap.size (fun _ => True) v z.1
theorem u1o.val2 (l:List Int) (hl:l.length = 2) (h256:∀ y ∈ l,0 ≤ y ∧ y < 256):0 ≤ wrap64 (ut.val l) ∧ wrap64 (ut.val l) < 65536:=by
 match l,hl with
 | [a,b],_ =>
   have h1:=h256 a (by simp)
   have h2:=h256 b (by simp)
   have e:ut.val [a,b] = a * 256 + b:=by
    show IntKind.u64.wrap (IntKind.u64.wrap (IntKind.u64.wrap (IntKind.u64.wrap (0 * 256) + IntKind.u64.wrap a) * 256) + IntKind.u64.wrap b) = _
    have hw:∀ x:Int,0 ≤ x → x < 18446744073709551616 → IntKind.u64.wrap x = x:=fun x h3 h4 => by
     show x % _ = x
     exact Int.emod_eq_of_lt h3 h4
    rw [hw a (by omega) (by omega),hw b (by omega) (by omega),hw (0 * 256) (by omega) (by omega),hw (0 * 256 + a) (by omega) (by omega),hw ((0 * 256 + a) * 256) (by omega) (by omega),hw _ (by omega) (by omega)]
    omega
   rw [e]
   unfold wrap64
   omega
theorem u1o.dec_err {k:Nat} {b q:List Int} {l:List S111} {e:Int} (h:uz.f k b = some (l,q,e)) (he:e ≠ 0):q = []:=by
 unfold uz.f at h
 split at h
 · split at h
   · simp only [Option.some.injEq,Prod.mk.injEq] at h
     exact h.2.1.symm
   · split at h
     · simp only [Option.some.injEq,Prod.mk.injEq] at h
       exact h.2.1.symm
     · obtain ⟨c,_,h9⟩:=Option.bind_eq_some_iff.1 h
       split at h9
       · simp only [Option.some.injEq,Prod.mk.injEq] at h9
         exact absurd h9.2.2.symm he
       · simp only [Option.some.injEq,Prod.mk.injEq] at h9
         exact h9.2.1.symm
 · cases h
set_option maxHeartbeats 8000000 in
set_option maxRecDepth 10000 in
theorem u1o.calls (k:Nat) (A0:Option Addr) (c0:Nat) (l0:List Int) (res:Option (List u1o.Rw × List Int)) (w:World) (hr0:Kd.C (Kd.int .u8) w A0 l0.length l0) (hc0:l0.length ≤ c0) (h256:∀ y ∈ l0,0 ≤ y ∧ y < 256) (h:u1o.top k l0 = some res) :
 Calls Tryz.prog 25 #[.slice A0 l0.length c0] w fun e w' => u1o.Ret w w' res e ∧ Below w.heap.size w w':=by
 unfold u1o.top at h
 cases hi:ut.int 2 l0 with
 | none =>
   rw [hi] at h
   simp only [Option.some.injEq] at h
   subst h
   have HI:=Aside0.mk hi
   clear hi hr0 hc0 h256
   go_enter Tryz.func25,Tryz.ntmps25
   go_wp2_with (go_at_call 27;with_reducible refine (ut.none2 A0 c0 l0 w HI.out).mono ?_;rintro e w1 ⟨rfl,hB1⟩;have HB1:=Aside0.mk hB1;clear hB1)
   go_ret3
   exact ⟨rfl,HB1.out⟩
 | some y =>
   obtain ⟨n,q0⟩:=y
   rw [hi] at h
   simp only at h
   have hn:0 ≤ n ∧ n < 65536:=by
    have h9:=hi
    unfold ut.int at h9
    split at h9
    · cases h9
    · simp only [Option.some.injEq,Prod.mk.injEq] at h9
      rw [← h9.1]
      exact u1o.val2 _ (by rw [List.length_take];omega) (fun z hz => h256 z (List.mem_of_mem_take hz))
   obtain ⟨m,rfl⟩:∃ m:Nat,n = (m:Int):=⟨n.toNat,by omega⟩
   rw [Int.toNat_natCast] at h
   have HI:=Aside0.mk hi
   have HH:=Aside0.mk h
   have HM:Aside0 (m < 65536):=⟨by omega⟩
   have HR0:=Aside0.mk hr0
   have HC0:=Aside0.mk hc0
   have HF0:=Aside0.mk (Kd.C_F (Kd.heap_int .u8) hr0)
   clear hi h hr0 hc0 h256 hn
   go_enter Tryz.func25,Tryz.ntmps25
   go_wp2_with (go_at_call 27;with_reducible refine (ut.some2 A0 c0 l0 q0 m w HR0.out HC0.out HI.out).mono ?_;rintro e w1 ⟨A1,c1,rfl,hc1,hF1,hB1⟩;have HC1:=Aside0.mk hc1;have HF1:=Aside0.mk (Kd.F_below (hF1 _ _ HF0.out) hB1);have HB1:=Aside0.mk hB1;clear hc1 hF1 hB1)
   go_loopg [0,7,24] m (fun kq v0 v7 v24 wr => ∃ (x:Nat) (A:Option Addr) (c:Nat) (b:List Int) (l:List u1o.Rw),x ≤ m ∧ v24 = .int .i64 x ∧ v0 = .slice A b.length c ∧ Aside0 (u1o.rowsM k (m - x) b l = some res) ∧ Aside0 (l.length = x) ∧ Aside0 (b.length ≤ c) ∧ Aside0 (Kd.F (Kd.int .u8) wr (fun k => some k ≠ v7.ownBlock) A b.length b) ∧ Aside0 (Kd.R k59 59 wr w.heap.size (fun _ => True) v7 l) ∧ Aside0 (Below w.heap.size w wr) ∧ m ≤ kq + x)
   case atStart => exact ⟨0,A1,c1,q0,[],by omega,rfl,rfl,⟨HH.out⟩,⟨rfl⟩,HC1,⟨Kd.F_mono HF1.out (fun k _ => by simp [Value.ownBlock])⟩,⟨Kd.R_nil _ _ _ _ _⟩,HB1,by omega⟩
   case round =>
    obtain ⟨x,A,c,b,l,hxm,rfl,rfl,HN,HLN,HC,HF,HR,HB,hk⟩:=hrel
    obtain ⟨A7,c7,e7⟩:=Kd.R_slice HR.out
    subst e7
    by_cases hlt:x < m
    · have h9:=HN.out
      rw [show m - x = (m - (x + 1)) + 1 by omega] at h9
      unfold u1o.rowsM at h9
      obtain ⟨⟨z1,z2,z3⟩,hz,h9⟩:=Option.bind_eq_some_iff.1 h9
      have HZ:=Aside0.mk hz
      simp only at h9
      by_cases h3:z3 = 0
      · subst h3
        rw [if_neg (fun h8 => h8 rfl)] at h9
        cases hi1:ut.int 8 z2 with
        | none =>
          rw [hi1] at h9
          simp only [Option.some.injEq] at h9
          subst h9
          have HI1:=Aside0.mk hi1
          clear hz hi1
          go_wp2_with (first
           | (go_at_call 59;(with_reducible refine (uz.calls k A c b z1 z2 0 _ (Kd.F_now HF.out) HC.out HZ.out).mono ?_);rintro e w3 ⟨vl,vq,rfl,hRl,hRq,hB3⟩;obtain ⟨Aq,cq,eq⟩:=Kd.R_slice hRq;subst eq;have HRL:=Aside0.mk hRl;have HRQ:=Aside0.mk hRq;have HB3:=Aside0.mk hB3;clear hRl hRq hB3)
           | (go_at_call 27;first | ((with_reducible refine (ut.none8 Aq cq z2 _ HI1.out).mono ?_);rintro e w4 ⟨rfl,hB4⟩;have HB4:=Aside0.mk hB4;clear hB4) | ((with_reducible refine (ut.nil8 _).mono ?_);rintro e w5 ⟨rfl,hB5⟩;have HB5:=Aside0.mk hB5;clear hB5)))
          go_ret3
          have hb3:=u1j HB.out HB.out.size HB3.out
          have hb4:=u1j hb3 hb3.size HB4.out
          exact ⟨rfl,u1j hb4 hb4.size HB5.out⟩
        | some y =>
          obtain ⟨t,q1⟩:=y
          rw [hi1] at h9
          simp only at h9
          have HI1:=Aside0.mk hi1
          cases hi2:ut.int 8 q1 with
          | none =>
            rw [hi2] at h9
            simp only [Option.some.injEq] at h9
            subst h9
            have HI2:=Aside0.mk hi2
            clear hz hi1 hi2
            go_wp2_with (first
             | (go_at_call 59;(with_reducible refine (uz.calls k A c b z1 z2 0 _ (Kd.F_now HF.out) HC.out HZ.out).mono ?_);rintro e w3 ⟨vl,vq,rfl,hRl,hRq,hB3⟩;obtain ⟨Aq,cq,eq⟩:=Kd.R_slice hRq;subst eq;have HRL:=Aside0.mk hRl;have HRQ:=Aside0.mk hRq;have HB3:=Aside0.mk hB3;clear hRl hRq hB3)
             | (go_at_call 27;first | ((with_reducible refine (ut.some8 Aq cq z2 q1 t _ (Kd.R_reads' HRQ.out).2.2 (Kd.R_reads' HRQ.out).2.1 HI1.out).mono ?_);rintro e w4 ⟨A4,c4,rfl,hc4,hF4,hB4⟩;have HB4:=Aside0.mk hB4;clear hB4) | ((with_reducible refine (ut.none8 A4 c4 q1 _ HI2.out).mono ?_);rintro e w5 ⟨rfl,hB5⟩;have HB5:=Aside0.mk hB5;clear hB5)))
            go_ret3
            have hb3:=u1j HB.out HB.out.size HB3.out
            have hb4:=u1j hb3 hb3.size HB4.out
            exact ⟨rfl,u1j hb4 hb4.size HB5.out⟩
          | some u =>
            obtain ⟨v,q2⟩:=u
            rw [hi2] at h9
            simp only at h9
            have HI2:=Aside0.mk hi2
            have HN2:=Aside0.mk h9
            clear hz hi1 hi2 h9
            obtain ⟨g1,rfl⟩:∃ g1,gk = g1 + 1:=⟨gk - 1,by omega⟩
            go_wp2_with (first
             | (go_at_call 59;(with_reducible refine (uz.calls k A c b z1 z2 0 _ (Kd.F_now HF.out) HC.out HZ.out).mono ?_);rintro e w3 ⟨vl,vq,rfl,hRl,hRq,hB3⟩;obtain ⟨Aq,cq,eq⟩:=Kd.R_slice hRq;subst eq;obtain ⟨Al,cl,el⟩:=Kd.R_slice hRl;subst el;have HRL:=Aside0.mk hRl;have HRQ:=Aside0.mk hRq;have HB3:=Aside0.mk hB3;clear hRl hRq hB3)
             | (go_at_call 27;first | ((with_reducible refine (ut.some8 Aq cq z2 q1 t _ (Kd.R_reads' HRQ.out).2.2 (Kd.R_reads' HRQ.out).2.1 HI1.out).mono ?_);rintro e w4 ⟨A4,c4,rfl,hc4,hF4,hB4⟩;have HF4:=Aside0.mk (Kd.F_below (hF4 _ _ (Kd.R_F (Kd.R_bound HRQ.out))) hB4);have HC4:=Aside0.mk hc4;have HB4:=Aside0.mk hB4;clear hB4 hc4 hF4) | ((with_reducible refine (ut.some8 A4 c4 q1 q2 v _ (Kd.F_now HF4.out) HC4.out HI2.out).mono ?_);rintro e w5 ⟨A5,c5,rfl,hc5,hF5,hB5⟩;have HF5:=Aside0.mk (Kd.F_below (hF5 _ _ HF4.out) hB5);have HC5:=Aside0.mk hc5;have HB5:=Aside0.mk hB5;clear hB5 hc5 hF5))
             | ((with_reducible refine u2v (b:=.append) (xs:=#[.tmp 54,.tmp 60]) rfl ?_);(try (refine u3t (by rfl) ?_;dsimp only));at_builtin;have hRW:=Kd.R_below (Kd.R_below (Kd.R_below HR.out HB3.out) HB4.out) HB5.out;have hBW:=u1j HB.out HB.out.size HB3.out;have hBW:=u1j hBW hBW.size HB4.out;have hBW:=u1j hBW hBW.size HB5.out;have HRW:=Aside0.mk hRW;have HBW:=Aside0.mk hBW;have hRX:=Kd.R_below (Kd.R_below (Kd.R_mono (Kd.R_bound HRL.out) (ok':=fun k => some k ≠ (Value.slice A7 l.length c7).ownBlock) (fun k hk he => by have h7:=((Kd.R_bound HR.out).1 k he.symm).2.2.1;have h6:=hk.2.1;omega)) HB4.out) HB5.out;have HRX:=Aside0.mk (Kd.R_lower hRX HB.out.size);clear hRW hBW hRX;refine Kd.R_append k59 (w0:=w) w.heap.size rfl (.tmp 54) (.tmp 60) 23 59 (.agg #[.slice none 0 0,.int .i64 0,.int .u64 0]) 40 rfl Tryz.underlying23 u1o.infoR rfl (by decide) (by decide) _ l (⟨z1,t,IntKind.u64.wrap v⟩:u1o.Rw) [.slice Al z1.length cl,.int .i64 t,.int .u64 (IntKind.u64.wrap v)] (fun _ => True) (fun k => some k ≠ (Value.slice A7 l.length c7).ownBlock) rfl rfl (k59_mkM _ _ _ (⟨z1,t,IntKind.u64.wrap v⟩:u1o.Rw) HRX.out) (fun k hk => ⟨trivial,hk⟩) (fun _ _ => trivial) HRW.out HBW.out HBW.out.size ?hbig ?_;(case hbig => have:=HLN.out;have:=HM.out;omega);intro v7n w6 ho6 hb6 hg6 hat6;have HR6:=Aside0.mk ho6;have HB6:=Aside0.mk hb6;have HG6:=Aside0.mk hg6;have HAT6:=Aside0.mk hat6;clear ho6 hb6 hg6 hat6))
            go_roundg g1
            case rel =>
             have hm9:=HM.out
             have hw:wrap64 ((x:Int) + 1) = ((x + 1:Nat):Int):=by unfold wrap64;omega
             refine ⟨x + 1,A5,c5,q2,l ++ [⟨z1,t,IntKind.u64.wrap v⟩],by omega,congrArg (Value.int .i64) hw,rfl,⟨HN2.out⟩,⟨by have:=HLN.out;simp;omega⟩,HC5,⟨?_⟩,HR6,HB6,by omega⟩
             exact Kd.F_after (Kd.F_mono HF5.out (fun k hk => ⟨trivial,fun he => by have h7:=((Kd.R_bound HR.out).1 k he.symm).2.2.1;have h6:=hk.2.1;omega⟩):Kd.F (Kd.int .u8) _ (fun k => True ∧ some k ≠ (Value.slice A7 l.length c7).ownBlock) A5 q2.length q2) HG6.out HAT6.out |> fun h8 => Kd.F_mono h8 (fun k hk => hk.2)
            case measure => omega
      · rw [if_pos h3] at h9
        simp only [Option.some.injEq] at h9
        subst h9
        have hq:=u1o.dec_err hz h3
        subst hq
        have HI1:Aside0 (ut.int 8 [] = none):=⟨rfl⟩
        have b3:(z3 == 0) = false:=beq_eq_false_iff_ne.2 h3
        have b4:(z3 != 0) = true:=by simp [h3]
        clear hz h3
        go_wp2_with (first
         | (go_at_call 59;(with_reducible refine (uz.calls k A c b z1 [] z3 _ (Kd.F_now HF.out) HC.out HZ.out).mono ?_);rintro e w3 ⟨vl,vq,rfl,hRl,hRq,hB3⟩;obtain ⟨Aq,cq,eq⟩:=Kd.R_slice hRq;subst eq;have HRL:=Aside0.mk hRl;have HRQ:=Aside0.mk hRq;have HB3:=Aside0.mk hB3;clear hRl hRq hB3)
         | (go_at_call 27;first | ((with_reducible refine (ut.nil8 _).mono ?_);rintro e w5 ⟨rfl,hB5⟩;have HB5:=Aside0.mk hB5;clear hB5) | ((with_reducible refine (ut.zero8 Aq cq _).mono ?_);rintro e w4 ⟨rfl,hB4⟩;have HB4:=Aside0.mk hB4;clear hB4)))
        go_ret3
        have hb3:=u1j HB.out HB.out.size HB3.out
        have hb4:=u1j hb3 hb3.size HB4.out
        exact ⟨rfl,u1j hb4 hb4.size HB5.out⟩
    · have hxe:m - x = 0:=by omega
      have HN2:Aside0 (some (l,b) = res):=⟨by have h9:=HN.out;rw [hxe] at h9;exact Option.some.inj h9⟩
      clear hxe
      go_wp2
      go_ret3
      rw [← HN2.out]
      exact ⟨⟨_,A,c,rfl,HR.out⟩,HB.out⟩
def u3b.f:Option Int:=none
theorem u3b.calls0 (hP:regex_coder_atom.Sp 118 1 0):regex_coder_atom.Sp 102 2 0:=by
 intro w0 W g gp vc s d h hd hneed hsz hk
 clear hk
 have hbad:s.bad = true:=hneed.resolve_right (by unfold regex_coder_atom.need;omega)
 obtain ⟨Ac,cc,ev⟩:=Kd.R_slice h.code
 subst ev
 obtain ⟨A0,c0,⟨j0,j1,j2⟩,⟨p0,p1,p2⟩,jl,jb,jr⟩:=h.look
 have HS:=Aside0.mk h
 have HMO:Aside0 (u2o.mo s = false):=⟨by unfold u2o.mo;rw [hbad];simp⟩
 have HPN:Aside0 (s.bad = true ∨ regex_coder_atom.need 1 s.p.length ≤ 0):=⟨Or.inl hbad⟩
 have HZ:=Aside0.mk hsz
 obtain ⟨s1,hs1⟩:∃ s1,Aside0 (regex_coder_atom.M 0 1 d s = s1):=⟨_,⟨rfl⟩⟩
 have hss:Aside0 (s1 = s):=⟨hs1.out.symm⟩
 rw [← hss.out] at HMO
 clear h jl jb jr j0 p0 hbad hneed hsz
 go_enter Tryz.func102,Tryz.ntmps102
 go_wp2_with (first
  | (go_at_call 118;have hPd:=hP w0 W g gp (.slice Ac s.code.length cc) s d HS.out hd HPN.out HZ.out (fun h => absurd h (by decide));(with_reducible refine hPd.mono ?_);clear hPd;rintro e W1 ⟨rfl,vc1,hS1⟩
     rw [hs1.out] at hS1
     have HS1:=Aside0.mk hS1
     clear hS1)
  | (go_at_call 119;(with_reducible refine (u2o.calls w0 W1 g gp vc1 s1 HS1.out).mono ?_);rintro e W0 ⟨rfl,hW0⟩;rw [hW0,HMO.out]))
 (try simp only [Exit.inBlock,Exit.then]);refine bodyPost_ret (results_none rfl _ _ _) rfl ?_
 exact ⟨rfl,_,by rw [show regex_coder_atom.M 0 2 d s = s1 from hss.out.symm];exact HS1.out⟩
theorem u3b.aimed {w0 W:World} {g gp gb n c j:Nat} {u:Value} {p:List Int} {code code':List S164} {bad:Bool} (h:uf.St w0 W g gp (.slice (some ⟨gb,0,none⟩) n c) ⟨p,code,bad⟩)
 (hr:Kd.R k164 164 (W.setCell ⟨gb,j,none⟩ u) w0.heap.size (fun _ => True) (.slice (some ⟨gb,0,none⟩) n c) code'):uf.St w0 (W.drew.setCell ⟨gb,j,none⟩ u) g gp (.slice (some ⟨gb,0,none⟩) n c) ⟨p,code',bad⟩:=by
 obtain ⟨A,k,h1,h2,h3⟩:=h.cells
 obtain ⟨cz,hcz⟩:=h3.1
 have hg:g ≠ gb:=fun he => Kd.R_ne h.code h1 (by decide) (by rw [he];rfl)
 have hgp:gp ≠ gb:=fun he => Kd.R_ne h.code hcz (by decide) (by rw [he];rfl)
 have hgb:w0.heap.size ≤ gb:=by
  rcases Kd.R_base2 h.code with h9 | ⟨k,h9,h8⟩
  · cases h9
  · have:gb = k:=by simpa [Value.ownBlock] using h9
    omega
 have hb:Below w0.heap.size w0 W.drew:=⟨h.below.os,h.below.tape,h.below.output,h.below.size,h.below.block⟩
 exact ⟨hb.setCell hgb _,h.base,⟨A,k,(Below.heap_setCell W.drew ⟨gb,j,none⟩ u g hg).trans h1,h2,h3.move (Below.heap_setCell W.drew ⟨gb,j,none⟩ u gp hgp)⟩,Kd.R_step hr (fun _ _ _ => rfl)⟩
set_option maxHeartbeats 4000000 in
set_option maxRecDepth 10000 in
theorem u3b.calls1 (f:Nat) (hP:regex_coder_atom.Sp 118 1 f) (hL:regex_coder_atom.Sp 102 2 f):regex_coder_atom.Sp 102 2 (f + 1):=by
 intro w0 W g gp vc s d h hd hneed hsz hk
 clear hk
 obtain ⟨Ac,cc,ev⟩:=Kd.R_slice h.code
 subst ev
 obtain ⟨A0,c0,⟨j0,j1,j2⟩,⟨p0,p1,p2⟩,jl,jb,jr⟩:=h.look
 have HS:=Aside0.mk h
 have HZ:=Aside0.mk hsz
 have hN:s.bad = true ∨ 4 * s.p.length + 3 ≤ f + 1:=by
  rcases hneed with h9 | h9
  · exact Or.inl h9
  · exact Or.inr (by unfold regex_coder_atom.need at h9;omega)
 have HPN:Aside0 (s.bad = true ∨ regex_coder_atom.need 1 s.p.length ≤ f):=⟨by
  rcases hN with h9 | h9
  · exact Or.inl h9
  · exact Or.inr (by unfold regex_coder_atom.need;omega)⟩
 obtain ⟨s1,hs1⟩:∃ s1,Aside0 (regex_coder_atom.M f 1 d s = s1):=⟨_,⟨rfl⟩⟩
 obtain ⟨mo,HMO⟩:∃ mo,Aside0 (u2o.mo s1 = mo):=⟨_,⟨rfl⟩⟩
 obtain ⟨nx,HNX⟩:∃ nx,Aside0 (u2r.nx s1 = nx):=⟨_,⟨rfl⟩⟩
 obtain ⟨⟨d1,d2,d3⟩,_⟩:=regex_coder_atom.M_dec f 1 d s (fun h => absurd h (by decide))
 rw [hs1.out] at d1 d2 d3
 by_cases hcond:mo = true ∧ nx = 124
 · obtain ⟨rfl,rfl⟩:=hcond
   obtain ⟨hpne,hbad⟩:=regex_coder_atom.mo_ne HMO.out
   obtain ⟨a1,a2,a3⟩:=regex_coder_atom.step_ne hpne
   obtain ⟨x2,hx2⟩:∃ x2,Aside0 (uf.step s1 = x2):=⟨_,⟨rfl⟩⟩
   obtain ⟨r2,s2⟩:=x2
   rw [hx2.out] at a1 a2 a3
   simp only at a1 a2 a3
   obtain ⟨dr,hdr⟩:∃ dr,Aside0 (s2.code.drop s.code.length = dr):=⟨_,⟨rfl⟩⟩
   have hdl:dr.length = s1.code.length - s.code.length:=by rw [← hdr.out,a3];exact List.length_drop
   have HD2:Aside0 (s.code.length ≤ s2.code.length ∧ s2.code.length ≤ 1000000):=⟨by rw [a3];omega⟩
   have hdl2:dr.length ≤ 1000:=by omega
   have hcl:s.code.length ≤ 1000:=by omega
   obtain ⟨s6,hs6⟩:∃ s6:uf.CS,Aside0 ((⟨s2.p,s2.code.take s.code.length ++ [⟨2,[],false,(s.code.length:Int) + 1,(s.code.length:Int) + (dr.length:Int) + 2⟩] ++ dr.map (u2e.sh 1),s2.bad⟩:uf.CS) = s6):=⟨_,⟨rfl⟩⟩
   obtain ⟨jn,hjn⟩:∃ jn,s.code.length + 1 + dr.length = jn:=⟨_,rfl⟩
   have HJ:Aside0 (s6.code.length = jn):=⟨by
    rw [← hs6.out]
    simp only [List.length_append,List.length_take,List.length_map,List.length_cons,List.length_nil]
    have:=HD2.out.1
    omega⟩
   have HJ6:Aside0 (s6.code.length + 1 ≤ 1000000):=⟨by rw [HJ.out];omega⟩
   obtain ⟨s7,hs7⟩:∃ s7:uf.CS,Aside0 ((⟨s6.p,s6.code ++ [⟨3,[],false,0,0⟩],s6.bad⟩:uf.CS) = s7):=⟨_,⟨rfl⟩⟩
   have hbar:Aside0 (regex_coder_atom.bar s.code.length s1 = s7):=⟨by
    rw [← hs7.out,← hs6.out]
    unfold regex_coder_atom.bar regex_coder_atom.put
    rw [hx2.out]
    dsimp only
    rw [← a3,hdr.out]⟩
   obtain ⟨⟨b1,b2,b3⟩,b4,b5⟩:=regex_coder_atom.bar_dec d2 hpne
   rw [hbar.out] at b1 b2 b3 b4 b5
   have HLN:Aside0 (s7.bad = true ∨ regex_coder_atom.need 2 s7.p.length ≤ f):=⟨by
    rcases hN with h9 | h9
    · exfalso
      have h8:s.bad = true:=h9
      have h7:regex_coder_atom.M f 1 d s = s:=by
       cases f with
       | zero => rfl
       | succ f =>
         simp only [regex_coder_atom.M]
         rw [if_neg (by unfold u2o.mo;rw [h8];simp)]
      rw [hs1.out] at h7
      rw [h7,h8] at hbad
      cases hbad
    · exact Or.inr (by unfold regex_coder_atom.need;omega)⟩
   have HLZ:Aside0 (s7.code.length + 2 * s7.p.length ≤ 1000):=⟨by omega⟩
   obtain ⟨s8,hs8⟩:∃ s8,Aside0 (regex_coder_atom.M f 2 d s7 = s8):=⟨_,⟨rfl⟩⟩
   obtain ⟨⟨g1,g2,g3⟩,_⟩:=regex_coder_atom.M_dec f 2 d s7 (fun h => absurd h (by decide))
   rw [hs8.out] at g1 g2 g3
   obtain ⟨n8,HLEN8⟩:∃ n8,Aside0 (s8.code.length = n8):=⟨_,⟨rfl⟩⟩
   rw [HLEN8.out] at g2 g3
   have hjn8:jn < n8:=by omega
   have hn8:n8 ≤ 1000:=by omega
   obtain ⟨x8,HX8⟩:∃ x8,Aside0 (s8.code[jn]? = some x8):=⟨s8.code[jn]'(by rw [HLEN8.out];exact hjn8),⟨List.getElem?_eq_getElem (by rw [HLEN8.out];exact hjn8)⟩⟩
   have HFIN:Aside0 (regex_coder_atom.M (f + 1) 2 d s = ⟨s8.p,s8.code.set jn ⟨x8.f0,x8.f1,x8.f2,(n8:Int),x8.f4⟩,s8.bad⟩):=⟨by
    simp only [regex_coder_atom.M]
    rw [hs1.out,if_pos ⟨HMO.out,HNX.out⟩,hbar.out,hs8.out,← a3,hdr.out,hjn]
    unfold regex_coder_atom.aim
    rw [HX8.out]
    dsimp only
    rw [HLEN8.out]⟩
   clear h jl jb jr j0 p0 hneed hsz hN d1 d2 d3 hpne hbad a1 a2 a3 b1 b2 b3 b4 b5 g1 g2 g3 hbar hdl
   go_enter Tryz.func102,Tryz.ntmps102
   go_wp2_with (first
    | (go_at_call 118;have hPd:=hP w0 W g gp (.slice Ac s.code.length cc) s d HS.out hd HPN.out HZ.out (fun h => absurd h (by decide));(with_reducible refine hPd.mono ?_);clear hPd;rintro e W1 ⟨rfl,vc1,hS1⟩
       rw [hs1.out] at hS1
       have HS1:=Aside0.mk hS1
       clear hS1)
    | (go_at_call 119;(with_reducible refine (u2o.calls w0 W1 g gp vc1 s1 HS1.out).mono ?_);rintro e W0 ⟨rfl,hW0⟩;rw [hW0,HMO.out])
    | (go_at_call 120;(with_reducible refine (u2r.calls w0 W1 g gp vc1 s1 HS1.out).mono ?_);rintro e W0 ⟨rfl,hW0⟩;rw [hW0,HNX.out])
    | (go_at_call 121;(with_reducible refine (uf.calls w0 W1 g gp vc1 s1 HS1.out).mono ?_);rintro e W2 ⟨rfl,hS2,hK2⟩
       rw [hx2.out] at hS2 ⊢
       have HS2:=Aside0.mk hS2
       clear hS2 hK2)
    | (go_at_call 122;(with_reducible refine (u2z.calls w0 W2 g gp vc1 s2 s.code.length HS2.out HD2.out.1 HD2.out.2).mono ?_);rintro e W3 ⟨v3,vc3,rfl,hR3,hS3,hN3⟩
       rw [hdr.out] at hR3
       obtain ⟨Av,cv,ev⟩:=Kd.R_slice hR3
       subst ev
       have hcv:dr.length ≤ cv:=(Kd.R_reads' hR3).2.1
       have HH3:Aside0 (u2p.Held w0 W3 vc3 (.slice Av dr.length cv) dr):=⟨⟨hR3,hN3⟩⟩
       have HS3:=Aside0.mk hS3
       clear hS3 hR3 hN3)
    | (go_at_call 103;(with_reducible refine (u1t.put1a rfl HS3.out (Kd.R_nil _ _ _ _ _) (by have:=HD2.out.2;simp only [List.length_take];omega)).mono ?_);rintro e W4 ⟨rfl,vc4,hS4,hF4⟩
       have HH4:=Aside0.mk (HH3.out.fr HS3.out hF4)
       have HS4:=Aside0.mk hS4
       clear hS4 hF4)
    | (go_at_call 123;(with_reducible refine (u2e.calls w0 W4 Av cv dr 1 HS4.out.below HH4.out.reads hcv (by omega)).mono ?_);rintro e W5 ⟨v5,rfl,hR5,hB5,hN5⟩
       have HS5:=Aside0.mk (u2z.St_below HS4.out hB5)
       have HR5:=Aside0.mk hR5
       clear hR5 hB5 hN5)
    | (go_at_call 103;(with_reducible refine (u1t.calls w0 W5 g gp vc4 v5 _ _ HS5.out HR5.out (by have:=HD2.out.2;simp only [List.length_append,List.length_map,List.length_cons,List.length_nil,List.length_take];omega)).mono ?_);rintro e W6 ⟨rfl,vc6,hS6,hF6⟩
       simp only at hS6
       rw [hs6.out] at hS6
       obtain ⟨A6,c6,e6⟩:=Kd.R_slice hS6.code
       rw [HJ.out] at e6
       subst e6
       obtain ⟨B6,b6,⟨k0,k1,k2⟩,⟨q0,q1,q2⟩,kl,kb,kr⟩:=hS6.look
       have HS6:=Aside0.mk hS6
       clear hS6 hF6 kl kb kr k0 q0)
    | (go_at_call 103;(with_reducible refine (u1t.put1a rfl HS6.out (Kd.R_nil _ _ _ _ _) HJ6.out).mono ?_);rintro e W7 ⟨rfl,vc7,hS7,hF7⟩
       rw [hs7.out] at hS7
       have HS7:=Aside0.mk hS7
       clear hS7 hF7)
    | (go_at_call 102;have hLd:=hL w0 W7 g gp vc7 s7 d HS7.out hd HLN.out HLZ.out (fun h => absurd h (by decide));(with_reducible refine hLd.mono ?_);clear hLd;rintro e W8 ⟨rfl,vc8,hS8⟩
       rw [hs8.out] at hS8
       obtain ⟨A8,c8,e8⟩:=Kd.R_slice hS8.code
       rw [HLEN8.out] at e8
       subst e8
       obtain ⟨gb,eg⟩:=u2t.form hS8.code (by omega)
       subst eg
       obtain ⟨B8,b8,⟨z0,z1,z2⟩,⟨y0,y1,y2⟩,zl,zb,zr⟩:=hS8.look
       obtain ⟨t1,t2,t3,t4⟩:=u2t.store (w0:=w0) jn 3 (n8:Int) (Or.inl rfl) hS8.code x8 HX8.out ⟨x8.f0,x8.f1,x8.f2,(n8:Int),x8.f4⟩ rfl
       simp only [if_true] at t1
       have HS8:=Aside0.mk hS8
       have HT3:=Aside0.mk t3
       have HT4:=Aside0.mk t4
       clear hS8 zl zb zr z0 y0 t3 t4))
   go_still_tail 12,(by kernel_rfl)
   have u1:W8.drew.frozen? ⟨gb,jn * 5 + 3,none⟩ = false:=t2
   have u2:W8.drew.cell? ⟨gb,jn * 5 + 3,none⟩ = some (.int .i64 x8.f3):=t1
   change wpList _ _ _ _ _ W8.drew
   generalize hW9:W8.drew = W9 at u1 u2 ⊢
   have HW9:=Aside0.mk hW9
   clear hW9
   go_wp2
   go_end0
   refine ⟨rfl,.slice (some ⟨gb,0,none⟩) n8 c8,?_⟩
   rw [HFIN.out,← HW9.out]
   exact u3b.aimed HS8.out HT3.out
 · have HFIN:Aside0 (regex_coder_atom.M (f + 1) 2 d s = s1):=⟨by
    simp only [regex_coder_atom.M]
    rw [hs1.out,HMO.out,HNX.out,if_neg hcond]⟩
   clear h jl jb jr j0 p0 hneed hsz hN d1 d2 d3
   cases mo with
   | false =>
     clear hcond
     go_enter Tryz.func102,Tryz.ntmps102
     go_wp2_with (first
      | (go_at_call 118;have hPd:=hP w0 W g gp (.slice Ac s.code.length cc) s d HS.out hd HPN.out HZ.out (fun h => absurd h (by decide));(with_reducible refine hPd.mono ?_);clear hPd;rintro e W1 ⟨rfl,vc1,hS1⟩
         rw [hs1.out] at hS1
         have HS1:=Aside0.mk hS1
         clear hS1)
      | (go_at_call 119;(with_reducible refine (u2o.calls w0 W1 g gp vc1 s1 HS1.out).mono ?_);rintro e W0 ⟨rfl,hW0⟩;rw [hW0,HMO.out])
      | (go_at_call 120;(with_reducible refine (u2r.calls w0 W1 g gp vc1 s1 HS1.out).mono ?_);rintro e W0 ⟨rfl,hW0⟩;rw [hW0,HNX.out]))
     (try simp only [Exit.inBlock,Exit.then]);refine bodyPost_ret (results_none rfl _ _ _) rfl ?_
     exact ⟨rfl,_,by rw [HFIN.out];exact HS1.out⟩
   | true =>
     have hnx:(nx != 124) = true:=by
      have:nx ≠ 124:=fun h9 => hcond ⟨rfl,h9⟩
      simpa using this
     clear hcond
     go_enter Tryz.func102,Tryz.ntmps102
     go_wp2_with (first
      | (go_at_call 118;have hPd:=hP w0 W g gp (.slice Ac s.code.length cc) s d HS.out hd HPN.out HZ.out (fun h => absurd h (by decide));(with_reducible refine hPd.mono ?_);clear hPd;rintro e W1 ⟨rfl,vc1,hS1⟩
         rw [hs1.out] at hS1
         have HS1:=Aside0.mk hS1
         clear hS1)
      | (go_at_call 119;(with_reducible refine (u2o.calls w0 W1 g gp vc1 s1 HS1.out).mono ?_);rintro e W0 ⟨rfl,hW0⟩;rw [hW0,HMO.out])
      | (go_at_call 120;(with_reducible refine (u2r.calls w0 W1 g gp vc1 s1 HS1.out).mono ?_);rintro e W0 ⟨rfl,hW0⟩;rw [hW0,HNX.out]))
     (try simp only [Exit.inBlock,Exit.then]);refine bodyPost_ret (results_none rfl _ _ _) rfl ?_
     exact ⟨rfl,_,by rw [HFIN.out];exact HS1.out⟩
theorem u3b.all (f:Nat):(∀ f',f' ≤ f → regex_coder_atom.Sp 133 0 f') ∧ (∀ f',f' ≤ f → regex_coder_atom.Sp 118 1 f') ∧ (∀ f',f' ≤ f → regex_coder_atom.Sp 102 2 f'):=by
 induction f with
 | zero =>
   have ha:regex_coder_atom.Sp 133 0 0:=by
    intro w0 W g gp vc s d h hd hneed hsz hk
    exfalso
    rcases hneed with h9 | h9
    · rw [(hk rfl).1] at h9
      cases h9
    · unfold regex_coder_atom.need at h9
      omega
   have hp:regex_coder_atom.Sp 118 1 0:=u2p.calls 0 (fun f' hf => absurd hf (by omega))
   refine ⟨fun f' hf => ?_,fun f' hf => ?_,fun f' hf => ?_⟩
   · obtain rfl:f' = 0:=by omega
     exact ha
   · obtain rfl:f' = 0:=by omega
     exact hp
   · obtain rfl:f' = 0:=by omega
     exact u3b.calls0 hp
 | succ f ih =>
   obtain ⟨ia,ip,il⟩:=ih
   have ha:regex_coder_atom.Sp 133 0 (f + 1):=regex_coder_atom.calls f (il f (Nat.le_refl _))
   have hp:regex_coder_atom.Sp 118 1 (f + 1):=u2p.calls (f + 1) (fun f' hf => ia f' (by omega))
   have hl:regex_coder_atom.Sp 102 2 (f + 1):=u3b.calls1 f (ip f (Nat.le_refl _)) (il f (Nat.le_refl _))
   refine ⟨fun f' hf => ?_,fun f' hf => ?_,fun f' hf => ?_⟩
   · rcases Nat.lt_or_ge f f' with h9 | h9
     · obtain rfl:f' = f + 1:=by omega
       exact ha
     · exact ia f' h9
   · rcases Nat.lt_or_ge f f' with h9 | h9
     · obtain rfl:f' = f + 1:=by omega
       exact hp
     · exact ip f' h9
   · rcases Nat.lt_or_ge f f' with h9 | h9
     · obtain rfl:f' = f + 1:=by omega
       exact hl
     · exact il f' h9
end Go.Proofs.YtgnehcgaplnfkaaGreatDoor.PAll
