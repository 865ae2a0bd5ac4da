/- Texts of this seat, joined in the order in which they build. -/
import Derived.Test.YtmcpeifhapekoaaGreatDoorBk1
import Derived.Test.YtmcpeifhapekoaaGreatDoorBk3
import Derived.Lib.Join
import Derived.Test.YtmcpeifhapekoaaGreatDoorBk2
namespace Go.Proofs.YtmcpeifhapekoaaGreatDoor.Laws
open Go.RowKit Go.Proofs.YtmcpeifhapekoaaGreatDoor.PAll Go.Proofs.YtmcpeifhapekoaaGreatDoorW.PrintWords Go.Proofs.YtmcpeifhapekoaaGreatDoorW.PrintLast
set_option linter.unusedVariables false
set_option linter.unusedSimpArgs false
theorem head_drop (s:ByteArray) (i:Nat) (c:UInt8) (r:List UInt8) (h:s.data.toList.drop i = c :: r):i < s.size ∧ bt s (i:Int) = (c.toNat:Int) ∧ s.data.toList.drop (i + 1) = r ∧ (s.extract i (i + 1)) = Base.ofL [c] ∧ r.length + i + 1 = s.size:=by
 have hlt:i < s.data.toList.length:=by
  rcases Nat.lt_or_ge i s.data.toList.length with h1 | h1
  · exact h1
  · rw [List.drop_eq_nil_of_le h1] at h
    cases h
 have hs:s.size = s.data.toList.length:=Base.size_list s
 have hlen:(s.data.toList.drop i).length = s.data.toList.length - i:=List.length_drop
 rw [h] at hlen
 simp only [List.length_cons] at hlen
 have h':=h
 rw [List.drop_eq_getElem_cons hlt] at h
 obtain ⟨h1,h2⟩:=List.cons.inj h
 refine ⟨by omega,?_,h2,?_,by omega⟩
 · rw [Base.bt_list s i (by omega),List.getD_eq_getElem?_getD,List.getElem?_eq_getElem hlt,h1]
   rfl
 · refine Base.ext_data ?_
   rw [Base.extract_list,Base.ofL_data,h']
   have:i + 1 - i = 1:=by omega
   rw [this]
   rfl
theorem byte_is (c:UInt8):((c.toNat:Int) = 34 ↔ c = 34) ∧ ((c.toNat:Int) = 92 ↔ c = 92):=by
 refine ⟨⟨fun e => UInt8.toNat_inj.1 (by simpa using (by omega:c.toNat = 34)),fun e => by rw [e];rfl⟩,⟨fun e => UInt8.toNat_inj.1 (by simpa using (by omega:c.toNat = 92)),fun e => by rw [e];rfl⟩⟩
theorem drop_end (s:ByteArray) (i:Nat) (h:s.data.toList.drop i = []):s.size ≤ i:=by
 have hs:s.size = s.data.toList.length:=Base.size_list s
 rcases Nat.lt_or_ge i s.data.toList.length with h1 | h1
 · rw [List.drop_eq_getElem_cons h1] at h
   cases h
 · omega
theorem rquote_l0 (s:ByteArray) (hs:s.size ≤ 140737488355232):∀ (r:List UInt8) (i:Nat) (acc:ByteArray),s.data.toList.drop i = r → i ≤ s.size → acc.size ≤ 2 * i + 1 →
 Ev (fun k => u1x.l0 k s acc (i:Int)) (Base.ofL (acc.data.toList ++ (r.flatMap Base.quoteByte ++ [34]))):=by
 intro r
 induction r with
 | nil =>
   intro i acc h hi ha
   have hi2:=drop_end s i h
   refine Ev.step (f:=fun _ => some (Base.ofL (acc.data.toList ++ [34]))) (fun k => ?_) (by simpa using Ev.now (Base.ofL (acc.data.toList ++ [34])))
   simp only [u1x.l0]
   rw [if_neg (by omega),if_pos (by omega)]
   congr 1
 | cons c r ih =>
   intro i acc h hi ha
   obtain ⟨hlt,hbt,hr,hex,hlen⟩:=head_drop s i c r h
   have hw:wrap64 ((i:Int) + 1) = ((i + 1:Nat):Int):=Base.wrap_nat i (by omega)
   have h1:((i:Int) < (s.size:Int)):=by omega
   have h0:((0:Int) ≤ (i:Int)):=by omega
   have hb:=Aside0.mk (byte_is c)
   have hsz1:(Base.ofL [c]).size = 1:=by rw [Base.size_list,Base.ofL_data];rfl
   have hszb:(acc ++ (⟨#[92]⟩:ByteArray)).size = acc.size + 1:=by
    rw [Base.size_list,Base.append_data,List.length_append,← Base.size_list]
    rfl
   have hex2:s.extract (i:Int).toNat ((i + 1:Nat):Int).toNat = Base.ofL [c]:=hex
   by_cases hq:c = 34 ∨ c = 92
   · have hqb:Base.quoteByte c = [92,c]:=by unfold Base.quoteByte;rw [if_pos hq]
     have ih2:=ih (i + 1) ((acc ++ (⟨#[92]⟩:ByteArray)) ++ Base.ofL [c]) hr (by omega) (by rw [Base.size_list,Base.append_data,List.length_append,← Base.size_list,hszb,Base.ofL_data];simp;omega)
     have he:Base.ofL (acc.data.toList ++ ((c :: r).flatMap Base.quoteByte ++ [34])) = Base.ofL (((acc ++ (⟨#[92]⟩:ByteArray)) ++ Base.ofL [c]).data.toList ++ (r.flatMap Base.quoteByte ++ [34])):=by
      congr 1
      rw [Base.append_data,Base.append_data,Base.ofL_data,List.flatMap_cons,hqb]
      simp
     rw [he]
     refine Ev.step (fun k => ?_) ih2
     simp only [u1x.l0]
     rw [if_pos h1,if_pos h0,hbt,hw]
     rcases hq with hq | hq
     · rw [if_pos (hb.out.1.2 hq),if_pos (by omega),if_pos (by omega),if_pos (by omega),hex2,if_pos (by rw [hszb,hsz1];omega)]
     · rw [if_neg (fun e => by have:=hb.out.1.1 e;rw [hq] at this;exact absurd this (by decide)),if_pos (hb.out.2.2 hq),if_pos (by omega),if_pos (by omega),if_pos (by omega),hex2,if_pos (by rw [hszb,hsz1];omega)]
   · have hqb:Base.quoteByte c = [c]:=by unfold Base.quoteByte;rw [if_neg hq]
     have ih2:=ih (i + 1) (acc ++ Base.ofL [c]) hr (by omega) (by rw [Base.size_list,Base.append_data,List.length_append,← Base.size_list,Base.ofL_data];simp;omega)
     have he:Base.ofL (acc.data.toList ++ ((c :: r).flatMap Base.quoteByte ++ [34])) = Base.ofL ((acc ++ Base.ofL [c]).data.toList ++ (r.flatMap Base.quoteByte ++ [34])):=by
      congr 1
      rw [Base.append_data,Base.ofL_data,List.flatMap_cons,hqb]
      simp
     rw [he]
     refine Ev.step (fun k => ?_) ih2
     simp only [u1x.l0]
     rw [if_pos h1,if_pos h0,hbt,hw,if_neg (fun e => hq (.inl (hb.out.1.1 e))),if_neg (fun e => hq (.inr (hb.out.2.1 e))),if_pos (by omega),if_pos (by omega),hex2,if_pos (by rw [hsz1];omega)]
theorem rquote_ev (s:ByteArray) (hs:s.size ≤ 140737488355232):Ev (fun k => u1x.f k s) (Base.quoteS s):=by
 have h:=rquote_l0 s hs s.data.toList 0 ⟨#[34]⟩ rfl (by omega) (by decide)
 refine Ev.congr (fun k => rfl) ?_
 have he:Base.quoteS s = Base.ofL ((⟨#[34]⟩:ByteArray).data.toList ++ (s.data.toList.flatMap Base.quoteByte ++ [34])):=rfl
 rw [he]
 exact h
end Go.Proofs.YtmcpeifhapekoaaGreatDoor.Laws
namespace Go.Proofs.YtmcpeifhapekoaaGreatDoor.Tx
open Go.RowKit Go.Proofs.YtmcpeifhapekoaaGreatDoor.PAll Go.Proofs.YtmcpeifhapekoaaGreatDoorW.PrintWords Go.Proofs.YtmcpeifhapekoaaGreatDoorW.PrintLast
open Go.Proofs.YtmcpeifhapekoaaGreatDoor.Laws (okFrom canB)
set_option linter.unusedVariables false
set_option linter.unusedSimpArgs false
def pieceQ (x:Lb):B8:=x.f0.data.toList ++ 61 :: Base.quoteL x.f1.data.toList
theorem unq_gen:∀ (l acc rest:List UInt8),Base.unqL (l.flatMap Base.quoteByte ++ (34 :: rest)) acc = some (acc ++ l,rest):=by
 intro l
 induction l with
 | nil =>
   intro acc rest
   simp [Base.unqL_end]
 | cons c r ih =>
   intro acc rest
   rw [List.flatMap_cons,List.append_assoc]
   rw [show Base.quoteByte c = if c = 34 ∨ c = 92 then [92,c] else [c] from rfl]
   by_cases h:c = 34 ∨ c = 92
   · rw [if_pos h]
     simp only [List.cons_append,List.nil_append]
     rw [Base.unqL_esc _ _ _ h,ih]
     simp
   · rw [if_neg h]
     simp only [List.cons_append,List.nil_append]
     rw [Base.unqL_plain _ _ _ (fun e => h (Or.inl e)) (fun e => h (Or.inr e)),ih]
     simp
theorem quoted_back (s:ByteArray) (t:B8):quotedP (Base.quoteL s.data.toList ++ t) = some (s,t):=by
 unfold Base.quoteL quotedP
 simp only [List.cons_append,List.append_assoc,List.nil_append]
 rw [if_pos trivial,unq_gen]
 simp [Base.ofL_of]
theorem all_word {s:ByteArray} (h:Base.nameB s = true):∀ c ∈ s.data.toList,wordC c = true:=by
 unfold Base.nameB at h
 rw [Bool.and_eq_true] at h
 have h2:=List.all_eq_true.1 h.2
 intro c hc
 have:=h2 (c.toNat:Int) (by
  unfold bytesOf
  exact List.mem_map_of_mem hc)
 exact this
theorem take_word (a:B8) (h:∀ c ∈ a,wordC c = true) (c:UInt8) (hc:wordC c = false) (t:B8):(a ++ c :: t).takeWhile wordC = a ∧ (a ++ c :: t).dropWhile wordC = c :: t:=by
 induction a with
 | nil => simp [hc]
 | cons x a ih =>
   have hx:=h x (List.mem_cons_self ..)
   obtain ⟨h1,h2⟩:=ih (fun c hc => h c (List.mem_cons_of_mem _ hc))
   simp only [List.cons_append,List.takeWhile_cons,List.dropWhile_cons,hx,if_true,h1,h2,and_self]
theorem label_back (x:Lb) (hn:Base.nameB x.f0 = true) (t:B8):labelP (pieceQ x ++ t) = some (x,t):=by
 obtain ⟨h1,h2⟩:=take_word x.f0.data.toList (all_word hn) 61 (by decide) (Base.quoteL x.f1.data.toList ++ t)
 have e:pieceQ x ++ t = x.f0.data.toList ++ 61 :: (Base.quoteL x.f1.data.toList ++ t):=by simp [pieceQ]
 rw [label_is,e,h1,h2,Base.ofL_of,if_pos hn]
 unfold valP
 rw [expect_cons,if_pos rfl]
 simp only [Option.bind_some,quoted_back,Option.map_some]
theorem labels_back:∀ (l acc:List Lb) (n:Nat) (t:B8),(∀ x ∈ l,Base.nameB x.f0 = true) → acc.length + l.length ≤ 9 → l.length < n → labelsP n acc (l.flatMap (fun x => 44 :: pieceQ x) ++ 125 :: t) = some (acc ++ l,125 :: t)
 | [],acc,0,t,_,_,h => by simp at h
 | [],acc,n + 1,t,_,_,_ => by simp [labelsP]
 | x :: l,acc,0,t,_,_,h => by simp at h
 | x :: l,acc,n + 1,t,hn,hl,h => by
   simp only [List.flatMap_cons,List.cons_append,List.append_assoc,labelsP,List.length_cons] at hl h ⊢
   rw [if_pos (by omega),label_back x (hn x (List.mem_cons_self ..))]
   simp only [Option.bind_some]
   rw [labels_back l (acc ++ [x]) n t (fun y hy => hn y (List.mem_cons_of_mem _ hy)) (by simp;omega) (by omega)]
   simp
theorem braces_back (x:Lb) (l:List Lb) (t:B8) (hn:∀ y ∈ x :: l,Base.nameB y.f0 = true) (hl:l.length ≤ 8):bracesP (123 :: (pieceQ x ++ l.flatMap (fun x => 44 :: pieceQ x)) ++ 125 :: t) = some (x :: l,t):=by
 unfold bracesP
 have hlen:l.length < (123 :: (pieceQ x ++ l.flatMap (fun x => 44 :: pieceQ x)) ++ 125 :: t).length:=by
  have:l.length ≤ (l.flatMap (fun x => 44 :: pieceQ x)).length:=by
   clear hn hl
   induction l with
   | nil => exact Nat.zero_le _
   | cons y l ih =>
     rw [List.flatMap_cons,List.length_append,List.length_cons,List.length_cons]
     omega
  simp only [List.length_append,List.length_cons]
  omega
 simp only [List.cons_append,List.append_assoc] at hlen ⊢
 rw [expect_cons,if_pos rfl]
 simp only [Option.bind_some]
 rw [label_back x (hn x (List.mem_cons_self ..))]
 simp only [Option.bind_some]
 rw [labels_back l [x] _ t (fun y hy => hn y (List.mem_cons_of_mem _ hy)) (by simp;omega) hlen]
 simp only [Option.bind_some,expect_cons,if_pos,Option.map_some,List.singleton_append]
def Desc (r:List Lb):Prop:=r.Pairwise fun y z => less z.f0 y.f0 = true
theorem less_or {a b:ByteArray} (h:¬ less a b = true) (hne:b ≠ a):less b a = true:=by
 have h0:Op.bytesLess a.data.toList b.data.toList = false:=by simpa [less] using h
 have h1:=Base.less_or a.data.toList b.data.toList
 rw [h0,Bool.false_or] at h1
 cases h2:Op.bytesLess b.data.toList a.data.toList with
 | true => exact h2
 | false =>
   rw [h2] at h1
   simp at h1
   exact absurd (Base.ext_data (by rw [h1])).symm hne
theorem desc_ins (x:Lb):∀ r:List Lb,Desc r → (∀ y ∈ r,y.f0 ≠ x.f0) → Desc (insR x r)
 | [],_,_ => List.pairwise_singleton _ _
 | y :: r,hd,hx => by
   obtain ⟨h1,h2⟩:=List.pairwise_cons.1 hd
   unfold insR
   split
   · rename_i h
     refine List.pairwise_cons.2 ⟨fun z hz => ?_,desc_ins x r h2 (fun z hz => hx z (List.mem_cons_of_mem _ hz))⟩
     rcases List.mem_cons.1 ((insR_perm x r).mem_iff.1 hz) with rfl | hz
     · exact h
     · exact h1 z hz
   · rename_i h
     have hyx:=less_or h (hx y (List.mem_cons_self ..))
     refine List.pairwise_cons.2 ⟨fun z hz => ?_,hd⟩
     rcases List.mem_cons.1 hz with rfl | hz
     · exact hyx
     · exact less_tr (h1 z hz) hyx
theorem desc_fold:∀ (l r:List Lb),Desc r → ((r ++ l).map (·.f0)).Nodup → Desc (l.foldl (fun r x => insR x r) r)
 | [],r,h,_ => h
 | x :: l,r,h,hn => by
   rw [List.foldl_cons]
   have hp:(insR x r ++ l).Perm (r ++ x :: l):=((insR_perm x r).append_right l).trans List.perm_middle.symm
   refine desc_fold l _ (desc_ins x r h fun y hy e => ?_) ((hp.map _).nodup_iff.2 hn)
   rw [List.map_append,List.nodup_append] at hn
   exact hn.2.2 y.f0 (List.mem_map_of_mem hy) x.f0 (by simp) e
theorem desc_same:∀ (a b:List Lb),Desc a → Desc b → a.Perm b → a = b
 | [],b,_,_,h => by simpa using h.symm.eq_nil.symm
 | x :: a,[],_,_,h => by simpa using h.length_eq
 | x :: a,y :: b,ha,hb,h => by
   obtain ⟨h1,h2⟩:=List.pairwise_cons.1 ha
   obtain ⟨h3,h4⟩:=List.pairwise_cons.1 hb
   have e:x = y:=by
    rcases List.mem_cons.1 (h.mem_iff.1 (List.mem_cons_self ..)) with e | hx
    · exact e
    · rcases List.mem_cons.1 (h.mem_iff.2 (List.mem_cons_self ..)) with e | hy
      · exact e.symm
      · have g1:=h3 x hx
        have g2:=h1 y hy
        have:=less_tr g1 g2
        rw [Base.less_irrefl] at this
        cases this
   subst e
   rw [desc_same a b h2 h4 (List.perm_cons x |>.1 h)]
theorem ok_desc:∀ (l:List Lb) (last:List UInt8),okFrom last l = true → l.Pairwise fun y z => less y.f0 z.f0 = true
 | [],_,_ => List.Pairwise.nil
 | y :: l,last,h => by
   unfold okFrom at h
   rw [Bool.and_eq_true] at h
   exact List.pairwise_cons.2 ⟨fun z hz => ok_above l _ h.2 z hz,ok_desc l _ h.2⟩
theorem sort_back (l m:List Lb) (hl:canB l = true) (hp:m.Perm l):sortP m = l:=by
 have hn:=(can_names hl).2.2
 unfold canB at hl
 rw [Bool.and_eq_true] at hl
 have hd:=ok_desc l [] hl.2
 have h1:Desc (m.foldl (fun r x => insR x r) []):=desc_fold m [] List.Pairwise.nil (by rw [List.nil_append];exact ((hp.map _).nodup_iff).2 hn)
 have h2:Desc l.reverse:=List.pairwise_reverse.2 hd
 have h3:(m.foldl (fun r x => insR x r) []).Perm l.reverse:=by
  have:=ins_fold_perm m []
  rw [List.nil_append] at this
  exact (this.trans hp).trans (List.reverse_perm l).symm
 unfold sortP
 rw [desc_same _ _ h1 h2 h3,List.reverse_reverse]
def decN (n:Nat):B8:=if n < 10 then [UInt8.ofNat (48 + n)] else decN (n / 10) ++ [UInt8.ofNat (48 + n % 10)]
decreasing_by omega
theorem dec_dig (n:Nat) (h:n < 10):(UInt8.ofNat (48 + n)).toNat = 48 + n:=by
 rw [UInt8.toNat_ofNat']
 omega
theorem decN_all (n:Nat):∀ c ∈ decN n,decC c = true:=by
 induction n using Nat.strongRecOn with
 | ind n ih =>
   unfold decN
   split
   · rename_i h
     intro c hc
     rw [List.mem_singleton] at hc
     subst hc
     unfold decC
     rw [dec_dig n h,decide_eq_true (by omega),decide_eq_true (by omega)]
     rfl
   · rename_i h
     intro c hc
     rcases List.mem_append.1 hc with hc | hc
     · exact ih (n / 10) (by omega) c hc
     · rw [List.mem_singleton] at hc
       subst hc
       unfold decC
       rw [dec_dig (n % 10) (by omega),decide_eq_true (by omega),decide_eq_true (by omega)]
       rfl
theorem decN_len (k:Nat):∀ n:Nat,n < 10 ^ (k + 1) → 1 ≤ (decN n).length ∧ (decN n).length ≤ k + 1:=by
 induction k with
 | zero =>
   intro n h
   unfold decN
   rw [if_pos (by simpa using h)]
   simp
 | succ k ih =>
   intro n h
   unfold decN
   split
   · simp
   · rename_i h9
     have:=ih (n / 10) (by rw [Nat.pow_succ] at h;omega)
     simp only [List.length_append,List.length_singleton]
     omega
theorem numL_app (b:Int):∀ (l m:B8) (n:Int),numL b (l ++ m) n = (numL b l n).bind fun x => numL b m x
 | [],m,n => rfl
 | c :: l,m,n => by
   simp only [List.cons_append,numL]
   split
   · exact numL_app b l m _
   · rfl
theorem dec_step (x:Int) (d:Nat) (hx:0 ≤ x) (hd:d < 10) (h:x * 10 + d ≤ 18446744073709551615):numL 10 [UInt8.ofNat (48 + d)] x = some (x * 10 + d):=by
 have e:digV (UInt8.ofNat (48 + d)) = d:=by
  unfold digV
  rw [dec_dig d hd,if_neg (by omega)]
  omega
 unfold numL
 rw [e,if_pos (by omega)]
 rfl
theorem decN_back:∀ n:Nat,n ≤ 18446744073709551615 → numL 10 (decN n) 0 = some (n:Int):=by
 intro n
 induction n using Nat.strongRecOn with
 | ind n ih =>
   intro hn
   unfold decN
   split
   · rename_i h
     have:=dec_step 0 n (by omega) h (by omega)
     rw [this]
     simp
   · rename_i h
     rw [numL_app,ih (n / 10) (by omega) (by omega)]
     simp only [Option.bind_some]
     rw [dec_step _ (n % 10) (by omega) (by omega) (by omega)]
     congr 1
     omega
theorem take_dig (h:Bool) (a:B8) (ha:∀ c ∈ a,digC h c = true) (t:B8) (ht:t.head?.all (fun c => !digC h c) = true):(a ++ t).takeWhile (digC h) = a ∧ (a ++ t).dropWhile (digC h) = t:=by
 induction a with
 | nil =>
   cases t with
   | nil => simp
   | cons c t =>
     have:digC h c = false:=by simpa using ht
     simp [this]
 | cons x a ih =>
   have hx:=ha x (List.mem_cons_self ..)
   obtain ⟨h1,h2⟩:=ih (fun c hc => ha c (List.mem_cons_of_mem _ hc))
   simp only [List.cons_append,List.takeWhile_cons,List.dropWhile_cons,hx,if_true,h1,h2,and_self]
theorem valueD_back (n most:Nat) (t:B8) (hn:n ≤ 18446744073709551615) (hm:(decN n).length ≤ most) (ht:t.head?.all (fun c => !decC c) = true):valueD false most 10 (decN n ++ t) = some ((n:Int),t):=by
 obtain ⟨h1,h2⟩:=take_dig false (decN n) (fun c hc => decN_all n c hc) t ht
 have h3:decN n ≠ []:=by
  have:=(decN_len 20 n (by omega)).1
  intro e
  rw [e] at this
  simp at this
 unfold valueD digitsP
 rw [h1,h2,if_pos ⟨h3,hm⟩]
 simp only [Option.bind_some,decN_back n hn,Option.map_some]
theorem decN_head (n:Nat):∃ c r,decN n = c :: r ∧ decC c = true:=by
 have h1:=(decN_len n n (by
  have:=Nat.lt_pow_self (n:=n + 1) (a:=10) (by decide)
  omega)).1
 cases h:decN n with
 | nil => rw [h] at h1;simp at h1
 | cons c r => exact ⟨c,r,rfl,decN_all n c (by rw [h];exact List.mem_cons_self ..)⟩
def signL (x:Int):B8:=if x < 0 then 45 :: decN (-x).toNat else decN x.toNat
theorem dec_ne {c:UInt8} (h:decC c = true):blankC c = false ∧ c ≠ 120 ∧ c ≠ 45 ∧ c ≠ 123 ∧ c ≠ 10:=by
 unfold decC at h
 rw [Bool.and_eq_true,decide_eq_true_eq,decide_eq_true_eq] at h
 refine ⟨?_,?_,?_,?_,?_⟩
 · unfold blankC
   rw [decide_eq_false,decide_eq_false]
   · rfl
   · rintro rfl
     exact absurd h.1 (by decide)
   · rintro rfl
     exact absurd h.1 (by decide)
 all_goals
  rintro rfl
  revert h
  decide
theorem value_back (n:Nat) (t:B8) (hn:n ≤ 18446744073709551615) (ht:t.head?.all (fun c => !decC c && c != 120) = true):valueP (decN n ++ t) = some ((n:Int),t):=by
 have ht2:t.head?.all (fun c => !decC c) = true:=by
  cases t with
  | nil => rfl
  | cons c t =>
    simp only [List.head?_cons,Option.all_some,Bool.and_eq_true] at ht ⊢
    exact ht.1
 have hm:(decN n).length ≤ 20:=(decN_len 19 n (by omega)).2
 have hx:∀ r,decN n ++ t ≠ 48 :: 120 :: r:=by
  intro r e
  have ha:=decN_all n
  cases hd:decN n with
  | nil =>
    have:=(decN_len 20 n (by omega)).1
    rw [hd] at this
    simp at this
  | cons c q =>
    rw [hd] at e ha
    cases q with
    | nil =>
      cases t with
      | nil => simp at e
      | cons d t =>
        simp at e ht
        exact ht.2 e.2.1
    | cons d q =>
      simp at e
      exact (dec_ne (ha d (by simp))).2.1 e.2.1
 unfold valueP
 split
 · rename_i r h
   exact absurd h (hx r)
 · exact valueD_back n 20 t hn hm ht2
theorem time_nat (n:Nat) (h:n ≤ 9223372036854775808):valueD false 19 10 (decN n) = some ((n:Int),[]):=by
 have h1:n < 10 ^ (18 + 1):=by
  have:(10:Nat) ^ (18 + 1) = 10000000000000000000:=rfl
  omega
 have e:=valueD_back n 19 [] (by omega) (decN_len 18 n h1).2 rfl
 rw [List.append_nil] at e
 exact e
theorem time_minus (r:B8):timeP (45 :: r) = (valueD false 19 10 r).bind fun p => if p.1 ≤ 9223372036854775808 then some (-p.1,p.2) else none:=rfl
theorem time_plus (s:B8) (h:∀ r,s ≠ 45 :: r):timeP s = (valueD false 19 10 s).bind fun p => if p.1 < 9223372036854775808 then some p else none:=by
 unfold timeP
 split
 · rename_i r
   exact absurd rfl (h r)
 · rfl
theorem time_back (x:Int) (h0 : -9223372036854775808 ≤ x) (h1:x < 9223372036854775808):timeP (signL x) = some (x,[]):=by
 unfold signL
 by_cases h:x < 0
 · obtain ⟨n,hn⟩:∃ n:Nat,n = (-x).toNat:=⟨_,rfl⟩
   have hx:x = -(n:Int):=by omega
   have hb:n ≤ 9223372036854775808:=by omega
   rw [if_pos h,time_minus,← hn,time_nat n hb,Option.bind_some,if_pos (by simp only;omega),hx]
 · obtain ⟨n,hn⟩:∃ n:Nat,n = x.toNat:=⟨_,rfl⟩
   have hx:x = (n:Int):=by omega
   have hb:n ≤ 9223372036854775808:=by omega
   rw [if_neg h,← hn,time_plus,time_nat n hb,Option.bind_some,if_pos (by simp only;omega),hx]
   intro r e
   have:=decN_all n 45 (by rw [e];exact List.mem_cons_self ..)
   exact absurd this (by decide)
theorem sign_head (x:Int):∃ c r,signL x = c :: r ∧ blankC c = false:=by
 unfold signL
 split
 · exact ⟨45,_,rfl,by decide⟩
 · obtain ⟨c,r,h,hc⟩:=decN_head x.toNat
   exact ⟨c,r,h,(dec_ne hc).1⟩
theorem end_back (n:Nat) (x now:Int) (hn:n ≤ 18446744073709551615) (h0 : -9223372036854775808 ≤ x) (h1:x < 9223372036854775808):endP (32 :: (decN n ++ 32 :: signL x)) now = some (x,(n:Int)):=by
 obtain ⟨c,r,hd,hc⟩:=decN_head n
 obtain ⟨c2,r2,hd2,hc2⟩:=sign_head x
 have hb:=(dec_ne hc).1
 have e1:(32 :: (decN n ++ 32 :: signL x)).takeWhile blankC = [32]:=by
  rw [hd]
  simp [hb,show blankC 32 = true from by decide]
 have e2:(32 :: (decN n ++ 32 :: signL x)).dropWhile blankC = decN n ++ 32 :: signL x:=by
  rw [hd]
  simp [hb,show blankC 32 = true from by decide]
 have e3:(32 :: signL x).takeWhile blankC = [32]:=by
  rw [hd2]
  simp [hc2,show blankC 32 = true from by decide]
 have e4:(32 :: signL x).dropWhile blankC = signL x:=by
  rw [hd2]
  simp [hc2,show blankC 32 = true from by decide]
 unfold endP
 rw [e1,e2,if_neg (by simp),value_back n (32 :: signL x) hn (by simp only [List.head?_cons,Option.all_some];decide)]
 simp only [Option.bind_some,e3,e4]
 rw [if_neg (by rw [hd2];simp),if_neg (by simp),time_back x h0 h1]
 rfl
def u3l:List Lb → B8
 | [] => []
 | x :: l => 123 :: (pieceQ x ++ l.flatMap (fun x => 44 :: pieceQ x)) ++ [125]
theorem labs_braces (x:Lb) (l:List Lb) (t:B8) (hn:∀ y ∈ x :: l,Base.nameB y.f0 = true) (hl:l.length ≤ 8):labsP (u3l (x :: l) ++ t) = some (x :: l,t):=by
 have e:u3l (x :: l) ++ t = 123 :: (pieceQ x ++ l.flatMap (fun x => 44 :: pieceQ x)) ++ 125 :: t:=by simp [u3l]
 have h:=braces_back x l t hn hl
 rw [e]
 unfold labsP headP
 simp only [List.cons_append,List.append_assoc] at h ⊢
 rw [if_neg (by decide)]
 simp only [Option.bind_some,restP,h,Option.map_some,List.nil_append]
theorem labs_name (n:ByteArray) (l:List Lb) (t:B8) (h0:Base.nameB n = true) (hn:∀ y ∈ l,Base.nameB y.f0 = true) (hl:l.length ≤ 8) (ht:t.head?.all (fun c => !wordC c && c != 123) = true) (hne:l = [] → t ≠ []):labsP (n.data.toList ++ (u3l l ++ t)) = some (⟨metric,n⟩ :: l,t):=by
 have hw:=all_word h0
 have hsz:n.data.toList ≠ []:=by
  intro e
  have:n = Base.ofL []:=by rw [← Base.ofL_of n,e]
  subst this
  revert h0
  decide
 obtain ⟨c0,q0,hc0⟩:∃ c q,n.data.toList = c :: q:=by
  cases h:n.data.toList with
  | nil => exact absurd h hsz
  | cons c q => exact ⟨c,q,rfl⟩
 have hhead:∃ c r,u3l l ++ t = c :: r ∧ wordC c = false ∧ (l = [] → c ≠ 123):=by
  cases l with
  | nil =>
    cases t with
    | nil => exact absurd rfl (hne rfl)
    | cons c t =>
      simp only [List.head?_cons,Option.all_some,Bool.and_eq_true] at ht
      exact ⟨c,t,rfl,by simpa using ht.1,fun _ => by simpa using ht.2⟩
  | cons x l => exact ⟨123,_,rfl,by decide,fun h => by cases h⟩
 obtain ⟨c,r,hr,hc,hc3⟩:=hhead
 obtain ⟨g1,g2⟩:=take_word n.data.toList hw c hc r
 unfold labsP
 rw [hr]
 have hcons:n.data.toList ++ c :: r = c0 :: (q0 ++ c :: r):=by rw [hc0];rfl
 have hnm:nameP (n.data.toList ++ c :: r) = some (n,c :: r):=by
  unfold nameP
  rw [g1,g2,Base.ofL_of,if_pos h0]
 have hnm0:(nameP (n.data.toList ++ c :: r)).map (fun p => (([⟨metric,p.1⟩]:List Lb),p.2)) = some ([⟨metric,n⟩],c :: r):=by
  rw [hnm]
  rfl
 have hhd:headP (n.data.toList ++ c :: r) = some ([⟨metric,n⟩],c :: r):=by
  rw [← hnm0,hcons]
  exact if_pos (hw c0 (by rw [hc0];exact List.mem_cons_self ..))
 rw [hhd]
 simp only [Option.bind_some]
 cases l with
 | nil =>
   unfold restP
   split
   · rename_i h9
     injection h9 with h9
     exact absurd h9 (hc3 rfl)
   · rw [← hr]
     rfl
 | cons x l =>
   have e:u3l (x :: l) ++ t = 123 :: (pieceQ x ++ l.flatMap (fun x => 44 :: pieceQ x)) ++ 125 :: t:=by simp [u3l]
   have h:=braces_back x l t hn (by simp at hl;omega)
   rw [← hr,e]
   simp only [List.cons_append,List.append_assoc] at h ⊢
   simp only [restP,h,Option.map_some,List.singleton_append]
end Go.Proofs.YtmcpeifhapekoaaGreatDoor.Tx
namespace Go.Proofs.YtmcpeifhapekoaaGreatDoor.Tx
open Go.RowKit Go.Proofs.YtmcpeifhapekoaaGreatDoor.PAll Go.Proofs.YtmcpeifhapekoaaGreatDoorW.PrintWords Go.Proofs.YtmcpeifhapekoaaGreatDoorW.PrintLast
set_option linter.unusedVariables false
set_option linter.unusedSimpArgs false
theorem join_pieces (l:List Lb) (x:Lb):Lib.join ((x :: l).map pieceQ) [44] = pieceQ x ++ l.flatMap (fun x => 44 :: pieceQ x):=by
 rw [List.map_cons,Lib.join_cons]
 unfold Lib.joinTail
 congr 1
 induction l with
 | nil => rfl
 | cons y l ih =>
   simp only [List.map_cons,List.flatten_cons,List.flatMap_cons,List.singleton_append] at ih ⊢
   rw [ih]
theorem braces_text (x:Lb) (l:List Lb):(123 :: (Lib.join ((x :: l).map pieceQ) [44] ++ [125]):B8) = u3l (x :: l):=by
 rw [join_pieces]
 rfl
end Go.Proofs.YtmcpeifhapekoaaGreatDoor.Tx
namespace Go.Proofs.YtmcpeifhapekoaaGreatDoor.Tx
open Go.RowKit Go.Proofs.YtmcpeifhapekoaaGreatDoor.PAll Go.Proofs.YtmcpeifhapekoaaGreatDoorW.PrintWords Go.Proofs.YtmcpeifhapekoaaGreatDoorW.PrintLast
open Go.Proofs.YtmcpeifhapekoaaGreatDoor.Laws (okFrom canB)
set_option linter.unusedVariables false
set_option linter.unusedSimpArgs false
theorem can_each {l:List Lb} (h:canB l = true):1 ≤ l.length ∧ l.length ≤ 8 ∧ ∀ x ∈ l,Base.nameB x.f0 = true ∧ Base.valueB x.f1 = true:=by
 unfold canB at h
 rw [Bool.and_eq_true,Bool.and_eq_true] at h
 refine ⟨of_decide_eq_true h.1.1,of_decide_eq_true h.1.2,?_⟩
 have:∀ (l:List Lb) (last:List UInt8),okFrom last l = true → ∀ x ∈ l,Base.nameB x.f0 = true ∧ Base.valueB x.f1 = true:=fun l => by
  induction l with
  | nil => exact fun _ _ x hx => by cases hx
  | cons y l ih =>
    intro last h x hx
    unfold okFrom at h
    rw [Bool.and_eq_true,Bool.and_eq_true,Bool.and_eq_true] at h
    rcases List.mem_cons.1 hx with rfl | hx
    · exact ⟨h.1.1.1,h.1.1.2⟩
    · exact ih _ h.2 x hx
 exact this _ _ h.2
theorem word_ge {c:UInt8} (h:wordC c = true):35 < c.toNat:=by
 rcases Nat.lt_or_ge 35 c.toNat with h9 | h9
 · exact h9
 · exfalso
   have:∀ n:Fin 36,wordC (UInt8.ofNat n.val) = false:=by decide
   have h8:=this ⟨c.toNat,by omega⟩
   rw [UInt8.ofNat_toNat,h] at h8
   cases h8
def fine (b:B8):Prop:=∀ c ∈ b,32 ≤ c.toNat
theorem fine_app {a b:B8} (ha:fine a) (hb:fine b):fine (a ++ b):=fun c hc => (List.mem_append.1 hc).elim (ha c) (hb c)
theorem fine_cons {c:UInt8} {b:B8} (hc:32 ≤ c.toNat) (hb:fine b):fine (c :: b):=fun x hx => (List.mem_cons.1 hx).elim (fun e => by rw [e];exact hc) (hb x)
theorem fine_nil:fine []:=fun c hc => by cases hc
theorem quote_fine (b:B8) (h:fine b):fine (Base.quoteL b):=by
 unfold Base.quoteL
 refine fine_cons (by decide) (fine_app (fun c hc => ?_) (fine_cons (by decide) fine_nil))
 obtain ⟨x,hx,hc⟩:=List.mem_flatMap.1 hc
 rw [show Base.quoteByte x = if x = 34 ∨ x = 92 then [92,x] else [x] from rfl] at hc
 have:=h x hx
 split at hc
 · simp at hc
   rcases hc with rfl | rfl
   · decide
   · exact this
 · simp at hc
   subst hc
   exact this
theorem quote_len (b:B8):(Base.quoteL b).length ≤ 2 * b.length + 2:=by
 unfold Base.quoteL
 have:(b.flatMap Base.quoteByte).length ≤ 2 * b.length:=by
  induction b with
  | nil => simp
  | cons x b ih =>
    rw [List.flatMap_cons,List.length_append,List.length_cons,show Base.quoteByte x = if x = 34 ∨ x = 92 then [92,x] else [x] from rfl]
    split
    · simp only [List.length_cons,List.length_nil]
      omega
    · simp only [List.length_cons,List.length_nil]
      omega
 simp only [List.length_cons,List.length_append,List.length_nil]
 omega
theorem name_len {s:ByteArray} (h:Base.nameB s = true):1 ≤ s.data.toList.length ∧ s.data.toList.length ≤ 24:=by
 unfold Base.nameB at h
 simp only [Bool.and_eq_true,decide_eq_true_eq] at h
 rw [u2k]
 exact ⟨h.1.1.1,h.1.1.2⟩
theorem value_len {s:ByteArray} (h:Base.valueB s = true):s.data.toList.length ≤ 40:=by
 unfold Base.valueB at h
 simp only [Bool.and_eq_true,decide_eq_true_eq] at h
 rw [u2k]
 exact h.2
theorem name_fine {s:ByteArray} (h:Base.nameB s = true):fine s.data.toList:=fun c hc => by
 have:=word_ge (all_word h c hc)
 omega
theorem piece_fine {x:Lb} (h0:Base.nameB x.f0 = true) (h1:Base.valueB x.f1 = true):fine (pieceQ x) :=
 fine_app (name_fine h0) (fine_cons (by decide) (quote_fine _ (value_bytes h1)))
theorem piece_len {x:Lb} (h0:Base.nameB x.f0 = true) (h1:Base.valueB x.f1 = true):(pieceQ x).length ≤ 107:=by
 have a:=(name_len h0).2
 have b:=value_len h1
 have c:=quote_len x.f1.data.toList
 unfold pieceQ
 rw [List.length_append,List.length_cons]
 omega
theorem braces_fine:∀ (l:List Lb),(∀ x ∈ l,Base.nameB x.f0 = true ∧ Base.valueB x.f1 = true) → fine (u3l l)
 | [],_ => fine_nil
 | x :: l,h => by
   have hx:=h x (List.mem_cons_self ..)
   refine fine_app (fine_cons (by decide) (fine_app (piece_fine hx.1 hx.2) fun c hc => ?_)) (fine_cons (by decide) fine_nil)
   obtain ⟨y,hy,hc⟩:=List.mem_flatMap.1 hc
   have:=h y (List.mem_cons_of_mem _ hy)
   exact fine_cons (by decide) (piece_fine this.1 this.2) c hc
theorem braces_len (l:List Lb) (h:∀ x ∈ l,Base.nameB x.f0 = true ∧ Base.valueB x.f1 = true):(u3l l).length ≤ 108 * l.length + 1:=by
 cases l with
 | nil => simp [u3l]
 | cons x l =>
   have hx:=h x (List.mem_cons_self ..)
   have h1:=piece_len hx.1 hx.2
   have h2:(l.flatMap fun x => 44 :: pieceQ x).length ≤ 108 * l.length:=by
    have hl:∀ y ∈ l,Base.nameB y.f0 = true ∧ Base.valueB y.f1 = true:=fun y hy => h y (List.mem_cons_of_mem _ hy)
    clear h hx h1
    induction l with
    | nil => simp
    | cons y l ih =>
      have hy:=hl y (List.mem_cons_self ..)
      have:=piece_len hy.1 hy.2
      have:=ih (fun z hz => hl z (List.mem_cons_of_mem _ hz))
      rw [List.flatMap_cons,List.length_append,List.length_cons,List.length_cons]
      omega
   simp only [u3l,List.length_append,List.length_cons,List.length_nil]
   omega
theorem dec_fine (n:Nat):fine (decN n):=fun c hc => by
 have:=decN_all n c hc
 unfold decC at this
 simp only [Bool.and_eq_true,decide_eq_true_eq] at this
 omega
theorem sign_fine (x:Int):fine (signL x):=by
 unfold signL
 split
 · exact fine_cons (by decide) (dec_fine _)
 · exact dec_fine _
theorem sign_len (x:Int) (h0 : -9223372036854775808 ≤ x) (h1:x < 9223372036854775808):(signL x).length ≤ 20:=by
 unfold signL
 split
 · have:=(decN_len 18 (-x).toNat (by have:(10:Nat) ^ (18 + 1) = 10000000000000000000:=rfl
                                     omega)).2
   rw [List.length_cons]
   omega
 · have:=(decN_len 18 x.toNat (by have:(10:Nat) ^ (18 + 1) = 10000000000000000000:=rfl
                                  omega)).2
   omega
theorem no_line {b:B8} (h:fine b):b.contains 10 = false:=by
 rw [List.contains_eq_mem,decide_eq_false]
 intro hm
 exact absurd (h 10 hm) (by decide)
theorem read_sample (can:List Lb → Bool) (b:B8) (now:Int) (r:Rw) (hl:b.length ≤ 1000) (hf:fine b) (c:UInt8) (t:B8) (hb:b = c :: t) (hc:35 < c.toNat) (hs:sampleP can b now = some r):readP can b now = (some r,me0,0):=by
 unfold readP
 rw [if_neg (by omega),no_line hf,if_neg (by decide)]
 have hbl:b.all blankC = false:=by
  rw [hb,List.all_cons]
  have:blankC c = false:=by
   unfold blankC
   rw [decide_eq_false,decide_eq_false]
   · rfl
   · rintro rfl
     exact absurd hc (by decide)
   · rintro rfl
     exact absurd hc (by decide)
  rw [this,Bool.false_and]
 split
 · injection hb with hb
   rw [← hb] at hc
   exact absurd hc (by decide)
 · rw [hbl,if_neg (by decide),hs]
def u3p (l:List Lb):ByteArray:=match l.find? (fun x => x.f0 = metric) with
 | none => Base.ofL []
 | some x => x.f1
def endL (r:Rw):B8:=32 :: (decN r.f2.toNat ++ 32 :: signL r.f1)
def rowL (r:Rw):B8:=if Base.nameB (u3p r.f0) = true then (u3p r.f0).data.toList ++ (u3l (r.f0.filter fun x => x.f0 ≠ metric) ++ endL r) else u3l r.f0 ++ endL r
theorem find_perm (l:List Lb) (hn:(l.map (·.f0)).Nodup) (h:Base.nameB (u3p l) = true):((⟨metric,u3p l⟩:Lb) :: l.filter fun x => x.f0 ≠ metric).Perm l:=by
 induction l with
 | nil =>
   exfalso
   have:u3p [] = Base.ofL []:=rfl
   rw [this] at h
   revert h
   decide
 | cons y l ih =>
   rw [List.map_cons,List.nodup_cons] at hn
   by_cases hy:y.f0 = metric
   · have e:u3p (y :: l) = y.f1:=by
      unfold u3p
      rw [List.find?_cons_of_pos (by simpa using hy)]
     have hf:(y :: l).filter (fun x => x.f0 ≠ metric) = l:=by
      rw [List.filter_cons_of_neg (by simpa using hy),List.filter_eq_self]
      intro x hx
      have:x.f0 ≠ metric:=fun e => hn.1 (List.mem_map.2 ⟨x,hx,by rw [e,hy]⟩)
      simpa using this
     rw [e,hf,← hy]
   · have e:u3p (y :: l) = u3p l:=by
      unfold u3p
      rw [List.find?_cons_of_neg (by simpa using hy)]
     rw [e] at h ⊢
     rw [List.filter_cons_of_pos (by simpa using hy)]
     exact (List.Perm.swap _ _ _).trans ((ih hn.2 h).cons y)
theorem row_back (r:Rw) (now:Int) (hc:canB r.f0 = true) (h0 : -9223372036854775808 ≤ r.f1) (h1:r.f1 < 9223372036854775808) (h2:0 ≤ r.f2) (h3:r.f2 ≤ 18446744073709551615):readP canB (rowL r) now = (some r,me0,0) ∧ fine (rowL r) ∧ (rowL r).length ≤ 1000:=by
 obtain ⟨g1,g2,g3⟩:=can_each hc
 have hnd:=(can_names hc).2.2
 have hef:fine (endL r):=fine_cons (by decide) (fine_app (dec_fine _) (fine_cons (by decide) (sign_fine _)))
 have hel:(endL r).length ≤ 42:=by
  have a:=(decN_len 19 r.f2.toNat (by omega)).2
  have b:=sign_len r.f1 h0 h1
  unfold endL
  simp only [List.length_append,List.length_cons]
  omega
 have hend:endP (endL r) now = some (r.f1,r.f2):=by
  have:=end_back r.f2.toNat r.f1 now (by omega) h0 h1
  rw [show ((r.f2.toNat:Nat):Int) = r.f2 by omega] at this
  exact this
 have hrow:(⟨r.f0,r.f1,r.f2⟩:Rw) = r:=rfl
 unfold rowL
 by_cases hn:Base.nameB (u3p r.f0) = true
 · rw [if_pos hn]
   have hp:=find_perm r.f0 hnd hn
   obtain ⟨o,ho⟩:∃ o,o = r.f0.filter fun x => x.f0 ≠ metric:=⟨_,rfl⟩
   rw [← ho] at hp ⊢
   have hof:∀ y ∈ o,Base.nameB y.f0 = true ∧ Base.valueB y.f1 = true:=fun y hy => g3 y (by rw [ho] at hy;exact (List.mem_filter.1 hy).1)
   have hol:o.length ≤ 7:=by
    have:=hp.length_eq
    rw [List.length_cons] at this
    omega
   have hbl:=braces_len o hof
   have hnl:=name_len hn
   have hfine:fine ((u3p r.f0).data.toList ++ (u3l o ++ endL r)):=fine_app (name_fine hn) (fine_app (braces_fine o hof) hef)
   have hlen:((u3p r.f0).data.toList ++ (u3l o ++ endL r)).length ≤ 1000:=by
    rw [List.length_append,List.length_append]
    omega
   obtain ⟨c,t,hct⟩:∃ c t,(u3p r.f0).data.toList = c :: t:=by
    cases h:(u3p r.f0).data.toList with
    | nil => rw [h] at hnl;simp at hnl
    | cons c t => exact ⟨c,t,rfl⟩
   refine ⟨read_sample _ _ _ _ hlen hfine c (t ++ (u3l o ++ endL r)) (by rw [hct];rfl) (word_ge (all_word hn c (by rw [hct];exact List.mem_cons_self ..))) ?_,hfine,hlen⟩
   unfold sampleP
   rw [labs_name (u3p r.f0) o (endL r) hn (fun y hy => (hof y hy).1) (by omega) (by unfold endL;simp only [List.head?_cons,Option.all_some];decide) (fun _ => by unfold endL;simp)]
   simp only [Option.bind_some]
   rw [sort_back r.f0 _ hc hp,if_pos hc,hend]
   rfl
 · rw [if_neg hn]
   cases hl:r.f0 with
   | nil => rw [hl] at g1;simp at g1
   | cons x m =>
     rw [hl] at hc g3 g2
     have hbl:=braces_len (x :: m) g3
     have hfine:fine (u3l (x :: m) ++ endL r):=fine_app (braces_fine _ g3) hef
     have hlen:(u3l (x :: m) ++ endL r).length ≤ 1000:=by
      rw [List.length_append]
      omega
     refine ⟨read_sample _ _ _ _ hlen hfine 123 (pieceQ x ++ m.flatMap (fun x => 44 :: pieceQ x) ++ [125] ++ endL r) (by simp [u3l]) (by decide) ?_,hfine,hlen⟩
     unfold sampleP
     rw [labs_braces x m _ (fun y hy => (g3 y hy).1) (by rw [List.length_cons] at g2;omega)]
     simp only [Option.bind_some]
     rw [sort_back (x :: m) _ hc (List.Perm.refl _),if_pos hc,hend]
     simp only [Option.map_some]
     rw [← hl]
theorem part_cut (s t:B8) (h:s.contains 10 = false):partL (s ++ 10 :: t) = s ∧ restL (s ++ 10 :: t) = t:=by
 unfold partL restL
 induction s with
 | nil => simp
 | cons c s ih =>
   rw [List.contains_cons,Bool.or_eq_false_iff] at h
   obtain ⟨h1,h2⟩:=ih h.2
   have hc:(c != 10) = true:=by
    have:=h.1
    simp at this
    simpa using fun e:c = 10 => this e.symm
   simp only [List.cons_append,List.takeWhile_cons,List.dropWhile_cons,hc,if_true,h1,h2,and_self]
def stepsP (can:List Lb → Bool) (now:Int):Int → List Rw → List Me → List B8 → List Rw × List Me × Int × Int
 | _,rows,book,[] => (rows,book,0,0)
 | line,rows,book,s :: ls =>
   let x:=readP can s now
   let e:=if x.1.isSome = true ∧ rows.length = 10000 then 4 else x.2.2
   if e ≠ 0 then ([],[],e,line) else stepsP can now (line + 1) (rows ++ x.1.toList) (if x.2.1.1 = Base.ofL [] then book else noteP x.2.1 (helpW.isPrefixOf s) book) ls
theorem parse_lines (can:List Lb → Bool) (now:Int):∀ (ls:List B8) (n:Nat) (line:Int) (rows:List Rw) (book:List Me),(∀ s ∈ ls,s.contains 10 = false) → ls.length < n →
 parseP can now n line rows book (ls.flatMap fun s => s ++ [10]) = stepsP can now line rows book ls
 | [],n + 1,line,rows,book,_,_ => by simp [parseP,stepsP]
 | [],0,line,rows,book,_,h => by simp at h
 | s :: ls,0,line,rows,book,_,h => by simp at h
 | s :: ls,n + 1,line,rows,book,hs,hn => by
   have e:(s :: ls).flatMap (fun s => s ++ [10]) = s ++ 10 :: ls.flatMap (fun s => s ++ [10]):=by simp
   obtain ⟨h1,h2⟩:=part_cut s (ls.flatMap fun s => s ++ [10]) (hs s (List.mem_cons_self ..))
   have ih:=fun line rows book => parse_lines can now ls n line rows book (fun t ht => hs t (List.mem_cons_of_mem _ ht)) (by rw [List.length_cons] at hn;omega)
   rw [e]
   unfold parseP stepsP
   rw [if_neg (by simp),h1,h2]
   simp only [ih]
theorem steps_app (can:List Lb → Bool) (now:Int):∀ (l m:List B8) (line:Int) (rows:List Rw) (book:List Me) (rows':List Rw) (book':List Me),stepsP can now line rows book l = (rows',book',0,0) →
 stepsP can now line rows book (l ++ m) = stepsP can now (line + l.length) rows' book' m
 | [],m,line,rows,book,rows',book',h => by
   simp only [stepsP,Prod.mk.injEq,and_true] at h
   rw [h.1,h.2]
   simp
 | s :: l,m,line,rows,book,rows',book',h => by
   rw [List.cons_append]
   unfold stepsP at h
   conv => lhs;unfold stepsP
   simp only at h ⊢
   generalize (if (readP can s now).1.isSome = true ∧ rows.length = 10000 then (4:Int) else (readP can s now).2.2) = e at h ⊢
   by_cases h9:e ≠ 0
   · rw [if_pos h9] at h
     simp only [Prod.mk.injEq] at h
     exact absurd h.2.2.1 h9
   · rw [if_neg h9] at h ⊢
     rw [steps_app can now l m _ _ _ rows' book' h,show line + ((s :: l).length:Int) = line + 1 + (l.length:Int) by rw [List.length_cons];omega]
def okRow (r:Rw):Prop:=canB r.f0 = true ∧ -9223372036854775808 ≤ r.f1 ∧ r.f1 < 9223372036854775808 ∧ 0 ≤ r.f2 ∧ r.f2 ≤ 18446744073709551615
theorem steps_rows (now:Int):∀ (l:List Rw) (line:Int) (rows:List Rw) (book:List Me),(∀ r ∈ l,okRow r) → rows.length + l.length ≤ 10000 → stepsP canB now line rows book (l.map rowL) = (rows ++ l,book,0,0)
 | [],line,rows,book,_,_ => by simp [stepsP]
 | r :: l,line,rows,book,h,hn => by
   obtain ⟨h1,h2,h3,h4,h5⟩:=h r (List.mem_cons_self ..)
   rw [List.length_cons] at hn
   rw [List.map_cons]
   unfold stepsP
   rw [(row_back r now h1 h2 h3 h4 h5).1]
   simp only [Option.isSome_some,true_and]
   rw [if_neg (show ¬ rows.length = 10000 by omega),if_neg (by decide),if_pos (show me0.1 = Base.ofL [] from rfl),steps_rows now l _ _ _ (fun x hx => h x (List.mem_cons_of_mem _ hx)) (by simp;omega)]
   simp
def okMe (m:Me):Prop:=Base.nameB m.1 = true ∧ (m.2.1 = Base.ofL [] ∨ knownL m.2.1.data.toList = true) ∧ plainL m.2.2.data.toList = true ∧ m.2.2.data.toList.length ≤ 900
def helpLine (m:Me):B8:=helpW ++ (m.1.data.toList ++ 32 :: m.2.2.data.toList)
def typeLine (m:Me):B8:=typeW ++ (m.1.data.toList ++ 32 :: m.2.1.data.toList)
def metaLines (m:Me):List B8:=(if m.2.2 ≠ Base.ofL [] then [helpLine m] else []) ++ (if m.2.1 ≠ Base.ofL [] then [typeLine m] else [])
theorem name_back (n:ByteArray) (h:Base.nameB n = true) (t:B8):nameP (n.data.toList ++ 32 :: t) = some (n,32 :: t):=by
 obtain ⟨h1,h2⟩:=take_word n.data.toList (all_word h) 32 (by decide) t
 unfold nameP
 rw [h1,h2,Base.ofL_of,if_pos h]
theorem known_fine {b:B8} (h:knownL b = true):fine b ∧ b.length ≤ 9:=by
 unfold knownL kinds at h
 simp only [List.contains_eq_mem,List.mem_cons,List.not_mem_nil,or_false,decide_eq_true_eq] at h
 rcases h with rfl | rfl | rfl | rfl | rfl <;> exact ⟨by unfold fine;decide,by decide⟩
theorem read_remark (can:List Lb → Bool) (b:B8) (now:Int) (t:B8) (hb:b = 35 :: t) (m:Me) (hl:b.length ≤ 1000) (hf:fine b) (hs:remarkP b = some m):readP can b now = (none,m,0):=by
 unfold readP
 rw [if_neg (by omega),no_line hf,if_neg (by decide)]
 subst hb
 simp only [hs]
theorem help_back (m:Me) (now:Int) (h:okMe m):readP canB (helpLine m) now = (none,(m.1,Base.ofL [],m.2.2),0) ∧ fine (helpLine m):=by
 obtain ⟨h1,h2,h3,h4⟩:=h
 have hp:fine m.2.2.data.toList:=fun c hc => by
  unfold plainL at h3
  exact of_decide_eq_true (List.all_eq_true.1 h3 c hc)
 have hf:fine (helpLine m):=fine_app (by unfold fine helpW;decide) (fine_app (name_fine h1) (fine_cons (by decide) hp))
 have hl:(helpLine m).length ≤ 1000:=by
  have:=name_len h1
  unfold helpLine
  rw [List.length_append,List.length_append,List.length_cons,show helpW.length = 7 from rfl]
  omega
 refine ⟨read_remark canB (helpLine m) now ([32,72,69,76,80,32] ++ (m.1.data.toList ++ 32 :: m.2.2.data.toList)) rfl _ hl hf ?_,hf⟩
 unfold remarkP
 have e1:helpW.isPrefixOf (helpLine m) = true:=by simp [helpLine,helpW,List.isPrefixOf]
 have e2:typeW.isPrefixOf (helpLine m) = false:=by simp [helpLine,helpW,typeW,List.isPrefixOf]
 have e3:(helpLine m).drop 7 = m.1.data.toList ++ 32 :: m.2.2.data.toList:=rfl
 rw [e1,e2,e3,if_pos (by decide),name_back _ h1]
 simp only [Option.bind_some,expect_cons,if_pos,if_neg Bool.false_ne_true]
 rw [if_pos h3,Base.ofL_of]
theorem type_back (m:Me) (now:Int) (h:okMe m) (hk:m.2.1 ≠ Base.ofL []):readP canB (typeLine m) now = (none,(m.1,m.2.1,Base.ofL []),0) ∧ fine (typeLine m):=by
 obtain ⟨h1,h2,h3,h4⟩:=h
 have hk2:knownL m.2.1.data.toList = true:=h2.resolve_left hk
 obtain ⟨hp,hkl⟩:=known_fine hk2
 have hf:fine (typeLine m):=fine_app (by unfold fine typeW;decide) (fine_app (name_fine h1) (fine_cons (by decide) hp))
 have hl:(typeLine m).length ≤ 1000:=by
  have:=name_len h1
  unfold typeLine
  rw [List.length_append,List.length_append,List.length_cons,show typeW.length = 7 from rfl]
  omega
 refine ⟨read_remark canB (typeLine m) now ([32,84,89,80,69,32] ++ (m.1.data.toList ++ 32 :: m.2.1.data.toList)) rfl _ hl hf ?_,hf⟩
 unfold remarkP
 have e2:typeW.isPrefixOf (typeLine m) = true:=by simp [typeLine,typeW,List.isPrefixOf]
 have e3:(typeLine m).drop 7 = m.1.data.toList ++ 32 :: m.2.1.data.toList:=rfl
 rw [e2,e3,if_pos (by simp),name_back _ h1]
 simp only [Option.bind_some,expect_cons,if_pos]
 rw [if_pos hk2,Base.ofL_of]
theorem note_names (m:Me) (b:Bool):∀ (l:List Me) (x:Me),x ∈ noteP m b l → x.1 = m.1 ∨ ∃ y ∈ l,y.1 = x.1
 | [],x,h => by
   left
   simp [noteP] at h
   rw [h]
 | y :: l,x,h => by
   unfold noteP at h
   by_cases hy:y.1 = m.1
   · rw [if_pos hy] at h
     rcases List.mem_cons.1 h with h | h
     · left
       split at h <;> (rw [h];exact hy)
     · exact Or.inr ⟨x,List.mem_cons_of_mem _ h,rfl⟩
   · rw [if_neg hy] at h
     rcases List.mem_cons.1 h with h | h
     · exact Or.inr ⟨y,List.mem_cons_self ..,by rw [h]⟩
     · rcases note_names m b l x h with h | ⟨z,hz,e⟩
       · exact Or.inl h
       · exact Or.inr ⟨z,List.mem_cons_of_mem _ hz,e⟩
theorem name_ne {n:ByteArray} (h:Base.nameB n = true):¬ n = Base.ofL []:=by
 rintro rfl
 revert h
 decide
theorem steps_one (now:Int) (s:B8) (m:Me) (ls:List B8) (line:Int) (rows:List Rw) (book:List Me) (h:readP canB s now = (none,m,0)) (hn:Base.nameB m.1 = true) :
 stepsP canB now line rows book (s :: ls) = stepsP canB now (line + 1) rows (noteP m (helpW.isPrefixOf s) book) ls:=by
 conv => lhs;unfold stepsP
 rw [h]
 simp only [Option.isSome_none,Bool.false_eq_true,false_and,if_false,ne_eq,not_true_eq_false,Option.toList_none,List.append_nil]
 rw [if_neg (name_ne hn)]
theorem steps_metas (now:Int):∀ (l:List Me) (line:Int) (rows:List Rw) (book:List Me),(∀ m ∈ l,okMe m) → ∃ book',stepsP canB now line rows book (l.flatMap metaLines) = (rows,book',0,0) ∧ ∀ x ∈ book',(∃ y ∈ book,y.1 = x.1) ∨ ∃ y ∈ l,y.1 = x.1
 | [],line,rows,book,_ => ⟨book,rfl,fun x hx => Or.inl ⟨x,hx,rfl⟩⟩
 | m :: l,line,rows,book,h => by
   have hm:=h m (List.mem_cons_self ..)
   rw [List.flatMap_cons]
   have key:∃ book1 line1,stepsP canB now line rows book (metaLines m ++ l.flatMap metaLines) = stepsP canB now line1 rows book1 (l.flatMap metaLines) ∧ ∀ x ∈ book1,(∃ y ∈ book,y.1 = x.1) ∨ x.1 = m.1:=by
    unfold metaLines
    have two:∀ (line:Int) (book:List Me),∃ book1 line1,stepsP canB now line rows book ((if m.2.1 ≠ Base.ofL [] then [typeLine m] else []) ++ l.flatMap metaLines) = stepsP canB now line1 rows book1 (l.flatMap metaLines) ∧ ∀ x ∈ book1,(∃ y ∈ book,y.1 = x.1) ∨ x.1 = m.1:=by
     intro line book
     by_cases hk:m.2.1 ≠ Base.ofL []
     · rw [if_pos hk,List.singleton_append,steps_one now _ _ _ _ _ _ (type_back m now hm hk).1 hm.1]
       refine ⟨_,_,rfl,fun x hx => ?_⟩
       rcases note_names _ _ _ _ hx with h | ⟨y,hy,e⟩
       · exact Or.inr h
       · exact Or.inl ⟨y,hy,e⟩
     · rw [if_neg hk,List.nil_append]
       exact ⟨book,line,rfl,fun x hx => Or.inl ⟨x,hx,rfl⟩⟩
    by_cases hh:m.2.2 ≠ Base.ofL []
    · rw [if_pos hh,List.append_assoc,List.singleton_append,steps_one now _ _ _ _ _ _ (help_back m now hm).1 hm.1]
      obtain ⟨b1,l1,e,g⟩:=two (line + 1) (noteP (m.1,Base.ofL [],m.2.2) (helpW.isPrefixOf (helpLine m)) book)
      refine ⟨b1,l1,e,fun x hx => ?_⟩
      rcases g x hx with ⟨y,hy,e⟩ | e
      · rcases note_names _ _ _ _ hy with h | ⟨z,hz,e2⟩
        · exact Or.inr (e.symm.trans h)
        · exact Or.inl ⟨z,hz,e2.trans e⟩
      · exact Or.inr e
    · rw [if_neg hh,List.nil_append]
      exact two line book
   obtain ⟨book1,line1,e,g⟩:=key
   obtain ⟨book',e2,g2⟩:=steps_metas now l line1 rows book1 (fun x hx => h x (List.mem_cons_of_mem _ hx))
   refine ⟨book',e.trans e2,fun x hx => ?_⟩
   rcases g2 x hx with ⟨y,hy,e3⟩ | ⟨y,hy,e3⟩
   · rcases g y hy with ⟨z,hz,e4⟩ | e4
     · exact Or.inl ⟨z,hz,e4.trans e3⟩
     · exact Or.inr ⟨m,List.mem_cons_self ..,e4.symm.trans e3⟩
   · exact Or.inr ⟨y,List.mem_cons_of_mem _ hy,e3⟩
def printP (l:List Rw) (m:List Me):B8:=(m.flatMap metaLines ++ l.map rowL).flatMap fun s => s ++ [10]
theorem print_back (l:List Rw) (m:List Me) (now:Int) (hl:∀ r ∈ l,okRow r) (hm:∀ x ∈ m,okMe x) (hn:l.length ≤ 40) (n:Nat) (hf:(printP l m).length < n) :
 ∃ book,parseP canB now n 1 [] [] (printP l m) = (l,book,0,0) ∧ ∀ x ∈ book,∃ y ∈ m,y.1 = x.1:=by
 have hnl:∀ s ∈ m.flatMap metaLines ++ l.map rowL,s.contains 10 = false:=by
  intro s hs
  rcases List.mem_append.1 hs with hs | hs
  · obtain ⟨x,hx,hs⟩:=List.mem_flatMap.1 hs
    unfold metaLines at hs
    rcases List.mem_append.1 hs with hs | hs
    · split at hs
      · rw [List.mem_singleton] at hs
        rw [hs]
        exact no_line (help_back x now (hm x hx)).2
      · cases hs
    · split at hs
      · rename_i hk
        rw [List.mem_singleton] at hs
        rw [hs]
        exact no_line (type_back x now (hm x hx) hk).2
      · cases hs
  · obtain ⟨r,hr,rfl⟩:=List.mem_map.1 hs
    obtain ⟨h1,h2,h3,h4,h5⟩:=hl r hr
    exact no_line (row_back r now h1 h2 h3 h4 h5).2.1
 have hlen:∀ ls:List B8,ls.length ≤ (ls.flatMap fun s => s ++ [10]).length:=fun ls => by
  induction ls with
  | nil => exact Nat.zero_le _
  | cons s ls ih =>
    rw [List.flatMap_cons,List.length_append,List.length_append,List.length_cons,List.length_singleton]
    omega
 have h9:=hlen (m.flatMap metaLines ++ l.map rowL)
 unfold printP at hf ⊢
 rw [parse_lines canB now _ n 1 [] [] hnl (by omega)]
 obtain ⟨book,e,g⟩:=steps_metas now m 1 [] [] hm
 refine ⟨book,?_,fun x hx => ?_⟩
 · rw [steps_app canB now _ _ _ _ _ _ _ e,steps_rows now l _ _ _ hl (by simp;omega)]
   rfl
 · rcases g x hx with ⟨y,hy,_⟩ | h
   · cases hy
   · exact h
end Go.Proofs.YtmcpeifhapekoaaGreatDoor.Tx
namespace Go.Proofs.YtmcpeifhapekoaaGreatDoor.PAll
open Go.RowKit Go.Proofs.YtmcpeifhapekoaaGreatDoorW.PrintWords Go.Proofs.YtmcpeifhapekoaaGreatDoorW.PrintLast Go.Proofs.YtmcpeifhapekoaaGreatDoorW.PrintMore
attribute [local go_sem] max2_int min2_int max_two min_two max_three min_three max_four min_four
set_option linter.unusedVariables false
set_option linter.unusedSimpArgs false
structure uc.Mid (w0 W wx:World) (g:Nat) (v:Value) (l:List Tx.Lb) (s:List UInt8):Prop where
 row:Kd.R k66 66 wx W.heap.size (fun k => k ≠ g ∧ k ≠ W.heap.size) v l
 st:ua.St w0 wx g s
 keep:u1v W wx g none
 res:wx.heap[W.heap.size]? = some (.cells #[.slice none 0 0,.int .i64 0,.int .u64 0] 53 (0,0))
 lt:g < W.heap.size
theorem uc.Mid.scan {w0 W wx w':World} {g:Nat} {v:Value} {l:List Tx.Lb} {s s':List UInt8} (h:uc.Mid w0 W wx g v l s) (hs:ua.St w0 w' g s') (hk:u1v wx w' g none):uc.Mid w0 W w' g v l s' :=
 ⟨Kd.R_keep h.row hk (fun _ hk => hk.1),hs,ua.keep_then h.keep hk,ua.kept_at hk (by have:=h.lt;omega) h.res,h.lt⟩
theorem uc.Mid.more {w0 W wx w':World} {g:Nat} {v:Value} {l:List Tx.Lb} {s:List UInt8} (h:uc.Mid w0 W wx g v l s) (hb:Below wx.heap.size wx w'):uc.Mid w0 W w' g v l s:=h.scan (h.st.more hb) (u1v.of_below hb g none)
theorem uc.Mid.drew {w0 W wx:World} {g:Nat} {v:Value} {l:List Tx.Lb} {s:List UInt8} (h:uc.Mid w0 W wx g v l s) (n:Nat):uc.Mid w0 W (wx.drewN n) g v l s:=h.more (ub (Below.refl _ _) n)
theorem uc.Mid.own {w0 W wx:World} {g:Nat} {v:Value} {l:List Tx.Lb} {s:List UInt8} (h:uc.Mid w0 W wx g v l s):∀ b,v.ownBlock = some b → b ≠ g ∧ b ≠ W.heap.size ∧ W.heap.size ≤ b ∧ w0.heap.size ≤ b:=fun b hb =>
 ⟨(h.row.1 b hb).1,(h.row.1 b hb).2,Kd.R_base h.row b hb,Nat.le_trans (Nat.le_trans h.st.base (Nat.le_of_lt h.lt)) (Kd.R_base h.row b hb)⟩
theorem uc.Mid.app {w0 W wx w1:World} {g:Nat} {v v1:Value} {l l1:List Tx.Lb} {s:List UInt8} (h:uc.Mid w0 W wx g v l s) (hg:wx.grownBy w1 v.ownBlock) (hr:Kd.R k66 66 w1 W.heap.size (fun k => k ≠ g ∧ k ≠ W.heap.size) v1 l1):uc.Mid w0 W w1 g v1 l1 s :=
 ⟨hr,uk.grown_st h.st (fun b hb => ⟨(h.own b hb).1,(h.own b hb).2.2.2⟩) hg,uk.grown_keep h.keep (fun b hb => (h.own b hb).2.2.1) hg,u3g h.res hg (fun e => (h.own _ e.symm).2.1 rfl),h.lt⟩
theorem uc.Mid.start {w0 W:World} {g:Nat} {s:List UInt8} (h:ua.St w0 W g s):uc.Mid w0 W (W.alloc (.cells #[.slice none 0 0,.int .i64 0,.int .u64 0] 53)) g (.slice none 0 0) [] s :=
 ⟨Kd.R_nil _ _ _ _ _,h.one_more _,keep_alloc (u1v.refl _ _ _) _,ua.new_at W _,h.lt⟩
def uc.hd (s:List UInt8):Bool:=match s with
 | [] => false
 | c :: _ => Tx.wordC c
theorem uc.named_at (s:List UInt8) (z:Int) (hz:ua.pk s = z) (W:World):Calls Tryz.prog 91 #[.int .u8 z] W fun e W' => e = .returned (.bool (uc.hd s)) ∧ u1b W W':=by
 subst hz
 cases s with
 | nil => exact text_named.calls _ _ _ (by decide)
 | cons c r => exact u1g.test_named c _ rfl W
theorem uc.head_is (s:List UInt8):Tx.headP s = if uc.hd s = true then (Tx.nameP s).map fun p => ([⟨Tx.metric,p.1⟩],p.2) else some ([],s):=by
 cases s with
 | nil => rfl
 | cons c r => rfl
theorem uc.rest_is (l:List Tx.Lb) (s:List UInt8):((∃ u,s = 123 :: u) ∧ Tx.restP l s = (Tx.bracesP s).map fun q => (l ++ q.1,q.2)) ∨ ((∀ u,s ≠ 123 :: u) ∧ Tx.restP l s = some (l,s)):=by
 by_cases h:∃ u,s = 123 :: u
 · obtain ⟨u,rfl⟩:=h
   exact Or.inl ⟨⟨u,rfl⟩,rfl⟩
 · refine Or.inr ⟨fun u e => h ⟨u,e⟩,?_⟩
   unfold Tx.restP
   split
   · exact absurd ⟨_,rfl⟩ h
   · rfl
theorem uc.labels_len:∀ (n:Nat) (acc:List Tx.Lb) (s:List UInt8) (l:List Tx.Lb) (r:List UInt8),acc.length ≤ 9 → Tx.labelsP n acc s = some (l,r) → l.length ≤ 9 ∧ r.length ≤ s.length
 | 0,acc,s,l,r,_,h => by cases h
 | n + 1,acc,s,l,r,ha,h => by
   unfold Tx.labelsP at h
   split at h
   · split at h
     · rename_i h8
       obtain ⟨⟨x,t⟩,hx,h⟩:=Option.bind_eq_some_iff.1 h
       have h1:=uk.label_rest hx
       obtain ⟨h2,h3⟩:=uc.labels_len n _ t l r (by rw [List.length_append,List.length_singleton];omega) h
       exact ⟨h2,by rw [List.length_cons];omega⟩
     · cases h
   · obtain ⟨rfl,rfl⟩:=Prod.mk.inj (Option.some.inj h)
     exact ⟨ha,Nat.le_refl _⟩
theorem uc.braces_len {s r:List UInt8} {l:List Tx.Lb} (h:Tx.bracesP s = some (l,r)):l.length ≤ 9 ∧ r.length ≤ s.length:=by
 unfold Tx.bracesP at h
 obtain ⟨q,hq,h⟩:=Option.bind_eq_some_iff.1 h
 obtain ⟨⟨x,t⟩,hx,h⟩:=Option.bind_eq_some_iff.1 h
 obtain ⟨⟨l2,t2⟩,hl,h⟩:=Option.bind_eq_some_iff.1 h
 obtain ⟨t3,ht,h⟩:=Option.map_eq_some_iff.1 h
 obtain ⟨rfl,rfl⟩:=Prod.mk.inj h
 have h1:=(u1m.expect_is 123 s).1 q hq
 have h2:=(u1m.expect_is 125 t2).1 t3 ht
 have h3:=uk.label_rest hx
 obtain ⟨h4,h5⟩:=uc.labels_len _ _ t l2 t2 (by simp) hl
 refine ⟨h4,?_⟩
 rw [h1,List.length_cons]
 rw [h2,List.length_cons] at h5
 omega
theorem uc.br_no (w0 W:World) (g:Nat) (s:List UInt8) (hl:s.length ≤ 1000) (hq:Tx.bracesP s = none) (h:ua.St w0 W g s):Calls Tryz.prog 92 #[.pointer (some ⟨g,0,none⟩)] W fun e W' => e = .panicked (u2q.chain 280) ∧ Below w0.heap.size w0 W' :=
 (uk.calls w0 W g s hl h).mono fun e W' ho => by rw [hq] at ho;exact ho
theorem uc.br_ok (w0 W:World) (g:Nat) (s:List UInt8) (hl:s.length ≤ 1000) (l:List Tx.Lb) (r:List UInt8) (hq:Tx.bracesP s = some (l,r)) (h:ua.St w0 W g s):Calls Tryz.prog 92 #[.pointer (some ⟨g,0,none⟩)] W fun e W' => ∃ A c,e = .returned (.slice A l.length c) ∧ Kd.R k66 66 W' W.heap.size (fun k => k ≠ g) (.slice A l.length c) l ∧ ua.St w0 W' g r ∧ u1v W W' g none :=
 (uk.calls w0 W g s hl h).mono fun e W' ho => by
   rw [hq] at ho
   obtain ⟨v,rfl,h1,h2,h3⟩:=ho
   obtain ⟨A,c,rfl⟩:=Kd.R_slice h1
   exact ⟨A,c,rfl,h1,h2,h3⟩
theorem uc.Mid.new {w0 W wx:World} {g:Nat} {v:Value} {l:List Tx.Lb} {s:List UInt8} (h:uc.Mid w0 W wx g v l s) (o:Obj):uc.Mid w0 W (wx.alloc o) g v l s:=h.more (Below.alloc (Below.refl _ _) (Nat.le_refl _) o)
theorem uc.Mid.set {w0 W wx:World} {g:Nat} {v:Value} {l:List Tx.Lb} {s:List UInt8} (h:uc.Mid w0 W wx g v l s) (b i:Nat) (u:Value) (h1:b ≠ g) (h2:b ≠ W.heap.size) (h3:W.heap.size ≤ b) (hne:some b ≠ v.ownBlock):uc.Mid w0 W (wx.setCell ⟨b,i,none⟩ u) g v l s :=
 ⟨Kd.R_mono (Kd.R_far (p:=⟨b,i,none⟩) (Kd.R_far1 h.row rfl hne) (fun k hk => hk.2) u) (fun k hk => hk.1),h.st.far (p:=⟨b,i,none⟩) (Nat.le_trans (Nat.le_trans h.st.base (Nat.le_of_lt h.lt)) h3) (fun e => h1 e.symm) u,ua.keep_new h.keep (p:=⟨b,i,none⟩) h3 u,blk_far h.res (p:=⟨b,i,none⟩) (fun e => h2 e.symm) u,h.lt⟩
theorem uc.look3 {W:World} {b t:Nat} {u v x:Value} (h:W.heap[b]? = some (.cells #[u,v,x] t (0,0))):(W.cell? ⟨b,0,none⟩ = some u ∧ W.cell? ⟨b,1,none⟩ = some v ∧ W.cell? ⟨b,2,none⟩ = some x) ∧ (W.frozen? ⟨b,0,none⟩ = false ∧ W.frozen? ⟨b,1,none⟩ = false ∧ W.frozen? ⟨b,2,none⟩ = false):=by
 have h0:=uj h 0
 have h1:=uj h 1
 have h2:=uj h 2
 simp only [List.size_toArray,List.length_cons,List.length_nil,List.getElem?_toArray,List.getElem?_cons_zero,List.getElem?_cons_succ] at h0 h1 h2
 exact ⟨⟨h0,h1,h2⟩,uo h 0,uo h 1,uo h 2⟩
theorem uc.can_at (k:Nat) (A:Option Addr) (c n base:Nat) (ok:Nat → Prop) (ls:List Tx.Lb) (b:Bool) (w:World) (hR:Kd.R k66 66 w base ok (.slice A n c) ls) (h:u1w.f k ls = some b):Calls Tryz.prog 33 #[.slice A n c] w fun e w' => e = .returned (.bool b) ∧ Below w.heap.size w w':=by
 obtain ⟨h1,h2,h3⟩:=Kd.R_reads' hR
 subst h1
 exact u1w.calls k A c ls b w h3 h2 h
theorem uc.drop_len (p:UInt8 → Bool) (s:List UInt8):(s.dropWhile p).length ≤ s.length:=by
 have h1:=congrArg List.length (List.takeWhile_append_dropWhile (p:=p) (l:=s))
 rw [List.length_append] at h1
 omega
theorem uc.valueD_rest {h:Bool} {most:Nat} {base n:Int} {s r:List UInt8} (hv:Tx.valueD h most base s = some (n,r)):r.length ≤ s.length:=by
 unfold Tx.valueD at hv
 obtain ⟨⟨d,r'⟩,hd,hv⟩:=Option.bind_eq_some_iff.1 hv
 obtain ⟨n',hn,hv⟩:=Option.map_eq_some_iff.1 hv
 obtain ⟨_,rfl⟩:=Prod.mk.inj hv
 exact (u1j.dig_is hd).2.2
theorem uc.value_rest {n:Int} {s r:List UInt8} (hv:Tx.valueP s = some (n,r)):r.length ≤ s.length:=by
 rcases u1j.value_is s with ⟨q,hq,e⟩ | ⟨hq,e⟩
 · rw [e] at hv
   have:=uc.valueD_rest hv
   rw [hq,List.length_cons,List.length_cons]
   omega
 · rw [e] at hv
   exact uc.valueD_rest hv
theorem uc.time_rest {n:Int} {s r:List UInt8} (hv:Tx.timeP s = some (n,r)):r.length ≤ s.length:=by
 rcases ux.time_is s with ⟨q,hq,e⟩ | ⟨hq,e⟩
 · rw [e] at hv
   obtain ⟨⟨n',r'⟩,hd,hv⟩:=Option.bind_eq_some_iff.1 hv
   simp only at hv
   split at hv
   · obtain ⟨_,rfl⟩:=Prod.mk.inj (Option.some.inj hv)
     have:=uc.valueD_rest hd
     rw [hq,List.length_cons]
     omega
   · cases hv
 · rw [e] at hv
   obtain ⟨⟨n',r'⟩,hd,hv⟩:=Option.bind_eq_some_iff.1 hv
   simp only at hv
   split at hv
   · obtain ⟨_,rfl⟩:=Prod.mk.inj (Option.some.inj hv)
     exact uc.valueD_rest hd
   · cases hv
def uc.Out (w0 W:World) (g:Nat) (o:Option Tx.Rw) (e:Ending) (W':World):Prop:=match o with
 | some r => ∃ v:Value,e = .returned (.agg #[v,.int .i64 r.f1,.int .u64 r.f2]) ∧ Kd.R k66 66 W' W.heap.size (fun k => k ≠ g) v r.f0 ∧ Below w0.heap.size w0 W' ∧ u1v W W' g none
 | none => e = .panicked (u2q.chain 280) ∧ Below w0.heap.size w0 W'
theorem uc.out_none {w0 W:World} {g:Nat} {o:Option Tx.Rw} (ho:o = none) {W':World} (h1:Below w0.heap.size w0 W'):uc.Out w0 W g o (.panicked (u2q.chain 280)) W':=by
 subst ho
 exact ⟨rfl,h1⟩
theorem uc.out_some {w0 W:World} {g:Nat} {o:Option Tx.Rw} {l:List Tx.Lb} {t n:Int} (ho:o = some ⟨l,t,n⟩) {v:Value} {W':World} (h1:Kd.R k66 66 W' W.heap.size (fun k => k ≠ g) v l) (h2:Below w0.heap.size w0 W') (h3:u1v W W' g none):uc.Out w0 W g o (.returned (.agg #[v,.int .i64 t,.int .u64 n])) W':=by
 subst ho
 exact ⟨v,rfl,h1,h2,h3⟩
set_option maxRecDepth 100000 in
set_option maxHeartbeats 4000000 in
theorem uc.calls (can:List Tx.Lb → Bool) (hcan:∀ l:List Tx.Lb,l.length ≤ 10 → ∃ k,u1w.f k l = some (can l)) (w0 W:World) (g:Nat) (s:List UInt8) (now:Int) (hl:s.length ≤ 1000) (h:ua.St w0 W g s) :
 Calls Tryz.prog 50 #[.pointer (some ⟨g,0,none⟩),.int .i64 now] W fun e W' => uc.Out w0 W g (Tx.sampleP can s now) e W':=by
 have HM:=Aside0.mk (uc.Mid.start h)
 have HCN:=Aside0.mk hcan
 generalize HZ:Tx.sampleP can s now = o
 have HO:=Aside0.mk HZ
 obtain ⟨z,hz⟩:∃ z,ua.pk s = z:=⟨_,rfl⟩
 have HP:=Aside0.mk hz
 have hh:=uc.head_is s
 clear h hcan HZ hz
 go_enter Tryz.func50,Tryz.ntmps50
 go_upto_if 10 with (first
  | (go_at_call 47;(with_reducible refine (ux.peek_at w0 _ g s z HP.out (by exact HM.out.st)).mono ?_);rintro e W1 ⟨rfl,⟨nd,rfl⟩⟩)
  | (go_at_call 91;(with_reducible refine (uc.named_at s z HP.out _).mono ?_);rintro e W2 ⟨rfl,⟨md,rfl⟩⟩))
 go_cut [5] (fun v5 wx => ∃ (l0:List Tx.Lb) (s1:List UInt8),Tx.headP s = some (l0,s1) ∧ l0.length ≤ 1 ∧ s1.length ≤ 1000 ∧ Aside0 (uc.Mid w0 W wx g v5 l0 s1))
 case first =>
  cases hhd:uc.hd s with
  | true =>
    rw [hhd,if_pos rfl] at hh
    cases hn:Tx.nameP s with
    | none =>
      have HN:=Aside0.mk hn
      have HE:Aside0 (o = none):=⟨by rw [← HO.out];unfold Tx.sampleP Tx.labsP;rw [hh,hn];rfl⟩
      clear hn hh
      go_wp2_with (go_at_call 81;(with_reducible refine (u2p.calls_no w0 _ g s (by omega) HN.out (by exact (HM.out.drew _).st)).mono ?_);rintro e W3 ⟨rfl,hb3⟩)
      exact ⟨rfl,uc.out_none HE.out hb3⟩
    | some p =>
      obtain ⟨n,r⟩:=p
      rw [hn] at hh
      have hr:=u1m.name_rest hn
      have HN:=Aside0.mk hn
      have HH:=Aside0.mk hh
      clear hn hh
      go_wp2_with (first
       | (go_at_call 81;(with_reducible refine (u2p.calls_ok w0 _ g s (by omega) n r HN.out (by exact (HM.out.drew _).st)).mono ?_);rintro e W3 ⟨rfl,hs3,hk3⟩;have HM3:=Aside0.mk ((HM.out.drew _).scan hs3 hk3);clear hs3 hk3)
       | ((with_reducible refine u3n (b:=.append) (xs:=#[.tmp 11,.tmp 15]) rfl ?_);at_builtin;refine Kd.R_append k66 (w0:=W3) (W:=W3) W.heap.size rfl (.tmp 11) (.tmp 15) 50 66 (.agg #[(.string ⟨#[]⟩),(.string ⟨#[]⟩)]) 32 rfl Tryz.underlying50 uk.infoL rfl (by decide) (by decide) _ [] (⟨Tx.metric,n⟩:Tx.Lb) [.string Tx.metric,.string n] (fun k => k ≠ g ∧ k ≠ W.heap.size) (fun _ => False) rfl rfl (k66_mkM _ _ _ _) (fun _ hk => hk.elim) ?hfr HM3.out.row (Below.refl _ _) HM3.out.keep.1 (by decide) ?_;(case hfr => have h1:=HM3.out.st.lt;have h2:=u3a HM3.out.res;intro k hk;omega);intro v8 w8 ho hb hg8 hat;have HM8:=Aside0.mk (HM3.out.app hg8 ho);clear ho hb hg8 hat))
      go_meet
      exact ⟨[⟨Tx.metric,n⟩],r,HH.out,Nat.le_refl _,by omega,HM8⟩
  | false =>
    rw [hhd,if_neg (by decide)] at hh
    have HH:=Aside0.mk hh
    clear hh
    go_wp2_with fail
    go_meet
    exact ⟨[],s,HH.out,by decide,hl,⟨HM.out.drew _⟩⟩
 case rest =>
  clear HM HP hh
  obtain ⟨l0,s1,hh,hl0,hs1,HM⟩:=hcut
  obtain ⟨A0,c0,e0⟩:=Kd.R_slice HM.out.row
  subst e0
  have HH:=Aside0.mk hh
  obtain ⟨y,hy⟩:∃ y,ua.pk s1 = y:=⟨_,rfl⟩
  have HP:=Aside0.mk hy
  clear hh hy
  go_upto_if 19 with (go_at_call 47;(with_reducible refine (ux.peek_at w0 _ g s1 y HP.out (by exact HM.out.st)).mono ?_);rintro e W1 ⟨rfl,⟨nd,rfl⟩⟩)
  go_cut [5] (fun v5 wx => ∃ (l:List Tx.Lb) (s2:List UInt8),Tx.labsP s = some (l,s2) ∧ l.length ≤ 10 ∧ s2.length ≤ 1000 ∧ Aside0 (uc.Mid w0 W wx g v5 l s2))
  case first =>
   rcases uc.rest_is l0 s1 with ⟨⟨u,hu⟩,hr⟩ | ⟨hu,hr⟩
   · have hb5:(y == 123) = true:=by
      have h1:=HP.out
      rw [hu] at h1
      rw [← h1]
      rfl
     cases hq:Tx.bracesP s1 with
     | none =>
       have HQ:=Aside0.mk hq
       have HE:Aside0 (o = none):=⟨by rw [← HO.out];unfold Tx.sampleP Tx.labsP;rw [HH.out];simp only [Option.bind_some];rw [hr,hq];rfl⟩
       clear hq hr hu
       go_wp2_with (go_at_call 92;(with_reducible refine (uc.br_no w0 _ g s1 (by omega) HQ.out (by exact (HM.out.drew _).st)).mono ?_);rintro e W3 ⟨rfl,hb3⟩)
       exact ⟨rfl,uc.out_none HE.out hb3⟩
     | some p =>
       obtain ⟨lb,r⟩:=p
       obtain ⟨hlb,hrl⟩:=uc.braces_len hq
       have HQ:=Aside0.mk hq
       have HL:Aside0 (Tx.labsP s = some (l0 ++ lb,r)):=⟨by unfold Tx.labsP;rw [HH.out];simp only [Option.bind_some];rw [hr,hq];rfl⟩
       clear hq hr hu
       go_wp2_with (first
        | (go_at_call 92;(with_reducible refine (uc.br_ok w0 _ g s1 (by omega) lb r HQ.out (by exact (HM.out.drew _).st)).mono ?_);rintro e W3 ⟨A,c,rfl,hr3,hs3,hk3⟩;have HM3:=Aside0.mk ((HM.out.drew _).scan hs3 hk3);have HR3:=Aside0.mk (Kd.R_reads' hr3).2.2;clear hr3 hs3 hk3)
        | ((with_reducible refine u3n (b:=.append) (xs:=#[.tmp 20,.tmp 22]) rfl ?_);at_builtin;refine Kd.R_append_rows k66 (w0:=W3) W.heap.size rfl (.tmp 20) (.tmp 22) 50 66 (.agg #[(.string ⟨#[]⟩),(.string ⟨#[]⟩)]) 32 rfl Tryz.underlying50 uk.infoL rfl (by decide) (by omega) _ l0 lb _ _ _ (fun k => k ≠ g ∧ k ≠ W.heap.size) (fun _ => False) rfl rfl HM3.out.row HR3.out (fun _ _ h => h) (fun _ h => h.elim) ?hfr (Below.refl _ _) HM3.out.keep.1 ?hbig ?_;(case hfr => have h1:=HM3.out.st.lt;have h2:=u3a HM3.out.res;intro k hk;omega);(case hbig => omega);intro v8 w8 ho hb hg8 hat;have HM8:=Aside0.mk (HM3.out.app hg8 ho);clear ho hb hg8 hat))
       go_meet
       exact ⟨l0 ++ lb,r,HL.out,by rw [List.length_append];omega,by omega,HM8⟩
   · have hb5:(y == 123) = false:=beq_eq_false_iff_ne.2 (by
      intro e
      exact uk.pk_ne s1 123 (by decide) hu (HP.out.trans e))
     have HL:Aside0 (Tx.labsP s = some (l0,s1)):=⟨by unfold Tx.labsP;rw [HH.out];simp only [Option.bind_some];exact hr⟩
     clear hr hu
     go_wp2_with fail
     go_meet
     exact ⟨l0,s1,HL.out,by omega,hs1,⟨HM.out.drew _⟩⟩
  case rest =>
   clear HM HP HH
   obtain ⟨l,s2,hh,hl2,hs2,HM⟩:=hcut
   obtain ⟨A,c,e0⟩:=Kd.R_slice HM.out.row
   subst e0
   have HH:=Aside0.mk hh
   have hsl:(Tx.sortP l).length = l.length:=by
    rw [← Tx.sortedTo_all,Tx.sortedTo_len l l.length (Nat.le_refl _)]
   obtain ⟨kc,hkc⟩:=HCN.out (Tx.sortP l) (by omega)
   have HSL:=Aside0.mk hsl
   have HKC:=Aside0.mk hkc
   have hsz:=u1o.txt (s2.takeWhile Tx.blankC)
   obtain ⟨_,tw2,tw2n⟩:=hsz
   clear hh hkc hsl HCN
   have HOV:Aside0 (o = if can (Tx.sortP l) = true then (Tx.endP s2 now).map fun q => ⟨Tx.sortP l,q.1,q.2⟩ else none):=⟨by rw [← HO.out];unfold Tx.sampleP;rw [HH.out];rfl⟩
   clear HO HH
   cases hc:can (Tx.sortP l) with
   | false =>
     rw [hc] at HKC HOV
     have HE:Aside0 (o = none):=⟨by rw [HOV.out];rfl⟩
     clear hc tw2 tw2n
     go_wp2_with (first
      | (go_at_call 93;(with_reducible refine (u1h.calls _ W.heap.size (fun k => k ≠ g ∧ k ≠ W.heap.size) A c l (by omega) HM.out.row).mono ?_);rintro e W3 ⟨rfl,hr3,hg3⟩;have HM3:=Aside0.mk (HM.out.app hg3 hr3);clear hr3 hg3)
      | (go_at_call 33;(with_reducible refine (uc.can_at kc A c l.length _ _ (Tx.sortP l) _ _ HM3.out.row HKC.out).mono ?_);rintro e W4 ⟨rfl,hb4⟩;have HM4:=Aside0.mk (HM3.out.more hb4);clear hb4)
      | (go_at_call 83;(with_reducible refine (u2h.calls_no _).mono ?_);rintro e W9 ⟨rfl,rfl⟩))
     exact ⟨rfl,uc.out_none HE.out HM4.out.st.below⟩
   | true =>
     rw [hc] at HKC HOV
     have HOW:Aside0 (o = (Tx.endP s2 now).map fun q => ⟨Tx.sortP l,q.1,q.2⟩):=⟨by rw [HOV.out,if_pos rfl]⟩
     clear hc HOV
     by_cases htw:s2.takeWhile Tx.blankC = []
     · obtain ⟨e1,e2⟩:=tw2n htw
       have HE:Aside0 (o = none):=⟨by rw [HOW.out];unfold Tx.endP;rw [if_pos htw];rfl⟩
       clear tw2 tw2n htw
       go_wp2_with (first
        | (go_at_call 93;(with_reducible refine (u1h.calls _ W.heap.size (fun k => k ≠ g ∧ k ≠ W.heap.size) A c l (by omega) HM.out.row).mono ?_);rintro e W3 ⟨rfl,hr3,hg3⟩;have HM3:=Aside0.mk (HM.out.app hg3 hr3);clear hr3 hg3)
        | (go_at_call 33;(with_reducible refine (uc.can_at kc A c l.length _ _ (Tx.sortP l) _ _ HM3.out.row HKC.out).mono ?_);rintro e W4 ⟨rfl,hb4⟩;have HM4:=Aside0.mk (HM3.out.more hb4);clear hb4)
        | (go_at_call 83;(with_reducible refine (u2h.calls_ok _).mono ?_);rintro e W9 ⟨rfl,rfl⟩)
        | (go_at_call 96;(with_reducible refine (u1g.calls_blank w0 _ g s2 (by omega) (by exact HM4.out.st)).mono ?_);rintro e W5 ⟨rfl,hs5,hk5⟩;have HM5:=Aside0.mk (HM4.out.scan hs5 hk5);clear hs5 hk5)
        | (go_at_call 83;(with_reducible refine (u2h.calls_no _).mono ?_);rintro e W9 ⟨rfl,rfl⟩))
       exact ⟨rfl,uc.out_none HE.out HM5.out.st.below⟩
     · obtain ⟨e1,e2⟩:=tw2 htw
       have hd2:=uc.drop_len Tx.blankC s2
       cases hv:Tx.valueP (s2.dropWhile Tx.blankC) with
       | none =>
         have HV:=Aside0.mk hv
         have HE:Aside0 (o = none):=⟨by rw [HOW.out];unfold Tx.endP;rw [if_neg htw,hv];rfl⟩
         clear tw2 tw2n htw hv
         go_wp2_with (first
          | (go_at_call 93;(with_reducible refine (u1h.calls _ W.heap.size (fun k => k ≠ g ∧ k ≠ W.heap.size) A c l (by omega) HM.out.row).mono ?_);rintro e W3 ⟨rfl,hr3,hg3⟩;have HM3:=Aside0.mk (HM.out.app hg3 hr3);clear hr3 hg3)
          | (go_at_call 33;(with_reducible refine (uc.can_at kc A c l.length _ _ (Tx.sortP l) _ _ HM3.out.row HKC.out).mono ?_);rintro e W4 ⟨rfl,hb4⟩;have HM4:=Aside0.mk (HM3.out.more hb4);clear hb4)
          | (go_at_call 83;(with_reducible refine (u2h.calls_ok _).mono ?_);rintro e W9 ⟨rfl,rfl⟩)
          | (go_at_call 96;(with_reducible refine (u1g.calls_blank w0 _ g s2 (by omega) (by exact HM4.out.st)).mono ?_);rintro e W5 ⟨rfl,hs5,hk5⟩;have HM5:=Aside0.mk (HM4.out.scan hs5 hk5);clear hs5 hk5)
          | (go_at_call 98;(with_reducible refine (u1j.calls_no w0 _ g _ (by omega) HV.out (by exact HM5.out.st)).mono ?_);rintro e W6 ⟨rfl,hb6⟩))
         exact ⟨rfl,uc.out_none HE.out hb6⟩
       | some p =>
         obtain ⟨n,s4⟩:=p
         have hs4:=uc.value_rest hv
         have HV:=Aside0.mk hv
         have HOX:Aside0 (o = (if s4.dropWhile Tx.blankC = [] then some (now,n) else if s4.takeWhile Tx.blankC = [] then none else (Tx.timeP (s4.dropWhile Tx.blankC)).bind fun q => if q.2.dropWhile Tx.blankC = [] then some (q.1,n) else none).map fun q => ⟨Tx.sortP l,q.1,q.2⟩):=⟨by rw [HOW.out];unfold Tx.endP;rw [if_neg htw,hv];rfl⟩
         clear tw2 tw2n htw hv HOW
         have hd4:=uc.drop_len Tx.blankC s4
         obtain ⟨_,dw,dwn⟩:=u1o.txt (s4.dropWhile Tx.blankC)
         obtain ⟨b44,hb44⟩:∃ b:Bool,(Base.ofL (s4.dropWhile Tx.blankC)).toList.isEmpty = !b:=⟨_,(Bool.not_not _).symm⟩
         have HB44:=Aside0.mk hb44
         go_upto_if 44 with (first
          | (go_at_call 93;(with_reducible refine (u1h.calls _ W.heap.size (fun k => k ≠ g ∧ k ≠ W.heap.size) A c l (by omega) HM.out.row).mono ?_);rintro e W3 ⟨rfl,hr3,hg3⟩;have HM3:=Aside0.mk (HM.out.app hg3 hr3);clear hr3 hg3)
          | (go_at_call 33;(with_reducible refine (uc.can_at kc A c l.length _ _ (Tx.sortP l) _ _ HM3.out.row HKC.out).mono ?_);rintro e W4 ⟨rfl,hb4⟩;have HM4:=Aside0.mk (HM3.out.more hb4);clear hb4)
          | (go_at_call 83;(with_reducible refine (u2h.calls_ok _).mono ?_);rintro e W9 ⟨rfl,rfl⟩)
          | (go_at_call 96;(with_reducible refine (u1g.calls_blank w0 _ g s2 (by omega) (by exact HM4.out.st)).mono ?_);rintro e W5 ⟨rfl,hs5,hk5⟩;have HM5:=Aside0.mk (HM4.out.scan hs5 hk5);clear hs5 hk5)
          | (go_at_call 98;(with_reducible refine (u1j.calls_ok w0 _ g _ (by omega) n s4 HV.out (by exact HM5.out.st)).mono ?_);rintro e W6 ⟨rfl,hs6,hk6⟩;have HM6:=Aside0.mk (HM5.out.scan hs6 hk6);clear hs6 hk6)
          | (go_at_call 96;(with_reducible refine (u1g.calls_blank w0 _ g s4 (by omega) (by exact (HM6.out.new _).st)).mono ?_);rintro e W7 ⟨rfl,hs7,hk7⟩;have HM7:=Aside0.mk ((HM6.out.new _).scan hs7 hk7);have HB7:=Aside0.mk (ua.kept_at hk7 (by have:=HM6.out.st.lt;omega) (ua.new_at W6 _));obtain ⟨h0,f0⟩:=hs7.look;clear hs7 hk7))
         go_cut [7] (fun v7 wx => ∃ (t:Int) (s6:List UInt8),s6.length ≤ 1000 ∧ Aside0 (o = if s6 = [] then some ⟨Tx.sortP l,t,n⟩ else none) ∧ Aside0 (uc.Mid w0 W wx g (.slice A l.length c) (Tx.sortP l) s6) ∧ Aside0 (wx.heap[W6.heap.size]? = some (.cells #[.slice A l.length c,.int .i64 t,.int .u64 n] 53 (0,0))))
         case first =>
          clear hb44
          obtain ⟨_,gw,gwn⟩:=u1o.txt (s4.takeWhile Tx.blankC)
          by_cases he5:s4.dropWhile Tx.blankC = []
          · obtain ⟨e3,e4⟩:=dwn he5
            obtain rfl:b44 = false:=by have h1:=HB44.out;rw [e3] at h1;revert h1;cases b44 <;> decide
            have HF:Aside0 (o = if s4.dropWhile Tx.blankC = [] then some ⟨Tx.sortP l,now,n⟩ else none):=⟨by rw [HOX.out,if_pos he5,if_pos he5];rfl⟩
            clear he5 dw dwn gw gwn HOX
            go_wp2_with fail
            go_meet
            exact ⟨now,s4.dropWhile Tx.blankC,by omega,HF,HM7,HB7⟩
          · obtain ⟨e3,e4⟩:=dw he5
            obtain rfl:b44 = true:=by have h1:=HB44.out;rw [e3] at h1;revert h1;cases b44 <;> decide
            by_cases hg4:s4.takeWhile Tx.blankC = []
            · obtain ⟨e5,e6⟩:=gwn hg4
              have HE:Aside0 (o = none):=⟨by rw [HOX.out,if_neg he5,if_pos hg4];rfl⟩
              clear he5 dw dwn gw gwn HOX hg4
              go_wp2_with (go_at_call 83;(with_reducible refine (u2h.calls_no _).mono ?_);rintro e W9 ⟨rfl,rfl⟩)
              exact ⟨rfl,uc.out_none HE.out HM7.out.st.below⟩
            · obtain ⟨e5,e6⟩:=gw hg4
              cases ht:Tx.timeP (s4.dropWhile Tx.blankC) with
              | none =>
                have HT:=Aside0.mk ht
                have HE:Aside0 (o = none):=⟨by rw [HOX.out,if_neg he5,if_neg hg4,ht];rfl⟩
                clear he5 dw dwn gw gwn HOX hg4 ht
                go_wp2_with (first
                 | (go_at_call 83;(with_reducible refine (u2h.calls_ok _).mono ?_);rintro e W9 ⟨rfl,rfl⟩)
                 | (go_at_call 99;(with_reducible refine (ux.calls_no w0 _ g _ (by omega) HT.out (by exact HM7.out.st)).mono ?_);rintro e W8 ⟨rfl,hb8⟩))
                exact ⟨rfl,uc.out_none HE.out hb8⟩
              | some p =>
                obtain ⟨t,s7⟩:=p
                have hs7:=uc.time_rest ht
                have hd7:=uc.drop_len Tx.blankC s7
                have HT:=Aside0.mk ht
                have HF:Aside0 (o = if s7.dropWhile Tx.blankC = [] then some ⟨Tx.sortP l,t,n⟩ else none):=⟨by
                 rw [HOX.out,if_neg he5,if_neg hg4,ht]
                 simp only [Option.bind_some]
                 split <;> rfl⟩
                have N1:Aside0 (W6.heap.size ≠ g):=⟨by have:=HM6.out.st.lt;omega⟩
                have N2:Aside0 (W6.heap.size ≠ W.heap.size ∧ W.heap.size ≤ W6.heap.size):=⟨by have:=u3a HM6.out.res;omega⟩
                have N3:Aside0 (some W6.heap.size ≠ (Value.slice A l.length c).ownBlock):=⟨fun e => by have:=Kd.R_lt HM6.out.row W6.heap.size e.symm;omega⟩
                have n1:¬ g = W6.heap.size:=fun e => N1.out e.symm
                clear he5 dw dwn gw gwn HOX hg4 ht h0 f0
                go_wp2_with (first
                 | (go_at_call 83;(with_reducible refine (u2h.calls_ok _).mono ?_);rintro e W9 ⟨rfl,rfl⟩)
                 | (go_at_call 99;(with_reducible refine (ux.calls_ok w0 _ g _ (by omega) t s7 HT.out (by exact HM7.out.st)).mono ?_);rintro e W8 ⟨rfl,hs8,hk8⟩;have HM8:=Aside0.mk (HM7.out.scan hs8 hk8);have HB8:=Aside0.mk (ua.kept_at hk8 N1.out HB7.out);obtain ⟨⟨a0,a1,a2⟩,b0,b1,b2⟩:=uc.look3 HB8.out;clear hs8 hk8)
                 | (go_at_call 96;(with_reducible refine (u1g.calls_blank w0 _ g s7 (by omega) (by exact (HM8.out.set W6.heap.size 1 _ N1.out N2.out.1 N2.out.2 N3.out).st)).mono ?_);rintro e W9 ⟨rfl,hs9,hk9⟩;have HM9:=Aside0.mk ((HM8.out.set W6.heap.size 1 _ N1.out N2.out.1 N2.out.2 N3.out).scan hs9 hk9);have HB9:=Aside0.mk (ua.kept_at hk9 N1.out (blk_set HB8.out 1 (.int .i64 t)));clear hs9 hk9))
                go_meet
                exact ⟨t,s7.dropWhile Tx.blankC,by omega,HF,HM9,HB9⟩
         case rest =>
          have N1:Aside0 (W6.heap.size ≠ g):=⟨by have:=HM6.out.st.lt;omega⟩
          have N2:Aside0 (W6.heap.size ≠ W.heap.size ∧ W.heap.size ≤ W6.heap.size):=⟨by have:=u3a HM6.out.res;omega⟩
          clear HM HM3 HM4 HM5 HM6 HM7 HB7 h0 f0 HOX hb44 HB44 dw dwn
          obtain ⟨t,s6,hs6,HF,HM,HB⟩:=hcut
          obtain ⟨h0,f0⟩:=HM.out.st.look
          obtain ⟨⟨a0,a1,a2⟩,b0,b1,b2⟩:=uc.look3 HB.out
          obtain ⟨⟨c0,c1,c2⟩,d0,d1,d2⟩:=uc.look3 HM.out.res
          obtain ⟨_,dw,dwn⟩:=u1o.txt s6
          have n1:¬ W6.heap.size = W.heap.size:=N2.out.1
          have n2:¬ W.heap.size = W6.heap.size:=fun e => N2.out.1 e.symm
          by_cases he:s6 = []
          · obtain ⟨e3,e4⟩:=dwn he
            have HE:Aside0 (o = some ⟨Tx.sortP l,t,n⟩):=⟨by rw [HF.out,if_pos he]⟩
            clear dw dwn he HF
            go_wp2_with (go_at_call 83;(with_reducible refine (u2h.calls_ok _).mono ?_);rintro e W9 ⟨rfl,rfl⟩)
            refine bodyPost_ret (v:=.agg #[.slice A l.length c,.int .i64 t,.int .u64 n]) (by simp [results,Tryz.results50,go_sem,c0,c1,c2]) rfl (uc.out_some HE.out ?_ ?_ ?_)
            · exact Kd.R_mono (Kd.R_far (p:=⟨W.heap.size,2,none⟩) (Kd.R_far (p:=⟨W.heap.size,1,none⟩) (Kd.R_far (p:=⟨W.heap.size,0,none⟩) HM.out.row (fun k hk => hk.2) _) (fun k hk => hk.2) _) (fun k hk => hk.2) _) (fun k hk => hk.1)
            · have hw:w0.heap.size ≤ W.heap.size:=Nat.le_trans HM.out.st.base (Nat.le_of_lt HM.out.lt)
              exact ((HM.out.st.below.setCell (p:=⟨W.heap.size,0,none⟩) hw _).setCell (p:=⟨W.heap.size,1,none⟩) hw _).setCell (p:=⟨W.heap.size,2,none⟩) hw _
            · exact ua.keep_new (p:=⟨W.heap.size,2,none⟩) (ua.keep_new (p:=⟨W.heap.size,1,none⟩) (ua.keep_new (p:=⟨W.heap.size,0,none⟩) HM.out.keep (Nat.le_refl _) _) (Nat.le_refl _) _) (Nat.le_refl _) _
          · obtain ⟨e3,e4⟩:=dw he
            have HE:Aside0 (o = none):=⟨by rw [HF.out,if_neg he]⟩
            clear dw dwn he HF
            go_wp2_with (go_at_call 83;(with_reducible refine (u2h.calls_no _).mono ?_);rintro e W9 ⟨rfl,rfl⟩)
            exact ⟨rfl,uc.out_none HE.out HM.out.st.below⟩
def u1y.metaB (a b c:ByteArray):List Int:=(if c = Base.ofL [] then [] else ug.parts [⟨#[35,32,72,69,76,80,32]⟩,a,⟨#[32]⟩,c] ++ [10]) ++ (if b = Base.ofL [] then [] else ug.parts [⟨#[35,32,84,89,80,69,32]⟩,a,⟨#[32]⟩,b] ++ [10])
theorem u1y.emp {a:ByteArray} (h:a = Base.ofL []):a.toList.isEmpty = true:=by rw [h,ByteArray.toList_eq,Base.ofL_data];rfl
theorem u1y.nonemp {a:ByteArray} (h:¬ a = Base.ofL []):a.toList.isEmpty = false:=by
 cases e:a.toList with
 | nil => exact absurd (Base.ext_data (by rw [Base.ofL_data,← ByteArray.toList_eq];exact e)) h
 | cons _ _ => rfl
set_option maxRecDepth 100000 in
set_option maxHeartbeats 4000000 in
theorem u1y.calls (w0 W:World) (g:Nat) (bs:List Int) (a b c:ByteArray) (h:ug.Pr w0 W g bs) (hB:Below w0.heap.size w0 W) (hl:bs.length + (u1y.metaB a b c).length ≤ 100000000) :
 Calls Tryz.prog 35 #[.pointer (some ⟨g,0,none⟩),.agg #[.string a,.string b,.string c]] W fun e W' => e = .returned (.tuple #[]) ∧ ug.Pr w0 W' g (bs ++ u1y.metaB a b c) ∧ Below w0.heap.size w0 W' ∧ ug.Stay W W' ∧ W.heap.size ≤ W'.heap.size:=by
 have hb1:=ud (Below.refl W.heap.size W) (.cells #[.string a,.string b,.string c] 34)
 have HP1:=Aside0.mk (h.more hb1)
 have HB1:=Aside0.mk (ui hB hB.size hb1)
 have HS1:=Aside0.mk (ug.Stay.below hb1)
 have HZ1:=Aside0.mk hb1.size
 have HN1:=Aside0.mk (ua.new_at W (.cells #[.string a,.string b,.string c] 34))
 clear hb1 h hB
 unfold u1y.metaB at hl ⊢
 by_cases hc:c = Base.ofL []
 · have hc1:=u1y.emp hc
   rw [if_pos hc,List.nil_append] at hl ⊢
   clear hc
   by_cases hbb:b = Base.ofL []
   · have hb1:=u1y.emp hbb
     rw [if_pos hbb] at hl ⊢
     clear hbb
     have HL:=Aside0.mk hl
     clear hl
     go_enter Tryz.func35,Tryz.ntmps35
     go_wp2
     go_end0
     exact ⟨rfl,by rw [List.append_nil];exact HP1.out,HB1.out,HS1.out,HZ1.out⟩
   · have hb1:=u1y.nonemp hbb
     rw [if_neg hbb] at hl ⊢
     clear hbb
     have HL:=Aside0.mk hl
     clear hl
     go_enter Tryz.func35,Tryz.ntmps35
     go_wp2_with (first
      | (go_at_call 62;((with_reducible refine (ug.four w0 _ g _ (bs) ⟨#[35,32,84,89,80,69,32]⟩ a ⟨#[32]⟩ b (by first | rfl | (rw [World.size_alloc])) HP1.out HB1.out (by have:=HL.out;simp only [List.length_append] at this ⊢;omega)).mono ?_);rintro e W2 ⟨rfl,hp2,hb2,hs2,hz2⟩;have HP2:=Aside0.mk hp2;have HB2:=Aside0.mk hb2;have HS2:=Aside0.mk (HS1.out.trans hs2);have HZ2:=Aside0.mk (Nat.le_trans HZ1.out hz2);have hn2:=(hs2 W.heap.size 34 _ HN1.out (by decide) (by decide)).trans HN1.out;have HN2:=Aside0.mk hn2;obtain ⟨⟨q0,q1,q2⟩,fq⟩:=uc.look3 hn2;clear hp2 hb2 hs2 hz2 hn2)))
     go_end0
     exact ⟨rfl,by rw [← List.append_assoc];exact HP2.out,HB2.out,HS2.out,HZ2.out⟩
 · have hc1:=u1y.nonemp hc
   rw [if_neg hc] at hl ⊢
   clear hc
   by_cases hbb:b = Base.ofL []
   · have hb1:=u1y.emp hbb
     rw [if_pos hbb,List.append_nil] at hl ⊢
     clear hbb
     have HL:=Aside0.mk hl
     clear hl
     go_enter Tryz.func35,Tryz.ntmps35
     go_wp2_with (first
      | (go_at_call 62;((with_reducible refine (ug.four w0 _ g _ (bs) ⟨#[35,32,72,69,76,80,32]⟩ a ⟨#[32]⟩ c (by first | rfl | (rw [World.size_alloc])) HP1.out HB1.out (by have:=HL.out;simp only [List.length_append] at this ⊢;omega)).mono ?_);rintro e W2 ⟨rfl,hp2,hb2,hs2,hz2⟩;have HP2:=Aside0.mk hp2;have HB2:=Aside0.mk hb2;have HS2:=Aside0.mk (HS1.out.trans hs2);have HZ2:=Aside0.mk (Nat.le_trans HZ1.out hz2);have hn2:=(hs2 W.heap.size 34 _ HN1.out (by decide) (by decide)).trans HN1.out;have HN2:=Aside0.mk hn2;obtain ⟨⟨q0,q1,q2⟩,fq⟩:=uc.look3 hn2;clear hp2 hb2 hs2 hz2 hn2)))
     go_end0
     exact ⟨rfl,by rw [← List.append_assoc];exact HP2.out,HB2.out,HS2.out,HZ2.out⟩
   · have hb1:=u1y.nonemp hbb
     rw [if_neg hbb] at hl ⊢
     clear hbb
     have HL:=Aside0.mk hl
     clear hl
     go_enter Tryz.func35,Tryz.ntmps35
     go_wp2_with (first
      | (go_at_call 62;((with_reducible refine (ug.four w0 _ g _ (bs) ⟨#[35,32,72,69,76,80,32]⟩ a ⟨#[32]⟩ c (by first | rfl | (rw [World.size_alloc])) HP1.out HB1.out (by have:=HL.out;simp only [List.length_append] at this ⊢;omega)).mono ?_);rintro e W2 ⟨rfl,hp2,hb2,hs2,hz2⟩;have HP2:=Aside0.mk hp2;have HB2:=Aside0.mk hb2;have HS2:=Aside0.mk (HS1.out.trans hs2);have HZ2:=Aside0.mk (Nat.le_trans HZ1.out hz2);have hn2:=(hs2 W.heap.size 34 _ HN1.out (by decide) (by decide)).trans HN1.out;have HN2:=Aside0.mk hn2;obtain ⟨⟨q0,q1,q2⟩,fq⟩:=uc.look3 hn2;clear hp2 hb2 hs2 hz2 hn2))
      | (go_at_call 62;((with_reducible refine (ug.four w0 W2 g _ (bs ++ ug.parts [⟨#[35,32,72,69,76,80,32]⟩,a,⟨#[32]⟩,c] ++ [10]) ⟨#[35,32,84,89,80,69,32]⟩ a ⟨#[32]⟩ b (by first | rfl | (rw [World.size_alloc])) HP2.out HB2.out (by have:=HL.out;simp only [List.length_append] at this ⊢;omega)).mono ?_);rintro e W3 ⟨rfl,hp3,hb3,hs3,hz3⟩;have HP3:=Aside0.mk hp3;have HB3:=Aside0.mk hb3;have HS3:=Aside0.mk (HS2.out.trans hs3);have HZ3:=Aside0.mk (Nat.le_trans HZ2.out hz3);have hn3:=(hs3 W.heap.size 34 _ HN2.out (by decide) (by decide)).trans HN2.out;have HN3:=Aside0.mk hn3;clear q0 q1 q2 fq;obtain ⟨⟨q0,q1,q2⟩,fq⟩:=uc.look3 hn3;clear hp3 hb3 hs3 hz3 hn3)))
     go_end0
     exact ⟨rfl,by rw [← List.append_assoc,← List.append_assoc,← List.append_assoc];exact HP3.out,HB3.out,HS3.out,HZ3.out⟩
def um.Places (D:DataW Unit) (L:List S34):Prop:=Maps.IsMap D ∧ (∀ (i:Nat) (h:i < L.length),Maps.has D (.string L[i].f0.data.toList) = true ∧ ∀ z,D.atKey (.string L[i].f0.data.toList) z = .lit (.int .i64 (i:Int))) ∧ ∀ key:ByteArray,(∀ x ∈ L,x.f0 ≠ key) → Maps.has D (.string key.data.toList) = false
structure um.Bk (w0 W:World) (g:Nat) (L:List S34):Prop where
 base:w0.heap.size ≤ g
 ex:∃ (v:Value) (bm:Nat) (D:DataW Unit),W.heap[g]? = some (.cells #[v,.map (some bm)] 47 (0,0)) ∧ W.ownsMap Tryz.prog 9 (plainElem Tryz.prog 3) bm L.length D ∧ um.Places D L ∧ Kd.R k34 34 W w0.heap.size (fun _ => True) v L ∧ w0.heap.size ≤ bm
theorem um.law9:Maps.Keyed Tryz.prog 9:=Maps.string_keyed Tryz.underlying9
theorem um.zero3 (w:World):(zeroValue 3).run Tryz.prog w = .ok (.int .i64 0) w:=by kernel_rfl
def um.set (m x:S34) (help:Bool):S34:=if help = true then ⟨x.f0,x.f1,m.f2⟩ else ⟨x.f0,m.f1,x.f2⟩
def um.noteS (m:S34) (help:Bool):List S34 → List S34
 | [] => [m]
 | x :: l => if x.f0 = m.f0 then um.set m x help :: l else x :: um.noteS m help l
theorem um.note_new (m:S34) (help:Bool):∀ L:List S34,(∀ x ∈ L,x.f0 ≠ m.f0) → um.noteS m help L = L ++ [m]
 | [],_ => rfl
 | x :: l,h => by
   unfold um.noteS
   rw [if_neg (h x (List.mem_cons_self ..)),um.note_new m help l (fun y hy => h y (List.mem_cons_of_mem _ hy))]
   rfl
theorem um.note_met (m:S34) (help:Bool):∀ (L:List S34) (i:Nat) (hi:i < L.length),L[i].f0 = m.f0 → (∀ (j:Nat) (hj:j < L.length),L[j].f0 = m.f0 → j = i) → um.noteS m help L = L.set i (um.set m L[i] help)
 | x :: l,0,hi,h,_ => by
   unfold um.noteS
   rw [if_pos (show x.f0 = m.f0 from h)]
   rfl
 | x :: l,i + 1,hi,h,hu => by
   have hx:¬ x.f0 = m.f0:=fun e => by
    have:=hu 0 (by simp) e
    omega
   unfold um.noteS
   rw [if_neg hx,List.set_cons_succ]
   have:=um.note_met m help l i (by simpa using hi) (by simpa using h) (fun j hj e => by
    have:=hu (j + 1) (by simpa using hj) (by simpa using e)
    omega)
   rw [this]
   rfl
theorem um.there (D:DataW Unit) (L:List S34) (key:ByteArray) (h:um.Places D L):(∃ (i:Nat) (hi:i < L.length),L[i].f0 = key ∧ (∀ (j:Nat) (hj:j < L.length),L[j].f0 = key → j = i) ∧ Maps.has D (.string key.data.toList) = true ∧ ∀ z,D.atKey (.string key.data.toList) z = .lit (.int .i64 (i:Int))) ∨ ((∀ x ∈ L,x.f0 ≠ key) ∧ Maps.has D (.string key.data.toList) = false):=by
 by_cases hk:∃ x ∈ L,x.f0 = key
 · obtain ⟨x,hx,rfl⟩:=hk
   obtain ⟨i,hi,rfl⟩:=List.getElem_of_mem hx
   obtain ⟨h1,h2⟩:=h.2.1 i hi
   refine Or.inl ⟨i,hi,rfl,fun j hj e => ?_,h1,h2⟩
   have h3:=(h.2.1 j hj).2 (.lit (.int .i64 0))
   rw [e,h2] at h3
   injection h3 with h3
   injection h3 with _ h3
   omega
 · exact Or.inr ⟨fun x hx e => hk ⟨x,hx,e⟩,h.2.2 key (fun x hx e => hk ⟨x,hx,e⟩)⟩
def um.Stay (W W':World):Prop:=∀ (k t:Nat) (cells:Array Value),W.heap[k]? = some (.cells cells t (0,0)) → t ≠ 47 → t ≠ 34 → W'.heap[k]? = W.heap[k]?
set_option maxRecDepth 100000 in
set_option maxHeartbeats 2000000 in
theorem um.met (W:World) (g bm gs cap n i:Nat) (D:DataW Unit) (a b c:ByteArray) (help:Bool) (x y z:Value) (hi:i < n) (hne:¬ gs = g)
 (hg:W.heap[g]? = some (.cells #[.slice (some ⟨gs,0,none⟩) n cap,.map (some bm)] 47 (0,0))) (hown:W.ownsMap Tryz.prog 9 (plainElem Tryz.prog 3) bm n D) (ha:a.size ≤ maxLen)
 (hhas:Maps.has D (.string a.data.toList) = true) (hat:∀ z,D.atKey (.string a.data.toList) z = .lit (.int .i64 (i:Int)))
 (cs:Array Value) (hs:W.heap[gs]? = some (.cells cs 34 (0,0))) (hy:cs[i * 3 + 1]? = some y) (hz:cs[i * 3 + 2]? = some z) :
 Calls Tryz.prog 19 #[.pointer (some ⟨g,0,none⟩),.agg #[.string a,.string b,.string c],.bool help] W fun e W' => e = .returned (.tuple #[]) ∧ ∃ q,W' = (((W.alloc (.cells #[.string a,.string b,.string c] 34)).setCell ⟨gs,i * 3 + (if help = true then 2 else 1),none⟩ (.string (if help = true then c else b)))).drewN q:=by
 have hkey:=WideMaps.keyOf_string_mk (P:=Tryz.prog) Tryz.underlying9 ha
 have hg1:=ua.new_old hg (.cells #[.string a,.string b,.string c] 34)
 have hn1:=ua.new_at W (.cells #[.string a,.string b,.string c] 34)
 have hlk:(Instr.lookup 45 (.map (some bm)) (.string a) true).run Tryz.prog (W.alloc (.cells #[.string a,.string b,.string c] 34)).drew = .ok (.tuple #[.int .i64 (i:Int),.bool true]) (W.alloc (.cells #[.string a,.string b,.string c] 34)).drew:=by
  have h1:((W.alloc (.cells #[.string a,.string b,.string c] 34)).drew).ownsMap Tryz.prog 9 (plainElem Tryz.prog 3) bm n D:=(hown.alloc _).drew
  obtain ⟨v,ps,h2,h3⟩:=h1.look_ok um.law9 Tryz.underlying45 (um.zero3 _) (plainElem_int Tryz.underlying3 (by decide)) hkey
  rw [hhas] at h2
  rw [hat] at h3
  obtain ⟨c,rfl,h4,_⟩:=plainElem_int_inv Tryz.underlying3 h3
  injection h4 with h4 _
  injection h4 with h4
  injection h4 with _ h4
  rw [h2,h4]
 obtain ⟨b0,b1,b2,b3⟩:=ua.look2 hg1
 have hs1:=ua.new_old hs (.cells #[.string a,.string b,.string c] 34)
 have c1:=(uj hs1 (i * 3 + 1)).trans hy
 have c2:=(uj hs1 (i * 3 + 2)).trans hz
 have f1:=uo hs1 (i * 3 + 1)
 have f2:=uo hs1 (i * 3 + 2)
 have k1:¬ gs = W.heap.size:=by have:=u3a hs;omega
 have k2:¬ W.heap.size = gs:=fun e => k1 e.symm
 have k3:¬ g = gs:=fun e => hne e.symm
 clear hs1 hs hy hz hown hhas hat
 have hi2:(i:Int) < (n:Int):=by omega
 have mixed:Tryz.prog.follows .mixedOrders = true:=by kernel_rfl
 go_enter Tryz.func19,Tryz.ntmps19
 go_wp2
 have m1:¬ g = W.heap.size:=by have:=u3a hg;omega
 have m2:¬ W.heap.size = g:=fun e => m1 e.symm
 obtain ⟨⟨d0,d1,d2⟩,d3⟩:=uc.look3 hn1
 clear hg hn1 hg1
 generalize hW1:W.alloc (.cells #[.string a,.string b,.string c] 34) = W1 at *
 have HW1:=Aside0.mk hW1
 clear hW1
 generalize W.heap.size = zz at *
 cases help with
 | true =>
   go_region_o
   all_goals go_wp2
   go_region_o
   all_goals go_wp2
   all_goals go_end0
   all_goals exact ⟨rfl,2,by rw [HW1.out];rfl⟩
 | false =>
   go_region_o
   all_goals go_wp2
   go_region_o
   all_goals go_wp2
   all_goals go_end0
   all_goals exact ⟨rfl,2,by rw [HW1.out];rfl⟩
theorem um.step_run {P:Program} {ops:Array Oper} {o:Oper} {a:Act} {w:World} {K:Act → World → Prop} {Q:Exit → Act → World → Prop} {E:Prop} (hgd:o.guard = none) (s x:Operand) (t:TypeId)
 (ho:o.op = .call { callee:=.builtin .append,args:=#[s,x],argTypes:=#[t,t] }) (v u:Value) (hs:a.eval s = v) (hx:a.eval x = u) (v':Value) (w':World) (hrun:(Builtin.append_ #[t,t] o.type #[v,u]).run P w = .ok v' w') (hK:K (a.put o.dst v') w') :
 if Region.wanted o (yielded ops a.tmps) = true then Oper.wp P o a w K Q else E:=by
 have hw:Region.wanted o (yielded ops a.tmps) = true:=by simp [Region.wanted,hgd]
 rw [if_pos hw]
 unfold Oper.wp execOp
 simp only [ho,resolve,invoke,builtin,Sem.run_bind,Sem.run_pure,Result.andThen_ok,List.map_toArray,List.map_cons,List.map_nil,hs,hx,hrun]
 exact hK
set_option maxRecDepth 100000 in
set_option maxHeartbeats 2000000 in
theorem um.fresh (W W2 W3:World) (g bm n:Nat) (i:Int) (a b c:ByteArray) (help:Bool) (A:Option Addr) (cap:Nat) (A3:Option Addr) (n3 c3:Nat)
 (hg:W.heap[g]? = some (.cells #[.slice A n cap,.map (some bm)] 47 (0,0)))
 (hlk:(Instr.lookup 45 (.map (some bm)) (.string a) true).run Tryz.prog (W.alloc (.cells #[.string a,.string b,.string c] 34)).drew = .ok (.tuple #[.int .i64 i,.bool false]) (W.alloc (.cells #[.string a,.string b,.string c] 34)).drew)
 (hup:(Instr.mapUpdate 45 (.map (some bm)) (.string a) (.int .i64 (n:Int))).run Tryz.prog (W.alloc (.cells #[.string a,.string b,.string c] 34)).drew.drew = .ok () W2)
 (hg2:W2.heap[g]? = some (.cells #[.slice A n cap,.map (some bm)] 47 (0,0))) (hz2:W2.heap[W.heap.size]? = some (.cells #[.string a,.string b,.string c] 34 (0,0)))
 (hap:(Builtin.append_ #[25,25] 25 #[.slice A n cap,.slice (some ⟨W2.heap.size,0,none⟩) 1 1]).run Tryz.prog (W2.drew.alloc (.cells #[.string a,.string b,.string c] 34)) = .ok (.slice A3 n3 c3) W3)
 (hg3:W3.heap[g]? = some (.cells #[.slice A n cap,.map (some bm)] 47 (0,0))) :
 Calls Tryz.prog 19 #[.pointer (some ⟨g,0,none⟩),.agg #[.string a,.string b,.string c],.bool help] W fun e W' => e = .returned (.tuple #[]) ∧ W' = W3.setCell ⟨g,0,none⟩ (.slice A3 n3 c3):=by
 have hg1:=ua.new_old hg (.cells #[.string a,.string b,.string c] 34)
 have hn1:=ua.new_at W (.cells #[.string a,.string b,.string c] 34)
 obtain ⟨b0,b1,b2,b3⟩:=ua.look2 hg1
 obtain ⟨g0,g1,g2,g3⟩:=ua.look2 hg2
 obtain ⟨h0,h1,h2,h3⟩:=ua.look2 hg3
 obtain ⟨⟨d0,d1,d2⟩,d3⟩:=uc.look3 hn1
 obtain ⟨⟨e0,e1,e2⟩,e3⟩:=uc.look3 hz2
 have m1:¬ g = W.heap.size:=by have:=u3a hg;omega
 have m2:¬ W.heap.size = g:=fun e => m1 e.symm
 have hg4:=ua.new_old hg2 (.cells #[.string a,.string b,.string c] 34)
 have hz4:=ua.new_old hz2 (.cells #[.string a,.string b,.string c] 34)
 obtain ⟨i0,i1,i2,i3⟩:=ua.look2 hg4
 obtain ⟨⟨j0,j1,j2⟩,j3⟩:=uc.look3 hz4
 have hap2:(Builtin.append_ #[25,25] 25 #[.slice A n cap,.slice (some ⟨W2.heap.size,0,none⟩) 1 1]).run Tryz.prog (W2.alloc (.cells #[.string a,.string b,.string c] 34)).drew = .ok (.slice A3 n3 c3) W3:=hap
 clear hg hn1 hg1 hg2 hg3 hz2 hg4 hz4
 have mixed:Tryz.prog.follows .mixedOrders = true:=by kernel_rfl
 go_enter Tryz.func19,Tryz.ntmps19
 go_wp2
 generalize W.alloc (.cells #[.string a,.string b,.string c] 34) = W1 at *
 generalize W.heap.size = zz at *
 go_region_o
 all_goals go_wp2
 go_region_o
 all_goals go_wp2
 go_region_law (refine um.step_run rfl (.tmp 45) (.tmp 47) 25 rfl _ _ (by rfl) (by rfl) _ _ hap ?_)
 all_goals go_wp2
 all_goals go_end0
 all_goals exact ⟨rfl,rfl⟩
theorem um.run_app {P:Program} {α:Type} (d:Kd α) (base:Nat) (t e:TypeId) (z:Value) (bytes:Nat) (ht:P.underlying t = some (.slice e)) (hinfo:(P.info? e).map (fun i => (i.zero,i.size,i.bytes)) = some (some z,d.sz,bytes)) (hz:z.cells.size = d.sz) (hs0:0 < d.sz) (hb0:0 < bytes)
 (W:World) (v:Value) (xs:List α) (p:α) (cs:List Value) (ok okp:Nat → Prop) (hp:d.M W base okp p cs) (hokp:∀ k,okp k → ok k ∧ some k ≠ v.ownBlock) (hfresh:∀ k,W.heap.size ≤ k → ok k)
 (HO:d.R e W base ok v xs) (hbase:base ≤ W.heap.size) (hl:(xs.length + 1) * bytes ≤ 140737488355328) :
 ∃ (A3:Option Addr) (c3:Nat) (w1:World),(Builtin.append_ #[t,t] t #[v,.slice (some ⟨W.heap.size,0,none⟩) 1 1]).run P (W.alloc (.cells cs.toArray e)) = .ok (.slice A3 (xs.length + 1) c3) w1 ∧ d.R e w1 base ok (.slice A3 (xs.length + 1) c3) (xs ++ [p]) ∧ W.grownBy w1 v.ownBlock:=by
 obtain ⟨h0,inner,hown,hr⟩:=HO
 obtain ⟨i0,hi,hzz⟩:=Option.map_eq_some_iff.1 hinfo
 simp only [Prod.mk.injEq] at hzz
 obtain ⟨hz0,hz1,hz2⟩:=hzz
 have hlen:xs.length + 1 ≤ 140737488355328:=Nat.le_trans (Nat.le_mul_of_pos_right _ hb0) hl
 have hcs:=d.K_len (d.K_of_M hp)
 obtain ⟨v',w',hrun,hown',hg,_,hat⟩:=run_append_own_at (P:=P) (W.alloc (.cells cs.toArray e)) base t t e i0 z d.sz bytes ht hi hz0 hz1 hz2 hz hs0 v xs.length inner (hown.alloc _) ⟨W.heap.size,0,none⟩ 1 1 cs (by rw [hcs];simp)
  (by simpa using World.news_of_block (cs:=cs.toArray) (t:=e) (fr:=(0,0)) (heap_alloc_new W (.cells cs.toArray e))) (d.K_one (d.K_of_M hp)) (by simp only [maxLen];omega) hl (by simp;omega)
 have hg':W.grownBy w' v.ownBlock:=World.grownBy.trans (World.grownBy_alloc W _ _) hg
 have hR:=Kd.R_appended h0 hr hp hokp hfresh hown' hg' (by
  rcases hat with hat | hat
  · exact .inl hat
  · exact .inr ⟨_,hat,by simp⟩)
 obtain ⟨A,c,rfl⟩:=Kd.R_slice hR
 rw [List.length_append,List.length_singleton] at hrun hR
 exact ⟨A,c,w',hrun,hR,hg'⟩
theorem um.infoM:(Tryz.prog.info? 34).map (fun i => (i.zero,i.size,i.bytes)) = some (some (.agg #[(.string ⟨#[]⟩),(.string ⟨#[]⟩),(.string ⟨#[]⟩)]),3,48):=by kernel_rfl
theorem um.names {D:DataW Unit} {L L':List S34} (h:um.Places D L) (e:L'.map (·.f0) = L.map (·.f0)):um.Places D L':=by
 have hl:L'.length = L.length:=by
  have:=congrArg List.length e
  rwa [List.length_map,List.length_map] at this
 have hat:∀ (i:Nat) (h1:i < L'.length),L'[i].f0 = (L[i]'(by omega)).f0:=fun i h1 => by
  have h2:=congrArg (fun l:List ByteArray => l[i]?) e
  simp only [List.getElem?_map] at h2
  rw [List.getElem?_eq_getElem h1,List.getElem?_eq_getElem (by omega:i < L.length)] at h2
  exact Option.some.inj h2
 refine ⟨h.1,fun i h1 => ?_,fun key hk => h.2.2 key fun x hx e1 => ?_⟩
 · rw [hat i h1]
   exact h.2.1 i (by omega)
 · obtain ⟨i,hi,rfl⟩:=List.getElem_of_mem hx
   exact hk L'[i] (List.getElem_mem (by omega)) ((hat i (by omega)).trans e1)
theorem um.one_more {D:DataW Unit} {L:List S34} (h:um.Places D L) (m:S34) (hs:m.f0.size ≤ maxLen) (hn:∀ x ∈ L,x.f0 ≠ m.f0):um.Places (D.put (.string m.f0.data.toList) (.lit (.int .i64 (L.length:Int)))) (L ++ [m]):=by
 have hk:WideAt.IsKeyLit (.string m.f0.data.toList):=trivial
 have hne:∀ a:ByteArray,a ≠ m.f0 → (Lit.string a.data.toList) ≠ .string m.f0.data.toList:=fun a h1 h2 => h1 (by injection h2 with h2;exact Base.ext_data h2)
 refine ⟨h.1.put _ _,fun i hi => ?_,fun key hkey => ?_⟩
 · by_cases h1:i < L.length
   · have e1:(L ++ [m])[i] = L[i]:=List.getElem_append_left h1
     have h2:=hne _ (hn _ (List.getElem_mem h1))
     rw [e1]
     refine ⟨(Maps.has_put_other h2 _).trans (h.2.1 i h1).1,fun z => (Maps.atKey_put_other h2 _ z).trans ((h.2.1 i h1).2 z)⟩
   · have e0:i = L.length:=by
      rw [List.length_append,List.length_singleton] at hi
      omega
     subst e0
     have e1:(L ++ [m])[L.length] = m:=by simp
     rw [e1]
     exact ⟨Maps.has_put_same h.1 hk _,fun z => Maps.atKey_put_same h.1 hk _ z⟩
 · have h1:=hne key (fun e => hkey m (by simp) e.symm)
   rw [Maps.has_put_other h1]
   exact h.2.2 key (fun x hx => hkey x (by simp [hx]))
theorem um.stay_grown {W W':World} {v:Value} (hg:W.grownBy W' v.ownBlock) (hv:∀ k,v.ownBlock = some k → ∃ cells,W.heap[k]? = some (.cells cells 34 (0,0))):um.Stay W W':=fun k t cells h _ h2 => hg.block k (u3a h) (fun e => by
 obtain ⟨c,hc⟩:=hv k e.symm
 rw [h] at hc
 injection hc with hc
 injection hc with _ hc
 exact h2 hc)
theorem um.calls (w0 W:World) (g:Nat) (L:List S34) (m:S34) (help:Bool) (h:um.Bk w0 W g L) (hb:Below w0.heap.size w0 W) (hm:m.f0.size ≤ maxLen) (hl:L.length ≤ 1000000000000) :
 Calls Tryz.prog 19 #[.pointer (some ⟨g,0,none⟩),.agg #[.string m.f0,.string m.f1,.string m.f2],.bool help] W fun e W' => e = .returned (.tuple #[]) ∧ um.Bk w0 W' g (um.noteS m help L) ∧ Below w0.heap.size w0 W' ∧ um.Stay W W' ∧ W.heap.size ≤ W'.heap.size:=by
 obtain ⟨hbase,v,bm,D,hg,hown,hp,hR,hbm⟩:=h
 rcases um.there D L m.f0 hp with ⟨i,hi,hn,hu,hhas,hat⟩ | ⟨hn,hhas⟩
 · obtain ⟨gs,cap,rfl,hgs,hlt,cells,hcs⟩:=Kd.R_form hR (by omega)
   obtain ⟨c,hc1,hc2,hc3,hc4⟩:=Kd.R_elem hR z34 (i:Int) (by omega) (by omega)
   have hxi:L.getD (i:Int).toNat z34 = L[i]:=by
    rw [Int.toNat_natCast,List.getD_eq_getElem?_getD,List.getElem?_eq_getElem hi]
    rfl
   rw [hxi] at hc2
   obtain rfl:=k34_openM hc2
   have hne:¬ gs = g:=blk_ne hcs hg (by decide)
   have hnb:bm ≠ gs:=fun e => by
    obtain ⟨es,clock,hb1,_⟩:=hown
    rw [e,hcs] at hb1
    cases hb1
   have y1:=(uj hcs (i * 3 + 1)).symm.trans (hc3 1 _ rfl)
   have y2:=(uj hcs (i * 3 + 2)).symm.trans (hc3 2 _ rfl)
   refine (um.met W g bm gs cap L.length i D m.f0 m.f1 m.f2 help .nilIface _ _ hi hne hg hown hm hhas hat cells hcs y1 y2).mono ?_
   rintro e W' ⟨he,q,rfl⟩
   have hset:=um.note_met m help L i hi hn hu
   have hA:=Kd.R_alloc hR (.cells #[.string m.f0,.string m.f1,.string m.f2] 34)
   have hg1:=ua.new_old hg (.cells #[.string m.f0,.string m.f1,.string m.f2] 34)
   have hcc:∀ (j:Nat) u,([.string L[i].f0,.string L[i].f1,.string L[i].f2]:List Value)[j]? = some u → (W.alloc (.cells #[.string m.f0,.string m.f1,.string m.f2] 34)).cell? ⟨gs,(i:Int).toNat * 3 + j,none⟩ = some u:=fun j u hj => by
    have h1:=hc3 j u hj
    have h2:=ua.new_old hcs (.cells #[.string m.f0,.string m.f1,.string m.f2] 34)
    exact (uj h2 _).trans ((uj hcs _).symm.trans h1)
   have hseg:Kd.R k34 34 ((W.alloc (.cells #[.string m.f0,.string m.f1,.string m.f2] 34)).setCell ⟨gs,i * 3 + (if help = true then 2 else 1),none⟩ (.string (if help = true then m.f2 else m.f1))) w0.heap.size (fun _ => True) (.slice (some ⟨gs,0,none⟩) L.length cap) (L.set i (um.set m L[i] help)):=by
    cases help with
    | true =>
      have:=(Kd.R_seg hA (i:Int) (by omega) (by omega) (c:=[.string L[i].f0,.string L[i].f1,.string L[i].f2]) (seg:=[.string m.f2]) (j:=2) rfl hcc (Nat.le_refl 3) (x':=um.set m L[i] true) (okp:=fun k => k ≠ gs) (k34_mkM _ _ _ ⟨L[i].f0,L[i].f1,m.f2⟩) (fun k hk => ⟨trivial,hk⟩)).1
      exact this
    | false =>
      have:=(Kd.R_seg hA (i:Int) (by omega) (by omega) (c:=[.string L[i].f0,.string L[i].f1,.string L[i].f2]) (seg:=[.string m.f1]) (j:=1) rfl hcc (show 1 + 1 ≤ 3 by decide) (x':=um.set m L[i] false) (okp:=fun k => k ≠ gs) (k34_mkM _ _ _ ⟨L[i].f0,m.f1,L[i].f2⟩) (fun k hk => ⟨trivial,hk⟩)).1
      exact this
   have hle:(L.set i (um.set m L[i] help)).length = L.length:=List.length_set
   have hnm:(L.set i (um.set m L[i] help)).map (·.f0) = L.map (·.f0):=by
    rw [List.map_set]
    have e1:(um.set m L[i] help).f0 = (L.map (·.f0))[i]'(by rw [List.length_map];exact hi):=by
     rw [List.getElem_map]
     unfold um.set
     split <;> rfl
    rw [e1,List.set_getElem_self]
   refine ⟨he,⟨hbase,.slice (some ⟨gs,0,none⟩) L.length cap,bm,D,?_,?_,?_,?_,hbm⟩,?_,?_,?_⟩
   · exact blk_far hg1 (fun e => hne e.symm) _
   · rw [hset,hle]
     exact ((hown.alloc _).setCell (a:=⟨gs,i * 3 + (if help = true then 2 else 1),none⟩) hnb _)
   · rw [hset]
     exact um.names hp hnm
   · rw [hset]
     exact Kd.R_drewN hseg q
   · exact ub (Below.setCell (ud hb _) hgs _) q
   · intro k t cells' h1 h2 h3
     have h4:=ua.new_old h1 (.cells #[.string m.f0,.string m.f1,.string m.f2] 34)
     have h5:k ≠ gs:=blk_ne h1 hcs h3
     exact (blk_far h4 h5 _).trans h1.symm
   · show W.heap.size ≤ ((W.alloc _).setCell _ _).heap.size
     rw [World.size_setCell,World.size_alloc]
     omega
 · obtain ⟨A,cap,rfl⟩:=Kd.R_slice hR
   have hkey:=WideMaps.keyOf_string_mk (P:=Tryz.prog) Tryz.underlying9 hm
   have hown1:((W.alloc (.cells #[.string m.f0,.string m.f1,.string m.f2] 34)).drew).ownsMap Tryz.prog 9 (plainElem Tryz.prog 3) bm L.length D:=(hown.alloc _).drew
   obtain ⟨v1,ps,h2,h3⟩:=hown1.look_ok um.law9 Tryz.underlying45 (um.zero3 _) (plainElem_int Tryz.underlying3 (by decide)) hkey
   rw [hhas] at h2
   obtain ⟨z1,rfl,_,_⟩:=plainElem_int_inv Tryz.underlying3 h3
   have hw:(Lit.int .i64 (L.length:Int)).wf = true:=by
    have:(L.length:Int) ≤ 1000000000000:=by omega
    simp [Lit.wf,IntKind.min,IntKind.max,IntKind.signed,IntKind.bits]
    omega
   obtain ⟨W2,hup,hown2,hg2⟩:=(hown1.drew).update um.law9 Tryz.underlying45 (by unfold maxLen;omega) hkey (plainElem_int Tryz.underlying3 hw)
   have hgg:(W.alloc (.cells #[.string m.f0,.string m.f1,.string m.f2] 34)).grownBy W2 (some bm):=⟨hg2.os,hg2.tape,hg2.output,hg2.size,hg2.block⟩
   have hgb:∀ (k t:Nat) (cells:Array Value),W.heap[k]? = some (.cells cells t (0,0)) → W2.heap[k]? = some (.cells cells t (0,0)):=fun k t cells h1 => by
    have hne:some k ≠ some bm:=fun e => by
     injection e with e
     subst e
     obtain ⟨es,clock,hb1,_⟩:=hown
     rw [h1] at hb1
     cases hb1
    exact u3g (ua.new_old h1 _) hgg hne
   have hsz2:W.heap.size < W2.heap.size:=by
    have:=hgg.size
    rw [World.size_alloc] at this
    omega
   have hR2:Kd.R k34 34 W2 w0.heap.size (fun _ => True) (.slice A L.length cap) L:=Kd.R_mono (Kd.R_step (Kd.R_bound hR) (fun k hk _ => by
    obtain ⟨_,_,_,q,_,cells,hc⟩:=hk
    exact (hgb k q cells hc).trans hc.symm)) (fun _ _ => trivial)
   have hz2:W2.heap[W.heap.size]? = some (.cells #[.string m.f0,.string m.f1,.string m.f2] 34 (0,0)):=u3g (ua.new_at W _) hgg (fun e => by
    injection e with e
    have:=hown.lt
    omega)
   obtain ⟨A3,c3,W3,hap,hR3,hg3⟩:=um.run_app k34 w0.heap.size 25 34 (.agg #[(.string ⟨#[]⟩),(.string ⟨#[]⟩),(.string ⟨#[]⟩)]) 48 Tryz.underlying25 um.infoM rfl (by decide) (by decide) W2.drew (.slice A L.length cap) L m [.string m.f0,.string m.f1,.string m.f2] (fun _ => True) (fun _ => False) (k34_mkM _ _ _ m) (fun _ hk => hk.elim) (fun _ _ => trivial) (Kd.R_drew hR2) (by show w0.heap.size ≤ W2.heap.size;have:=hb.size;omega) (by omega)
   have hg3':W2.grownBy W3 (Value.slice A L.length cap).ownBlock:=⟨hg3.os,hg3.tape,hg3.output,hg3.size,hg3.block⟩
   have hty:=Kd.R_typed hR2
   have hgW3:W3.heap[g]? = some (.cells #[.slice A L.length cap,.map (some bm)] 47 (0,0)):=u3g (hgb _ _ _ hg) hg3' (Kd.R_ne hR2 (hgb _ _ _ hg) (by decide))
   refine (um.fresh W W2 W3 g bm L.length z1 m.f0 m.f1 m.f2 help A cap A3 (L.length + 1) c3 hg h2 hup (hgb _ _ _ hg) hz2 hap hgW3).mono ?_
   rintro e W' ⟨he,rfl⟩
   have hnew:=um.note_new m help L hn
   have hbW2:Below w0.heap.size w0 W2:=(ud hb (.cells #[.string m.f0,.string m.f1,.string m.f2] 34)).grown hgg (by rw [World.size_alloc];have:=hb.size;omega) (fun k hk => by injection hk with hk;omega)
   have hbW3:Below w0.heap.size w0 W3:=hbW2.grown hg3' (by have:=hb.size;omega) (Kd.R_base hR2)
   have hmg:bm ≠ g:=fun e => by
    obtain ⟨es,clock,hb1,_⟩:=hown
    rw [e,hg] at hb1
    cases hb1
   refine ⟨he,⟨hbase,.slice A3 (L.length + 1) c3,bm,D.put (.string m.f0.data.toList) (.lit (.int .i64 (L.length:Int))),?_,?_,?_,?_,hbm⟩,?_,?_,?_⟩
   · rw [blk_set hgW3]
     rfl
   · rw [hnew,List.length_append,List.length_singleton]
     refine World.ownsMap.setCell (a:=⟨g,0,none⟩) ?_ hmg _
     refine World.ownsMap.kept hown2 (w':=W3) hg3' ?_
     intro e1
     obtain ⟨cells,hc⟩:=hty bm e1.symm
     obtain ⟨es,clock,hb1,_⟩:=hown2
     rw [hb1] at hc
     cases hc
   · rw [hnew]
     exact um.one_more hp m hm hn
   · rw [hnew]
     exact Kd.R_set hR3 hgW3 (by decide) 0 _
   · exact hbW3.setCell hbase _
   · intro k t cells h1 h4 h5
     have h6:=hgb k t cells h1
     have h7:=um.stay_grown hg3' hty k t cells h6 h4 h5
     have h8:k ≠ g:=blk_ne h1 hg h4
     exact (Below.heap_setCell W3 ⟨g,0,none⟩ _ k h8).trans (h7.trans (h6.trans h1.symm))
   · rw [World.size_setCell]
     have:=hg3'.size
     omega
theorem ul.pre_is (p s:List UInt8):u1q.f (Base.ofL s) (Base.ofL p) = some (p.isPrefixOf s):=by
 have hs:(Base.ofL s).size = s.length:=(Tx.cut_ofL s 0 (by omega)).2.2
 have hp:(Base.ofL p).size = p.length:=(Tx.cut_ofL p 0 (by omega)).2.2
 unfold u1q.f u1t.f
 rw [hs,hp]
 by_cases h:p.length ≤ s.length
 · have e1:((Base.ofL s).extract 0 ((p.length:Int)).toNat).toList = s.take p.length:=by
    rw [ByteArray.toList_eq,Base.extract_list,Base.ofL_data]
    simp
   have e2:(Base.ofL p).toList = p:=by rw [ByteArray.toList_eq,Base.ofL_data]
   have e4:(s.take p.length == p) = p.isPrefixOf s:=by
    rw [Bool.eq_iff_iff,beq_iff_eq,List.isPrefixOf_iff_prefix]
    constructor
    · intro e
      rw [← e]
      exact List.take_prefix _ _
    · intro e
      exact (List.prefix_iff_eq_take.1 e).symm
   rw [if_pos (by omega),if_pos (by omega),if_pos (by omega),e1,e2,e4]
   rfl
 · have e5:p.isPrefixOf s = false:=by
    cases e:p.isPrefixOf s with
    | false => rfl
    | true => exact absurd (List.IsPrefix.length_le (List.isPrefixOf_iff_prefix.1 e)) h
   rw [if_neg (by omega),e5]
   rfl
theorem ul.known_is (s:List UInt8):text_known.f (Base.ofL s) = some (Tx.knownL s):=by
 have e:(Base.ofL s).toList = s:=by rw [ByteArray.toList_eq,Base.ofL_data]
 unfold text_known.f Tx.knownL Tx.kinds
 rw [e]
 simp only [List.contains_cons,List.contains_nil,Bool.or_false]
 repeat' split
 all_goals first
  | (rename_i h;subst h;rfl)
  | (simp_all;done)
  | (simp_all [beq_iff_eq])
theorem ul.both {s:List UInt8} (h:Tx.typeW.isPrefixOf s = true):Tx.helpW.isPrefixOf s = false:=by
 obtain ⟨t,rfl⟩:=List.isPrefixOf_iff_prefix.1 h
 rfl
theorem ul.pre_len {p s:List UInt8} (h:p.isPrefixOf s = true):p.length ≤ s.length:=List.IsPrefix.length_le (List.isPrefixOf_iff_prefix.1 h)
theorem ul.three {w0 W W4:World} {g:Nat} (hB:Below w0.heap.size w0 W4) (hw:w0.heap.size ≤ W.heap.size) (hk:u1v W W4 g none) (u v x:Value):Below w0.heap.size w0 (((W4.setCell ⟨W.heap.size,0,none⟩ u).setCell ⟨W.heap.size,1,none⟩ v).setCell ⟨W.heap.size,2,none⟩ x) ∧ u1v W (((W4.setCell ⟨W.heap.size,0,none⟩ u).setCell ⟨W.heap.size,1,none⟩ v).setCell ⟨W.heap.size,2,none⟩ x) g none :=
 ⟨((hB.setCell (p:=⟨W.heap.size,0,none⟩) hw u).setCell (p:=⟨W.heap.size,1,none⟩) hw v).setCell (p:=⟨W.heap.size,2,none⟩) hw x,ua.keep_new (p:=⟨W.heap.size,2,none⟩) (ua.keep_new (p:=⟨W.heap.size,1,none⟩) (ua.keep_new (p:=⟨W.heap.size,0,none⟩) hk (Nat.le_refl _) u) (Nat.le_refl _) v) (Nat.le_refl _) x⟩
theorem ul.res0 (W:World) (t n g:Nat) (b:ByteArray) (hg:g < W.heap.size):(((W.alloc (.cells #[.string ⟨#[]⟩,.string ⟨#[]⟩,.string ⟨#[]⟩] t)).drewN n).setCell ⟨g,0,none⟩ (.string b)).heap[W.heap.size]? = some (.cells #[.string ⟨#[]⟩,.string ⟨#[]⟩,.string ⟨#[]⟩] t (0,0)) :=
 (Below.heap_setCell _ ⟨g,0,none⟩ _ W.heap.size (by show W.heap.size ≠ g;omega)).trans (ua.new_at W _)
def ul.Out (w0 W:World) (g:Nat) (o:Option Tx.Me) (e:Ending) (W':World):Prop:=match o with
 | some m => e = .returned (.agg #[.string m.1,.string m.2.1,.string m.2.2]) ∧ Below w0.heap.size w0 W' ∧ u1v W W' g none
 | none => e = .panicked (u2q.chain 280) ∧ Below w0.heap.size w0 W'
theorem ul.out_none {w0 W:World} {g:Nat} {o:Option Tx.Me} (ho:o = none) {W':World} (h1:Below w0.heap.size w0 W'):ul.Out w0 W g o (.panicked (u2q.chain 280)) W':=by
 subst ho
 exact ⟨rfl,h1⟩
theorem ul.out_some {w0 W:World} {g:Nat} {o:Option Tx.Me} {a b c:ByteArray} (ho:o = some (a,b,c)) {W':World} (h2:Below w0.heap.size w0 W') (h3:u1v W W' g none):ul.Out w0 W g o (.returned (.agg #[.string a,.string b,.string c])) W':=by
 subst ho
 exact ⟨rfl,h2,h3⟩
set_option maxRecDepth 100000 in
set_option maxHeartbeats 2000000 in
theorem ul.other (w0 W:World) (g:Nat) (s:List UInt8) (hl:s.length ≤ 1000) (hh:Tx.helpW.isPrefixOf s = false) (ht:Tx.typeW.isPrefixOf s = false) (h:ua.St w0 W g s) :
 Calls Tryz.prog 48 #[.pointer (some ⟨g,0,none⟩)] W fun e W' => ul.Out w0 W g (Tx.remarkP s) e W':=by
 have HE:Aside0 (Tx.remarkP s = some (Base.ofL [],Base.ofL [],Base.ofL [])):=⟨by unfold Tx.remarkP;rw [hh,ht];rfl⟩
 have H1:Aside0 (u1q.f (Base.ofL s) (⟨#[35,32,72,69,76,80,32]⟩:ByteArray) = some false):=⟨(ul.pre_is Tx.helpW s).trans (by rw [hh])⟩
 have H2:Aside0 (u1q.f (Base.ofL s) (⟨#[35,32,84,89,80,69,32]⟩:ByteArray) = some false):=⟨(ul.pre_is Tx.typeW s).trans (by rw [ht])⟩
 have HS:=Aside0.mk h
 have hS1:=h.one_more (.cells #[.string ⟨#[]⟩,.string ⟨#[]⟩,.string ⟨#[]⟩] 34)
 obtain ⟨h0,f0⟩:=hS1.look
 clear h hh ht hS1
 go_enter Tryz.func48,Tryz.ntmps48
 go_wp2_with fail
 go_quiet (first
  | (go_at_call 20;(with_reducible refine (u1q.calls _ _ _ _ H1.out).mono ?_);rintro e w' ⟨rfl,⟨nd,rfl⟩⟩;exact ⟨rfl,_,World.drewN_drewN _ _ _⟩)
  | (go_at_call 20;(with_reducible refine (u1q.calls _ _ _ _ H2.out).mono ?_);rintro e w' ⟨rfl,⟨nd,rfl⟩⟩;exact ⟨rfl,_,World.drewN_drewN _ _ _⟩))
 go_wp2
 refine bodyPost_ret (v:=.agg #[.string ⟨#[]⟩,.string ⟨#[]⟩,.string ⟨#[]⟩]) (by simp [results,Tryz.results48,go_sem]) rfl (ul.out_some HE.out ?_ ?_)
 · exact (ul.three (g:=g) (ui HS.out.below HS.out.below.size (ub (ud (Below.refl _ _) _) nq)) HS.out.below.size (keep_drewN (keep_alloc (u1v.refl _ _ _) _) nq) _ _ _).1
 · exact (ul.three (g:=g) (ui HS.out.below HS.out.below.size (ub (ud (Below.refl _ _) _) nq)) HS.out.below.size (keep_drewN (keep_alloc (u1v.refl _ _ _) _) nq) _ _ _).2
set_option maxRecDepth 100000 in
set_option maxHeartbeats 4000000 in
theorem ul.help (w0 W:World) (g:Nat) (s:List UInt8) (hl:s.length ≤ 1000) (hh:Tx.helpW.isPrefixOf s = true) (ht:Tx.typeW.isPrefixOf s = false) (h:ua.St w0 W g s) :
 Calls Tryz.prog 48 #[.pointer (some ⟨g,0,none⟩)] W fun e W' => ul.Out w0 W g (Tx.remarkP s) e W':=by
 have H1:Aside0 (u1q.f (Base.ofL s) (⟨#[35,32,72,69,76,80,32]⟩:ByteArray) = some true):=⟨(ul.pre_is Tx.helpW s).trans (by rw [hh])⟩
 have H2:Aside0 (u1q.f (Base.ofL s) (⟨#[35,32,84,89,80,69,32]⟩:ByteArray) = some false):=⟨(ul.pre_is Tx.typeW s).trans (by rw [ht])⟩
 have HS:=Aside0.mk h
 have HG:=Aside0.mk h.lt
 have hS1:=h.one_more (.cells #[.string ⟨#[]⟩,.string ⟨#[]⟩,.string ⟨#[]⟩] 34)
 obtain ⟨h0,f0⟩:=hS1.look
 have h7:7 ≤ s.length:=ul.pre_len hh
 have hdl:(s.drop 7).length ≤ 1000:=by rw [List.length_drop];omega
 have hsz:(Base.ofL s).size = s.length:=(Tx.cut_ofL s 0 (by omega)).2.2
 have hcut:(Base.ofL s).extract 7 s.length = Base.ofL (s.drop 7):=by
  have:=(Tx.cut_ofL s 7 h7).2.1
  rwa [hsz] at this
 have HO:Aside0 (Tx.remarkP s = (Tx.nameP (s.drop 7)).bind fun p => (Tx.expectP [32] p.2).bind fun r => if Tx.plainL r = true then some (p.1,Base.ofL [],Base.ofL r) else none):=⟨by unfold Tx.remarkP;rw [hh,ht];rfl⟩
 generalize hoo:Tx.remarkP s = o at HO ⊢
 clear hoo h hh ht hS1
 cases hn:Tx.nameP (s.drop 7) with
 | none =>
   have HE:Aside0 (o = none):=⟨by rw [HO.out,hn];rfl⟩
   have HN:=Aside0.mk hn
   clear hn HO
   go_enter Tryz.func48,Tryz.ntmps48
   go_wp2_with fail
   go_quiet (first
    | (go_at_call 20;(with_reducible refine (u1q.calls _ _ _ _ H1.out).mono ?_);rintro e w' ⟨rfl,⟨nd,rfl⟩⟩;exact ⟨rfl,_,World.drewN_drewN _ _ _⟩)
    | (go_at_call 20;(with_reducible refine (u1q.calls _ _ _ _ H2.out).mono ?_);rintro e w' ⟨rfl,⟨nd,rfl⟩⟩;exact ⟨rfl,_,World.drewN_drewN _ _ _⟩))
   go_wp2_with (first
    | (go_at_call 81;(with_reducible refine (u2p.calls_no w0 _ g (s.drop 7) (by omega) HN.out (by exact ((HS.out.one_more _).drew nq).set _)).mono ?_);rintro e W2 ⟨rfl,hb2⟩))
   exact ⟨rfl,ul.out_none HE.out hb2⟩
 | some p =>
   obtain ⟨n,r⟩:=p
   have hr:=u1m.name_rest hn
   have HN:=Aside0.mk hn
   cases he:Tx.expectP [32] r with
   | none =>
     have HE2:Aside0 (o = none):=⟨by rw [HO.out,hn];simp only [Option.bind_some];rw [he];rfl⟩
     have HE:=Aside0.mk ((u1m.expect_is 32 r).2 he)
     clear hn he HO
     go_enter Tryz.func48,Tryz.ntmps48
     go_wp2_with fail
     go_quiet (first
      | (go_at_call 20;(with_reducible refine (u1q.calls _ _ _ _ H1.out).mono ?_);rintro e w' ⟨rfl,⟨nd,rfl⟩⟩;exact ⟨rfl,_,World.drewN_drewN _ _ _⟩)
      | (go_at_call 20;(with_reducible refine (u1q.calls _ _ _ _ H2.out).mono ?_);rintro e w' ⟨rfl,⟨nd,rfl⟩⟩;exact ⟨rfl,_,World.drewN_drewN _ _ _⟩))
     go_wp2_with (first
      | (go_at_call 81;(with_reducible refine (u2p.calls_ok w0 _ g (s.drop 7) (by omega) n r HN.out (by exact ((HS.out.one_more _).drew nq).set _)).mono ?_);rintro e W2 ⟨rfl,hs2,hk2⟩;have HS2:=Aside0.mk hs2;have HL2:Aside0 (W.heap.size < W2.heap.size):=⟨by have:=hk2.1;simp at this;omega⟩;have B2:=Aside0.mk (ua.kept_at hk2 (by have:=HG.out;omega) (ul.res0 W 34 nq g (Base.ofL (s.drop 7)) HG.out));have HK2:=Aside0.mk (ua.keep_then ((keep_drewN (keep_alloc (u1v.refl W g none) (.cells #[.string ⟨#[]⟩,.string ⟨#[]⟩,.string ⟨#[]⟩] 34)) nq).set_ 0 (.string (Base.ofL (s.drop 7)))) hk2);clear hs2 hk2)
      | (go_at_call 82;(with_reducible refine (u1s.calls_no w0 _ g 32 r HE.out (by exact HS2.out.one_more _)).mono ?_);rintro e W3 ⟨rfl,hb3⟩))
     exact ⟨rfl,ul.out_none HE2.out hb3⟩
   | some t =>
     have hrt:=(u1m.expect_is 32 r).1 t he
     have HV:Aside0 (o = if Tx.plainL t = true then some (n,Base.ofL [],Base.ofL t) else none):=⟨by rw [HO.out,hn];simp only [Option.bind_some];rw [he];rfl⟩
     subst hrt
     rw [List.length_cons] at hr
     clear hn he HO
     cases htt:Tx.plainL t with
     | false =>
       have HE:Aside0 (o = none):=⟨by rw [HV.out,htt];rfl⟩
       have HT:Aside0 (Tx.plainL t = false):=⟨htt⟩
       clear htt HV
       go_enter Tryz.func48,Tryz.ntmps48
       go_wp2_with fail
       go_quiet (first
        | (go_at_call 20;(with_reducible refine (u1q.calls _ _ _ _ H1.out).mono ?_);rintro e w' ⟨rfl,⟨nd,rfl⟩⟩;exact ⟨rfl,_,World.drewN_drewN _ _ _⟩)
        | (go_at_call 20;(with_reducible refine (u1q.calls _ _ _ _ H2.out).mono ?_);rintro e w' ⟨rfl,⟨nd,rfl⟩⟩;exact ⟨rfl,_,World.drewN_drewN _ _ _⟩))
       go_wp2_with (first
        | (go_at_call 81;(with_reducible refine (u2p.calls_ok w0 _ g (s.drop 7) (by omega) n (32 :: t) HN.out (by exact ((HS.out.one_more _).drew nq).set _)).mono ?_);rintro e W2 ⟨rfl,hs2,hk2⟩;have HS2:=Aside0.mk hs2;have HL2:Aside0 (W.heap.size < W2.heap.size):=⟨by have:=hk2.1;simp at this;omega⟩;have B2:=Aside0.mk (ua.kept_at hk2 (by have:=HG.out;omega) (ul.res0 W 34 nq g (Base.ofL (s.drop 7)) HG.out));have HK2:=Aside0.mk (ua.keep_then ((keep_drewN (keep_alloc (u1v.refl W g none) (.cells #[.string ⟨#[]⟩,.string ⟨#[]⟩,.string ⟨#[]⟩] 34)) nq).set_ 0 (.string (Base.ofL (s.drop 7)))) hk2);clear hs2 hk2)
        | (go_at_call 82;(with_reducible refine (u1s.calls_ok w0 _ g 32 t (by exact HS2.out.one_more _)).mono ?_);rintro e W3 ⟨rfl,hs3,hk3⟩;have HS3:=Aside0.mk hs3;have B3:=Aside0.mk (ua.kept_at (b:=W.heap.size) hk3 (by have:=HG.out;omega) (ua.new_old B2.out _));have C3:=Aside0.mk (ua.kept_at hk3 (by have:=HG.out;have:=HL2.out;omega) (ua.new_at W2 _));have HK3:=Aside0.mk (ua.keep_then HK2.out (ua.keep_from hk3));clear h0 f0;obtain ⟨h0,f0⟩:=hs3.look;clear hs3 hk3)
        | (go_at_call 31;(with_reducible refine (u2z.calls t (by omega) _).mono ?_);rw [HT.out];rintro e W4 ⟨rfl,hb4⟩;have HS4:=Aside0.mk (HS3.out.more hb4);have B4:=Aside0.mk (ua.below_at hb4 B3.out);have C4:=Aside0.mk (ua.below_at hb4 C3.out);have HK4:=Aside0.mk (ua.keep_then HK3.out (u1v.of_below hb4 g none));clear h0 f0;obtain ⟨h0,f0⟩:=HS4.out.look;obtain ⟨⟨a0,a1,a2⟩,a3,a4,a5⟩:=uc.look3 B4.out;obtain ⟨⟨c0,c1,c2⟩,c3,c4,c5⟩:=uc.look3 C4.out;clear hb4)
        | (go_at_call 83;(with_reducible refine (u2h.calls_no _).mono ?_);rintro e W5 ⟨rfl,rfl⟩))
       exact ⟨rfl,ul.out_none HE.out HS4.out.below⟩
     | true =>
       have HE:Aside0 (o = some (n,Base.ofL [],Base.ofL t)):=⟨by rw [HV.out,htt];rfl⟩
       have HT:Aside0 (Tx.plainL t = true):=⟨htt⟩
       have N1:Aside0 (g < W.heap.size):=⟨HG.out⟩
       clear htt HV
       go_enter Tryz.func48,Tryz.ntmps48
       go_wp2_with fail
       go_quiet (first
        | (go_at_call 20;(with_reducible refine (u1q.calls _ _ _ _ H1.out).mono ?_);rintro e w' ⟨rfl,⟨nd,rfl⟩⟩;exact ⟨rfl,_,World.drewN_drewN _ _ _⟩)
        | (go_at_call 20;(with_reducible refine (u1q.calls _ _ _ _ H2.out).mono ?_);rintro e w' ⟨rfl,⟨nd,rfl⟩⟩;exact ⟨rfl,_,World.drewN_drewN _ _ _⟩))
       go_wp2_with (first
        | (go_at_call 81;(with_reducible refine (u2p.calls_ok w0 _ g (s.drop 7) (by omega) n (32 :: t) HN.out (by exact ((HS.out.one_more _).drew nq).set _)).mono ?_);rintro e W2 ⟨rfl,hs2,hk2⟩;have HS2:=Aside0.mk hs2;have HL2:Aside0 (W.heap.size < W2.heap.size):=⟨by have:=hk2.1;simp at this;omega⟩;have B2:=Aside0.mk (ua.kept_at hk2 (by have:=HG.out;omega) (ul.res0 W 34 nq g (Base.ofL (s.drop 7)) HG.out));have HK2:=Aside0.mk (ua.keep_then ((keep_drewN (keep_alloc (u1v.refl W g none) (.cells #[.string ⟨#[]⟩,.string ⟨#[]⟩,.string ⟨#[]⟩] 34)) nq).set_ 0 (.string (Base.ofL (s.drop 7)))) hk2);clear hs2 hk2)
        | (go_at_call 82;(with_reducible refine (u1s.calls_ok w0 _ g 32 t (by exact HS2.out.one_more _)).mono ?_);rintro e W3 ⟨rfl,hs3,hk3⟩;have HS3:=Aside0.mk hs3;have B3:=Aside0.mk (ua.kept_at (b:=W.heap.size) hk3 (by have:=HG.out;omega) (ua.new_old B2.out _));have C3:=Aside0.mk (ua.kept_at hk3 (by have:=HG.out;have:=HL2.out;omega) (ua.new_at W2 _));have HK3:=Aside0.mk (ua.keep_then HK2.out (ua.keep_from hk3));clear h0 f0;obtain ⟨h0,f0⟩:=hs3.look;clear hs3 hk3)
        | (go_at_call 31;(with_reducible refine (u2z.calls t (by omega) _).mono ?_);rw [HT.out];rintro e W4 ⟨rfl,hb4⟩;have HS4:=Aside0.mk (HS3.out.more hb4);have B4:=Aside0.mk (ua.below_at hb4 B3.out);have C4:=Aside0.mk (ua.below_at hb4 C3.out);have HK4:=Aside0.mk (ua.keep_then HK3.out (u1v.of_below hb4 g none));clear h0 f0;obtain ⟨h0,f0⟩:=HS4.out.look;obtain ⟨⟨a0,a1,a2⟩,a3,a4,a5⟩:=uc.look3 B4.out;obtain ⟨⟨c0,c1,c2⟩,c3,c4,c5⟩:=uc.look3 C4.out;clear hb4;have n1:¬ W2.heap.size = g:=(by have:=HG.out;have:=HL2.out;omega);have n2:¬ W.heap.size = g:=(by have:=HG.out;omega);have n3:¬ W.heap.size = W2.heap.size:=(by have:=HL2.out;omega);have n4:¬ g = W2.heap.size:=fun e => n1 e.symm;have n5:¬ g = W.heap.size:=fun e => n2 e.symm;have n6:¬ W2.heap.size = W.heap.size:=fun e => n3 e.symm)
        | (go_at_call 83;(with_reducible refine (u2h.calls_ok _).mono ?_);rintro e W5 ⟨rfl,rfl⟩))
       refine bodyPost_ret (v:=.agg #[.string n,.string ⟨#[]⟩,.string (Base.ofL t)]) (by simp [results,Tryz.results48,go_sem,a0,a1,a2,n1,n2,n3,n4,n5,n6]) rfl ?_
       have hw:w0.heap.size ≤ W.heap.size:=HS.out.below.size
       have hw2:w0.heap.size ≤ W2.heap.size:=HS2.out.below.size
       have h3:=ul.three (u:=.string n) (v:=.string ⟨#[]⟩) (x:=.string (Base.ofL t)) (HS4.out.below.setCell (p:=⟨W2.heap.size,2,none⟩) hw2 (.string (Base.ofL t))) hw (ua.keep_new (p:=⟨W2.heap.size,2,none⟩) HK4.out (by have:=HL2.out;show W.heap.size ≤ W2.heap.size;omega) (.string (Base.ofL t)))
       exact ul.out_some HE.out h3.1 h3.2
set_option maxRecDepth 100000 in
set_option maxHeartbeats 4000000 in
theorem ul.type (w0 W:World) (g:Nat) (s:List UInt8) (hl:s.length ≤ 1000) (hh:Tx.helpW.isPrefixOf s = false) (ht:Tx.typeW.isPrefixOf s = true) (h:ua.St w0 W g s) :
 Calls Tryz.prog 48 #[.pointer (some ⟨g,0,none⟩)] W fun e W' => ul.Out w0 W g (Tx.remarkP s) e W':=by
 have H1:Aside0 (u1q.f (Base.ofL s) (⟨#[35,32,72,69,76,80,32]⟩:ByteArray) = some false):=⟨(ul.pre_is Tx.helpW s).trans (by rw [hh])⟩
 have H2:Aside0 (u1q.f (Base.ofL s) (⟨#[35,32,84,89,80,69,32]⟩:ByteArray) = some true):=⟨(ul.pre_is Tx.typeW s).trans (by rw [ht])⟩
 have HS:=Aside0.mk h
 have HG:=Aside0.mk h.lt
 have hS1:=h.one_more (.cells #[.string ⟨#[]⟩,.string ⟨#[]⟩,.string ⟨#[]⟩] 34)
 obtain ⟨h0,f0⟩:=hS1.look
 have h7:7 ≤ s.length:=ul.pre_len ht
 have hdl:(s.drop 7).length ≤ 1000:=by rw [List.length_drop];omega
 have hsz:(Base.ofL s).size = s.length:=(Tx.cut_ofL s 0 (by omega)).2.2
 have hcut:(Base.ofL s).extract 7 s.length = Base.ofL (s.drop 7):=by
  have:=(Tx.cut_ofL s 7 h7).2.1
  rwa [hsz] at this
 have HO:Aside0 (Tx.remarkP s = (Tx.nameP (s.drop 7)).bind fun p => (Tx.expectP [32] p.2).bind fun r => if Tx.knownL r = true then some (p.1,Base.ofL r,Base.ofL []) else none):=⟨by unfold Tx.remarkP;rw [hh,ht];rfl⟩
 generalize hoo:Tx.remarkP s = o at HO ⊢
 clear hoo h hh ht hS1
 cases hn:Tx.nameP (s.drop 7) with
 | none =>
   have HE:Aside0 (o = none):=⟨by rw [HO.out,hn];rfl⟩
   have HN:=Aside0.mk hn
   clear hn HO
   go_enter Tryz.func48,Tryz.ntmps48
   go_wp2_with fail
   go_quiet (first
    | (go_at_call 20;(with_reducible refine (u1q.calls _ _ _ _ H1.out).mono ?_);rintro e w' ⟨rfl,⟨nd,rfl⟩⟩;exact ⟨rfl,_,World.drewN_drewN _ _ _⟩)
    | (go_at_call 20;(with_reducible refine (u1q.calls _ _ _ _ H2.out).mono ?_);rintro e w' ⟨rfl,⟨nd,rfl⟩⟩;exact ⟨rfl,_,World.drewN_drewN _ _ _⟩))
   go_wp2_with (first
    | (go_at_call 81;(with_reducible refine (u2p.calls_no w0 _ g (s.drop 7) (by omega) HN.out (by exact ((HS.out.one_more _).drew nq).set _)).mono ?_);rintro e W2 ⟨rfl,hb2⟩))
   exact ⟨rfl,ul.out_none HE.out hb2⟩
 | some p =>
   obtain ⟨n,r⟩:=p
   have hr:=u1m.name_rest hn
   have HN:=Aside0.mk hn
   cases he:Tx.expectP [32] r with
   | none =>
     have HE2:Aside0 (o = none):=⟨by rw [HO.out,hn];simp only [Option.bind_some];rw [he];rfl⟩
     have HE:=Aside0.mk ((u1m.expect_is 32 r).2 he)
     clear hn he HO
     go_enter Tryz.func48,Tryz.ntmps48
     go_wp2_with fail
     go_quiet (first
      | (go_at_call 20;(with_reducible refine (u1q.calls _ _ _ _ H1.out).mono ?_);rintro e w' ⟨rfl,⟨nd,rfl⟩⟩;exact ⟨rfl,_,World.drewN_drewN _ _ _⟩)
      | (go_at_call 20;(with_reducible refine (u1q.calls _ _ _ _ H2.out).mono ?_);rintro e w' ⟨rfl,⟨nd,rfl⟩⟩;exact ⟨rfl,_,World.drewN_drewN _ _ _⟩))
     go_wp2_with (first
      | (go_at_call 81;(with_reducible refine (u2p.calls_ok w0 _ g (s.drop 7) (by omega) n r HN.out (by exact ((HS.out.one_more _).drew nq).set _)).mono ?_);rintro e W2 ⟨rfl,hs2,hk2⟩;have HS2:=Aside0.mk hs2;have HL2:Aside0 (W.heap.size < W2.heap.size):=⟨by have:=hk2.1;simp at this;omega⟩;have B2:=Aside0.mk (ua.kept_at hk2 (by have:=HG.out;omega) (ul.res0 W 34 nq g (Base.ofL (s.drop 7)) HG.out));have HK2:=Aside0.mk (ua.keep_then ((keep_drewN (keep_alloc (u1v.refl W g none) (.cells #[.string ⟨#[]⟩,.string ⟨#[]⟩,.string ⟨#[]⟩] 34)) nq).set_ 0 (.string (Base.ofL (s.drop 7)))) hk2);clear hs2 hk2)
      | (go_at_call 82;(with_reducible refine (u1s.calls_no w0 _ g 32 r HE.out (by exact HS2.out.one_more _)).mono ?_);rintro e W3 ⟨rfl,hb3⟩))
     exact ⟨rfl,ul.out_none HE2.out hb3⟩
   | some t =>
     have hrt:=(u1m.expect_is 32 r).1 t he
     have HV:Aside0 (o = if Tx.knownL t = true then some (n,Base.ofL t,Base.ofL []) else none):=⟨by rw [HO.out,hn];simp only [Option.bind_some];rw [he];rfl⟩
     subst hrt
     rw [List.length_cons] at hr
     clear hn he HO
     cases htt:Tx.knownL t with
     | false =>
       have HE:Aside0 (o = none):=⟨by rw [HV.out,htt];rfl⟩
       have HT:Aside0 (text_known.f (Base.ofL t) = some false):=⟨(ul.known_is t).trans (by rw [htt])⟩
       clear htt HV
       go_enter Tryz.func48,Tryz.ntmps48
       go_wp2_with fail
       go_quiet (first
        | (go_at_call 20;(with_reducible refine (u1q.calls _ _ _ _ H1.out).mono ?_);rintro e w' ⟨rfl,⟨nd,rfl⟩⟩;exact ⟨rfl,_,World.drewN_drewN _ _ _⟩)
        | (go_at_call 20;(with_reducible refine (u1q.calls _ _ _ _ H2.out).mono ?_);rintro e w' ⟨rfl,⟨nd,rfl⟩⟩;exact ⟨rfl,_,World.drewN_drewN _ _ _⟩))
       go_wp2_with (first
        | (go_at_call 81;(with_reducible refine (u2p.calls_ok w0 _ g (s.drop 7) (by omega) n (32 :: t) HN.out (by exact ((HS.out.one_more _).drew nq).set _)).mono ?_);rintro e W2 ⟨rfl,hs2,hk2⟩;have HS2:=Aside0.mk hs2;have HL2:Aside0 (W.heap.size < W2.heap.size):=⟨by have:=hk2.1;simp at this;omega⟩;have B2:=Aside0.mk (ua.kept_at hk2 (by have:=HG.out;omega) (ul.res0 W 34 nq g (Base.ofL (s.drop 7)) HG.out));have HK2:=Aside0.mk (ua.keep_then ((keep_drewN (keep_alloc (u1v.refl W g none) (.cells #[.string ⟨#[]⟩,.string ⟨#[]⟩,.string ⟨#[]⟩] 34)) nq).set_ 0 (.string (Base.ofL (s.drop 7)))) hk2);clear hs2 hk2)
        | (go_at_call 82;(with_reducible refine (u1s.calls_ok w0 _ g 32 t (by exact HS2.out.one_more _)).mono ?_);rintro e W3 ⟨rfl,hs3,hk3⟩;have HS3:=Aside0.mk hs3;have B3:=Aside0.mk (ua.kept_at (b:=W.heap.size) hk3 (by have:=HG.out;omega) (ua.new_old B2.out _));have C3:=Aside0.mk (ua.kept_at hk3 (by have:=HG.out;have:=HL2.out;omega) (ua.new_at W2 _));have HK3:=Aside0.mk (ua.keep_then HK2.out (ua.keep_from hk3));clear h0 f0;obtain ⟨h0,f0⟩:=hs3.look;clear hs3 hk3)
        | (go_at_call 30;(with_reducible refine (text_known.calls _ _ _ HT.out).mono ?_);rintro e W4 ⟨rfl,⟨kd,rfl⟩⟩;have HS4:=Aside0.mk (HS3.out.drew kd);have B4:=Aside0.mk (ua.below_at (ub (Below.refl _ _) kd) B3.out);have C4:=Aside0.mk (ua.below_at (ub (Below.refl _ _) kd) C3.out);have HK4:=Aside0.mk (keep_drewN HK3.out kd);obtain ⟨⟨a0,a1,a2⟩,a3,a4,a5⟩:=uc.look3 B3.out;obtain ⟨⟨c0,c1,c2⟩,c3,c4,c5⟩:=uc.look3 C3.out)
        | (go_at_call 83;(with_reducible refine (u2h.calls_no _).mono ?_);rintro e W5 ⟨rfl,rfl⟩))
       exact ⟨rfl,ul.out_none HE.out HS4.out.below⟩
     | true =>
       have HE:Aside0 (o = some (n,Base.ofL t,Base.ofL [])):=⟨by rw [HV.out,htt];rfl⟩
       have HT:Aside0 (text_known.f (Base.ofL t) = some true):=⟨(ul.known_is t).trans (by rw [htt])⟩
       have N1:Aside0 (g < W.heap.size):=⟨HG.out⟩
       clear htt HV
       go_enter Tryz.func48,Tryz.ntmps48
       go_wp2_with fail
       go_quiet (first
        | (go_at_call 20;(with_reducible refine (u1q.calls _ _ _ _ H1.out).mono ?_);rintro e w' ⟨rfl,⟨nd,rfl⟩⟩;exact ⟨rfl,_,World.drewN_drewN _ _ _⟩)
        | (go_at_call 20;(with_reducible refine (u1q.calls _ _ _ _ H2.out).mono ?_);rintro e w' ⟨rfl,⟨nd,rfl⟩⟩;exact ⟨rfl,_,World.drewN_drewN _ _ _⟩))
       go_wp2_with (first
        | (go_at_call 81;(with_reducible refine (u2p.calls_ok w0 _ g (s.drop 7) (by omega) n (32 :: t) HN.out (by exact ((HS.out.one_more _).drew nq).set _)).mono ?_);rintro e W2 ⟨rfl,hs2,hk2⟩;have HS2:=Aside0.mk hs2;have HL2:Aside0 (W.heap.size < W2.heap.size):=⟨by have:=hk2.1;simp at this;omega⟩;have B2:=Aside0.mk (ua.kept_at hk2 (by have:=HG.out;omega) (ul.res0 W 34 nq g (Base.ofL (s.drop 7)) HG.out));have HK2:=Aside0.mk (ua.keep_then ((keep_drewN (keep_alloc (u1v.refl W g none) (.cells #[.string ⟨#[]⟩,.string ⟨#[]⟩,.string ⟨#[]⟩] 34)) nq).set_ 0 (.string (Base.ofL (s.drop 7)))) hk2);clear hs2 hk2)
        | (go_at_call 82;(with_reducible refine (u1s.calls_ok w0 _ g 32 t (by exact HS2.out.one_more _)).mono ?_);rintro e W3 ⟨rfl,hs3,hk3⟩;have HS3:=Aside0.mk hs3;have B3:=Aside0.mk (ua.kept_at (b:=W.heap.size) hk3 (by have:=HG.out;omega) (ua.new_old B2.out _));have C3:=Aside0.mk (ua.kept_at hk3 (by have:=HG.out;have:=HL2.out;omega) (ua.new_at W2 _));have HK3:=Aside0.mk (ua.keep_then HK2.out (ua.keep_from hk3));clear h0 f0;obtain ⟨h0,f0⟩:=hs3.look;clear hs3 hk3)
        | (go_at_call 30;(with_reducible refine (text_known.calls _ _ _ HT.out).mono ?_);rintro e W4 ⟨rfl,⟨kd,rfl⟩⟩;have HS4:=Aside0.mk (HS3.out.drew kd);have B4:=Aside0.mk (ua.below_at (ub (Below.refl _ _) kd) B3.out);have C4:=Aside0.mk (ua.below_at (ub (Below.refl _ _) kd) C3.out);have HK4:=Aside0.mk (keep_drewN HK3.out kd);obtain ⟨⟨a0,a1,a2⟩,a3,a4,a5⟩:=uc.look3 B3.out;obtain ⟨⟨c0,c1,c2⟩,c3,c4,c5⟩:=uc.look3 C3.out;have n1:¬ W2.heap.size = g:=(by have:=HG.out;have:=HL2.out;omega);have n2:¬ W.heap.size = g:=(by have:=HG.out;omega);have n3:¬ W.heap.size = W2.heap.size:=(by have:=HL2.out;omega);have n4:¬ g = W2.heap.size:=fun e => n1 e.symm;have n5:¬ g = W.heap.size:=fun e => n2 e.symm;have n6:¬ W2.heap.size = W.heap.size:=fun e => n3 e.symm)
        | (go_at_call 83;(with_reducible refine (u2h.calls_ok _).mono ?_);rintro e W5 ⟨rfl,rfl⟩))
       refine bodyPost_ret (v:=.agg #[.string n,.string (Base.ofL t),.string ⟨#[]⟩]) (by simp [results,Tryz.results48,go_sem,a0,a1,a2,n1,n2,n3,n4,n5,n6]) rfl ?_
       have hw:w0.heap.size ≤ W.heap.size:=HS.out.below.size
       have hw2:w0.heap.size ≤ W2.heap.size:=HS2.out.below.size
       have h3:=ul.three (u:=.string n) (v:=.string (Base.ofL t)) (x:=.string ⟨#[]⟩) (HS4.out.below.setCell (p:=⟨W2.heap.size,1,none⟩) hw2 (.string (Base.ofL t))) hw (ua.keep_new (p:=⟨W2.heap.size,1,none⟩) HK4.out (by have:=HL2.out;show W.heap.size ≤ W2.heap.size;omega) (.string (Base.ofL t)))
       exact ul.out_some HE.out h3.1 h3.2
theorem ul.calls (w0 W:World) (g:Nat) (s:List UInt8) (hl:s.length ≤ 1000) (h:ua.St w0 W g s) :
 Calls Tryz.prog 48 #[.pointer (some ⟨g,0,none⟩)] W fun e W' => ul.Out w0 W g (Tx.remarkP s) e W':=by
 cases ht:Tx.typeW.isPrefixOf s with
 | true => exact ul.type w0 W g s hl (ul.both ht) ht h
 | false =>
   cases hh:Tx.helpW.isPrefixOf s with
   | true => exact ul.help w0 W g s hl hh ht h
   | false => exact ul.other w0 W g s hl hh ht h
def u2e.l0:Nat → List ByteArray → List (S66) → Int → Int → Option (ByteArray × Int)
 | 0,_,_,_,_ => none
 | k + 1,x4,x13,x14,x15 => if x15 < x14 then (if 0 ≤ x15 then (if x15 < (x13.length:Int) then (if ((uq x13 x15).f0).size + 1 ≤ 9223372036854775807 then ((u1n.f ((uq x13 x15).f1)).bind fun t296 => (if (((uq x13 x15).f0) ++ (⟨#[61]⟩:ByteArray)).size + t296.size ≤ 9223372036854775807 then (if x15 < (x4.length:Int) then (u2e.l0 k (x4.set (x15:Int).toNat ((((uq x13 x15).f0) ++ (⟨#[61]⟩:ByteArray)) ++ t296)) x13 x14 (wrap64 (x15 + 1))) else (none)) else (none))) else (none)) else (none)) else (none)) else ((strings_Join.f x4 (⟨#[44]⟩:ByteArray)).bind fun t298 => (if 1 + t298.size ≤ 9223372036854775807 then (if ((⟨#[123]⟩:ByteArray) ++ t298).size + 1 ≤ 9223372036854775807 then (some (((⟨#[123]⟩:ByteArray) ++ t298) ++ (⟨#[125]⟩:ByteArray),0)) else (none)) else (none)))
def u2e.f (k:Nat) (l0:List (S66)):Option (ByteArray × Int):=(u1w.f k l0).bind fun t290 => (if t290 = true then (if 0 ≤ (l0.length:Int) then (if ((l0.length:Int):Int).toNat ≤ 17592186044416 then (u2e.l0 k (List.replicate ((l0.length:Int):Int).toNat (⟨#[]⟩:ByteArray)) l0 (l0.length:Int) 0) else (none)) else (none)) else (some ((⟨#[]⟩:ByteArray),1)))
def u2e.T7:Bool × List (List Nat × List Nat):=(true,[([],[]),([],[]),([],[]),([2],[2]),([3],[3]),([],[]),([5],[5]),([6],[6]),([4,7],[4,7]),([0,1,0,1,2,3,4,5,6,7,8],[0,1]),([9,8,7,0,1,2,3,4,5,6,7,8],[8,9])])
def u2e.B7:List Nat:=[0,0,0,4,12,0,32,96,252,511,1023]
theorem u2e.tab7:rtab .any (opsOf Tryz.f67 7) = u2e.T7:=by kernel_rfl
theorem u2e.bits7:waitsOk u2e.T7.2 u2e.B7 = true:=by kernel_rfl
set_option maxHeartbeats 8000000 in
set_option maxRecDepth 100000 in
theorem u2e.calls (k:Nat) (A0:Option Addr) (c0:Nat) (l0:List (S66)) (r1:ByteArray) (r2:Int) (w:World) (hr0:Kd.C k66 w A0 l0.length l0) (hc0:l0.length ≤ c0) (h:u2e.f k l0 = some (r1,r2)) :
 Calls Tryz.prog 67 #[.slice A0 l0.length c0] w fun e w' => e = .returned (.tuple #[.string r1,.int .i64 r2]) ∧ Below w.heap.size w w':=by
 have hu66:=Tryz.underlying66
 have HR0:=Aside0.mk hr0
 have HC0:=Aside0.mk hc0
 clear hr0 hc0
 have HB:=Aside0.mk (Below.refl w.heap.size w)
 have H:((u1w.f k l0).bind fun t290 => (if t290 = true then (if 0 ≤ (l0.length:Int) then (if ((l0.length:Int):Int).toNat ≤ 17592186044416 then (u2e.l0 k (List.replicate ((l0.length:Int):Int).toNat (⟨#[]⟩:ByteArray)) l0 (l0.length:Int) 0) else (none)) else (none)) else (some ((⟨#[]⟩:ByteArray),1)))) = some (r1,r2):=h
 clear h
 replace H:=Option.bind_eq_some_iff.mp H
 obtain ⟨t290,A20,H⟩:=H
 replace H:(if t290 = true then (if 0 ≤ (l0.length:Int) then (if ((l0.length:Int):Int).toNat ≤ 17592186044416 then (u2e.l0 k (List.replicate ((l0.length:Int):Int).toNat (⟨#[]⟩:ByteArray)) l0 (l0.length:Int) 0) else (none)) else (none)) else (some ((⟨#[]⟩:ByteArray),1))) = some (r1,r2):=H
 have A2:=Aside0.mk A20
 clear A20
 by_cases c3:t290 = true
 · subst c3
   have H1:(if 0 ≤ (l0.length:Int) then (if ((l0.length:Int):Int).toNat ≤ 17592186044416 then (u2e.l0 k (List.replicate ((l0.length:Int):Int).toNat (⟨#[]⟩:ByteArray)) l0 (l0.length:Int) 0) else (none)) else (none)) = some (r1,r2):=by rw [if_pos rfl] at H;exact H
   clear H
   have H:=H1
   clear H1
   by_cases c4:0 ≤ (l0.length:Int)
   · rw [if_pos c4] at H
     have c4b0:=eq_true c4
     have c4b1:decide (0 ≤ (l0.length:Int)) = true:=decide_eq_true c4
     clear c4
     by_cases c5:((l0.length:Int):Int).toNat ≤ 17592186044416
     · rw [if_pos c5] at H
       have c5b0:=eq_true c5
       have c5b1:decide (((l0.length:Int):Int).toNat ≤ 17592186044416) = true:=decide_eq_true c5
       clear c5
       obtain ⟨y291,hy291⟩:∃ y_:List ByteArray,y_ = (List.replicate ((l0.length:Int):Int).toNat (⟨#[]⟩:ByteArray)):=⟨_,rfl⟩
       replace H:(u2e.l0 k y291 l0 (l0.length:Int) 0) = some (r1,r2):=by first | (rw [hy291];with_reducible exact H) | (have H2_:=(Option.bind_some _ _).symm.trans H;rw [hy291];with_reducible exact H2_) | (have H2_:=(Option.bind_some _ _).symm.trans H;with_reducible exact H2_) | with_reducible exact H | (rw [hy291];exact H) | exact H
       have Ny291:=Aside0.mk hy291
       clear hy291
       have H':=Aside0.mk H
       clear H
       go_enter Tryz.func67,Tryz.ntmps67
       go_wp2_with (first | ((with_reducible refine u3d (f:=33) rfl ?_);refine goesL_ (some 8) rfl rfl Tryz.func33 (by kernel_rfl) rfl #[.slice A0 l0.length c0] rfl (by (try simp only [List.map_toArray,List.map_cons,List.map_nil]);first | done | rfl | (simp only [List.length_drop,List.length_take];rfl)) ?_;(with_reducible refine (u1w.calls k _ _ l0 true _ ?side1 ?side2 A2.out).mono ?_);(case side1 => repeat (first | exact HR0.out | (with_reducible refine Kd.C_alloc ?_ _) | (with_reducible refine Kd.C_drewN ?_ _) | (with_reducible refine Kd.C_drew ?_)));(case side2 => exact HC0.out);rintro e w6 ⟨rfl,hb⟩;refine ⟨_,rfl,?_⟩;have n0_:=Aside0.mk (u1d (by repeat (first | (with_reducible first | exact HB.out | apply ud | apply ub | apply uf) | exact HB.out)) hb);clear HB;have HB:=n0_;clear n0_;(try clear hb);(try clear hb2);(try clear hk);(try clear hi)) | ((with_reducible refine u2u (N:=12) rfl ?_);refine Kd.R_make Kd.string _ 9 rfl (N:=12) rfl 113 _ _ rfl (l0.length:Int) rfl rfl Tryz.underlying113 (.string ⟨#[]⟩) 16 info9 rfl (by decide) (by omega) (⟨#[]⟩:ByteArray) (ok:=fun _ => True) (okp:=fun _ => True) rfl (fun _ hk => hk) trivial (of_decide_eq_true (by first | (with_reducible assumption) | assumption)) (Nat.le_trans (Nat.mul_le_mul_right _ (of_decide_eq_true (by first | (with_reducible assumption) | assumption):(l0.length:Int).toNat ≤ 17592186044416)) (by omega)) (Below.refl _ _) (Nat.le_refl _) ?_;intro v292 w7 ho8 hb hg_ hnew_;clear hg_ hnew_;(first | rw [← Ny291.out] at ho8 | (simp only [Int.reduceToNat] at ho8;rw [← Ny291.out] at ho8));have n0_:=Aside0.mk (Kd.R_lower ho8 (u1c (by repeat (first | (with_reducible first | exact HB.out | apply ud | apply ub | apply uf) | exact HB.out))));have n1_:=Aside0.mk (u1d (by repeat (first | (with_reducible first | exact HB.out | apply ud | apply ub | apply uf) | exact HB.out)) hb);clear HB;have HO293:=n0_;have HB:=n1_;clear n0_ n1_;clear hb ho8))
       go_loopg [15] k (fun kq v15 w' => ∃ (x4_1:List ByteArray) (x15_1:Int),v15 = .int .i64 x15_1 ∧ Aside0 (u2e.l0 kq x4_1 l0 (l0.length:Int) x15_1 = some (r1,r2)) ∧ Aside0 (kq ≤ k) ∧ Aside0 (Kd.R Kd.string 9 w' w.heap.size (fun _ => True) v292 x4_1) ∧ Aside0 (Below w.heap.size w w'))
       case atStart => exact ⟨(y291),(0),(by first | rfl | (simp;done) | (simp [*];done)),H',⟨Nat.le_refl _⟩,⟨by (with_reducible repeat (first | apply Kd.R_alloc | apply Kd.R_drewN | apply Kd.R_drew));exact HO293.out⟩,⟨by repeat (first | (with_reducible first | exact HB.out | apply ud | apply ub | apply uf) | exact HB.out)⟩⟩
       case round =>
        clear H'
        try clear p2
        try clear c3
        try clear c4
        try clear c4b0
        try clear c4b1
        try clear c5
        try clear c5b0
        try clear c5b1
        try clear c6
        obtain ⟨x4_1,x15_1,rfl,HA,HK1,HO_4,HB⟩:=hrel
        cases gk with
        | zero => exact absurd HA.out (by simp [u2e.l0])
        | succ k1 =>
          have H:=HA.out
          clear HA
          simp only [u2e.l0] at H
          by_cases c9:x15_1 < (l0.length:Int)
          · rw [if_pos c9] at H
            have c9b0:decide (x15_1 < (l0.length:Int)) = true:=decide_eq_true c9
            clear c9
            by_cases c10:0 ≤ x15_1
            · rw [if_pos c10] at H
              have c10b0:decide (0 ≤ x15_1) = true:=decide_eq_true c10
              clear c10
              by_cases c11:x15_1 < (l0.length:Int)
              · rw [if_pos c11] at H
                have c11b0:decide (x15_1 < (l0.length:Int)) = true:=decide_eq_true c11
                clear c11
                by_cases c12:((uq l0 x15_1).f0).size + 1 ≤ 9223372036854775807
                · rw [if_pos c12] at H
                  have c12b0:=eq_true c12
                  have c12b1:decide (((uq l0 x15_1).f0).size + 1 ≤ 9223372036854775807) = true:=decide_eq_true c12
                  try have c12b2:(9223372036854775807 < ((uq l0 x15_1).f0).size + 1) = False:=eq_false (Nat.not_lt.2 c12)
                  try (have c12b3:=c12b2;simp only [ByteArray.size_append,Base.size1,(show ∀ a_ b_:UInt8,(⟨#[a_,b_]⟩:ByteArray).size = 2 from fun _ _ => rfl)] at c12b3)
                  replace H:=Option.bind_eq_some_iff.mp H
                  obtain ⟨t296,A130,H⟩:=H
                  replace H:(if (((uq l0 x15_1).f0) ++ (⟨#[61]⟩:ByteArray)).size + t296.size ≤ 9223372036854775807 then (if x15_1 < (x4_1.length:Int) then (u2e.l0 k1 (x4_1.set (x15_1:Int).toNat ((((uq l0 x15_1).f0) ++ (⟨#[61]⟩:ByteArray)) ++ t296)) l0 (l0.length:Int) (wrap64 (x15_1 + 1))) else (none)) else (none)) = some (r1,r2):=H
                  have A13:=Aside0.mk A130
                  clear A130
                  by_cases c14:(((uq l0 x15_1).f0) ++ (⟨#[61]⟩:ByteArray)).size + t296.size ≤ 9223372036854775807
                  · rw [if_pos c14] at H
                    have c14b0:=eq_true c14
                    have c14b1:decide ((((uq l0 x15_1).f0) ++ (⟨#[61]⟩:ByteArray)).size + t296.size ≤ 9223372036854775807) = true:=decide_eq_true c14
                    try have c14b2:(9223372036854775807 < (((uq l0 x15_1).f0) ++ (⟨#[61]⟩:ByteArray)).size + t296.size) = False:=eq_false (Nat.not_lt.2 c14)
                    try (have c14b3:=c14b2;simp only [ByteArray.size_append,Base.size1,(show ∀ a_ b_:UInt8,(⟨#[a_,b_]⟩:ByteArray).size = 2 from fun _ _ => rfl)] at c14b3)
                    by_cases c15:x15_1 < (x4_1.length:Int)
                    · rw [if_pos c15] at H
                      have c15b0:decide (x15_1 < (x4_1.length:Int)) = true:=decide_eq_true c15
                      clear c15
                      obtain ⟨y297,hy297⟩:∃ y_:List ByteArray,y_ = (x4_1.set (x15_1:Int).toNat ((((uq l0 x15_1).f0) ++ (⟨#[61]⟩:ByteArray)) ++ t296)):=⟨_,rfl⟩
                      replace H:(u2e.l0 k1 y297 l0 (l0.length:Int) (wrap64 (x15_1 + 1))) = some (r1,r2):=by first | (rw [hy297];with_reducible exact H) | (have H2_:=(Option.bind_some _ _).symm.trans H;rw [hy297];with_reducible exact H2_) | (have H2_:=(Option.bind_some _ _).symm.trans H;with_reducible exact H2_) | with_reducible exact H | (rw [hy297];exact H) | exact H
                      have Ny297:=Aside0.mk hy297
                      clear hy297
                      have H':=Aside0.mk H
                      clear H
                      have p294:0 ≤ (x15_1:Int):=of_decide_eq_true (by first | (with_reducible assumption) | assumption)
                      have q294:x15_1 < (l0.length:Int):=of_decide_eq_true (by first | (with_reducible assumption) | assumption)
                      obtain ⟨ad294,e294,hx294_0,hx294_1⟩:=at_T66 HR0.out x15_1 p294 q294
                      cases e294
                      replace hx294_0:=(HB.out.cell (World.block_lt_of_cell? w _ hx294_0)).trans hx294_0
                      replace hx294_1:=(HB.out.cell (World.block_lt_of_cell? w _ hx294_1)).trans hx294_1
                      replace p294:=eq_true p294
                      replace q294:=eq_true q294
                      try go_wp2_with (first | ((with_reducible refine u2u (N:=6) rfl ?_);refine u2r ?hg (N:=6) ?hd (cs:=#[.string (⟨#[]⟩:ByteArray),.string (⟨#[]⟩:ByteArray)]) (t:=66) ?hr ?_;(case hd => rfl);(case hg => rfl);(case hr => first | (go_simp;done) | (go_simp;rfl));intro gb295 hg w17 hbox hb;have n0_:=Aside0.mk (Kd.R_below (by (with_reducible repeat (first | apply Kd.R_alloc | apply Kd.R_drewN | apply Kd.R_drew));exact HO_4.out) hb);have n1_:=Aside0.mk (u1d (by repeat (first | (with_reducible first | exact HB.out | apply ud | apply ub | apply uf) | exact HB.out)) hb);have n2_:=Aside0.mk (hbox);have n3_:=Aside0.mk ((by rw [hg];exact (u1c (by repeat (first | (with_reducible first | exact HB.out | apply ud | apply ub | apply uf) | exact HB.out))):w.heap.size ≤ gb295));have n4_:=Aside0.mk ((by rw [hg];exact (u1c (by repeat (first | (with_reducible first | exact HB.out | apply ud | apply ub | apply uf) | exact HB.out))):w.heap.size ≤ gb295));clear HO_4;clear HB;have HO_4:=n0_;have HB:=n1_;have BK295:=n2_;have GW295:=n3_;have GE295:=n4_;clear n0_ n1_ n2_ n3_ n4_;clear hb hbox hg;have hcz18_0:w17.cell? ⟨gb295,0,none⟩ = some (.string (⟨#[]⟩:ByteArray)):=(uj BK295.out 0).trans rfl;have hcz18_1:w17.cell? ⟨gb295,1,none⟩ = some (.string (⟨#[]⟩:ByteArray)):=(uj BK295.out 1).trans rfl;have hfz18_0:=uo BK295.out 0;have hfz18_1:=uo BK295.out 1))
                      have n0_:Aside0 (Kd.R Kd.string 9 ((w17.setCell ⟨gb295,0,none⟩ (.string ((uq l0 x15_1).f0))).setCell ⟨gb295,1,none⟩ (.string ((uq l0 x15_1).f1))) w.heap.size (fun _ => True) v292 x4_1):=⟨by (with_reducible repeat (first | apply Kd.R_alloc | apply Kd.R_drewN | apply Kd.R_drew));exact Kd.R_mono (Kd.R_far (p:=⟨gb295,1,none⟩) (Kd.R_far (p:=⟨gb295,0,none⟩) (Kd.R_types HO_4.out BK295.out (by decide)) (fun _ hk => hk.2) (.string ((uq l0 x15_1).f0))) (fun _ hk => hk.2) (.string ((uq l0 x15_1).f1))) (fun _ hk => trivial)⟩
                      have n1_:Aside0 (((w17.setCell ⟨gb295,0,none⟩ (.string ((uq l0 x15_1).f0))).setCell ⟨gb295,1,none⟩ (.string ((uq l0 x15_1).f1))).heap[gb295]? = some (.cells #[.string ((uq l0 x15_1).f0),.string ((uq l0 x15_1).f1)] 66 (0,0))):=⟨by (with_reducible repeat (first | refine uu ?_ _ | refine uy ?_ | refine us ?_ _));refine u3f (cs:=#[.string ((uq l0 x15_1).f0),.string (⟨#[]⟩:ByteArray)]) ?_ 1 _ rfl;(with_reducible repeat (first | refine uu ?_ _ | refine uy ?_ | refine us ?_ _));refine u3f (cs:=#[.string (⟨#[]⟩:ByteArray),.string (⟨#[]⟩:ByteArray)]) ?_ 0 _ rfl;(with_reducible repeat (first | refine uu ?_ _ | refine uy ?_ | refine us ?_ _));exact BK295.out⟩
                      have n2_:Aside0 (Below w.heap.size w ((w17.setCell ⟨gb295,0,none⟩ (.string ((uq l0 x15_1).f0))).setCell ⟨gb295,1,none⟩ (.string ((uq l0 x15_1).f1)))):=⟨by repeat (first | (with_reducible first | exact HB.out | apply ud | apply ub | apply uf | refine uz ?_ GE295.out) | exact HB.out)⟩
                      (try clear HO_4)
                      (try clear BK295)
                      (try clear HB)
                      generalize ((w17.setCell ⟨gb295,0,none⟩ (.string ((uq l0 x15_1).f0))).setCell ⟨gb295,1,none⟩ (.string ((uq l0 x15_1).f1))) = w19 at n0_ n1_ n2_ ⊢
                      have HO_4:=n0_
                      have BK295:=n1_
                      have HB:=n2_
                      clear n0_ n1_ n2_
                      have n0_:=Aside0.mk (Kd.R_drew HO_4.out)
                      have n1_:=Aside0.mk (uy BK295.out)
                      have n2_:=Aside0.mk (uf HB.out)
                      clear HO_4
                      clear BK295
                      clear HB
                      have HO_4:=n0_
                      have BK295:=n1_
                      have HB:=n2_
                      clear n0_ n1_ n2_
                      refine start_ (n:=11) (S:=fun w' => w'.cell? ⟨gb295,0,none⟩ = some (.string ((uq l0 x15_1).f0)) ∧ w'.cell? ⟨gb295,1,none⟩ = some (.string ((uq l0 x15_1).f1))) (ds:=[10]) #[false,false,false,false,false,false,false,false,false,false,false] (by kernel_rfl) rfl rfl ⟨(uj BK295.out 0).trans rfl,(uj BK295.out 1).trans rfl⟩ (fun hHeld => ?_);refine with_tabW u2e.tab7 u2e.bits7 (fun HT_ HW_ => ?_)
                      generalize w19.drew = w20 at HO_4 BK295 HB hHeld ⊢
                      refine pure_ (i:=0) (N:=some 20) (v:=?_) (a':=?_) #[true,false,false,false,false,false,false,false,false,false,false] rfl rfl (any_of HT_.out (by kernel_rfl)) (fun _ _ _ h => h) (Or.inl ⟨by rfl,?_⟩) ?_ ?_
                      rotate_left
                      · intro w'
                        go_simp
                        with_reducible rfl
                      rotate_left
                      · simp only [Act.put,List.setIfInBounds_toArray,List.set_cons_zero,List.set_cons_succ,i64_w,i32_w]
                        rfl
                      refine pure_ (i:=1) (N:=some 21) (v:=?_) (a':=?_) #[true,true,false,false,false,false,false,false,false,false,false] rfl rfl (any_of HT_.out (by kernel_rfl)) (fun _ _ _ h => h) (Or.inl ⟨by rfl,?_⟩) ?_ ?_
                      rotate_left
                      · intro w'
                        go_simp
                        with_reducible rfl
                      rotate_left
                      · simp only [Act.put,List.setIfInBounds_toArray,List.set_cons_zero,List.set_cons_succ,i64_w,i32_w]
                        rfl
                      refine pure_ (i:=2) (N:=some 22) (v:=?_) (a':=?_) #[true,true,true,false,false,false,false,false,false,false,false] rfl rfl (any_of HT_.out (by kernel_rfl)) (fun _ _ _ h => h) (Or.inl ⟨by rfl,?_⟩) ?_ ?_
                      rotate_left
                      · intro w'
                        go_simp
                        with_reducible rfl
                      rotate_left
                      · simp only [Act.put,List.setIfInBounds_toArray,List.set_cons_zero,List.set_cons_succ,i64_w,i32_w]
                        rfl
                      refine pure_ (i:=5) (N:=some 25) (v:=?_) (a':=?_) #[true,true,true,false,false,true,false,false,false,false,false] rfl rfl (any_of HT_.out (by kernel_rfl)) (fun _ _ _ h => h) (Or.inl ⟨by rfl,?_⟩) ?_ ?_
                      rotate_left
                      · intro w'
                        go_simp
                        with_reducible rfl
                      rotate_left
                      · simp only [Act.put,List.setIfInBounds_toArray,List.set_cons_zero,List.set_cons_succ,i64_w,i32_w]
                        rfl
                      refine take_ (i:=3) (N:=some 23) (v:=?_) (a':=?_) #[true,true,true,true,false,true,false,false,false,false,false] rfl rfl (take_ofW HT_.out HW_.out (by kernel_rfl)) (fun _ _ _ h => h) (Or.inl ⟨by rfl,?_⟩) hHeld ?_ ?_
                      rotate_left
                      · rintro w' ⟨s0,s1⟩
                        go_simp
                        with_reducible rfl
                      rotate_left
                      · simp only [Act.put,List.setIfInBounds_toArray,List.set_cons_zero,List.set_cons_succ,i64_w,i32_w]
                        rfl
                      refine pure_ (i:=4) (N:=some 24) (v:=?_) (a':=?_) #[true,true,true,true,true,true,false,false,false,false,false] rfl rfl (any_of HT_.out (by kernel_rfl)) (fun _ _ _ h => h) (Or.inl ⟨by rfl,?_⟩) ?_ ?_
                      rotate_left
                      · intro w'
                        go_simp
                        with_reducible rfl
                      rotate_left
                      · simp only [Act.put,List.setIfInBounds_toArray,List.set_cons_zero,List.set_cons_succ,i64_w,i32_w]
                        rfl
                      refine take_ (i:=6) (N:=some 26) (v:=?_) (a':=?_) #[true,true,true,true,true,true,true,false,false,false,false] rfl rfl (take_ofW HT_.out HW_.out (by kernel_rfl)) (fun _ _ _ h => h) (Or.inl ⟨by rfl,?_⟩) hHeld ?_ ?_
                      rotate_left
                      · rintro w' ⟨s0,s1⟩
                        go_simp
                        with_reducible rfl
                      rotate_left
                      · simp only [Act.put,List.setIfInBounds_toArray,List.set_cons_zero,List.set_cons_succ,i64_w,i32_w]
                        rfl
                      refine one_ (i:=7) (N:=some 27) #[true,true,true,true,true,true,true,true,false,false,false] rfl rfl (one_of HT_.out (by kernel_rfl)) (by decide) (fun K hK => ?_)
                      refine goes_ Tryz.func108 (by kernel_rfl) rfl #[.string ((uq l0 x15_1).f1)] (by rfl) rfl rfl (by (try simp only [List.map_toArray,List.map_cons,List.map_nil]);first | done | rfl | (simp only [List.length_drop,List.length_take];rfl)) ?_
                      with_reducible refine (u1n.calls ((uq l0 x15_1).f1) t296 _ A13.out).mono ?_
                      rintro e w21 ⟨rfl,hb⟩
                      refine ⟨_,rfl,?_⟩
                      have n0_:=Aside0.mk (Kd.R_below (by (with_reducible repeat (first | apply Kd.R_alloc | apply Kd.R_drewN | apply Kd.R_drew));exact HO_4.out) hb)
                      have n1_:=Aside0.mk (u2d (g:=gb295) (o:=.cells #[.string ((uq l0 x15_1).f0),.string ((uq l0 x15_1).f1)] 66 (0,0)) (by (with_reducible repeat (first | refine uu ?_ _ | refine uy ?_ | refine us ?_ _));exact BK295.out) hb)
                      have n2_:=Aside0.mk (u1d (by repeat (first | (with_reducible first | exact HB.out | apply ud | apply ub | apply uf | refine uz ?_ GE295.out) | exact HB.out)) hb)
                      clear HO_4
                      clear BK295
                      clear HB
                      have HO_4:=n0_
                      have BK295:=n1_
                      have HB:=n2_
                      clear n0_ n1_ n2_
                      (try clear hb)
                      (try clear hb2)
                      (try clear hk)
                      (try clear hi)
                      have p16:0 ≤ (x15_1:Int):=of_decide_eq_true (by first | (with_reducible assumption) | assumption)
                      have q16:(x15_1:Int) < ((x4_1.length:Int):Int):=of_decide_eq_true (by first | (with_reducible assumption) | assumption)
                      obtain ⟨go16,co16,eo16,gb16,gl16,cl16,HG16⟩:=Kd.R_form HO_4.out (by omega)
                      (first | cases eo16 | (injection eo16 with ea_ en_ ec_;(first | subst ea_ | (injection ea_ with ea_;subst ea_));subst ec_;clear en_))
                      have GB16:=Aside0.mk gb16
                      have GG16:=Aside0.mk HG16
                      clear gb16 gl16 HG16
                      obtain ⟨hx16_0,hf16_0⟩:=Kd.R_celln (⟨#[]⟩:ByteArray) HO_4.out (x15_1:Int) p16 q16
                      replace p16:=eq_true p16
                      replace q16:=eq_true q16
                      have HP22:=Kd.R_putn HO_4.out (x15_1:Int) ((((uq l0 x15_1).f0) ++ (⟨#[61]⟩:ByteArray)) ++ t296)
                      rw [← Ny297.out] at HP22
                      have HQ22:=Aside0.mk HP22
                      clear HP22
                      refine hK.out _ _ ⟨(uj BK295.out 0).trans rfl,(uj BK295.out 1).trans rfl⟩ (fun hHeld => ?_)
                      clear hK K
                      refine norm_ (a':=?_) ?_ ?_
                      rotate_left
                      · show Act.put _ (some 27) _ = _
                        simp only [Act.put,List.setIfInBounds_toArray,List.set_cons_zero,List.set_cons_succ,i64_w,i32_w]
                        rfl
                      refine pure_ (i:=8) (N:=some 28) (v:=?_) (a':=?_) #[true,true,true,true,true,true,true,true,true,false,false] rfl rfl (any_of HT_.out (by kernel_rfl)) (fun _ _ _ h => h) (Or.inl ⟨by rfl,?_⟩) ?_ ?_
                      rotate_left
                      · intro w'
                        go_simp
                        with_reducible rfl
                      rotate_left
                      · simp only [Act.put,List.setIfInBounds_toArray,List.set_cons_zero,List.set_cons_succ,i64_w,i32_w]
                        rfl
                      refine pure_ (i:=9) (N:=some 29) (v:=?_) (a':=?_) #[true,true,true,true,true,true,true,true,true,true,false] rfl rfl (any_of HT_.out (by kernel_rfl)) (fun _ _ _ h => h) (Or.inl ⟨by rfl,?_⟩) ?_ ?_
                      rotate_left
                      · intro w'
                        go_simp
                        with_reducible rfl
                      rotate_left
                      · simp only [Act.put,List.setIfInBounds_toArray,List.set_cons_zero,List.set_cons_succ,i64_w,i32_w]
                        rfl
                      refine last_ (i:=10) (N:=none) #[true,true,true,true,true,true,true,true,true,true,true] rfl rfl (one_of HT_.out (by kernel_rfl)) (by decide) (fun K hK => ?_)
                      refine skip_ (w1:=?_) (by rfl) rfl ?_ ?_
                      rotate_left
                      · go_simp
                        rfl
                      refine hK.out _ _ ?_
                      clear hK K
                      refine done_ (done_of HT_.out (by kernel_rfl)) ?_
                      try go_wp2
                      go_roundg k1
                      case measure => have:=HK1.out;omega
                      case rel => exact ⟨(y297),(wrap64 (x15_1 + 1)),(by first | rfl | (simp;done) | (simp [*];done)),H',⟨by have:=HK1.out;omega⟩,⟨by (with_reducible repeat (first | apply Kd.R_alloc | apply Kd.R_drewN | apply Kd.R_drew));exact HQ22.out⟩,⟨by repeat (first | (with_reducible first | exact HB.out | apply ud | apply ub | apply uf | refine uz ?_ GB16.out | refine uz ?_ GE295.out) | exact HB.out)⟩⟩
                    · rw [if_neg c15] at H
                      exact absurd H (by simp)
                  · rw [if_neg c14] at H
                    exact absurd H (by simp)
                · rw [if_neg c12] at H
                  exact absurd H (by simp)
              · rw [if_neg c11] at H
                exact absurd H (by simp)
            · rw [if_neg c10] at H
              exact absurd H (by simp)
          · rw [if_neg c9] at H
            have c9b0:decide (x15_1 < (l0.length:Int)) = false:=decide_eq_false c9
            clear c9
            replace H:=Option.bind_eq_some_iff.mp H
            obtain ⟨t298,A230,H⟩:=H
            replace H:(if 1 + t298.size ≤ 9223372036854775807 then (if ((⟨#[123]⟩:ByteArray) ++ t298).size + 1 ≤ 9223372036854775807 then (some (((⟨#[123]⟩:ByteArray) ++ t298) ++ (⟨#[125]⟩:ByteArray),0)) else (none)) else (none)) = some (r1,r2):=H
            have A23:=Aside0.mk A230
            clear A230
            by_cases c24:1 + t298.size ≤ 9223372036854775807
            · rw [if_pos c24] at H
              have c24b0:=eq_true c24
              have c24b1:decide (1 + t298.size ≤ 9223372036854775807) = true:=decide_eq_true c24
              try have c24b2:(9223372036854775807 < 1 + t298.size) = False:=eq_false (Nat.not_lt.2 c24)
              try (have c24b3:=c24b2;simp only [ByteArray.size_append,Base.size1,(show ∀ a_ b_:UInt8,(⟨#[a_,b_]⟩:ByteArray).size = 2 from fun _ _ => rfl)] at c24b3)
              by_cases c25:((⟨#[123]⟩:ByteArray) ++ t298).size + 1 ≤ 9223372036854775807
              · rw [if_pos c25] at H
                have c25b0:=eq_true c25
                have c25b1:decide (((⟨#[123]⟩:ByteArray) ++ t298).size + 1 ≤ 9223372036854775807) = true:=decide_eq_true c25
                try have c25b2:(9223372036854775807 < ((⟨#[123]⟩:ByteArray) ++ t298).size + 1) = False:=eq_false (Nat.not_lt.2 c25)
                try (have c25b3:=c25b2;simp only [ByteArray.size_append,Base.size1,(show ∀ a_ b_:UInt8,(⟨#[a_,b_]⟩:ByteArray).size = 2 from fun _ _ => rfl)] at c25b3)
                simp only [Option.some.injEq,Prod.mk.injEq] at H
                obtain ⟨rfl,rfl⟩:=H
                obtain ⟨Ao26,co26,eo26⟩:=Kd.R_slice HO_4.out
                subst eo26
                go_wp2_with (first | ((with_reducible refine u3d (f:=109) rfl ?_);refine goesL_ (some 32) rfl rfl Tryz.func109 (by kernel_rfl) rfl #[.slice Ao26 x4_1.length co26,.string (⟨#[44]⟩:ByteArray)] rfl (by (try simp only [List.map_toArray,List.map_cons,List.map_nil]);first | done | rfl | (simp only [List.length_drop,List.length_take];rfl)) ?_;(with_reducible refine (strings_Join.calls _ _ x4_1 (⟨#[44]⟩:ByteArray) t298 _ ?side1 ?side2 A23.out).mono ?_);(case side1 => repeat (first | exact (Kd.R_reads' HO_4.out).2.2 | (with_reducible refine Kd.C_alloc ?_ _) | (with_reducible refine Kd.C_drewN ?_ _) | (with_reducible refine Kd.C_drew ?_)));(case side2 => exact (Kd.R_reads' HO_4.out).2.1);rintro e w27 ⟨rfl,hb⟩;refine ⟨_,rfl,?_⟩;have n0_:=Aside0.mk (Kd.R_below (by (with_reducible repeat (first | apply Kd.R_alloc | apply Kd.R_drewN | apply Kd.R_drew));exact HO_4.out) hb);have n1_:=Aside0.mk (u1d (by repeat (first | (with_reducible first | exact HB.out | apply ud | apply ub | apply uf) | exact HB.out)) hb);clear HO_4;clear HB;have HO_4:=n0_;have HB:=n1_;clear n0_ n1_;(try clear hb);(try clear hb2);(try clear hk);(try clear hi)))
                go_ret2
                exact ⟨by first | rfl | (simp [u2c,u2b] <;> rfl) | (simp [*,u2c,u2b] <;> rfl),by repeat (first | (with_reducible first | exact HB.out | apply ud | apply ub | apply uf) | exact HB.out)⟩
              · rw [if_neg c25] at H
                exact absurd H (by simp)
            · rw [if_neg c24] at H
              exact absurd H (by simp)
     · rw [if_neg c5] at H
       exact absurd H (by simp)
   · rw [if_neg c4] at H
     exact absurd H (by simp)
 · replace c3:=Bool.eq_false_iff.mpr c3
   subst c3
   have H1:(some ((⟨#[]⟩:ByteArray),1)) = some (r1,r2):=by rw [if_neg (show ¬ (false = true) by decide)] at H;exact H
   clear H
   have H:=H1
   clear H1
   simp only [Option.some.injEq,Prod.mk.injEq] at H
   obtain ⟨rfl,rfl⟩:=H
   go_enter Tryz.func67,Tryz.ntmps67
   go_wp2_with (first | ((with_reducible refine u3d (f:=33) rfl ?_);refine goesL_ (some 8) rfl rfl Tryz.func33 (by kernel_rfl) rfl #[.slice A0 l0.length c0] rfl (by (try simp only [List.map_toArray,List.map_cons,List.map_nil]);first | done | rfl | (simp only [List.length_drop,List.length_take];rfl)) ?_;(with_reducible refine (u1w.calls k _ _ l0 false _ ?side1 ?side2 A2.out).mono ?_);(case side1 => repeat (first | exact HR0.out | (with_reducible refine Kd.C_alloc ?_ _) | (with_reducible refine Kd.C_drewN ?_ _) | (with_reducible refine Kd.C_drew ?_)));(case side2 => exact HC0.out);rintro e w28 ⟨rfl,hb⟩;refine ⟨_,rfl,?_⟩;have n0_:=Aside0.mk (u1d (by repeat (first | (with_reducible first | exact HB.out | apply ud | apply ub | apply uf) | exact HB.out)) hb);clear HB;have HB:=n0_;clear n0_;(try clear hb);(try clear hb2);(try clear hk);(try clear hi)))
   go_ret2
   exact ⟨by first | rfl | (simp [u2c,u2b] <;> rfl) | (simp [*,u2c,u2b] <;> rfl),by repeat (first | (with_reducible first | exact HB.out | apply ud | apply ub | apply uf) | exact HB.out)⟩
end Go.Proofs.YtmcpeifhapekoaaGreatDoor.PAll
namespace Go.Proofs.YtmcpeifhapekoaaGreatDoor.Laws
open Go.RowKit Go.Proofs.YtmcpeifhapekoaaGreatDoor.PAll Go.Proofs.YtmcpeifhapekoaaGreatDoorW.PrintWords Go.Proofs.YtmcpeifhapekoaaGreatDoorW.PrintLast
set_option linter.unusedVariables false
set_option linter.unusedSimpArgs false
def pieceL (x:S66):List UInt8:=x.f0.data.toList ++ 61 :: Base.quoteL x.f1.data.toList
def pieceS (x:S66):ByteArray:=(x.f0 ++ (⟨#[61]⟩:ByteArray)) ++ Base.quoteS x.f1
def textL (l:List S66):List UInt8:=123 :: (Lib.join (l.map pieceL) [44] ++ [125])
theorem pieceS_data (x:S66):(pieceS x).data.toList = pieceL x:=by
 simp [pieceS,pieceL,Base.append_data,Base.quoteS]
theorem quoteL_le (l:List UInt8):(Base.quoteL l).length ≤ 2 * l.length + 2:=by
 have h:∀ l:List UInt8,(l.flatMap Base.quoteByte).length ≤ 2 * l.length:=by
  intro l
  induction l with
  | nil => simp
  | cons x r ih =>
    have h1:(Base.quoteByte x).length ≤ 2:=by unfold Base.quoteByte;split <;> simp
    simp only [List.flatMap_cons,List.length_append,List.length_cons]
    omega
 have:=h l
 simp only [Base.quoteL,List.length_cons,List.length_append,List.length_nil]
 omega
theorem join_le (M:Nat):∀ (xs:List (List UInt8)),(∀ x ∈ xs,x.length ≤ M) → (Lib.join xs [44]).length ≤ xs.length * (M + 1):=by
 intro xs
 induction xs with
 | nil => intro _;simp [Lib.join_nil]
 | cons x r ih =>
   intro h
   have hx:=h x (by simp)
   have hr:=ih (fun y hy => h y (by simp [hy]))
   rw [Lib.join_cons]
   have ht:(Lib.joinTail [44] r).length ≤ r.length * (M + 1):=by
    clear ih hr hx
    have:∀ y ∈ r,y.length ≤ M:=fun y hy => h y (by simp [hy])
    clear h
    induction r with
    | nil => simp [Lib.joinTail]
    | cons y q ih =>
      have hy:=this y (by simp)
      have hq:=ih (fun z hz => this z (by simp [hz]))
      simp only [Lib.joinTail,List.map_cons,List.flatten_cons,List.length_append,List.length_cons] at hq ⊢
      rw [Nat.add_mul]
      simp only [List.length_nil]
      omega
   simp only [List.length_append,List.length_cons]
   rw [Nat.add_mul]
   omega
theorem piece_le {x:S66} (h0:Base.nameB x.f0 = true) (h1:Base.valueB x.f1 = true):(pieceL x).length ≤ 107:=by
 have a:=nameB_size h0
 have b:=valueB_size h1
 have c:=quoteL_le x.f1.data.toList
 rw [← Base.size_list] at c
 simp only [pieceL,List.length_append,List.length_cons]
 rw [← Base.size_list]
 omega
theorem quote_some {s:ByteArray} (h:s.size ≤ 1000000000):u1n.f s = some (Base.quoteS s):=by
 have c:=quoteL_le s.data.toList
 rw [← Base.size_list] at c
 unfold u1n.f
 rw [if_pos (by omega)]
theorem quoteS_size (s:ByteArray):(Base.quoteS s).size ≤ 2 * s.size + 2:=by
 have c:=quoteL_le s.data.toList
 rw [← Base.size_list] at c
 rw [Base.size_list]
 simpa [Base.quoteS] using c
theorem text_l0 (l:List S66) (hl:l.length ≤ 8) (hok:∀ x ∈ l,Base.nameB x.f0 = true ∧ Base.valueB x.f1 = true):∀ (r:List S66) (i:Nat),l.drop i = r → i ≤ l.length →
 Ev (fun k => u2e.l0 k ((l.take i).map pieceS ++ List.replicate (l.length - i) (⟨#[]⟩:ByteArray)) l (l.length:Int) (i:Int)) (Base.ofL (textL l),0):=by
 intro r
 induction r with
 | nil =>
   intro i h hil
   have hi:l.length ≤ i:=by
    rcases Nat.lt_or_ge i l.length with h1 | h1
    · rw [List.drop_eq_getElem_cons h1] at h
      cases h
    · exact h1
   have he:i = l.length:=by omega
   subst he
   have hp:(l.take l.length).map pieceS ++ List.replicate (l.length - l.length) (⟨#[]⟩:ByteArray) = l.map pieceS:=by simp
   rw [hp]
   have hm:(l.map pieceS).map (·.data.toList) = l.map pieceL:=by
    rw [List.map_map]
    exact List.map_congr_left (fun x _ => pieceS_data x)
   have hj:=join_le 107 (l.map pieceL) (by
    intro y hy
    obtain ⟨x,hx,rfl⟩:=List.mem_map.1 hy
    exact piece_le (hok x hx).1 (hok x hx).2)
   rw [List.length_map] at hj
   have hjl:(Lib.join (l.map pieceL) [44]).length ≤ 864:=by omega
   refine Ev.step (f:=fun _ => some (Base.ofL (textL l),0)) (fun k => ?_) (Ev.now _)
   simp only [u2e.l0]
   rw [if_neg (by omega)]
   have h44:((⟨#[44]⟩:ByteArray)).data.toList = [44]:=rfl
   simp only [strings_Join.f,hm,h44,List.length_map]
   rw [if_pos (by omega),if_pos (by omega)]
   simp only [Option.bind_some]
   have hsz:(⟨(Lib.join (l.map pieceL) [44]).toArray⟩:ByteArray).size = (Lib.join (l.map pieceL) [44]).length:=by
    rw [Base.size_list]
   rw [if_pos (by rw [hsz];omega),if_pos (by rw [Base.size_list,Base.append_data];simp;omega)]
   congr 2
 | cons x r ih =>
   intro i h hil
   obtain ⟨hx,hi,hr⟩:=rd_drop l i x r h
   have hw:wrap64 ((i:Int) + 1) = ((i + 1:Nat):Int):=Base.wrap_nat i (by omega)
   have h1:((i:Int) < (l.length:Int)):=by omega
   have h0:((0:Int) ≤ (i:Int)):=by omega
   have hmem:x ∈ l:=by
    have h2:x ∈ l.drop i:=by rw [h];simp
    exact List.mem_of_mem_drop h2
   have hn:=nameB_size (hok x hmem).1
   have hv:=valueB_size (hok x hmem).2
   have hq:=quoteS_size x.f1
   have ih2:=ih (i + 1) hr (by omega)
   have hset:((l.take i).map pieceS ++ List.replicate (l.length - i) (⟨#[]⟩:ByteArray)).set i (pieceS x) = (l.take (i + 1)).map pieceS ++ List.replicate (l.length - (i + 1)) (⟨#[]⟩:ByteArray):=by
    have e1:l.take (i + 1) = l.take i ++ [x]:=by
     rw [List.take_succ_eq_append_getElem hi]
     have h2:l[i] = x:=by
      rw [List.drop_eq_getElem_cons hi] at h
      exact (List.cons.inj h).1
     rw [h2]
    have e2:l.length - i = (l.length - (i + 1)) + 1:=by omega
    rw [e1,e2,List.replicate_succ,List.map_append,List.set_append_right]
    · simp [Nat.min_eq_left (Nat.le_of_lt hi)]
    · simp
      omega
   refine Ev.step (f:=fun k => u2e.l0 k ((l.take (i + 1)).map pieceS ++ List.replicate (l.length - (i + 1)) (⟨#[]⟩:ByteArray)) l (l.length:Int) ((i + 1:Nat):Int)) (fun k => ?_) ih2
   simp only [u2e.l0]
   rw [if_pos h1,if_pos h0,if_pos h1,hx,hw,if_pos (by omega),quote_some (by omega)]
   simp only [Option.bind_some]
   have hsz:(x.f0 ++ (⟨#[61]⟩:ByteArray)).size = x.f0.size + 1:=by
    rw [Base.size_list,Base.append_data,List.length_append,← Base.size_list]
    rfl
   rw [if_pos (by rw [hsz];omega)]
   rw [if_pos (by simp;omega)]
   rw [show (i:Int).toNat = i from rfl,← hset]
   rfl
theorem text_ev (l:List S66):Ev (fun k => u2e.f k l) (if canB l = true then (Base.ofL (textL l),0) else ((⟨#[]⟩:ByteArray),1)):=by
 refine Ev.bind (can_ev l) ?_
 cases hc:canB l with
 | false => exact Ev.congr (fun k => by simp) (Ev.now _)
 | true =>
   have h:=hc
   simp only [canB,Bool.and_eq_true,decide_eq_true_eq] at h
   have h2:=text_l0 l h.1.2 (okFrom_mem l [] h.2) l 0 rfl (by omega)
   refine Ev.congr (fun k => ?_) h2
   rw [if_pos rfl,if_pos (by omega),if_pos (by simp;omega)]
   simp
end Go.Proofs.YtmcpeifhapekoaaGreatDoor.Laws
namespace Go.Proofs.YtmcpeifhapekoaaGreatDoor.PAll
open Go.RowKit Go.Proofs.YtmcpeifhapekoaaGreatDoorW.PrintWords Go.Proofs.YtmcpeifhapekoaaGreatDoorW.PrintLast Go.Proofs.YtmcpeifhapekoaaGreatDoorW.PrintMore
attribute [local go_sem] max2_int min2_int max_two min_two max_three min_three max_four min_four
set_option linter.unusedVariables false
set_option linter.unusedSimpArgs false
def u1f.own (l:List Tx.Lb):ByteArray:=if Base.nameB (u2m.get ⟨#[95,95,110,97,109,101,95,95]⟩ l) = true then u2m.get ⟨#[95,95,110,97,109,101,95,95]⟩ l else ⟨#[]⟩
def u1f.met (x:Tx.Lb):Bool:=x.f0.toList == [95,95,110,97,109,101,95,95]
def u1f.oth (l:List Tx.Lb):List Tx.Lb:=if Base.nameB (u2m.get ⟨#[95,95,110,97,109,101,95,95]⟩ l) = true then l.filter (fun x => !u1f.met x) else l
def u1f.lineB (l:List Tx.Lb) (br:ByteArray) (T:Int) (u:Nat):List Int:=ug.parts [u1f.own l,br,⟨#[32]⟩,⟨(Lib.decDigits u).toArray⟩,⟨#[32]⟩,⟨(Lib.itoa T).toArray⟩] ++ [10]
theorem u1f.test (a b:ByteArray) (W:World):Calls Tryz.prog 66 #[.agg #[.string a,.string b]] W fun e w' => e = .returned (.bool (a.toList == [95,95,110,97,109,101,95,95])) ∧ Below W.heap.size W w':=by
 go_enter Tryz.func66,Tryz.ntmps66
 go_wp2
 go_ret
 exact ⟨rfl,ud (Below.refl _ _) _⟩
theorem u1f.test2 (x:Tx.Lb) (W:World):Calls Tryz.prog 66 (#[.agg #[.string x.f0,.string x.f1]] ++ #[]) W fun e w' => e = .returned (.bool (u1f.met x)) ∧ Below W.heap.size W w':=by
 rw [show (#[Value.agg #[.string x.f0,.string x.f1]] ++ #[]:Array Value) = #[.agg #[.string x.f0,.string x.f1]] from by simp]
 exact u1f.test x.f0 x.f1 W
theorem u1f.enters:∀ args W,(callFunc 66 args).run Tryz.prog W = .ok (.enter 66 args) W:=enters_of Tryz.func66 (by kernel_rfl) rfl
set_option maxRecDepth 100000 in
set_option maxHeartbeats 8000000 in
theorem u1f.calls (k:Nat) (w0 W:World) (g:Nat) (bs:List Int) (A:Option Addr) (c:Nat) (l:List Tx.Lb) (T:Int) (u:Nat) (br:ByteArray) (e1:Int) (h:ug.Pr w0 W g bs) (hB:Below w0.heap.size w0 W) (hG:u1k.Gd W) (hr:Kd.C k66 W A l.length l) (hc:l.length ≤ c) (hll:l.length ≤ 1000)
 (hT : -9223372036854775808 ≤ T ∧ T ≤ 9223372036854775807) (hu:u < 18446744073709551616) (hbr:(u1f.oth l = [] ∧ br = ⟨#[]⟩) ∨ (u1f.oth l ≠ [] ∧ u2e.f k (u1f.oth l) = some (br,e1))) (hlen:bs.length + (u1f.lineB l br T u).length ≤ 100000000) :
 Calls Tryz.prog 36 #[.pointer (some ⟨g,0,none⟩),.agg #[.slice A l.length c,.int .i64 T,.int .u64 (u:Int)]] W fun e W' => e = .returned (.tuple #[]) ∧ ug.Pr w0 W' g (bs ++ u1f.lineB l br T u) ∧ Below w0.heap.size w0 W' ∧ ug.Stay W W' ∧ W.heap.size ≤ W'.heap.size:=by
 have HR:=Aside0.mk hr
 have HC:=Aside0.mk hc
 have HP:=Aside0.mk h
 have HB:=Aside0.mk hB
 have HG:=Aside0.mk hG
 have HT:=Aside0.mk hT
 have HU:=Aside0.mk hu
 have HLL:Aside0 (l.length ≤ 4611686018427387904):=⟨by omega⟩
 have HCF:Aside0 (api_Label_65.f l = some l):=⟨by unfold api_Label_65.f;rw [if_pos (by omega)]⟩
 have hz1:=ud (Below.refl W.heap.size W) (.cells #[.slice A l.length c,.int .i64 T,.int .u64 (u:Int)] 53)
 have HZ1:=Aside0.mk hz1
 have HN1:=Aside0.mk (ua.new_at W (.cells #[.slice A l.length c,.int .i64 T,.int .u64 (u:Int)] 53))
 unfold u1f.lineB at hlen ⊢
 obtain ⟨nm0,hge⟩:∃ nm0,u2m.get ⟨#[95,95,110,97,109,101,95,95]⟩ l = nm0:=⟨_,rfl⟩
 have HGE:=Aside0.mk hge
 obtain ⟨o,ho⟩:∃ o,u1f.oth l = o:=⟨_,rfl⟩
 rw [ho] at hbr
 obtain ⟨q,hq⟩:∃ q,u1f.own l = q:=⟨_,rfl⟩
 rw [hq] at hlen ⊢
 rw [← List.append_assoc]
 have HLEN:Aside0 (bs.length + (ug.parts [q,br,⟨#[32]⟩,⟨(Lib.decDigits u).toArray⟩,⟨#[32]⟩,⟨(Lib.itoa T).toArray⟩]).length ≤ 100000000):=⟨by rw [List.length_append] at hlen;omega⟩
 unfold u1f.own at hq
 unfold u1f.oth at ho
 rw [hge] at hq ho
 clear hr hc h hB hG hT hu hz1 hlen hge
 cases hb:Base.nameB nm0 with
 | true =>
   have HNB:Aside0 (u1r.f nm0 = some true):=⟨by unfold u1r.f;rw [hb]⟩
   rw [hb,if_pos rfl] at hq ho
   subst hq
   have HO:=Aside0.mk ho
   clear hb ho
   rcases hbr with ⟨rfl,rfl⟩ | ⟨hne,hbr⟩
   · have hl0:decide ((0:Int) < (([]:List Tx.Lb).length:Int)) = false:=rfl
     go_enter Tryz.func36,Tryz.ntmps36
     go_wp2_with (first
      | (go_at_call 63;(with_reducible refine (u2m.calls A c l ⟨#[95,95,110,97,109,101,95,95]⟩ (u2m.get ⟨#[95,95,110,97,109,101,95,95]⟩ l) _ (Kd.C_below HR.out HZ1.out) HC.out rfl).mono ?_);rintro e W2 ⟨rfl,hb2⟩;rw [HGE.out];have HZ2:=Aside0.mk (ui HZ1.out HZ1.out.size hb2);have HN2:=Aside0.mk (ua.below_at hb2 HN1.out);obtain ⟨⟨n0,n1,n2⟩,n3⟩:=uc.look3 HN2.out;clear hb2)
      | (go_at_call 29;(with_reducible refine (u1r.calls nm0 true _ HNB.out).mono ?_);rintro e W3 ⟨rfl,hb3⟩;have HZ3:=Aside0.mk (ui HZ2.out HZ2.out.size hb3);have HN3:=Aside0.mk (ua.below_at hb3 HN2.out);clear n0 n1 n2 n3;obtain ⟨⟨n0,n1,n2⟩,n3⟩:=uc.look3 HN3.out;clear hb3)
      | (go_at_call 65;(with_reducible refine (api_Label_65.calls A c l l _ (Kd.C_below HR.out HZ3.out) HC.out HCF.out).mono ?_);rintro e W4 ⟨v4,rfl,hr4,hb4⟩;have HR4:=Aside0.mk hr4;have HZ4:=Aside0.mk (ui HZ3.out HZ3.out.size hb4);have HN4:=Aside0.mk (ua.below_at hb4 HN3.out);clear n0 n1 n2 n3;obtain ⟨⟨n0,n1,n2⟩,n3⟩:=uc.look3 HN4.out;clear hr4 hb4)
      | (go_at_call 64;(with_reducible refine (u3b.calls W4 W3.heap.size v4 l 66 #[] u1f.met HR4.out HLL.out u1f.enters (fun W' x _ _ => u1f.test2 x W')).mono ?_);rintro e W5 ⟨v5,rfl,hr5,hg5⟩;have hr5':=hr5;rw [HO.out] at hr5';have HR5:=Aside0.mk hr5';have HZ5:=Aside0.mk (HZ4.out.grown hg5 HZ4.out.size (fun k hk => Nat.le_trans HZ3.out.size (Kd.R_base HR4.out k hk)));have HN5:=Aside0.mk ((hg5.block W.heap.size (u3a HN4.out) (fun e => by have h1:=Kd.R_base HR4.out _ e.symm;have h2:=u3a HN3.out;omega)).trans HN4.out);clear n0 n1 n2 n3;obtain ⟨⟨n0,n1,n2⟩,n3⟩:=uc.look3 HN5.out;obtain ⟨A9,c9,e9⟩:=Kd.R_slice HR5.out;subst e9;clear hr5 hr5' hg5))
     have HD0:=Aside0.mk (uy HN5.out)
     have HQ0:=Aside0.mk (uf HZ5.out)
     clear n0 n1 n2 n3
     refine startO_ (n:=11) (S:=fun w' => w'.heap[W.heap.size]? = some (.cells #[.slice A l.length c,.int .i64 T,.int .u64 (u:Int)] 53 (0,0))) (ds:=[]) [(0,25),(1,26),(2,27),(3,28),(4,29),(6,31),(7,32),(5,0),(8,0),(9,0),(10,0)] (by kernel_rfl) rfl HD0.out (fun hHeld => ?_)
     iterate 4 (refine hd_ (v:=?_) (a':=?_) rfl rfl (by kernel_rfl) (Or.inl ⟨by kernel_rfl,?_⟩) ?_ ?_;rotate_left;(intro w';go_simp;with_reducible rfl);rotate_left;(simp only [Act.put,List.setIfInBounds_toArray,List.set_cons_zero,List.set_cons_succ,i64_w,i32_w];rfl))
     refine hdS_ (v:=?_) (a':=?_) rfl rfl (by kernel_rfl) (Or.inl ⟨by kernel_rfl,?_⟩) hHeld ?_ ?_
     rotate_left
     · rintro w' hS'
       have hcell:w'.cell? ⟨W.heap.size,2,none⟩ = some (.int .u64 (u:Int)):=(uj hS' 2).trans rfl
       go_simp
       (try with_reducible rfl)
     rotate_left
     · simp only [Act.put,List.setIfInBounds_toArray,List.set_cons_zero,List.set_cons_succ,i64_w,i32_w]
       rfl
     (refine hd_ (v:=?_) (a':=?_) rfl rfl (by kernel_rfl) (Or.inl ⟨by kernel_rfl,?_⟩) ?_ ?_;rotate_left;(intro w';go_simp;with_reducible rfl);rotate_left;(simp only [Act.put,List.setIfInBounds_toArray,List.set_cons_zero,List.set_cons_succ,i64_w,i32_w];rfl))
     refine hdS_ (v:=?_) (a':=?_) rfl rfl (by kernel_rfl) (Or.inl ⟨by kernel_rfl,?_⟩) hHeld ?_ ?_
     rotate_left
     · rintro w' hS'
       have hcell:w'.cell? ⟨W.heap.size,1,none⟩ = some (.int .i64 T):=(uj hS' 1).trans rfl
       go_simp
       (try with_reducible rfl)
     rotate_left
     · simp only [Act.put,List.setIfInBounds_toArray,List.set_cons_zero,List.set_cons_succ,i64_w,i32_w]
       rfl
     refine oneO_ (N:=some 30) rfl rfl (by kernel_rfl) (by decide) (fun K hK => ?_)
     refine goes_ Tryz.func68 (by kernel_rfl) rfl #[.int .u64 (u:Int),.int .i64 10] (by rfl) rfl rfl (by (try simp only [List.map_toArray,List.map_cons,List.map_nil]);first | done | rfl) ?_
     refine (u1k.calls u HU.out _ (HG.out.below HQ0.out)).mono ?_
     rintro e Wa ⟨rfl,hba⟩
     refine ⟨_,rfl,?_⟩
     have HDa:=Aside0.mk (u2d HD0.out hba)
     have HQa:=Aside0.mk (ui HQ0.out HQ0.out.size hba)
     clear hba
     refine hK.out (Act.put _ (some 30) (.string ⟨(Lib.decDigits u).toArray⟩)) _ HDa.out (fun hNext => ?_)
     simp only [Act.put,List.setIfInBounds_toArray,List.set_cons_zero,List.set_cons_succ,i64_w,i32_w]
     clear hK hHeld K
     have hHeld:=hNext
     clear hNext
     refine oneO_ (N:=some 33) rfl rfl (by kernel_rfl) (by decide) (fun K hK => ?_)
     refine goes_ Tryz.func69 (by kernel_rfl) rfl #[.int .i64 T] (by rfl) rfl rfl (by (try simp only [List.map_toArray,List.map_cons,List.map_nil]);first | done | rfl) ?_
     refine (u1k.itoa T HT.out.1 HT.out.2 _ (HG.out.below HQa.out)).mono ?_
     rintro e Wb ⟨rfl,hbb⟩
     refine ⟨_,rfl,?_⟩
     have HDb:=Aside0.mk (u2d HDa.out hbb)
     have HQb:=Aside0.mk (ui HQa.out HQa.out.size hbb)
     clear hbb
     refine hK.out (Act.put _ (some 33) (.string ⟨(Lib.itoa T).toArray⟩)) _ HDb.out (fun hNext => ?_)
     simp only [Act.put,List.setIfInBounds_toArray,List.set_cons_zero,List.set_cons_succ,i64_w,i32_w]
     clear hK hHeld K
     have hHeld:=hNext
     clear hNext
     refine oneO_ (N:=some 34) rfl rfl (by kernel_rfl) (by decide) (fun K hK => ?_)
     refine value_ (w1:=Wb.alloc (.cells #[.string nm0,.string ⟨#[]⟩,.string ⟨#[32]⟩,.string ⟨(Lib.decDigits u).toArray⟩,.string ⟨#[32]⟩,.string ⟨(Lib.itoa T).toArray⟩] 9)) (v:=.slice (some ⟨Wb.heap.size,0,none⟩) 6 6) (by rfl) rfl ?_ ?_
     · go_simp
     refine hK.out (Act.put _ (some 34) (.slice (some ⟨Wb.heap.size,0,none⟩) 6 6)) _ (us HDb.out _) (fun hNext => ?_)
     simp only [Act.put,List.setIfInBounds_toArray,List.set_cons_zero,List.set_cons_succ,i64_w,i32_w]
     clear hK hHeld K
     have hHeld:=hNext
     clear hNext
     refine oneO_ (N:=some 35) rfl rfl (by kernel_rfl) (by decide) (fun K hK => ?_)
     refine goes_ Tryz.func62 (by kernel_rfl) rfl #[.pointer (some ⟨g,0,none⟩),.slice (some ⟨Wb.heap.size,0,none⟩) 6 6] (by rfl) rfl rfl (by (try simp only [List.map_toArray,List.map_cons,List.map_nil]);first | done | rfl) ?_
     refine (ug.six w0 Wb g _ bs nm0 ⟨#[]⟩ ⟨#[32]⟩ ⟨(Lib.decDigits u).toArray⟩ ⟨#[32]⟩ ⟨(Lib.itoa T).toArray⟩ rfl (HP.out.more HQb.out) (ui HB.out HB.out.size HQb.out) HLEN.out).mono ?_
     rintro e Wc ⟨rfl,hp,hbc,hs,hz⟩
     refine ⟨_,rfl,?_⟩
     have HPc:=Aside0.mk hp
     have HBc:=Aside0.mk hbc
     have HSc:=Aside0.mk ((ug.Stay.below HQb.out).trans hs)
     have HZc:=Aside0.mk (Nat.le_trans HQb.out.size hz)
     have HDc:=Aside0.mk ((hs W.heap.size 53 _ HDb.out (by decide) (by decide)).trans HDb.out)
     clear hp hbc hs hz
     refine hK.out (Act.put _ (some 35) (.tuple #[])) _ HDc.out (fun hNext => ?_)
     simp only [Act.put,List.setIfInBounds_toArray,List.set_cons_zero,List.set_cons_succ,i64_w,i32_w]
     clear hK hHeld K
     have hHeld:=hNext
     clear hNext
     refine doneO_ (by kernel_rfl) ?_
     go_end0
     exact ⟨rfl,HPc.out,HBc.out,HSc.out,HZc.out⟩
   · have hpos:0 < o.length:=List.length_pos_iff.2 hne
     have hl1:decide ((0:Int) < (o.length:Int)) = true:=decide_eq_true (by omega)
     have hl2:decide (0 < o.length) = true:=decide_eq_true hpos
     have HBR:=Aside0.mk hbr
     clear hbr hne
     go_enter Tryz.func36,Tryz.ntmps36
     go_wp2_with (first
      | (go_at_call 63;(with_reducible refine (u2m.calls A c l ⟨#[95,95,110,97,109,101,95,95]⟩ (u2m.get ⟨#[95,95,110,97,109,101,95,95]⟩ l) _ (Kd.C_below HR.out HZ1.out) HC.out rfl).mono ?_);rintro e W2 ⟨rfl,hb2⟩;rw [HGE.out];have HZ2:=Aside0.mk (ui HZ1.out HZ1.out.size hb2);have HN2:=Aside0.mk (ua.below_at hb2 HN1.out);obtain ⟨⟨n0,n1,n2⟩,n3⟩:=uc.look3 HN2.out;clear hb2)
      | (go_at_call 29;(with_reducible refine (u1r.calls nm0 true _ HNB.out).mono ?_);rintro e W3 ⟨rfl,hb3⟩;have HZ3:=Aside0.mk (ui HZ2.out HZ2.out.size hb3);have HN3:=Aside0.mk (ua.below_at hb3 HN2.out);clear n0 n1 n2 n3;obtain ⟨⟨n0,n1,n2⟩,n3⟩:=uc.look3 HN3.out;clear hb3)
      | (go_at_call 65;(with_reducible refine (api_Label_65.calls A c l l _ (Kd.C_below HR.out HZ3.out) HC.out HCF.out).mono ?_);rintro e W4 ⟨v4,rfl,hr4,hb4⟩;have HR4:=Aside0.mk hr4;have HZ4:=Aside0.mk (ui HZ3.out HZ3.out.size hb4);have HN4:=Aside0.mk (ua.below_at hb4 HN3.out);clear n0 n1 n2 n3;obtain ⟨⟨n0,n1,n2⟩,n3⟩:=uc.look3 HN4.out;clear hr4 hb4)
      | (go_at_call 64;(with_reducible refine (u3b.calls W4 W3.heap.size v4 l 66 #[] u1f.met HR4.out HLL.out u1f.enters (fun W' x _ _ => u1f.test2 x W')).mono ?_);rintro e W5 ⟨v5,rfl,hr5,hg5⟩;have hr5':=hr5;rw [HO.out] at hr5';have HR5:=Aside0.mk hr5';have HZ5:=Aside0.mk (HZ4.out.grown hg5 HZ4.out.size (fun k hk => Nat.le_trans HZ3.out.size (Kd.R_base HR4.out k hk)));have HN5:=Aside0.mk ((hg5.block W.heap.size (u3a HN4.out) (fun e => by have h1:=Kd.R_base HR4.out _ e.symm;have h2:=u3a HN3.out;omega)).trans HN4.out);clear n0 n1 n2 n3;obtain ⟨⟨n0,n1,n2⟩,n3⟩:=uc.look3 HN5.out;obtain ⟨A9,c9,e9⟩:=Kd.R_slice HR5.out;subst e9;clear hr5 hr5' hg5)
      | (go_at_call 67;(with_reducible refine (u2e.calls k A9 c9 o br e1 _ (Kd.R_reads' HR5.out).2.2 (Kd.R_reads' HR5.out).2.1 HBR.out).mono ?_);rintro e W6 ⟨rfl,hb6⟩;have HZ6:=Aside0.mk (ui HZ5.out HZ5.out.size hb6);have HN6:=Aside0.mk (ua.below_at hb6 HN5.out);clear n0 n1 n2 n3;obtain ⟨⟨n0,n1,n2⟩,n3⟩:=uc.look3 HN6.out;clear hb6))
     have HD0:=Aside0.mk (uy HN6.out)
     have HQ0:=Aside0.mk (uf HZ6.out)
     clear n0 n1 n2 n3
     refine startO_ (n:=11) (S:=fun w' => w'.heap[W.heap.size]? = some (.cells #[.slice A l.length c,.int .i64 T,.int .u64 (u:Int)] 53 (0,0))) (ds:=[]) [(0,25),(1,26),(2,27),(3,28),(4,29),(6,31),(7,32),(5,0),(8,0),(9,0),(10,0)] (by kernel_rfl) rfl HD0.out (fun hHeld => ?_)
     iterate 4 (refine hd_ (v:=?_) (a':=?_) rfl rfl (by kernel_rfl) (Or.inl ⟨by kernel_rfl,?_⟩) ?_ ?_;rotate_left;(intro w';go_simp;with_reducible rfl);rotate_left;(simp only [Act.put,List.setIfInBounds_toArray,List.set_cons_zero,List.set_cons_succ,i64_w,i32_w];rfl))
     refine hdS_ (v:=?_) (a':=?_) rfl rfl (by kernel_rfl) (Or.inl ⟨by kernel_rfl,?_⟩) hHeld ?_ ?_
     rotate_left
     · rintro w' hS'
       have hcell:w'.cell? ⟨W.heap.size,2,none⟩ = some (.int .u64 (u:Int)):=(uj hS' 2).trans rfl
       go_simp
       (try with_reducible rfl)
     rotate_left
     · simp only [Act.put,List.setIfInBounds_toArray,List.set_cons_zero,List.set_cons_succ,i64_w,i32_w]
       rfl
     (refine hd_ (v:=?_) (a':=?_) rfl rfl (by kernel_rfl) (Or.inl ⟨by kernel_rfl,?_⟩) ?_ ?_;rotate_left;(intro w';go_simp;with_reducible rfl);rotate_left;(simp only [Act.put,List.setIfInBounds_toArray,List.set_cons_zero,List.set_cons_succ,i64_w,i32_w];rfl))
     refine hdS_ (v:=?_) (a':=?_) rfl rfl (by kernel_rfl) (Or.inl ⟨by kernel_rfl,?_⟩) hHeld ?_ ?_
     rotate_left
     · rintro w' hS'
       have hcell:w'.cell? ⟨W.heap.size,1,none⟩ = some (.int .i64 T):=(uj hS' 1).trans rfl
       go_simp
       (try with_reducible rfl)
     rotate_left
     · simp only [Act.put,List.setIfInBounds_toArray,List.set_cons_zero,List.set_cons_succ,i64_w,i32_w]
       rfl
     refine oneO_ (N:=some 30) rfl rfl (by kernel_rfl) (by decide) (fun K hK => ?_)
     refine goes_ Tryz.func68 (by kernel_rfl) rfl #[.int .u64 (u:Int),.int .i64 10] (by rfl) rfl rfl (by (try simp only [List.map_toArray,List.map_cons,List.map_nil]);first | done | rfl) ?_
     refine (u1k.calls u HU.out _ (HG.out.below HQ0.out)).mono ?_
     rintro e Wa ⟨rfl,hba⟩
     refine ⟨_,rfl,?_⟩
     have HDa:=Aside0.mk (u2d HD0.out hba)
     have HQa:=Aside0.mk (ui HQ0.out HQ0.out.size hba)
     clear hba
     refine hK.out (Act.put _ (some 30) (.string ⟨(Lib.decDigits u).toArray⟩)) _ HDa.out (fun hNext => ?_)
     simp only [Act.put,List.setIfInBounds_toArray,List.set_cons_zero,List.set_cons_succ,i64_w,i32_w]
     clear hK hHeld K
     have hHeld:=hNext
     clear hNext
     refine oneO_ (N:=some 33) rfl rfl (by kernel_rfl) (by decide) (fun K hK => ?_)
     refine goes_ Tryz.func69 (by kernel_rfl) rfl #[.int .i64 T] (by rfl) rfl rfl (by (try simp only [List.map_toArray,List.map_cons,List.map_nil]);first | done | rfl) ?_
     refine (u1k.itoa T HT.out.1 HT.out.2 _ (HG.out.below HQa.out)).mono ?_
     rintro e Wb ⟨rfl,hbb⟩
     refine ⟨_,rfl,?_⟩
     have HDb:=Aside0.mk (u2d HDa.out hbb)
     have HQb:=Aside0.mk (ui HQa.out HQa.out.size hbb)
     clear hbb
     refine hK.out (Act.put _ (some 33) (.string ⟨(Lib.itoa T).toArray⟩)) _ HDb.out (fun hNext => ?_)
     simp only [Act.put,List.setIfInBounds_toArray,List.set_cons_zero,List.set_cons_succ,i64_w,i32_w]
     clear hK hHeld K
     have hHeld:=hNext
     clear hNext
     refine oneO_ (N:=some 34) rfl rfl (by kernel_rfl) (by decide) (fun K hK => ?_)
     refine value_ (w1:=Wb.alloc (.cells #[.string nm0,.string br,.string ⟨#[32]⟩,.string ⟨(Lib.decDigits u).toArray⟩,.string ⟨#[32]⟩,.string ⟨(Lib.itoa T).toArray⟩] 9)) (v:=.slice (some ⟨Wb.heap.size,0,none⟩) 6 6) (by rfl) rfl ?_ ?_
     · go_simp
     refine hK.out (Act.put _ (some 34) (.slice (some ⟨Wb.heap.size,0,none⟩) 6 6)) _ (us HDb.out _) (fun hNext => ?_)
     simp only [Act.put,List.setIfInBounds_toArray,List.set_cons_zero,List.set_cons_succ,i64_w,i32_w]
     clear hK hHeld K
     have hHeld:=hNext
     clear hNext
     refine oneO_ (N:=some 35) rfl rfl (by kernel_rfl) (by decide) (fun K hK => ?_)
     refine goes_ Tryz.func62 (by kernel_rfl) rfl #[.pointer (some ⟨g,0,none⟩),.slice (some ⟨Wb.heap.size,0,none⟩) 6 6] (by rfl) rfl rfl (by (try simp only [List.map_toArray,List.map_cons,List.map_nil]);first | done | rfl) ?_
     refine (ug.six w0 Wb g _ bs nm0 br ⟨#[32]⟩ ⟨(Lib.decDigits u).toArray⟩ ⟨#[32]⟩ ⟨(Lib.itoa T).toArray⟩ rfl (HP.out.more HQb.out) (ui HB.out HB.out.size HQb.out) HLEN.out).mono ?_
     rintro e Wc ⟨rfl,hp,hbc,hs,hz⟩
     refine ⟨_,rfl,?_⟩
     have HPc:=Aside0.mk hp
     have HBc:=Aside0.mk hbc
     have HSc:=Aside0.mk ((ug.Stay.below HQb.out).trans hs)
     have HZc:=Aside0.mk (Nat.le_trans HQb.out.size hz)
     have HDc:=Aside0.mk ((hs W.heap.size 53 _ HDb.out (by decide) (by decide)).trans HDb.out)
     clear hp hbc hs hz
     refine hK.out (Act.put _ (some 35) (.tuple #[])) _ HDc.out (fun hNext => ?_)
     simp only [Act.put,List.setIfInBounds_toArray,List.set_cons_zero,List.set_cons_succ,i64_w,i32_w]
     clear hK hHeld K
     have hHeld:=hNext
     clear hNext
     refine doneO_ (by kernel_rfl) ?_
     go_end0
     exact ⟨rfl,HPc.out,HBc.out,HSc.out,HZc.out⟩
 | false =>
   have HNB:Aside0 (u1r.f nm0 = some false):=⟨by unfold u1r.f;rw [hb]⟩
   rw [hb,if_neg Bool.false_ne_true] at hq ho
   subst hq ho
   clear hb
   rcases hbr with ⟨he,rfl⟩ | ⟨hne,hbr⟩
   · have hl0:decide ((0:Int) < (l.length:Int)) = false:=by rw [he];rfl
     have hl00:decide (0 < l.length) = false:=by rw [he];rfl
     clear he
     go_enter Tryz.func36,Tryz.ntmps36
     go_wp2_with (first
      | (go_at_call 63;(with_reducible refine (u2m.calls A c l ⟨#[95,95,110,97,109,101,95,95]⟩ (u2m.get ⟨#[95,95,110,97,109,101,95,95]⟩ l) _ (Kd.C_below HR.out HZ1.out) HC.out rfl).mono ?_);rintro e W2 ⟨rfl,hb2⟩;rw [HGE.out];have HZ2:=Aside0.mk (ui HZ1.out HZ1.out.size hb2);have HN2:=Aside0.mk (ua.below_at hb2 HN1.out);obtain ⟨⟨n0,n1,n2⟩,n3⟩:=uc.look3 HN2.out;clear hb2)
      | (go_at_call 29;(with_reducible refine (u1r.calls nm0 false _ HNB.out).mono ?_);rintro e W3 ⟨rfl,hb3⟩;have HZ3:=Aside0.mk (ui HZ2.out HZ2.out.size hb3);have HN3:=Aside0.mk (ua.below_at hb3 HN2.out);clear n0 n1 n2 n3;obtain ⟨⟨n0,n1,n2⟩,n3⟩:=uc.look3 HN3.out;clear hb3))
     have HD0:=Aside0.mk (uy HN3.out)
     have HQ0:=Aside0.mk (uf HZ3.out)
     clear n0 n1 n2 n3
     refine startO_ (n:=11) (S:=fun w' => w'.heap[W.heap.size]? = some (.cells #[.slice A l.length c,.int .i64 T,.int .u64 (u:Int)] 53 (0,0))) (ds:=[]) [(0,25),(1,26),(2,27),(3,28),(4,29),(6,31),(7,32),(5,0),(8,0),(9,0),(10,0)] (by kernel_rfl) rfl HD0.out (fun hHeld => ?_)
     iterate 4 (refine hd_ (v:=?_) (a':=?_) rfl rfl (by kernel_rfl) (Or.inl ⟨by kernel_rfl,?_⟩) ?_ ?_;rotate_left;(intro w';go_simp;with_reducible rfl);rotate_left;(simp only [Act.put,List.setIfInBounds_toArray,List.set_cons_zero,List.set_cons_succ,i64_w,i32_w];rfl))
     refine hdS_ (v:=?_) (a':=?_) rfl rfl (by kernel_rfl) (Or.inl ⟨by kernel_rfl,?_⟩) hHeld ?_ ?_
     rotate_left
     · rintro w' hS'
       have hcell:w'.cell? ⟨W.heap.size,2,none⟩ = some (.int .u64 (u:Int)):=(uj hS' 2).trans rfl
       go_simp
       (try with_reducible rfl)
     rotate_left
     · simp only [Act.put,List.setIfInBounds_toArray,List.set_cons_zero,List.set_cons_succ,i64_w,i32_w]
       rfl
     (refine hd_ (v:=?_) (a':=?_) rfl rfl (by kernel_rfl) (Or.inl ⟨by kernel_rfl,?_⟩) ?_ ?_;rotate_left;(intro w';go_simp;with_reducible rfl);rotate_left;(simp only [Act.put,List.setIfInBounds_toArray,List.set_cons_zero,List.set_cons_succ,i64_w,i32_w];rfl))
     refine hdS_ (v:=?_) (a':=?_) rfl rfl (by kernel_rfl) (Or.inl ⟨by kernel_rfl,?_⟩) hHeld ?_ ?_
     rotate_left
     · rintro w' hS'
       have hcell:w'.cell? ⟨W.heap.size,1,none⟩ = some (.int .i64 T):=(uj hS' 1).trans rfl
       go_simp
       (try with_reducible rfl)
     rotate_left
     · simp only [Act.put,List.setIfInBounds_toArray,List.set_cons_zero,List.set_cons_succ,i64_w,i32_w]
       rfl
     refine oneO_ (N:=some 30) rfl rfl (by kernel_rfl) (by decide) (fun K hK => ?_)
     refine goes_ Tryz.func68 (by kernel_rfl) rfl #[.int .u64 (u:Int),.int .i64 10] (by rfl) rfl rfl (by (try simp only [List.map_toArray,List.map_cons,List.map_nil]);first | done | rfl) ?_
     refine (u1k.calls u HU.out _ (HG.out.below HQ0.out)).mono ?_
     rintro e Wa ⟨rfl,hba⟩
     refine ⟨_,rfl,?_⟩
     have HDa:=Aside0.mk (u2d HD0.out hba)
     have HQa:=Aside0.mk (ui HQ0.out HQ0.out.size hba)
     clear hba
     refine hK.out (Act.put _ (some 30) (.string ⟨(Lib.decDigits u).toArray⟩)) _ HDa.out (fun hNext => ?_)
     simp only [Act.put,List.setIfInBounds_toArray,List.set_cons_zero,List.set_cons_succ,i64_w,i32_w]
     clear hK hHeld K
     have hHeld:=hNext
     clear hNext
     refine oneO_ (N:=some 33) rfl rfl (by kernel_rfl) (by decide) (fun K hK => ?_)
     refine goes_ Tryz.func69 (by kernel_rfl) rfl #[.int .i64 T] (by rfl) rfl rfl (by (try simp only [List.map_toArray,List.map_cons,List.map_nil]);first | done | rfl) ?_
     refine (u1k.itoa T HT.out.1 HT.out.2 _ (HG.out.below HQa.out)).mono ?_
     rintro e Wb ⟨rfl,hbb⟩
     refine ⟨_,rfl,?_⟩
     have HDb:=Aside0.mk (u2d HDa.out hbb)
     have HQb:=Aside0.mk (ui HQa.out HQa.out.size hbb)
     clear hbb
     refine hK.out (Act.put _ (some 33) (.string ⟨(Lib.itoa T).toArray⟩)) _ HDb.out (fun hNext => ?_)
     simp only [Act.put,List.setIfInBounds_toArray,List.set_cons_zero,List.set_cons_succ,i64_w,i32_w]
     clear hK hHeld K
     have hHeld:=hNext
     clear hNext
     refine oneO_ (N:=some 34) rfl rfl (by kernel_rfl) (by decide) (fun K hK => ?_)
     refine value_ (w1:=Wb.alloc (.cells #[.string ⟨#[]⟩,.string ⟨#[]⟩,.string ⟨#[32]⟩,.string ⟨(Lib.decDigits u).toArray⟩,.string ⟨#[32]⟩,.string ⟨(Lib.itoa T).toArray⟩] 9)) (v:=.slice (some ⟨Wb.heap.size,0,none⟩) 6 6) (by rfl) rfl ?_ ?_
     · go_simp
     refine hK.out (Act.put _ (some 34) (.slice (some ⟨Wb.heap.size,0,none⟩) 6 6)) _ (us HDb.out _) (fun hNext => ?_)
     simp only [Act.put,List.setIfInBounds_toArray,List.set_cons_zero,List.set_cons_succ,i64_w,i32_w]
     clear hK hHeld K
     have hHeld:=hNext
     clear hNext
     refine oneO_ (N:=some 35) rfl rfl (by kernel_rfl) (by decide) (fun K hK => ?_)
     refine goes_ Tryz.func62 (by kernel_rfl) rfl #[.pointer (some ⟨g,0,none⟩),.slice (some ⟨Wb.heap.size,0,none⟩) 6 6] (by rfl) rfl rfl (by (try simp only [List.map_toArray,List.map_cons,List.map_nil]);first | done | rfl) ?_
     refine (ug.six w0 Wb g _ bs ⟨#[]⟩ ⟨#[]⟩ ⟨#[32]⟩ ⟨(Lib.decDigits u).toArray⟩ ⟨#[32]⟩ ⟨(Lib.itoa T).toArray⟩ rfl (HP.out.more HQb.out) (ui HB.out HB.out.size HQb.out) HLEN.out).mono ?_
     rintro e Wc ⟨rfl,hp,hbc,hs,hz⟩
     refine ⟨_,rfl,?_⟩
     have HPc:=Aside0.mk hp
     have HBc:=Aside0.mk hbc
     have HSc:=Aside0.mk ((ug.Stay.below HQb.out).trans hs)
     have HZc:=Aside0.mk (Nat.le_trans HQb.out.size hz)
     have HDc:=Aside0.mk ((hs W.heap.size 53 _ HDb.out (by decide) (by decide)).trans HDb.out)
     clear hp hbc hs hz
     refine hK.out (Act.put _ (some 35) (.tuple #[])) _ HDc.out (fun hNext => ?_)
     simp only [Act.put,List.setIfInBounds_toArray,List.set_cons_zero,List.set_cons_succ,i64_w,i32_w]
     clear hK hHeld K
     have hHeld:=hNext
     clear hNext
     refine doneO_ (by kernel_rfl) ?_
     go_end0
     exact ⟨rfl,HPc.out,HBc.out,HSc.out,HZc.out⟩
   · have hpos:0 < l.length:=List.length_pos_iff.2 hne
     have hl1:decide ((0:Int) < (l.length:Int)) = true:=decide_eq_true (by omega)
     have hl2:decide (0 < l.length) = true:=decide_eq_true hpos
     have HBR:=Aside0.mk hbr
     clear hbr hne
     go_enter Tryz.func36,Tryz.ntmps36
     go_wp2_with (first
      | (go_at_call 63;(with_reducible refine (u2m.calls A c l ⟨#[95,95,110,97,109,101,95,95]⟩ (u2m.get ⟨#[95,95,110,97,109,101,95,95]⟩ l) _ (Kd.C_below HR.out HZ1.out) HC.out rfl).mono ?_);rintro e W2 ⟨rfl,hb2⟩;rw [HGE.out];have HZ2:=Aside0.mk (ui HZ1.out HZ1.out.size hb2);have HN2:=Aside0.mk (ua.below_at hb2 HN1.out);obtain ⟨⟨n0,n1,n2⟩,n3⟩:=uc.look3 HN2.out;clear hb2)
      | (go_at_call 29;(with_reducible refine (u1r.calls nm0 false _ HNB.out).mono ?_);rintro e W3 ⟨rfl,hb3⟩;have HZ3:=Aside0.mk (ui HZ2.out HZ2.out.size hb3);have HN3:=Aside0.mk (ua.below_at hb3 HN2.out);clear n0 n1 n2 n3;obtain ⟨⟨n0,n1,n2⟩,n3⟩:=uc.look3 HN3.out;clear hb3)
      | (go_at_call 67;(with_reducible refine (u2e.calls k A c l br e1 _ (Kd.C_below HR.out HZ3.out) HC.out HBR.out).mono ?_);rintro e W6 ⟨rfl,hb6⟩;have HZ6:=Aside0.mk (ui HZ3.out HZ3.out.size hb6);have HN6:=Aside0.mk (ua.below_at hb6 HN3.out);clear n0 n1 n2 n3;obtain ⟨⟨n0,n1,n2⟩,n3⟩:=uc.look3 HN6.out;clear hb6))
     have HD0:=Aside0.mk (uy HN6.out)
     have HQ0:=Aside0.mk (uf HZ6.out)
     clear n0 n1 n2 n3
     refine startO_ (n:=11) (S:=fun w' => w'.heap[W.heap.size]? = some (.cells #[.slice A l.length c,.int .i64 T,.int .u64 (u:Int)] 53 (0,0))) (ds:=[]) [(0,25),(1,26),(2,27),(3,28),(4,29),(6,31),(7,32),(5,0),(8,0),(9,0),(10,0)] (by kernel_rfl) rfl HD0.out (fun hHeld => ?_)
     iterate 4 (refine hd_ (v:=?_) (a':=?_) rfl rfl (by kernel_rfl) (Or.inl ⟨by kernel_rfl,?_⟩) ?_ ?_;rotate_left;(intro w';go_simp;with_reducible rfl);rotate_left;(simp only [Act.put,List.setIfInBounds_toArray,List.set_cons_zero,List.set_cons_succ,i64_w,i32_w];rfl))
     refine hdS_ (v:=?_) (a':=?_) rfl rfl (by kernel_rfl) (Or.inl ⟨by kernel_rfl,?_⟩) hHeld ?_ ?_
     rotate_left
     · rintro w' hS'
       have hcell:w'.cell? ⟨W.heap.size,2,none⟩ = some (.int .u64 (u:Int)):=(uj hS' 2).trans rfl
       go_simp
       (try with_reducible rfl)
     rotate_left
     · simp only [Act.put,List.setIfInBounds_toArray,List.set_cons_zero,List.set_cons_succ,i64_w,i32_w]
       rfl
     (refine hd_ (v:=?_) (a':=?_) rfl rfl (by kernel_rfl) (Or.inl ⟨by kernel_rfl,?_⟩) ?_ ?_;rotate_left;(intro w';go_simp;with_reducible rfl);rotate_left;(simp only [Act.put,List.setIfInBounds_toArray,List.set_cons_zero,List.set_cons_succ,i64_w,i32_w];rfl))
     refine hdS_ (v:=?_) (a':=?_) rfl rfl (by kernel_rfl) (Or.inl ⟨by kernel_rfl,?_⟩) hHeld ?_ ?_
     rotate_left
     · rintro w' hS'
       have hcell:w'.cell? ⟨W.heap.size,1,none⟩ = some (.int .i64 T):=(uj hS' 1).trans rfl
       go_simp
       (try with_reducible rfl)
     rotate_left
     · simp only [Act.put,List.setIfInBounds_toArray,List.set_cons_zero,List.set_cons_succ,i64_w,i32_w]
       rfl
     refine oneO_ (N:=some 30) rfl rfl (by kernel_rfl) (by decide) (fun K hK => ?_)
     refine goes_ Tryz.func68 (by kernel_rfl) rfl #[.int .u64 (u:Int),.int .i64 10] (by rfl) rfl rfl (by (try simp only [List.map_toArray,List.map_cons,List.map_nil]);first | done | rfl) ?_
     refine (u1k.calls u HU.out _ (HG.out.below HQ0.out)).mono ?_
     rintro e Wa ⟨rfl,hba⟩
     refine ⟨_,rfl,?_⟩
     have HDa:=Aside0.mk (u2d HD0.out hba)
     have HQa:=Aside0.mk (ui HQ0.out HQ0.out.size hba)
     clear hba
     refine hK.out (Act.put _ (some 30) (.string ⟨(Lib.decDigits u).toArray⟩)) _ HDa.out (fun hNext => ?_)
     simp only [Act.put,List.setIfInBounds_toArray,List.set_cons_zero,List.set_cons_succ,i64_w,i32_w]
     clear hK hHeld K
     have hHeld:=hNext
     clear hNext
     refine oneO_ (N:=some 33) rfl rfl (by kernel_rfl) (by decide) (fun K hK => ?_)
     refine goes_ Tryz.func69 (by kernel_rfl) rfl #[.int .i64 T] (by rfl) rfl rfl (by (try simp only [List.map_toArray,List.map_cons,List.map_nil]);first | done | rfl) ?_
     refine (u1k.itoa T HT.out.1 HT.out.2 _ (HG.out.below HQa.out)).mono ?_
     rintro e Wb ⟨rfl,hbb⟩
     refine ⟨_,rfl,?_⟩
     have HDb:=Aside0.mk (u2d HDa.out hbb)
     have HQb:=Aside0.mk (ui HQa.out HQa.out.size hbb)
     clear hbb
     refine hK.out (Act.put _ (some 33) (.string ⟨(Lib.itoa T).toArray⟩)) _ HDb.out (fun hNext => ?_)
     simp only [Act.put,List.setIfInBounds_toArray,List.set_cons_zero,List.set_cons_succ,i64_w,i32_w]
     clear hK hHeld K
     have hHeld:=hNext
     clear hNext
     refine oneO_ (N:=some 34) rfl rfl (by kernel_rfl) (by decide) (fun K hK => ?_)
     refine value_ (w1:=Wb.alloc (.cells #[.string ⟨#[]⟩,.string br,.string ⟨#[32]⟩,.string ⟨(Lib.decDigits u).toArray⟩,.string ⟨#[32]⟩,.string ⟨(Lib.itoa T).toArray⟩] 9)) (v:=.slice (some ⟨Wb.heap.size,0,none⟩) 6 6) (by rfl) rfl ?_ ?_
     · go_simp
     refine hK.out (Act.put _ (some 34) (.slice (some ⟨Wb.heap.size,0,none⟩) 6 6)) _ (us HDb.out _) (fun hNext => ?_)
     simp only [Act.put,List.setIfInBounds_toArray,List.set_cons_zero,List.set_cons_succ,i64_w,i32_w]
     clear hK hHeld K
     have hHeld:=hNext
     clear hNext
     refine oneO_ (N:=some 35) rfl rfl (by kernel_rfl) (by decide) (fun K hK => ?_)
     refine goes_ Tryz.func62 (by kernel_rfl) rfl #[.pointer (some ⟨g,0,none⟩),.slice (some ⟨Wb.heap.size,0,none⟩) 6 6] (by rfl) rfl rfl (by (try simp only [List.map_toArray,List.map_cons,List.map_nil]);first | done | rfl) ?_
     refine (ug.six w0 Wb g _ bs ⟨#[]⟩ br ⟨#[32]⟩ ⟨(Lib.decDigits u).toArray⟩ ⟨#[32]⟩ ⟨(Lib.itoa T).toArray⟩ rfl (HP.out.more HQb.out) (ui HB.out HB.out.size HQb.out) HLEN.out).mono ?_
     rintro e Wc ⟨rfl,hp,hbc,hs,hz⟩
     refine ⟨_,rfl,?_⟩
     have HPc:=Aside0.mk hp
     have HBc:=Aside0.mk hbc
     have HSc:=Aside0.mk ((ug.Stay.below HQb.out).trans hs)
     have HZc:=Aside0.mk (Nat.le_trans HQb.out.size hz)
     have HDc:=Aside0.mk ((hs W.heap.size 53 _ HDb.out (by decide) (by decide)).trans HDb.out)
     clear hp hbc hs hz
     refine hK.out (Act.put _ (some 35) (.tuple #[])) _ HDc.out (fun hNext => ?_)
     simp only [Act.put,List.setIfInBounds_toArray,List.set_cons_zero,List.set_cons_succ,i64_w,i32_w]
     clear hK hHeld K
     have hHeld:=hNext
     clear hNext
     refine doneO_ (by kernel_rfl) ?_
     go_end0
     exact ⟨rfl,HPc.out,HBc.out,HSc.out,HZc.out⟩
abbrev ur.Lb:=S66
def ur.nm (k:Nat) (x:ur.Lb):Bool:=(uv.f k x.f0).getD false
def ur.vl (x:ur.Lb):Bool:=(u2w.f x.f1).getD false
def ur.stepB (k:Nat) (l:List ur.Lb) (i:Nat):Bool:=ur.nm k (uq l (i:Int)) && ur.vl (uq l (i:Int)) && (decide (i = 0) || Op.bytesLess (uq l ((i:Int) - 1)).f0.toList (uq l (i:Int)).f0.toList)
def ur.canB (k:Nat) (l:List ur.Lb):Bool:=decide (1 ≤ l.length) && decide (l.length ≤ 8) && (List.range l.length).all (ur.stepB k l)
def ur.okB (k:Nat) (l:List ur.Lb):Bool:=l.all fun x => (uv.f k x.f0).isSome && (u2w.f x.f1).isSome
def ur.f (k:Nat) (l0:List ur.Lb):Option Bool:=if ur.okB k l0 = true then some (ur.canB k l0) else none
theorem ur.is_some {a:Option Bool} (h:a.isSome = true):a = some (a.getD false):=by
 cases a with
 | none => cases h
 | some b => rfl
theorem ur.rd_mem (l:List ur.Lb) (i:Int) (h0:0 ≤ i) (h1:i < l.length):uq l i ∈ l:=by
 unfold uq
 rw [List.getD_eq_getElem?_getD,List.getElem?_eq_getElem (by omega)]
 exact List.getElem_mem _
theorem ur.ok_at {k:Nat} {l:List ur.Lb} (h:ur.okB k l = true) (x:ur.Lb) (hx:x ∈ l):uv.f k x.f0 = some (ur.nm k x) ∧ u2w.f x.f1 = some (ur.vl x):=by
 have h1:=List.all_eq_true.1 h x hx
 rw [Bool.and_eq_true] at h1
 exact ⟨ur.is_some h1.1,ur.is_some h1.2⟩
set_option maxHeartbeats 4000000 in
set_option maxRecDepth 10000 in
theorem ur.calls (k:Nat) (A0:Option Addr) (c0:Nat) (l0:List ur.Lb) (r:Bool) (w:World) (hr0:Kd.C k66 w A0 l0.length l0) (hc0:l0.length ≤ c0) (h:ur.f k l0 = some r) :
 Calls Tryz.prog 40 #[.slice A0 l0.length c0] w fun e w' => e = .returned (.bool r) ∧ Below w.heap.size w w':=by
 have hok:ur.okB k l0 = true:=by
  unfold ur.f at h
  split at h
  · assumption
  · cases h
 unfold ur.f at h
 rw [if_pos hok] at h
 obtain rfl:=Option.some.inj h
 have HO:=Aside0.mk hok
 have HR:=Aside0.mk hr0
 have HC:=Aside0.mk hc0
 clear hr0 h hok hc0
 by_cases h1:l0.length < 1
 · have d1:decide ((l0.length:Int) < 1) = true:=decide_eq_true (by omega)
   have d2:decide (l0.length < 1) = true:=decide_eq_true h1
   have HE:Aside0 (ur.canB k l0 = false):=⟨by unfold ur.canB;rw [decide_eq_false (by omega),Bool.false_and,Bool.false_and]⟩
   rw [HE.out]
   go_enter Tryz.func40,Tryz.ntmps40
   go_wp2
   go_ret
   exact ⟨rfl,Below.refl _ _⟩
 · have d1:decide ((l0.length:Int) < 1) = false:=decide_eq_false (by omega)
   have d2:decide (l0.length < 1) = false:=decide_eq_false h1
   by_cases h8:8 < l0.length
   · have d3:decide ((l0.length:Int) > 8) = true:=decide_eq_true (by omega)
     have d4:decide (8 < l0.length) = true:=decide_eq_true h8
     have HE:Aside0 (ur.canB k l0 = false):=⟨by unfold ur.canB;rw [decide_eq_false (show ¬ l0.length ≤ 8 by omega),Bool.and_false,Bool.false_and]⟩
     rw [HE.out]
     go_enter Tryz.func40,Tryz.ntmps40
     go_wp2
     go_ret
     exact ⟨rfl,Below.refl _ _⟩
   · have d3:decide ((l0.length:Int) > 8) = false:=decide_eq_false (by omega)
     have d4:decide (8 < l0.length) = false:=decide_eq_false h8
     have HE:Aside0 (ur.canB k l0 = (List.range l0.length).all (ur.stepB k l0)):=⟨by unfold ur.canB;rw [decide_eq_true (show 1 ≤ l0.length by omega),decide_eq_true (show l0.length ≤ 8 by omega),Bool.true_and,Bool.true_and]⟩
     rw [HE.out]
     have HB0:=Aside0.mk (Below.refl w.heap.size w)
     go_enter Tryz.func40,Tryz.ntmps40
     go_wp2
     clear d1 d2 d3 d4
     go_loopg [15] (l0.length) (fun kq v15 wr => ∃ (i:Nat),i ≤ l0.length ∧ v15 = .int .i64 i ∧ Aside0 (∀ j,j < i → ur.stepB k l0 j = true) ∧ l0.length ≤ kq + i ∧ Aside0 (Below w.heap.size w wr))
     case atStart => exact ⟨0,Nat.zero_le _,rfl,⟨fun j hj => absurd hj (Nat.not_lt_zero j)⟩,by omega,HB0⟩
     case round =>
      obtain ⟨i,hi,rfl,HJ,hk,HB⟩:=hrel
      by_cases hlt:i < l0.length
      · obtain ⟨ad,e,hc0,hc1⟩:=at_T66 HR.out (i:Int) (by omega) (by omega)
        subst e
        have HX:=ur.ok_at HO.out _ (ur.rd_mem l0 (i:Int) (by omega) (by omega))
        obtain ⟨x,hx⟩:∃ x,Aside0 (uq l0 (i:Int) = x):=⟨_,⟨rfl⟩⟩
        rw [hx.out] at hc0 hc1 HX
        have q0:wr.cell? (ad.add (i * 2)) = some (.string x.f0):=(HB.out.cell (World.block_lt_of_cell? w _ (by simpa using hc0))).trans (by simpa using hc0)
        have q1:wr.cell? ⟨(ad.add (i * 2)).block,(ad.add (i * 2)).off + 1,none⟩ = some (.string x.f1):=(HB.out.cell (World.block_lt_of_cell? w _ (by simpa using hc1))).trans (by simpa using hc1)
        clear hc0 hc1
        obtain ⟨bn,hbn⟩:∃ b,Aside0 (ur.nm k x = b):=⟨_,⟨rfl⟩⟩
        obtain ⟨bv,hbv⟩:∃ b,Aside0 (ur.vl x = b):=⟨_,⟨rfl⟩⟩
        have HN:Aside0 (uv.f k x.f0 = some bn):=⟨by rw [← hbn.out];exact HX.1⟩
        have HV:Aside0 (u2w.f x.f1 = some bv):=⟨by rw [← hbv.out];exact HX.2⟩
        have hs:ur.stepB k l0 i = (bn && bv && (decide (i = 0) || Op.bytesLess (uq l0 ((i:Int) - 1)).f0.toList x.f0.toList)):=by
         unfold ur.stepB
         rw [hx.out,hbn.out,hbv.out]
        have HS:=Aside0.mk hs
        clear hs HX
        obtain ⟨W1,hW1⟩:∃ W1,Aside0 (wr.alloc (.cells #[.string x.f0,.string x.f1] 66) = W1):=⟨_,⟨rfl⟩⟩
        have HG:Aside0 (W1.heap[wr.heap.size]? = some (.cells #[.string x.f0,.string x.f1] 66 (0,0))):=⟨by rw [← hW1.out];exact blk_new _ _⟩
        have HB1:Aside0 (Below w.heap.size w W1):=⟨by rw [← hW1.out];exact ud HB.out _⟩
        have HG1:=Aside0.mk (uy HG.out)
        have HB2:=Aside0.mk (uf HB1.out)
        have hfail:ur.stepB k l0 i = false → (List.range l0.length).all (ur.stepB k l0) = false:=fun h9 => List.all_eq_false.2 ⟨i,List.mem_range.2 hlt,by rw [h9];decide⟩
        have HFL:=Aside0.mk hfail
        clear hfail
        obtain ⟨g1,rfl⟩:∃ g1,gk = g1 + 1:=⟨gk - 1,by omega⟩
        cases bn with
        | false =>
          go_wp2
          rw [hW1.out]
          clear q0 q1
          refine startO_ (n:=25) (S:=fun w' => w'.cell? ⟨wr.heap.size,0,none⟩ = some (.string x.f0) ∧ w'.cell? ⟨wr.heap.size,1,none⟩ = some (.string x.f1)) (ds:=[]) [(0,20),(1,21),(2,0),(3,23),(4,24),(5,25),(6,26),(7,27),(8,28),(9,29),(10,30),(11,31),(12,32),(13,33),(14,34),(15,35),(16,36),(17,37),(18,38),(19,39),(20,40),(21,41),(22,42),(23,43),(24,44)] (by kernel_rfl) rfl ⟨(uj HG1.out 0).trans rfl,(uj HG1.out 1).trans rfl⟩ (fun hHeld => ?_)
          (refine hd_ (v:=?_) (a':=?_) rfl rfl (by kernel_rfl) (Or.inl ⟨by kernel_rfl,?_⟩) ?_ ?_;rotate_left;(intro w';go_simp;with_reducible rfl);rotate_left;(simp only [Act.put,List.setIfInBounds_toArray,List.set_cons_zero,List.set_cons_succ,i64_w,i32_w];rfl))
          refine hdS_ (v:=?_) (a':=?_) rfl rfl (by kernel_rfl) (Or.inl ⟨by kernel_rfl,?_⟩) hHeld ?_ ?_
          rotate_left
          · rintro w' hS'
            obtain ⟨s0,s1⟩:=hS'
            go_simp
            (try with_reducible rfl)
          rotate_left
          · simp only [Act.put,List.setIfInBounds_toArray,List.set_cons_zero,List.set_cons_succ,i64_w,i32_w]
            rfl
          refine oneO_ (N:=some 22) rfl rfl (by kernel_rfl) (by decide) (fun K hK => ?_)
          refine goes_ Tryz.func37 (by kernel_rfl) rfl #[.string x.f0] (by rfl) rfl rfl (by (try simp only [List.map_toArray,List.map_cons,List.map_nil]);first | done | rfl) ?_
          refine (uv.calls k x.f0 false _ HN.out).mono ?_
          rintro e W2 ⟨rfl,hb2⟩
          refine ⟨_,rfl,?_⟩
          have hB2:=hb2.below
          have HG2:=Aside0.mk (u2d HG1.out hB2)
          have HB3:=Aside0.mk (ui HB2.out HB2.out.size hB2)
          clear hb2 hB2
          refine hK.out (Act.put _ (some 22) (.bool false)) _ ⟨(uj HG2.out 0).trans rfl,(uj HG2.out 1).trans rfl⟩ (fun hNext => ?_)
          simp only [Act.put,List.setIfInBounds_toArray,List.set_cons_zero,List.set_cons_succ,i64_w,i32_w]
          clear hK hHeld K
          have hHeld:=hNext
          clear hNext
          iterate 2 (refine hd_ (v:=?_) (a':=?_) rfl rfl (by kernel_rfl) (Or.inl ⟨by kernel_rfl,?_⟩) ?_ ?_;rotate_left;(intro w';go_simp;with_reducible rfl);rotate_left;(simp only [Act.put,List.setIfInBounds_toArray,List.set_cons_zero,List.set_cons_succ,i64_w,i32_w];rfl))
          iterate 4 (refine hd_ (v:=undef) (a':=?_) rfl rfl (by kernel_rfl) (Or.inr ⟨by kernel_rfl,rfl⟩) ?_ ?_;rotate_left;(simp only [Act.put,List.setIfInBounds_toArray,List.set_cons_zero,List.set_cons_succ,i64_w,i32_w];rfl))
          iterate 2 (refine hd_ (v:=?_) (a':=?_) rfl rfl (by kernel_rfl) (Or.inl ⟨by kernel_rfl,?_⟩) ?_ ?_;rotate_left;(intro w';go_simp;with_reducible rfl);rotate_left;(simp only [Act.put,List.setIfInBounds_toArray,List.set_cons_zero,List.set_cons_succ,i64_w,i32_w];rfl))
          iterate 13 (refine hd_ (v:=undef) (a':=?_) rfl rfl (by kernel_rfl) (Or.inr ⟨by kernel_rfl,rfl⟩) ?_ ?_;rotate_left;(simp only [Act.put,List.setIfInBounds_toArray,List.set_cons_zero,List.set_cons_succ,i64_w,i32_w];rfl))
          (refine hd_ (v:=?_) (a':=?_) rfl rfl (by kernel_rfl) (Or.inl ⟨by kernel_rfl,?_⟩) ?_ ?_;rotate_left;(intro w';go_simp;with_reducible rfl);rotate_left;(simp only [Act.put,List.setIfInBounds_toArray,List.set_cons_zero,List.set_cons_succ,i64_w,i32_w];rfl))
          refine doneO_ (by kernel_rfl) ?_
          try go_wp2
          go_ret
          exact ⟨by rw [HFL.out (by rw [HS.out];simp)];rfl,HB3.out⟩
        | true =>
          cases bv with
          | false =>
            go_wp2
            rw [hW1.out]
            clear q0 q1
            refine startO_ (n:=25) (S:=fun w' => w'.cell? ⟨wr.heap.size,0,none⟩ = some (.string x.f0) ∧ w'.cell? ⟨wr.heap.size,1,none⟩ = some (.string x.f1)) (ds:=[]) [(0,20),(1,21),(2,0),(3,23),(4,24),(5,25),(6,26),(7,0),(8,28),(9,29),(10,30),(11,31),(12,32),(13,33),(14,34),(15,35),(16,36),(17,37),(18,38),(19,39),(20,40),(21,41),(22,42),(23,43),(24,44)] (by kernel_rfl) rfl ⟨(uj HG1.out 0).trans rfl,(uj HG1.out 1).trans rfl⟩ (fun hHeld => ?_)
            (refine hd_ (v:=?_) (a':=?_) rfl rfl (by kernel_rfl) (Or.inl ⟨by kernel_rfl,?_⟩) ?_ ?_;rotate_left;(intro w';go_simp;with_reducible rfl);rotate_left;(simp only [Act.put,List.setIfInBounds_toArray,List.set_cons_zero,List.set_cons_succ,i64_w,i32_w];rfl))
            refine hdS_ (v:=?_) (a':=?_) rfl rfl (by kernel_rfl) (Or.inl ⟨by kernel_rfl,?_⟩) hHeld ?_ ?_
            rotate_left
            · rintro w' hS'
              obtain ⟨s0,s1⟩:=hS'
              go_simp
              (try with_reducible rfl)
            rotate_left
            · simp only [Act.put,List.setIfInBounds_toArray,List.set_cons_zero,List.set_cons_succ,i64_w,i32_w]
              rfl
            refine oneO_ (N:=some 22) rfl rfl (by kernel_rfl) (by decide) (fun K hK => ?_)
            refine goes_ Tryz.func37 (by kernel_rfl) rfl #[.string x.f0] (by rfl) rfl rfl (by (try simp only [List.map_toArray,List.map_cons,List.map_nil]);first | done | rfl) ?_
            refine (uv.calls k x.f0 true _ HN.out).mono ?_
            rintro e W2 ⟨rfl,hb2⟩
            refine ⟨_,rfl,?_⟩
            have hB2:=hb2.below
            have HG2:=Aside0.mk (u2d HG1.out hB2)
            have HB3:=Aside0.mk (ui HB2.out HB2.out.size hB2)
            clear hb2 hB2
            refine hK.out (Act.put _ (some 22) (.bool true)) _ ⟨(uj HG2.out 0).trans rfl,(uj HG2.out 1).trans rfl⟩ (fun hNext => ?_)
            simp only [Act.put,List.setIfInBounds_toArray,List.set_cons_zero,List.set_cons_succ,i64_w,i32_w]
            clear hK hHeld K
            have hHeld:=hNext
            clear hNext
            iterate 3 (refine hd_ (v:=?_) (a':=?_) rfl rfl (by kernel_rfl) (Or.inl ⟨by kernel_rfl,?_⟩) ?_ ?_;rotate_left;(intro w';go_simp;with_reducible rfl);rotate_left;(simp only [Act.put,List.setIfInBounds_toArray,List.set_cons_zero,List.set_cons_succ,i64_w,i32_w];rfl))
            refine hdS_ (v:=?_) (a':=?_) rfl rfl (by kernel_rfl) (Or.inl ⟨by kernel_rfl,?_⟩) hHeld ?_ ?_
            rotate_left
            · rintro w' hS'
              obtain ⟨s0,s1⟩:=hS'
              go_simp
              (try with_reducible rfl)
            rotate_left
            · simp only [Act.put,List.setIfInBounds_toArray,List.set_cons_zero,List.set_cons_succ,i64_w,i32_w]
              rfl
            refine oneO_ (N:=some 27) rfl rfl (by kernel_rfl) (by decide) (fun K hK => ?_)
            refine goes_ Tryz.func70 (by kernel_rfl) rfl #[.string x.f1] (by rfl) rfl rfl (by (try simp only [List.map_toArray,List.map_cons,List.map_nil]);first | done | rfl) ?_
            refine (u2w.calls x.f1 false _ HV.out).mono ?_
            rintro e W3 ⟨rfl,hb3⟩
            refine ⟨_,rfl,?_⟩
            have HG3:=Aside0.mk (u2d HG2.out hb3)
            have HB4:=Aside0.mk (ui HB3.out HB3.out.size hb3)
            clear hb3
            refine hK.out (Act.put _ (some 27) (.bool false)) _ ⟨(uj HG3.out 0).trans rfl,(uj HG3.out 1).trans rfl⟩ (fun hNext => ?_)
            simp only [Act.put,List.setIfInBounds_toArray,List.set_cons_zero,List.set_cons_succ,i64_w,i32_w]
            clear hK hHeld K
            have hHeld:=hNext
            clear hNext
            iterate 3 (refine hd_ (v:=?_) (a':=?_) rfl rfl (by kernel_rfl) (Or.inl ⟨by kernel_rfl,?_⟩) ?_ ?_;rotate_left;(intro w';go_simp;with_reducible rfl);rotate_left;(simp only [Act.put,List.setIfInBounds_toArray,List.set_cons_zero,List.set_cons_succ,i64_w,i32_w];rfl))
            iterate 13 (refine hd_ (v:=undef) (a':=?_) rfl rfl (by kernel_rfl) (Or.inr ⟨by kernel_rfl,rfl⟩) ?_ ?_;rotate_left;(simp only [Act.put,List.setIfInBounds_toArray,List.set_cons_zero,List.set_cons_succ,i64_w,i32_w];rfl))
            (refine hd_ (v:=?_) (a':=?_) rfl rfl (by kernel_rfl) (Or.inl ⟨by kernel_rfl,?_⟩) ?_ ?_;rotate_left;(intro w';go_simp;with_reducible rfl);rotate_left;(simp only [Act.put,List.setIfInBounds_toArray,List.set_cons_zero,List.set_cons_succ,i64_w,i32_w];rfl))
            refine doneO_ (by kernel_rfl) ?_
            try go_wp2
            go_ret
            exact ⟨by rw [HFL.out (by rw [HS.out];simp)];rfl,HB4.out⟩
          | true =>
            by_cases hz9:i = 0
            · have z1:decide ((i:Int) > 0) = false:=decide_eq_false (by omega)
              have z2:decide (0 < i) = false:=decide_eq_false (by omega)
              have HZ9:=Aside0.mk hz9
              clear hz9
              go_wp2
              rw [hW1.out]
              clear q0 q1
              refine startO_ (n:=25) (S:=fun w' => w'.cell? ⟨wr.heap.size,0,none⟩ = some (.string x.f0) ∧ w'.cell? ⟨wr.heap.size,1,none⟩ = some (.string x.f1)) (ds:=[]) [(0,20),(1,21),(2,0),(3,23),(4,24),(5,25),(6,26),(7,0),(8,28),(9,29),(10,30),(11,31),(12,32),(13,33),(14,34),(15,35),(16,36),(17,37),(18,38),(19,39),(20,40),(21,41),(22,42),(23,43),(24,44)] (by kernel_rfl) rfl ⟨(uj HG1.out 0).trans rfl,(uj HG1.out 1).trans rfl⟩ (fun hHeld => ?_)
              (refine hd_ (v:=?_) (a':=?_) rfl rfl (by kernel_rfl) (Or.inl ⟨by kernel_rfl,?_⟩) ?_ ?_;rotate_left;(intro w';go_simp;with_reducible rfl);rotate_left;(simp only [Act.put,List.setIfInBounds_toArray,List.set_cons_zero,List.set_cons_succ,i64_w,i32_w];rfl))
              refine hdS_ (v:=?_) (a':=?_) rfl rfl (by kernel_rfl) (Or.inl ⟨by kernel_rfl,?_⟩) hHeld ?_ ?_
              rotate_left
              · rintro w' hS'
                obtain ⟨s0,s1⟩:=hS'
                go_simp
                (try with_reducible rfl)
              rotate_left
              · simp only [Act.put,List.setIfInBounds_toArray,List.set_cons_zero,List.set_cons_succ,i64_w,i32_w]
                rfl
              refine oneO_ (N:=some 22) rfl rfl (by kernel_rfl) (by decide) (fun K hK => ?_)
              refine goes_ Tryz.func37 (by kernel_rfl) rfl #[.string x.f0] (by rfl) rfl rfl (by (try simp only [List.map_toArray,List.map_cons,List.map_nil]);first | done | rfl) ?_
              refine (uv.calls k x.f0 true _ HN.out).mono ?_
              rintro e W2 ⟨rfl,hb2⟩
              refine ⟨_,rfl,?_⟩
              have hB2:=hb2.below
              have HG2:=Aside0.mk (u2d HG1.out hB2)
              have HB3:=Aside0.mk (ui HB2.out HB2.out.size hB2)
              clear hb2 hB2
              refine hK.out (Act.put _ (some 22) (.bool true)) _ ⟨(uj HG2.out 0).trans rfl,(uj HG2.out 1).trans rfl⟩ (fun hNext => ?_)
              simp only [Act.put,List.setIfInBounds_toArray,List.set_cons_zero,List.set_cons_succ,i64_w,i32_w]
              clear hK hHeld K
              have hHeld:=hNext
              clear hNext
              iterate 3 (refine hd_ (v:=?_) (a':=?_) rfl rfl (by kernel_rfl) (Or.inl ⟨by kernel_rfl,?_⟩) ?_ ?_;rotate_left;(intro w';go_simp;with_reducible rfl);rotate_left;(simp only [Act.put,List.setIfInBounds_toArray,List.set_cons_zero,List.set_cons_succ,i64_w,i32_w];rfl))
              refine hdS_ (v:=?_) (a':=?_) rfl rfl (by kernel_rfl) (Or.inl ⟨by kernel_rfl,?_⟩) hHeld ?_ ?_
              rotate_left
              · rintro w' hS'
                obtain ⟨s0,s1⟩:=hS'
                go_simp
                (try with_reducible rfl)
              rotate_left
              · simp only [Act.put,List.setIfInBounds_toArray,List.set_cons_zero,List.set_cons_succ,i64_w,i32_w]
                rfl
              refine oneO_ (N:=some 27) rfl rfl (by kernel_rfl) (by decide) (fun K hK => ?_)
              refine goes_ Tryz.func70 (by kernel_rfl) rfl #[.string x.f1] (by rfl) rfl rfl (by (try simp only [List.map_toArray,List.map_cons,List.map_nil]);first | done | rfl) ?_
              refine (u2w.calls x.f1 true _ HV.out).mono ?_
              rintro e W3 ⟨rfl,hb3⟩
              refine ⟨_,rfl,?_⟩
              have HG3:=Aside0.mk (u2d HG2.out hb3)
              have HB4:=Aside0.mk (ui HB3.out HB3.out.size hb3)
              clear hb3
              refine hK.out (Act.put _ (some 27) (.bool true)) _ ⟨(uj HG3.out 0).trans rfl,(uj HG3.out 1).trans rfl⟩ (fun hNext => ?_)
              simp only [Act.put,List.setIfInBounds_toArray,List.set_cons_zero,List.set_cons_succ,i64_w,i32_w]
              clear hK hHeld K
              have hHeld:=hNext
              clear hNext
              iterate 6 (refine hd_ (v:=?_) (a':=?_) rfl rfl (by kernel_rfl) (Or.inl ⟨by kernel_rfl,?_⟩) ?_ ?_;rotate_left;(intro w';go_simp;with_reducible rfl);rotate_left;(simp only [Act.put,List.setIfInBounds_toArray,List.set_cons_zero,List.set_cons_succ,i64_w,i32_w];rfl))
              iterate 9 (refine hd_ (v:=undef) (a':=?_) rfl rfl (by kernel_rfl) (Or.inr ⟨by kernel_rfl,rfl⟩) ?_ ?_;rotate_left;(simp only [Act.put,List.setIfInBounds_toArray,List.set_cons_zero,List.set_cons_succ,i64_w,i32_w];rfl))
              iterate 2 (refine hd_ (v:=?_) (a':=?_) rfl rfl (by kernel_rfl) (Or.inl ⟨by kernel_rfl,?_⟩) ?_ ?_;rotate_left;(intro w';go_simp;with_reducible rfl);rotate_left;(simp only [Act.put,List.setIfInBounds_toArray,List.set_cons_zero,List.set_cons_succ,i64_w,i32_w];rfl))
              refine doneO_ (by kernel_rfl) ?_
              try go_wp2
              go_roundg g1
              case rel =>
               refine ⟨i + 1,hlt,by go_num,⟨fun m hm => ?_⟩,by omega,HB4⟩
               rcases Nat.lt_or_ge m i with h9 | h9
               · exact HJ.out m h9
               · have h8:m = i:=by omega
                 rw [h8,HS.out]
                 simp [HZ9.out]
              case measure => omega
            · obtain ⟨j,rfl⟩:∃ j,i = j + 1:=⟨i - 1,by omega⟩
              obtain ⟨ad2,e2,hp0,_⟩:=at_T66 HR.out (j:Int) (by omega) (by omega)
              obtain rfl:ad = ad2:=Option.some.inj e2
              obtain ⟨p,hp⟩:∃ p,Aside0 (uq l0 (j:Int) = p):=⟨_,⟨rfl⟩⟩
              rw [hp.out] at hp0
              simp only [Int.toNat_natCast] at hp0
              have HP:Aside0 (∀ W',Below w.heap.size w W' → W'.cell? (ad.add (j * 2)) = some (.string p.f0)):=⟨fun W' hW' => (hW'.cell (World.block_lt_of_cell? w _ hp0)).trans hp0⟩
              have hj1:(((j + 1:Nat):Int) - 1) = (j:Int):=by omega
              rw [hj1,hp.out] at HS
              clear hp0 hj1
              have z1:decide (((j + 1:Nat):Int) > 0) = true:=decide_eq_true (by omega)
              have z2:decide (0 < j + 1) = true:=decide_eq_true (by omega)
              have z3:decide ((0:Int) < (j:Int) + 1) = true:=decide_eq_true (by omega)
              have z4:(0:Int) ≤ (j:Int):=by omega
              have z6:wrap64 (j:Int) = (j:Int):=by unfold wrap64;omega
              have z5:(j:Int) < (l0.length:Int):=by omega
              cases hls:Op.bytesLess p.f0.toList x.f0.toList with
              | false =>
                go_wp2
                rw [hW1.out]
                clear q0 q1
                refine startO_ (n:=25) (S:=fun w' => w'.cell? ⟨wr.heap.size,0,none⟩ = some (.string x.f0) ∧ w'.cell? ⟨wr.heap.size,1,none⟩ = some (.string x.f1) ∧ w'.cell? (ad.add (j * 2)) = some (.string p.f0)) (ds:=[]) [(0,20),(1,21),(2,0),(3,23),(4,24),(5,25),(6,26),(7,0),(8,28),(9,29),(10,30),(11,31),(12,32),(13,33),(14,34),(15,35),(16,36),(17,37),(18,38),(19,39),(20,40),(21,41),(22,42),(23,43),(24,44)] (by kernel_rfl) rfl ⟨(uj HG1.out 0).trans rfl,(uj HG1.out 1).trans rfl,HP.out _ (HB2.out)⟩ (fun hHeld => ?_)
                (refine hd_ (v:=?_) (a':=?_) rfl rfl (by kernel_rfl) (Or.inl ⟨by kernel_rfl,?_⟩) ?_ ?_;rotate_left;(intro w';go_simp;with_reducible rfl);rotate_left;(simp only [Act.put,List.setIfInBounds_toArray,List.set_cons_zero,List.set_cons_succ,i64_w,i32_w];rfl))
                refine hdS_ (v:=?_) (a':=?_) rfl rfl (by kernel_rfl) (Or.inl ⟨by kernel_rfl,?_⟩) hHeld ?_ ?_
                rotate_left
                · rintro w' hS'
                  obtain ⟨s0,s1,s2⟩:=hS'
                  go_simp
                  (try with_reducible rfl)
                rotate_left
                · simp only [Act.put,List.setIfInBounds_toArray,List.set_cons_zero,List.set_cons_succ,i64_w,i32_w]
                  rfl
                refine oneO_ (N:=some 22) rfl rfl (by kernel_rfl) (by decide) (fun K hK => ?_)
                refine goes_ Tryz.func37 (by kernel_rfl) rfl #[.string x.f0] (by rfl) rfl rfl (by (try simp only [List.map_toArray,List.map_cons,List.map_nil]);first | done | rfl) ?_
                refine (uv.calls k x.f0 true _ HN.out).mono ?_
                rintro e W2 ⟨rfl,hb2⟩
                refine ⟨_,rfl,?_⟩
                have hB2:=hb2.below
                have HG2:=Aside0.mk (u2d HG1.out hB2)
                have HB3:=Aside0.mk (ui HB2.out HB2.out.size hB2)
                clear hb2 hB2
                refine hK.out (Act.put _ (some 22) (.bool true)) _ ⟨(uj HG2.out 0).trans rfl,(uj HG2.out 1).trans rfl,HP.out _ (HB3.out)⟩ (fun hNext => ?_)
                simp only [Act.put,List.setIfInBounds_toArray,List.set_cons_zero,List.set_cons_succ,i64_w,i32_w]
                clear hK hHeld K
                have hHeld:=hNext
                clear hNext
                iterate 3 (refine hd_ (v:=?_) (a':=?_) rfl rfl (by kernel_rfl) (Or.inl ⟨by kernel_rfl,?_⟩) ?_ ?_;rotate_left;(intro w';go_simp;with_reducible rfl);rotate_left;(simp only [Act.put,List.setIfInBounds_toArray,List.set_cons_zero,List.set_cons_succ,i64_w,i32_w];rfl))
                refine hdS_ (v:=?_) (a':=?_) rfl rfl (by kernel_rfl) (Or.inl ⟨by kernel_rfl,?_⟩) hHeld ?_ ?_
                rotate_left
                · rintro w' hS'
                  obtain ⟨s0,s1,s2⟩:=hS'
                  go_simp
                  (try with_reducible rfl)
                rotate_left
                · simp only [Act.put,List.setIfInBounds_toArray,List.set_cons_zero,List.set_cons_succ,i64_w,i32_w]
                  rfl
                refine oneO_ (N:=some 27) rfl rfl (by kernel_rfl) (by decide) (fun K hK => ?_)
                refine goes_ Tryz.func70 (by kernel_rfl) rfl #[.string x.f1] (by rfl) rfl rfl (by (try simp only [List.map_toArray,List.map_cons,List.map_nil]);first | done | rfl) ?_
                refine (u2w.calls x.f1 true _ HV.out).mono ?_
                rintro e W3 ⟨rfl,hb3⟩
                refine ⟨_,rfl,?_⟩
                have HG3:=Aside0.mk (u2d HG2.out hb3)
                have HB4:=Aside0.mk (ui HB3.out HB3.out.size hb3)
                clear hb3
                refine hK.out (Act.put _ (some 27) (.bool true)) _ ⟨(uj HG3.out 0).trans rfl,(uj HG3.out 1).trans rfl,HP.out _ (HB4.out)⟩ (fun hNext => ?_)
                simp only [Act.put,List.setIfInBounds_toArray,List.set_cons_zero,List.set_cons_succ,i64_w,i32_w]
                clear hK hHeld K
                have hHeld:=hNext
                clear hNext
                iterate 11 (refine hd_ (v:=?_) (a':=?_) rfl rfl (by kernel_rfl) (Or.inl ⟨by kernel_rfl,?_⟩) ?_ ?_;rotate_left;(intro w';go_simp;with_reducible rfl);rotate_left;(simp only [Act.put,List.setIfInBounds_toArray,List.set_cons_zero,List.set_cons_succ,i64_w,i32_w];rfl))
                refine hdS_ (v:=?_) (a':=?_) rfl rfl (by kernel_rfl) (Or.inl ⟨by kernel_rfl,?_⟩) hHeld ?_ ?_
                rotate_left
                · rintro w' hS'
                  obtain ⟨s0,s1,s2⟩:=hS'
                  go_simp
                  (try with_reducible rfl)
                rotate_left
                · simp only [Act.put,List.setIfInBounds_toArray,List.set_cons_zero,List.set_cons_succ,i64_w,i32_w]
                  rfl
                (refine hd_ (v:=?_) (a':=?_) rfl rfl (by kernel_rfl) (Or.inl ⟨by kernel_rfl,?_⟩) ?_ ?_;rotate_left;(intro w';go_simp;with_reducible rfl);rotate_left;(simp only [Act.put,List.setIfInBounds_toArray,List.set_cons_zero,List.set_cons_succ,i64_w,i32_w];rfl))
                refine hdS_ (v:=?_) (a':=?_) rfl rfl (by kernel_rfl) (Or.inl ⟨by kernel_rfl,?_⟩) hHeld ?_ ?_
                rotate_left
                · rintro w' hS'
                  obtain ⟨s0,s1,s2⟩:=hS'
                  go_simp
                  (try with_reducible rfl)
                rotate_left
                · simp only [Act.put,List.setIfInBounds_toArray,List.set_cons_zero,List.set_cons_succ,i64_w,i32_w]
                  rfl
                iterate 3 (refine hd_ (v:=?_) (a':=?_) rfl rfl (by kernel_rfl) (Or.inl ⟨by kernel_rfl,?_⟩) ?_ ?_;rotate_left;(intro w';go_simp;with_reducible rfl);rotate_left;(simp only [Act.put,List.setIfInBounds_toArray,List.set_cons_zero,List.set_cons_succ,i64_w,i32_w];rfl))
                refine doneO_ (by kernel_rfl) ?_
                try go_wp2
                go_ret
                exact ⟨by rw [HFL.out (by rw [HS.out,hls];simp)];rfl,HB4.out⟩
              | true =>
                go_wp2
                rw [hW1.out]
                clear q0 q1
                refine startO_ (n:=25) (S:=fun w' => w'.cell? ⟨wr.heap.size,0,none⟩ = some (.string x.f0) ∧ w'.cell? ⟨wr.heap.size,1,none⟩ = some (.string x.f1) ∧ w'.cell? (ad.add (j * 2)) = some (.string p.f0)) (ds:=[]) [(0,20),(1,21),(2,0),(3,23),(4,24),(5,25),(6,26),(7,0),(8,28),(9,29),(10,30),(11,31),(12,32),(13,33),(14,34),(15,35),(16,36),(17,37),(18,38),(19,39),(20,40),(21,41),(22,42),(23,43),(24,44)] (by kernel_rfl) rfl ⟨(uj HG1.out 0).trans rfl,(uj HG1.out 1).trans rfl,HP.out _ (HB2.out)⟩ (fun hHeld => ?_)
                (refine hd_ (v:=?_) (a':=?_) rfl rfl (by kernel_rfl) (Or.inl ⟨by kernel_rfl,?_⟩) ?_ ?_;rotate_left;(intro w';go_simp;with_reducible rfl);rotate_left;(simp only [Act.put,List.setIfInBounds_toArray,List.set_cons_zero,List.set_cons_succ,i64_w,i32_w];rfl))
                refine hdS_ (v:=?_) (a':=?_) rfl rfl (by kernel_rfl) (Or.inl ⟨by kernel_rfl,?_⟩) hHeld ?_ ?_
                rotate_left
                · rintro w' hS'
                  obtain ⟨s0,s1,s2⟩:=hS'
                  go_simp
                  (try with_reducible rfl)
                rotate_left
                · simp only [Act.put,List.setIfInBounds_toArray,List.set_cons_zero,List.set_cons_succ,i64_w,i32_w]
                  rfl
                refine oneO_ (N:=some 22) rfl rfl (by kernel_rfl) (by decide) (fun K hK => ?_)
                refine goes_ Tryz.func37 (by kernel_rfl) rfl #[.string x.f0] (by rfl) rfl rfl (by (try simp only [List.map_toArray,List.map_cons,List.map_nil]);first | done | rfl) ?_
                refine (uv.calls k x.f0 true _ HN.out).mono ?_
                rintro e W2 ⟨rfl,hb2⟩
                refine ⟨_,rfl,?_⟩
                have hB2:=hb2.below
                have HG2:=Aside0.mk (u2d HG1.out hB2)
                have HB3:=Aside0.mk (ui HB2.out HB2.out.size hB2)
                clear hb2 hB2
                refine hK.out (Act.put _ (some 22) (.bool true)) _ ⟨(uj HG2.out 0).trans rfl,(uj HG2.out 1).trans rfl,HP.out _ (HB3.out)⟩ (fun hNext => ?_)
                simp only [Act.put,List.setIfInBounds_toArray,List.set_cons_zero,List.set_cons_succ,i64_w,i32_w]
                clear hK hHeld K
                have hHeld:=hNext
                clear hNext
                iterate 3 (refine hd_ (v:=?_) (a':=?_) rfl rfl (by kernel_rfl) (Or.inl ⟨by kernel_rfl,?_⟩) ?_ ?_;rotate_left;(intro w';go_simp;with_reducible rfl);rotate_left;(simp only [Act.put,List.setIfInBounds_toArray,List.set_cons_zero,List.set_cons_succ,i64_w,i32_w];rfl))
                refine hdS_ (v:=?_) (a':=?_) rfl rfl (by kernel_rfl) (Or.inl ⟨by kernel_rfl,?_⟩) hHeld ?_ ?_
                rotate_left
                · rintro w' hS'
                  obtain ⟨s0,s1,s2⟩:=hS'
                  go_simp
                  (try with_reducible rfl)
                rotate_left
                · simp only [Act.put,List.setIfInBounds_toArray,List.set_cons_zero,List.set_cons_succ,i64_w,i32_w]
                  rfl
                refine oneO_ (N:=some 27) rfl rfl (by kernel_rfl) (by decide) (fun K hK => ?_)
                refine goes_ Tryz.func70 (by kernel_rfl) rfl #[.string x.f1] (by rfl) rfl rfl (by (try simp only [List.map_toArray,List.map_cons,List.map_nil]);first | done | rfl) ?_
                refine (u2w.calls x.f1 true _ HV.out).mono ?_
                rintro e W3 ⟨rfl,hb3⟩
                refine ⟨_,rfl,?_⟩
                have HG3:=Aside0.mk (u2d HG2.out hb3)
                have HB4:=Aside0.mk (ui HB3.out HB3.out.size hb3)
                clear hb3
                refine hK.out (Act.put _ (some 27) (.bool true)) _ ⟨(uj HG3.out 0).trans rfl,(uj HG3.out 1).trans rfl,HP.out _ (HB4.out)⟩ (fun hNext => ?_)
                simp only [Act.put,List.setIfInBounds_toArray,List.set_cons_zero,List.set_cons_succ,i64_w,i32_w]
                clear hK hHeld K
                have hHeld:=hNext
                clear hNext
                iterate 11 (refine hd_ (v:=?_) (a':=?_) rfl rfl (by kernel_rfl) (Or.inl ⟨by kernel_rfl,?_⟩) ?_ ?_;rotate_left;(intro w';go_simp;with_reducible rfl);rotate_left;(simp only [Act.put,List.setIfInBounds_toArray,List.set_cons_zero,List.set_cons_succ,i64_w,i32_w];rfl))
                refine hdS_ (v:=?_) (a':=?_) rfl rfl (by kernel_rfl) (Or.inl ⟨by kernel_rfl,?_⟩) hHeld ?_ ?_
                rotate_left
                · rintro w' hS'
                  obtain ⟨s0,s1,s2⟩:=hS'
                  go_simp
                  (try with_reducible rfl)
                rotate_left
                · simp only [Act.put,List.setIfInBounds_toArray,List.set_cons_zero,List.set_cons_succ,i64_w,i32_w]
                  rfl
                (refine hd_ (v:=?_) (a':=?_) rfl rfl (by kernel_rfl) (Or.inl ⟨by kernel_rfl,?_⟩) ?_ ?_;rotate_left;(intro w';go_simp;with_reducible rfl);rotate_left;(simp only [Act.put,List.setIfInBounds_toArray,List.set_cons_zero,List.set_cons_succ,i64_w,i32_w];rfl))
                refine hdS_ (v:=?_) (a':=?_) rfl rfl (by kernel_rfl) (Or.inl ⟨by kernel_rfl,?_⟩) hHeld ?_ ?_
                rotate_left
                · rintro w' hS'
                  obtain ⟨s0,s1,s2⟩:=hS'
                  go_simp
                  (try with_reducible rfl)
                rotate_left
                · simp only [Act.put,List.setIfInBounds_toArray,List.set_cons_zero,List.set_cons_succ,i64_w,i32_w]
                  rfl
                iterate 3 (refine hd_ (v:=?_) (a':=?_) rfl rfl (by kernel_rfl) (Or.inl ⟨by kernel_rfl,?_⟩) ?_ ?_;rotate_left;(intro w';go_simp;with_reducible rfl);rotate_left;(simp only [Act.put,List.setIfInBounds_toArray,List.set_cons_zero,List.set_cons_succ,i64_w,i32_w];rfl))
                refine doneO_ (by kernel_rfl) ?_
                try go_wp2
                go_roundg g1
                case rel =>
                 refine ⟨j + 1 + 1,hlt,by go_num,⟨fun m hm => ?_⟩,by omega,HB4⟩
                 rcases Nat.lt_or_ge m (j + 1) with h9 | h9
                 · exact HJ.out m h9
                 · have h8:m = j + 1:=by omega
                   rw [h8,HS.out,hls]
                   simp
                case measure => omega
      · have hie:i = l0.length:=by omega
        have HT:Aside0 ((List.range l0.length).all (ur.stepB k l0) = true):=⟨List.all_eq_true.2 (fun m hm => HJ.out m (by rw [hie];exact List.mem_range.1 hm))⟩
        go_wp2
        go_ret
        exact ⟨by rw [HT.out];rfl,HB.out⟩
end Go.Proofs.YtmcpeifhapekoaaGreatDoor.PAll
namespace Go.Proofs.YtmcpeifhapekoaaGreatDoor.Laws
open Go.RowKit Go.Proofs.YtmcpeifhapekoaaGreatDoor.PAll Go.Proofs.YtmcpeifhapekoaaGreatDoorW.PrintWords Go.Proofs.YtmcpeifhapekoaaGreatDoorW.PrintLast
set_option linter.unusedVariables false
set_option linter.unusedSimpArgs false
theorem wrap_up (i:Nat) (h:i < 9223372036854775807):wrap64 ((i:Int) + 1) = ((i + 1:Nat):Int):=by
 unfold wrap64
 omega
theorem at_byte (s:ByteArray) (i:Nat) (c:UInt8) (r:List UInt8) (h:s.data.toList.drop i = c :: r):i < s.size ∧ bt s (i:Int) = (c.toNat:Int) ∧ s.data.toList.drop (i + 1) = r:=by
 have hlt:i < s.data.toList.length:=by
  rcases Nat.lt_or_ge i s.data.toList.length with h1 | h1
  · exact h1
  · rw [List.drop_eq_nil_of_le h1] at h
    cases h
 have hs:s.size = s.data.toList.length:=Base.size_list s
 rw [List.drop_eq_getElem_cons hlt] at h
 obtain ⟨h1,h2⟩:=List.cons.inj h
 refine ⟨by omega,?_,h2⟩
 rw [Base.bt_list s i (by omega),List.getD_eq_getElem?_getD,List.getElem?_eq_getElem hlt,h1]
 rfl
theorem no_byte (s:ByteArray) (i:Nat) (h:s.data.toList.drop i = []):s.size ≤ i:=by
 have hs:s.size = s.data.toList.length:=Base.size_list s
 have:=List.drop_eq_nil_iff.1 h
 omega
def letterI (c:Int):Bool:=(decide (97 ≤ c) && decide (c ≤ 122)) || (decide (65 ≤ c) && decide (c ≤ 90)) || decide (c = 95)
theorem letter_fin:∀ n:Fin 256,Base.letterB (n.val:Int) = letterI (n.val:Int):=by decide +kernel
theorem letter_is (c:UInt8):Base.letterB (c.toNat:Int) = letterI (c.toNat:Int):=letter_fin ⟨c.toNat,c.toNat_lt⟩
theorem name_step (k:Nat) (s:ByteArray) (i:Nat) (hi:i < s.size) (hs:s.size ≤ 9223372036854775807) :
 uv.l0 (k + 1) s (i:Int) = if letterI (bt s i) = true then uv.l0 k s ((i + 1:Nat):Int) else if i = 0 then some false else
  if Base.digitB (bt s i) = true then uv.l0 k s ((i + 1:Nat):Int) else some false:=by
 have hw:=wrap_up i (by omega)
 simp only [uv.l0]
 rw [if_pos (by omega),if_pos (by omega),hw]
 generalize bt s (i:Int) = c
 have e0:((i:Int) = 0) = (i = 0):=by simp
 simp only [e0]
 unfold letterI Base.digitB
 by_cases h1:97 ≤ c <;> by_cases h2:c ≤ 122 <;> by_cases h3:65 ≤ c <;> by_cases h4:c ≤ 90 <;> by_cases h5:c = 95 <;> first | (exfalso;omega) | skip
 all_goals by_cases h6:48 ≤ c <;> by_cases h7:c ≤ 57 <;> first | (exfalso;omega) | skip
 all_goals simp [h1,h2,h3,h4,h5,h6,h7]
 all_goals rw [if_neg (show ¬ c < 48 by omega),if_neg (show ¬ 57 < c by omega)]
theorem name_l0 (s:ByteArray) (hs:s.size ≤ 9223372036854775807):∀ (r:List UInt8) (i:Nat),1 ≤ i → s.data.toList.drop i = r →
 Ev (fun k => uv.l0 k s (i:Int)) (r.all (fun c => Base.letterB (c.toNat:Int) || Base.digitB (c.toNat:Int)) && (decide (1 ≤ s.size) && decide (s.size ≤ 24))):=by
 intro r
 induction r with
 | nil =>
   intro i hi h
   have h1:=no_byte s i h
   refine Ev.step (f:=fun _ => some (decide (1 ≤ s.size) && decide (s.size ≤ 24))) (fun k => ?_) (by simpa using Ev.now _)
   simp only [uv.l0]
   rw [if_neg (by omega)]
   by_cases h2:1 ≤ s.size
   · rw [if_pos (by omega)]
     simp [h2]
     omega
   · rw [if_neg (by omega)]
     simp [h2]
 | cons c r ih =>
   intro i hi h
   obtain ⟨hlt,hbt,hr⟩:=at_byte s i c r h
   have ih2:=ih (i + 1) (by omega) hr
   cases hl:Base.letterB (c.toNat:Int) with
   | true =>
     have e:(c :: r).all (fun c => Base.letterB (c.toNat:Int) || Base.digitB (c.toNat:Int)) = r.all (fun c => Base.letterB (c.toNat:Int) || Base.digitB (c.toNat:Int)):=by rw [List.all_cons,hl];rfl
     rw [e]
     refine Ev.step (fun k => ?_) ih2
     rw [name_step k s i hlt hs,hbt,← letter_is,if_pos hl]
   | false =>
     cases hd:Base.digitB (c.toNat:Int) with
     | true =>
       have e:(c :: r).all (fun c => Base.letterB (c.toNat:Int) || Base.digitB (c.toNat:Int)) = r.all (fun c => Base.letterB (c.toNat:Int) || Base.digitB (c.toNat:Int)):=by rw [List.all_cons,hl,hd];rfl
       rw [e]
       refine Ev.step (fun k => ?_) ih2
       rw [name_step k s i hlt hs,hbt,← letter_is,if_neg (by rw [hl];simp),if_neg (by omega),if_pos hd]
     | false =>
       have e:(c :: r).all (fun c => Base.letterB (c.toNat:Int) || Base.digitB (c.toNat:Int)) = false:=by rw [List.all_cons,hl,hd];rfl
       rw [e]
       refine Ev.step (f:=fun _ => some false) (fun k => ?_) (Ev.now _)
       rw [name_step k s i hlt hs,hbt,← letter_is,if_neg (by rw [hl];simp),if_neg (by omega),if_neg (by rw [hd];simp)]
theorem all_bytes (s:ByteArray) (p:Int → Bool):(bytesOf s).all p = s.data.toList.all (fun c => p (c.toNat:Int)):=by
 rw [bytesOf,List.all_map]
 rfl
theorem rname_ev (s:ByteArray) (hs:s.size ≤ 9223372036854775807):Ev (fun k => uv.f k s) (Base.nameB s):=by
 refine Ev.congr (f:=fun k => uv.l0 k s ((0:Nat):Int)) (fun k => rfl) ?_
 have hz:=Base.size_list s
 cases hd:s.data.toList with
 | nil =>
   have h0:s.size = 0:=by rw [hz,hd];rfl
   have e:Base.nameB s = false:=by simp [Base.nameB,h0]
   rw [e]
   refine Ev.step (f:=fun _ => some false) (fun k => ?_) (Ev.now _)
   simp only [uv.l0]
   rw [if_neg (by omega),if_neg (by omega)]
 | cons c r =>
   obtain ⟨hlt,hbt,hr⟩:=at_byte s 0 c r (by rw [hd];rfl)
   have ih:=name_l0 s hs r 1 (Nat.le_refl _) (by rw [hd];rfl)
   have hb:(bytesOf s).headD 0 = (c.toNat:Int):=by rw [bytesOf,hd];rfl
   have e:Base.nameB s = (Base.letterB (c.toNat:Int) && (r.all (fun c => Base.letterB (c.toNat:Int) || Base.digitB (c.toNat:Int)) && (decide (1 ≤ s.size) && decide (s.size ≤ 24)))):=by
    rw [Base.nameB,all_bytes,hb,hd,List.all_cons]
    have h1:decide (0 < s.size) = decide (1 ≤ s.size):=rfl
    rw [h1]
    cases Base.letterB (c.toNat:Int) <;> cases decide (1 ≤ s.size) <;> cases decide (s.size ≤ 24) <;> simp
   rw [e]
   cases hl:Base.letterB (c.toNat:Int) with
   | true =>
     rw [Bool.true_and]
     refine Ev.step (fun k => ?_) ih
     rw [name_step k s 0 hlt hs,hbt,← letter_is,if_pos hl]
   | false =>
     rw [Bool.false_and]
     refine Ev.step (f:=fun _ => some false) (fun k => ?_) (Ev.now _)
     rw [name_step k s 0 hlt hs,hbt,← letter_is,if_neg (by rw [hl];simp),if_pos rfl]
theorem plain_is (r:Int):(!(decide (r < 32) || decide (r = 127) || decide (r = 65533))) = Base.plainB r:=by
 unfold Base.plainB
 by_cases h:r < 32
 · have:¬ 32 ≤ r:=by omega
   simp [h,this]
 · have:32 ≤ r:=by omega
   simp [h,this]
theorem rvalue_is (s:ByteArray):u2w.f s = some (Base.valueB s):=by
 have e:Base.plainTextB s = (Base.runesOf s).all Base.plainB:=by
  unfold Base.plainTextB
  congr 1
  funext r
  exact plain_is r
 simp only [u2w.f,u2v.f,Option.bind_some,e,Base.valueB]
 by_cases h1:1 ≤ s.size
 · rw [if_pos (by omega)]
   by_cases h2:s.size ≤ 40
   · rw [if_pos (by omega)]
     have:0 < s.size:=h1
     simp [h2,this]
   · rw [if_neg (by omega)]
     simp [h2]
 · rw [if_neg (by omega)]
   have:¬ 0 < s.size:=h1
   simp [this]
theorem names_ev:∀ (l:List S66),(∀ y ∈ l,y.f0.size ≤ maxLen ∧ y.f1.size ≤ maxLen) → ∃ K,∀ k,K ≤ k → ∀ x ∈ l,uv.f k x.f0 = some (Base.nameB x.f0)
 | [],_ => ⟨0,fun _ _ x hx => by cases hx⟩
 | x :: r,hs => by
   obtain ⟨K,hK⟩:=names_ev r (fun y hy => hs y (List.mem_cons_of_mem _ hy))
   obtain ⟨M,hM⟩:=rname_ev x.f0 (Nat.le_trans (hs x (List.mem_cons_self ..)).1 (by decide))
   refine ⟨K + M,fun k hk y hy => ?_⟩
   rcases List.mem_cons.1 hy with rfl | h9
   · exact hM k (by omega)
   · exact hK k (by omega) y h9
theorem less_nil {x:ByteArray} (h:Base.nameB x = true):Op.bytesLess [] x.data.toList = true:=by
 have hz:=nameB_size h
 cases hd:x.data.toList with
 | nil => rw [Base.size_list,hd] at hz;simp at hz
 | cons c q => simp [Op.bytesLess]
theorem steps_ok (k:Nat) (l:List S66) (hn:∀ x ∈ l,uv.f k x.f0 = some (Base.nameB x.f0)):∀ (r:List S66) (i:Nat) (last:ByteArray),l.drop i = r → (i = 0 → last = ⟨#[]⟩) → (0 < i → (uq l ((i - 1:Nat):Int)).f0 = last) →
 (List.range' i r.length).all (ur.stepB k l) = okFrom last.data.toList r:=by
 intro r
 induction r with
 | nil => intro i last _ _ _;rfl
 | cons x r ih =>
   intro i last h hfst hlast
   obtain ⟨hx,hi,hr⟩:=rd_drop l i x r h
   have hmem:x ∈ l:=List.mem_of_mem_drop (by rw [h];simp)
   have e2:=ih (i + 1) x.f0 hr (fun h => by omega) (fun _ => by rw [show i + 1 - 1 = i by omega,hx])
   have e3:ur.stepB k l i = (Base.nameB x.f0 && Base.valueB x.f1 && Op.bytesLess last.data.toList x.f0.data.toList):=by
    unfold ur.stepB ur.nm ur.vl
    rw [hx,hn x hmem,rvalue_is]
    simp only [Option.getD_some,ByteArray.toList_eq]
    by_cases h0:i = 0
    · rw [hfst h0,decide_eq_true h0,Bool.true_or]
      cases hm:Base.nameB x.f0 with
      | false => rfl
      | true =>
        have e4:Op.bytesLess (⟨#[]⟩:ByteArray).data.toList x.f0.data.toList = true:=less_nil hm
        rw [e4]
    · rw [decide_eq_false h0,Bool.false_or,show (i:Int) - 1 = ((i - 1:Nat):Int) by omega,hlast (by omega)]
   rw [List.length_cons,List.range'_succ,List.all_cons,e2,e3]
   rfl
theorem rcan_ev (l:List S66) (hs:∀ y ∈ l,y.f0.size ≤ maxLen ∧ y.f1.size ≤ maxLen):Ev (fun k => ur.f k l) (canB l):=by
 obtain ⟨K,hK⟩:=names_ev l hs
 refine ⟨K,fun k hk => ?_⟩
 have h1:ur.okB k l = true:=List.all_eq_true.2 (fun x hx => by rw [hK k hk x hx,rvalue_is];rfl)
 have h2:=steps_ok k l (hK k hk) l 0 ⟨#[]⟩ rfl (fun _ => rfl) (fun h => by omega)
 rw [← List.range_eq_range'] at h2
 show ur.f k l = some (canB l)
 unfold ur.f
 rw [if_pos h1,ur.canB,h2]
 rfl
end Go.Proofs.YtmcpeifhapekoaaGreatDoor.Laws
