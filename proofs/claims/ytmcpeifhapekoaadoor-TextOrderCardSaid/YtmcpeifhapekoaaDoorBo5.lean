/- Texts of this seat, joined in the order in which they build. -/
import Derived.Test.YtmcpeifhapekoaaDoorBo4
import Derived.Test.YtmcpeifhapekoaaDoorBo3
import Derived.Test.YtmcpeifhapekoaaDoorGx65Bo
namespace Go.Proofs.YtmcpeifhapekoaaDoor.Tx
open Go.RowKit Go.Proofs.YtmcpeifhapekoaaDoor.PAll Go.Proofs.YtmcpeifhapekoaaDoorW.PrintWords Go.Proofs.YtmcpeifhapekoaaDoorW.PrintLast
open Go.Proofs.YtmcpeifhapekoaaDoor.Laws (okFrom canB wrap_up at_byte no_byte word_ev)
set_option linter.unusedVariables false
set_option linter.unusedSimpArgs false
theorem app_ofL (a b:B8):Base.ofL a ++ Base.ofL b = Base.ofL (a ++ b):=Base.ext_data (by rw [Base.ofL_data,ByteArray.data_append,Array.toList_append,Base.ofL_data,Base.ofL_data])
theorem digit_fin2:∀ n:Fin 10,(⟨#[48,49,50,51,52,53,54,55,56,57]⟩:ByteArray).extract n.val (n.val + 1) = Base.ofL [UInt8.ofNat (48 + n.val)]:=by decide +kernel
theorem digit_at (n:Nat) (h:n < 10):(⟨#[48,49,50,51,52,53,54,55,56,57]⟩:ByteArray).extract n (n + 1) = Base.ofL [UInt8.ofNat (48 + n)]:=digit_fin2 ⟨n,h⟩
theorem dec_l0:∀ (j n:Nat) (acc:B8),n < 10 ^ (j + 1) → n ≤ 18446744073709551615 → acc.length + j ≤ 1000 → Ev (fun k => u1r.l0 k (n:Int) (Base.ofL acc)) (Base.ofL (decN n ++ acc)):=by
 intro j
 induction j with
 | zero =>
   intro n acc hn h9 ha
   have hn':n < 10:=by simpa using hn
   have hu:IntKind.u64.wrap ((n:Int) + 1) = ((n + 1:Nat):Int):=by rw [u64_id _ (by omega) (by omega)];omega
   have hd:decN n = [UInt8.ofNat (48 + n)]:=by unfold decN;rw [if_pos hn']
   refine Ev.step (f:=fun _ => some (Base.ofL (decN n ++ acc))) (fun k => ?_) (Ev.now _)
   simp only [u1r.l0]
   rw [if_neg (by omega),if_pos (by omega),hu,if_pos (by omega),if_pos (by omega),Int.toNat_natCast,Int.toNat_natCast,digit_at n hn',if_pos (by rw [sz,sz,List.length_singleton];omega),app_ofL,hd]
 | succ j ih =>
   intro n acc hn h9 ha
   by_cases hn':n < 10
   · have hu:IntKind.u64.wrap ((n:Int) + 1) = ((n + 1:Nat):Int):=by rw [u64_id _ (by omega) (by omega)];omega
     have hd:decN n = [UInt8.ofNat (48 + n)]:=by unfold decN;rw [if_pos hn']
     refine Ev.step (f:=fun _ => some (Base.ofL (decN n ++ acc))) (fun k => ?_) (Ev.now _)
     simp only [u1r.l0]
     rw [if_neg (by omega),if_pos (by omega),hu,if_pos (by omega),if_pos (by omega),Int.toNat_natCast,Int.toNat_natCast,digit_at n hn',if_pos (by rw [sz,sz,List.length_singleton];omega),app_ofL,hd]
   · have hm:Int.tmod (n:Int) 10 = ((n % 10:Nat):Int):=rfl
     have hq:IntKind.u64.wrap (Int.tdiv (n:Int) 10) = ((n / 10:Nat):Int):=by
      rw [show Int.tdiv (n:Int) 10 = ((n / 10:Nat):Int) from rfl]
      exact u64_id _ (by omega) (by omega)
     have hlt:n % 10 < 10:=Nat.mod_lt _ (by decide)
     have hu:IntKind.u64.wrap (((n % 10:Nat):Int) + 1) = ((n % 10 + 1:Nat):Int):=by rw [u64_id _ (by omega) (by omega)];omega
     have hd:decN n = decN (n / 10) ++ [UInt8.ofNat (48 + n % 10)]:=by conv => lhs;unfold decN;rw [if_neg hn']
     have h10:n / 10 < 10 ^ (j + 1):=by
      rw [Nat.pow_succ] at hn
      omega
     have h:=ih (n / 10) ([UInt8.ofNat (48 + n % 10)] ++ acc) h10 (by omega) (by simp;omega)
     rw [← List.append_assoc,← hd] at h
     refine Ev.step (fun k => ?_) h
     simp only [u1r.l0]
     rw [if_pos (by omega),hm,hu,hq,if_pos (by omega),if_pos (by omega),if_pos (by omega),Int.toNat_natCast,Int.toNat_natCast,digit_at _ hlt,if_pos (by rw [sz,sz,List.length_singleton];omega),app_ofL]
theorem unsigned_ev (n:Nat) (h:n ≤ 18446744073709551615):Ev (fun k => u2g.f k (n:Int)) (Base.ofL (decN n)):=by
 have h1:=dec_l0 20 n [] (by omega) h (by simp)
 rw [List.append_nil] at h1
 exact Ev.bind (g:=fun k => u1r.f k (n:Int)) h1 (Ev.now _)
def joinQ:List Lb → B8
 | [] => []
 | x :: m => pieceQ x ++ m.flatMap (fun x => 44 :: pieceQ x)
theorem braces_join (x:Lb) (m:List Lb):bracesL (x :: m) = 123 :: joinQ (x :: m) ++ [125]:=rfl
theorem joinQ_snoc (a:List Lb) (x:Lb):joinQ (a ++ [x]) = if a = [] then pieceQ x else joinQ a ++ 44 :: pieceQ x:=by
 cases a with
 | nil => simp [joinQ]
 | cons y m =>
   rw [if_neg (by simp)]
   simp [joinQ,List.flatMap_append,List.append_assoc]
theorem joinQ_take (l:List Lb) (i:Nat) (hi:i < l.length):joinQ (l.take (i + 1)) = if i = 0 then pieceQ l[i] else joinQ (l.take i) ++ 44 :: pieceQ l[i]:=by
 rw [List.take_succ_eq_append_getElem hi,joinQ_snoc]
 by_cases h:i = 0
 · rw [if_pos h,if_pos (by rw [h];rfl)]
 · rw [if_neg h,if_neg]
   intro e
   have:=congrArg List.length e
   rw [List.length_take,List.length_nil] at this
   omega
theorem joinQ_len (l:List Lb) (h:∀ x ∈ l,Base.nameB x.f0 = true ∧ Base.valueB x.f1 = true):(joinQ l).length ≤ 108 * l.length:=by
 cases l with
 | nil => simp [joinQ]
 | cons x m =>
   have:=braces_len (x :: m) h
   rw [braces_join] at this
   simp at this ⊢
   omega
theorem take_all {l:List Lb} (h:∀ x ∈ l,Base.nameB x.f0 = true ∧ Base.valueB x.f1 = true) (i:Nat):∀ x ∈ l.take i,Base.nameB x.f0 = true ∧ Base.valueB x.f1 = true:=fun x hx => h x (List.mem_of_mem_take hx)
def turned (l:List Lb) (K:Nat):List Lb:=l.drop K ++ l.take K
theorem turned_perm (l:List Lb) (K:Nat):(turned l K).Perm l:=by
 unfold turned
 exact List.perm_append_comm.trans (by rw [List.take_append_drop])
theorem turned_len (l:List Lb) (K:Nat):(turned l K).length = l.length:=(turned_perm l K).length_eq
theorem turned_at (l:List Lb) (K i:Nat) (hK:K < l.length) (hi:i < l.length):uq l (((i + K) % l.length:Nat):Int) = (turned l K)[i]'(by rw [turned_len];exact hi):=by
 have hlt:(i + K) % l.length < l.length:=Nat.mod_lt _ (by omega)
 unfold uq
 rw [Int.toNat_natCast,List.getD_eq_getElem?_getD,List.getElem?_eq_getElem hlt]
 show l[(i + K) % l.length] = _
 unfold turned
 by_cases h:i + K < l.length
 · have e:(i + K) % l.length = K + i:=by rw [Nat.mod_eq_of_lt h];omega
   rw [List.getElem_append_left (by rw [List.length_drop];omega),List.getElem_drop]
   congr 1
 · have e:(i + K) % l.length = i - (l.length - K):=by
    rw [Nat.mod_eq_sub_mod (by omega),Nat.mod_eq_of_lt (by omega)]
    omega
   rw [List.getElem_append_right (by rw [List.length_drop];omega),List.getElem_take]
   simp only [List.length_drop]
   congr 1
theorem rd_at (l:List Lb) (i:Nat) (h:i < l.length):uq l (i:Int) = l[i]:=by
 unfold uq
 rw [Int.toNat_natCast,List.getD_eq_getElem?_getD,List.getElem?_eq_getElem h]
 rfl
theorem piece_of (x:Lb):(x.f0 ++ (⟨#[61]⟩:ByteArray)) ++ Base.quoteS x.f1 = Base.ofL (pieceQ x):=by
 have e1:x.f0 = Base.ofL x.f0.data.toList:=Base.ext_data (Base.ofL_data _).symm
 have e2:Base.quoteS x.f1 = Base.ofL (Base.quoteL x.f1.data.toList):=rfl
 have e3:(⟨#[61]⟩:ByteArray) = Base.ofL [61]:=rfl
 rw [e2,e3]
 conv => lhs;rw [e1]
 rw [app_ofL,app_ofL]
 unfold pieceQ
 simp
theorem qsz (x:Lb) (h0:Base.nameB x.f0 = true) (h1:Base.valueB x.f1 = true):x.f0.size ≤ 24 ∧ (Base.quoteS x.f1).size ≤ 82 ∧ (Base.ofL (pieceQ x)).size ≤ 107:=by
 have a:=name_len h0
 have b:=value_len h1
 have c:=quote_len x.f1.data.toList
 refine ⟨by rw [Base.size_list];omega,?_,by rw [sz];exact piece_len h0 h1⟩
 show (Base.ofL (Base.quoteL x.f1.data.toList)).size ≤ 82
 rw [sz]
 omega
theorem one_sz (c:UInt8):(⟨#[c]⟩:ByteArray).size = 1:=rfl
theorem two_sz (c d:UInt8):(⟨#[c,d]⟩:ByteArray).size = 2:=rfl
theorem line_of (s:B8) (now:Int) (r:Rw) (hs:s.length ≤ 4611686018427387904) (h:readP canB s now = (some r,me0,0)):u1q.f (Base.ofL s) now = some (r.f0,r.f1,r.f2,true,0,0):=by
 rw [line_is _ _ (by rw [sz];exact hs),Base.ofL_data,h]
 rfl
theorem line_txt (L:List Lb) (x:Lb) (m:List Lb) (e:L = x :: m) (d:B8):(((⟨#[123]⟩:ByteArray) ++ Base.ofL (joinQ L)) ++ ((⟨#[125,32]⟩:ByteArray) ++ Base.ofL d)) = Base.ofL (bracesL (x :: m) ++ 32 :: d):=by
 rw [show (⟨#[123]⟩:ByteArray) = Base.ofL [123] from rfl,show (⟨#[125,32]⟩:ByteArray) = Base.ofL [125,32] from rfl,app_ofL,app_ofL,app_ofL,braces_join,e]
 simp
theorem order_last (l L:List Lb) (hc:canB l = true) (hp:L.Perm l) (v:Nat) (hv:v ≤ 18446744073709551615) (K:Int):Ev (fun k => ul.l0 k l (v:Int) K (Base.ofL (joinQ l)) (Base.ofL (joinQ L)) (l.length:Int) (l.length:Int)) true:=by
 obtain ⟨g1,g2,g3⟩:=can_each hc
 have g4:∀ x ∈ L,Base.nameB x.f0 = true ∧ Base.valueB x.f1 = true:=fun x hx => g3 x (hp.mem_iff.1 hx)
 have n1:=joinQ_len l g3
 have n2:=joinQ_len L g4
 have hL:=hp.length_eq
 have hd:=(decN_len 19 v (by omega)).2
 obtain ⟨x,m,e1⟩:∃ x m,l = x :: m:=by
  cases l with
  | nil => simp at g1
  | cons x m => exact ⟨x,m,rfl⟩
 obtain ⟨y,q,e2⟩:∃ y q,L = y :: q:=by
  cases L with
  | nil => rw [← hL] at g1;simp at g1
  | cons x m => exact ⟨x,m,rfl⟩
 have o1:=(order_back l x m hc (by rw [e1]) v hv 5).1
 have o2:=(order_back l y q hc (by rw [← e2];exact hp) v hv 0).2
 have b1:=braces_len (x :: m) (by rw [← e1];exact g3)
 have b2:=braces_len (y :: q) (by rw [← e2];exact g4)
 have n3:(x :: m).length ≤ 8:=by rw [← e1];exact g2
 have n4:(y :: q).length ≤ 8:=by rw [← e2,hL];exact g2
 have l1:=line_of _ _ _ (by rw [List.length_append,List.length_cons];omega) o1
 have l2:=line_of _ _ _ (by rw [List.length_append,List.length_cons,List.length_append,List.length_cons,List.length_cons,List.length_nil];omega) o2
 have t1:=line_txt l x m e1 (decN v)
 have t2:(((⟨#[123]⟩:ByteArray) ++ Base.ofL (joinQ L)) ++ ((⟨#[125,32]⟩:ByteArray) ++ Base.ofL (decN v))) ++ (⟨#[32,53]⟩:ByteArray) = Base.ofL (bracesL (y :: q) ++ 32 :: (decN v ++ [32,53])):=by
  rw [line_txt L y q e2,show (⟨#[32,53]⟩:ByteArray) = Base.ofL [32,53] from rfl,app_ofL]
  simp
 have s1:=same27_ev l 5 (v:Int) (by omega)
 obtain ⟨K1,h1⟩:=unsigned_ev v hv
 obtain ⟨K2,h2⟩:=s1
 simp only at h1 h2
 refine ⟨K1 + K2 + 1,fun k hk => ?_⟩
 obtain ⟨k,rfl⟩:∃ k0,k = k0 + 1:=⟨k - 1,by omega⟩
 simp only [ul.l0]
 rw [if_neg (by omega),h1 k (by omega)]
 simp only [Option.bind_some]
 rw [if_pos (by rw [sz];omega),if_pos (by rw [sz];omega),if_pos (by rw [ByteArray.size_append,ByteArray.size_append,one_sz,two_sz,sz,sz];omega),t1,l1]
 simp only [Option.bind_some]
 rw [if_pos (by rw [sz];omega),if_pos (by rw [ByteArray.size_append,ByteArray.size_append,one_sz,two_sz,sz,sz];omega),if_pos (by rw [ByteArray.size_append,ByteArray.size_append,ByteArray.size_append,one_sz,two_sz,sz,sz];omega),t2,l2]
 simp only [Option.bind_some,if_true]
 rw [if_pos (by decide),h2 k (by omega)]
 rfl
theorem order_l0 (l:List Lb) (hc:canB l = true) (K:Nat) (hK:K < l.length) (v:Nat) (hv:v ≤ 18446744073709551615):∀ (j i:Nat),j + i = l.length → Ev (fun k => ul.l0 k l (v:Int) (K:Int) (Base.ofL (joinQ (l.take i))) (Base.ofL (joinQ ((turned l K).take i))) (l.length:Int) (i:Int)) true:=by
 obtain ⟨g1,g2,g3⟩:=can_each hc
 have g4:∀ x ∈ turned l K,Base.nameB x.f0 = true ∧ Base.valueB x.f1 = true:=fun x hx => g3 x ((turned_perm l K).mem_iff.1 hx)
 have hL:=turned_len l K
 intro j
 induction j with
 | zero =>
   intro i hi
   obtain rfl:i = l.length:=by omega
   rw [List.take_length,show (turned l K).take l.length = turned l K by rw [← hL,List.take_length]]
   exact order_last l _ hc (turned_perm l K) v hv K
 | succ j ih =>
   intro i hi
   have hlt:i < l.length:=by omega
   have hlt2:i < (turned l K).length:=by omega
   have h:=ih (i + 1) (by omega)
   have r1:=rd_at l i hlt
   have hw:wrap64 ((i:Int) + (K:Int)) = ((i + K:Nat):Int):=by
    unfold wrap64
    omega
   have hm:Int.tmod ((i + K:Nat):Int) (l.length:Int) = (((i + K) % l.length:Nat):Int):=rfl
   have r2:=turned_at l K i hK hlt
   have hml:(i + K) % l.length < l.length:=Nat.mod_lt _ (by omega)
   have hw2:=wrap_up i (by omega)
   obtain ⟨x,hx⟩:∃ x,l[i] = x:=⟨_,rfl⟩
   obtain ⟨y,hy⟩:∃ y,(turned l K)[i] = y:=⟨_,rfl⟩
   have p1:=g3 x (by rw [← hx];exact List.getElem_mem hlt)
   have p2:=g4 y (by rw [← hy];exact List.getElem_mem hlt2)
   obtain ⟨z1,z2,z3⟩:=qsz x p1.1 p1.2
   obtain ⟨z4,z5,z6⟩:=qsz y p2.1 p2.2
   have q1:=Laws.rquote_ev x.f1 (by have:=value_len p1.2;rw [Base.size_list];omega)
   have q2:=Laws.rquote_ev y.f1 (by have:=value_len p2.2;rw [Base.size_list];omega)
   rw [joinQ_take l i hlt,joinQ_take (turned l K) i hlt2,hx,hy] at h
   rw [hx] at r1
   rw [hy] at r2
   have n1:=joinQ_len _ (take_all g3 i)
   have n2:=joinQ_len _ (take_all g4 i)
   rw [List.length_take] at n1 n2
   have s1:(Base.ofL (joinQ (l.take i))).size ≤ 1000:=by rw [sz];omega
   have s2:(Base.ofL (joinQ ((turned l K).take i))).size ≤ 1000:=by rw [sz];omega
   obtain ⟨K1,h1⟩:=q1
   obtain ⟨K2,h2⟩:=q2
   simp only at h1 h2
   by_cases h0:i = 0
   · rw [if_pos h0,if_pos h0] at h
     obtain ⟨K3,h3⟩:=h
     refine ⟨K1 + K2 + K3 + 1,fun k hk => ?_⟩
     obtain ⟨k,rfl⟩:∃ k0,k = k0 + 1:=⟨k - 1,by omega⟩
     simp only [ul.l0]
     rw [if_pos (by omega),if_pos (by omega),if_pos (by omega),if_neg (by omega),hw,hm,if_pos (by omega),if_pos (by omega),if_neg (by omega),r1,r2,hw2,if_pos (by omega),h1 k (by omega)]
     simp only [Option.bind_some]
     rw [if_pos (by rw [ByteArray.size_append,one_sz];omega),piece_of,if_pos (by omega),if_pos (by omega),h2 k (by omega)]
     simp only [Option.bind_some]
     rw [if_pos (by rw [ByteArray.size_append,one_sz];omega),piece_of,if_pos (by omega)]
     have e0:∀ a:B8,Base.ofL (joinQ (l.take i)) ++ Base.ofL a = Base.ofL a:=fun a => by rw [app_ofL,h0];rfl
     have e1:∀ a:B8,Base.ofL (joinQ ((turned l K).take i)) ++ Base.ofL a = Base.ofL a:=fun a => by rw [app_ofL,h0];rfl
     rw [e0,e1]
     exact h3 k (by omega)
   · rw [if_neg h0,if_neg h0] at h
     obtain ⟨K3,h3⟩:=h
     refine ⟨K1 + K2 + K3 + 1,fun k hk => ?_⟩
     obtain ⟨k,rfl⟩:∃ k0,k = k0 + 1:=⟨k - 1,by omega⟩
     simp only [ul.l0]
     rw [if_pos (by omega),if_pos (by omega),if_pos (by omega),if_neg (by omega),hw,hm,if_pos (by omega),if_pos (by omega),if_pos (by omega),r1,r2,hw2,if_pos (by omega),if_pos (by omega),if_pos (by omega),h1 k (by omega)]
     simp only [Option.bind_some]
     rw [if_pos (by rw [ByteArray.size_append,one_sz];omega),piece_of,if_pos (by rw [ByteArray.size_append,one_sz];omega),if_pos (by omega),h2 k (by omega)]
     simp only [Option.bind_some]
     rw [if_pos (by rw [ByteArray.size_append,one_sz];omega),piece_of,if_pos (by rw [ByteArray.size_append,one_sz];omega)]
     have e0:∀ a b:B8,(Base.ofL b ++ (⟨#[44]⟩:ByteArray)) ++ Base.ofL a = Base.ofL (b ++ 44 :: a):=fun a b => by rw [show (⟨#[44]⟩:ByteArray) = Base.ofL [44] from rfl,app_ofL,app_ofL];simp
     rw [e0,e0]
     exact h3 k (by omega)
theorem order_ev (l:List Lb) (v turn:Int) (b0:l.length * 32 ≤ 140737488351232 ∧ ∀ y ∈ l,(y.f0.size ≤ 140737488351232 ∧ y.f1.size ≤ 140737488351232)) (b1:(Lit.int .u64 v).wf = true) (b2:(Lit.int .i64 turn).wf = true):Ev (fun k => ul.f k l v turn) true:=by
 have hcan:=Laws.rcan_ev l (fun y hy => by
  have h:=b0.2 y hy
  have hm:(140737488351232:Nat) ≤ maxLen:=by decide
  exact ⟨by omega,by omega⟩)
 have hv:0 ≤ v ∧ v ≤ 18446744073709551615:=by
  simp [Lit.wf,IntKind.min,IntKind.max,IntKind.signed,IntKind.bits] at b1
  omega
 unfold ul.f
 refine Ev.bind hcan ?_
 by_cases hc:canB l = true
 · refine Ev.congr (fun k => if_pos hc) ?_
   obtain ⟨g1,g2,g3⟩:=can_each hc
   have hu:IntKind.u64.wrap ((l.length:Int)) = (l.length:Int):=u64_id _ (by omega) (by omega)
   obtain ⟨n,hn⟩:∃ n:Nat,IntKind.u64.wrap turn = (n:Int):=by
    refine ⟨(IntKind.u64.wrap turn).toNat,?_⟩
    have:0 ≤ IntKind.u64.wrap turn:=by
     unfold IntKind.wrap
     simp only [IntKind.signed,IntKind.bits,Bool.false_and,Bool.false_eq_true,if_false]
     omega
    omega
   have hlt:n % l.length < l.length:=Nat.mod_lt _ (by omega)
   have hK:wrap64 (Int.tmod (n:Int) (l.length:Int)) = ((n % l.length:Nat):Int):=by
    rw [show Int.tmod (n:Int) (l.length:Int) = ((n % l.length:Nat):Int) from rfl]
    unfold wrap64
    omega
   have h:=order_l0 l hc (n % l.length) hlt v.toNat (by omega) l.length 0 (by omega)
   rw [show ((v.toNat:Nat):Int) = v by omega] at h
   refine Ev.congr (fun k => ?_) h
   rw [hu,hn,if_neg (by omega),hK]
   rfl
 · refine Ev.congr (fun k => if_neg hc) ?_
   rw [awake27]
   exact Ev.now true
end Go.Proofs.YtmcpeifhapekoaaDoor.Tx
