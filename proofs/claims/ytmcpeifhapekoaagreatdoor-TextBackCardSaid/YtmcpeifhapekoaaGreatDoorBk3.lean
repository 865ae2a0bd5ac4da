/- Texts of this seat, joined in the order in which they build. -/
import Derived.Test.YtmcpeifhapekoaaGreatDoorBk2
import Derived.Test.YtmcpeifhapekoaaGreatDoorBk1
import Derived.Sort.Walk0
namespace Go.Proofs.YtmcpeifhapekoaaGreatDoor.PAll
open Go.RowKit Go.Proofs.YtmcpeifhapekoaaGreatDoorW.PrintWords Go.Proofs.YtmcpeifhapekoaaGreatDoorW.PrintLast Go.Proofs.YtmcpeifhapekoaaGreatDoorW.PrintMore
attribute [local go_sem] max2_int min2_int max_two min_two max_three min_three max_four min_four
set_option linter.unusedVariables false
set_option linter.unusedSimpArgs false
theorem u2p.calls_ok (w0 W:World) (g:Nat) (s:List UInt8) (hl:s.length ≤ 4611686018427387904) (n:ByteArray) (r:List UInt8) (hn:Tx.nameP s = some (n,r)) (h:ua.St w0 W g s) :
 Calls Tryz.prog 81 #[.pointer (some ⟨g,0,none⟩)] W fun e W' => e = .returned (.string n) ∧ ua.St w0 W' g r ∧ u1v W W' g none:=by
 unfold Tx.nameP at hn
 split at hn
 · rename_i hN
   obtain ⟨rfl,rfl⟩:=Prod.mk.inj (Option.some.inj hn)
   have HS:=Aside0.mk h
   have HN:Aside0 (u1r.f (Base.ofL (s.takeWhile Tx.wordC)) = some true):=⟨congrArg some hN⟩
   clear h hN hn
   go_enter Tryz.func81,Tryz.ntmps81
   go_wp2_with (first
    | (go_at_call 96;(with_reducible refine (u1g.calls_named w0 _ g s hl HS.out).mono ?_);rintro e W1 ⟨rfl,hs1,hk1⟩;have HS1:=Aside0.mk hs1;have HK1:=Aside0.mk hk1;clear hs1 hk1)
    | (go_at_call 29;(with_reducible refine (u1r.calls _ true _ HN.out).mono ?_);rintro e W2 ⟨rfl,hb⟩;have HB:=Aside0.mk hb;clear hb)
    | (go_at_call 83;(with_reducible refine (u2h.calls_ok _).mono ?_);rintro e W3 ⟨rfl,rfl⟩))
   go_ret
   exact ⟨rfl,HS1.out.more HB.out,HK1.out.trans (u1v.of_below HB.out g none) (Or.inl rfl)⟩
 · cases hn
theorem u2p.calls_no (w0 W:World) (g:Nat) (s:List UInt8) (hl:s.length ≤ 4611686018427387904) (hn:Tx.nameP s = none) (h:ua.St w0 W g s) :
 Calls Tryz.prog 81 #[.pointer (some ⟨g,0,none⟩)] W fun e W' => e = .panicked (u2q.chain 280) ∧ Below w0.heap.size w0 W':=by
 unfold Tx.nameP at hn
 split at hn
 · cases hn
 · rename_i hN
   have HS:=Aside0.mk h
   have HN:Aside0 (u1r.f (Base.ofL (s.takeWhile Tx.wordC)) = some false):=⟨congrArg some (show Base.nameB (Base.ofL (s.takeWhile Tx.wordC)) = false by simpa using hN)⟩
   clear h hN hn
   go_enter Tryz.func81,Tryz.ntmps81
   go_wp2_with (first
    | (go_at_call 96;(with_reducible refine (u1g.calls_named w0 _ g s hl HS.out).mono ?_);rintro e W1 ⟨rfl,hs1,hk1⟩;have HS1:=Aside0.mk hs1;clear hs1 hk1)
    | (go_at_call 29;(with_reducible refine (u1r.calls _ false _ HN.out).mono ?_);rintro e W2 ⟨rfl,hb⟩;have HB:=Aside0.mk hb;clear hb)
    | (go_at_call 83;(with_reducible refine (u2h.calls_no _).mono ?_);rintro e W3 ⟨rfl,rfl⟩))
   exact ⟨rfl,rfl,(HS1.out.more HB.out).below⟩
theorem u1o.txt (d:List UInt8):(Base.ofL d).size = d.length ∧ (d ≠ [] → (Base.ofL d).toList.isEmpty = false ∧ ¬ (Base.ofL d).toList = []) ∧ (d = [] → (Base.ofL d).toList.isEmpty = true ∧ (Base.ofL d).toList = []):=by
 refine ⟨(Tx.cut_ofL d 0 (by omega)).2.2,fun h => ?_,fun h => ?_⟩
 · rw [ByteArray.toList_eq,Base.ofL_data]
   cases d with
   | nil => exact absurd rfl h
   | cons c r => exact ⟨rfl,fun e => by cases e⟩
 · rw [ByteArray.toList_eq,Base.ofL_data,h]
   exact ⟨rfl,rfl⟩
set_option maxRecDepth 100000 in
set_option maxHeartbeats 1000000 in
theorem u1o.calls_ok (w0 W:World) (g:Nat) (hxb:Bool) (most:Nat) (s:List UInt8) (hl:s.length ≤ 1000) (hm:most ≤ 1000) (d r:List UInt8) (hd:Tx.digitsP hxb most s = some (d,r)) (h:ua.St w0 W g s) :
 Calls Tryz.prog 126 #[.pointer (some ⟨g,0,none⟩),.int .i64 (most:Int),.bool hxb] W fun e W' => e = .returned (.string (Base.ofL d)) ∧ ua.St w0 W' g r ∧ u1v W W' g none:=by
 have hmf:∀ (fn:Fn) (first cap:Array Value) (w:World),(Instr.makeFunc fn first cap).run Tryz.prog w = .ok (.func fn first cap) w:=fun _ _ _ _ => rfl
 unfold Tx.digitsP at hd
 split at hd
 · rename_i hc
   obtain ⟨rfl,rfl⟩:=Prod.mk.inj (Option.some.inj hd)
   have HS:=Aside0.mk h
   have HG:=Aside0.mk h.lt
   obtain ⟨t1,t2,_⟩:=u1o.txt (s.takeWhile (Tx.digC hxb))
   obtain ⟨t3,t4⟩:=t2 hc.1
   have t5:decide (((s.takeWhile (Tx.digC hxb)).length:Int) ≤ (most:Int)) = true:=decide_eq_true (by have:=hc.2;omega)
   have t6:decide ((s.takeWhile (Tx.digC hxb)).length ≤ most) = true:=decide_eq_true hc.2
   clear h hd t2 hc
   go_enter Tryz.func126,Tryz.ntmps126
   go_wp2_with (first
    | (go_at_call 96;(with_reducible refine (u1g.calls_dig hxb W.heap.size w0 _ g s (by omega) (by exact ua.new_at W _) (by have:=HG.out;omega) (by exact HS.out.one_more _)).mono ?_);rintro e W1 ⟨rfl,hs1,hk1⟩;have HS1:=Aside0.mk hs1;have HK1:=Aside0.mk hk1;clear hs1 hk1)
    | (go_at_call 83;(with_reducible refine (u2h.calls_ok _).mono ?_);rintro e W3 ⟨rfl,rfl⟩))
   go_ret
   exact ⟨rfl,HS1.out,ua.keep_from HK1.out⟩
 · cases hd
set_option maxRecDepth 100000 in
set_option maxHeartbeats 1000000 in
theorem u1o.calls_no (w0 W:World) (g:Nat) (hxb:Bool) (most:Nat) (s:List UInt8) (hl:s.length ≤ 1000) (hm:most ≤ 1000) (hd:Tx.digitsP hxb most s = none) (h:ua.St w0 W g s) :
 Calls Tryz.prog 126 #[.pointer (some ⟨g,0,none⟩),.int .i64 (most:Int),.bool hxb] W fun e W' => e = .panicked (u2q.chain 280) ∧ Below w0.heap.size w0 W':=by
 have hmf:∀ (fn:Fn) (first cap:Array Value) (w:World),(Instr.makeFunc fn first cap).run Tryz.prog w = .ok (.func fn first cap) w:=fun _ _ _ _ => rfl
 unfold Tx.digitsP at hd
 split at hd
 · cases hd
 · rename_i hc
   have HS:=Aside0.mk h
   have HG:=Aside0.mk h.lt
   clear h hd
   by_cases he:s.takeWhile (Tx.digC hxb) = []
   · obtain ⟨t1,_,t2⟩:=u1o.txt (s.takeWhile (Tx.digC hxb))
     obtain ⟨t3,t4⟩:=t2 he
     clear t2 t1 hc he
     go_enter Tryz.func126,Tryz.ntmps126
     go_wp2_with (first
      | (go_at_call 96;(with_reducible refine (u1g.calls_dig hxb W.heap.size w0 _ g s (by omega) (by exact ua.new_at W _) (by have:=HG.out;omega) (by exact HS.out.one_more _)).mono ?_);rintro e W1 ⟨rfl,hs1,hk1⟩;have HS1:=Aside0.mk hs1;clear hs1 hk1)
      | (go_at_call 83;(with_reducible refine (u2h.calls_no _).mono ?_);rintro e W3 ⟨rfl,rfl⟩))
     exact ⟨rfl,rfl,HS1.out.below⟩
   · obtain ⟨t1,t2,_⟩:=u1o.txt (s.takeWhile (Tx.digC hxb))
     obtain ⟨t3,t4⟩:=t2 he
     have hgt:¬ (s.takeWhile (Tx.digC hxb)).length ≤ most:=fun h9 => hc ⟨he,h9⟩
     have t5:decide (((s.takeWhile (Tx.digC hxb)).length:Int) ≤ (most:Int)) = false:=decide_eq_false (by omega)
     have t6:decide ((s.takeWhile (Tx.digC hxb)).length ≤ most) = false:=decide_eq_false hgt
     clear t2 hc he
     go_enter Tryz.func126,Tryz.ntmps126
     go_wp2_with (first
      | (go_at_call 96;(with_reducible refine (u1g.calls_dig hxb W.heap.size w0 _ g s (by omega) (by exact ua.new_at W _) (by have:=HG.out;omega) (by exact HS.out.one_more _)).mono ?_);rintro e W1 ⟨rfl,hs1,hk1⟩;have HS1:=Aside0.mk hs1;clear hs1 hk1)
      | (go_at_call 83;(with_reducible refine (u2h.calls_no _).mono ?_);rintro e W3 ⟨rfl,rfl⟩))
     exact ⟨rfl,rfl,HS1.out.below⟩
theorem u1o.ok_at (most:Nat) (mi:Int) (hmi:(most:Int) = mi) (w0 W:World) (g:Nat) (hxb:Bool) (s:List UInt8) (hl:s.length ≤ 1000) (hm:most ≤ 1000) (d r:List UInt8) (hd:Tx.digitsP hxb most s = some (d,r)) (h:ua.St w0 W g s) :
 Calls Tryz.prog 126 #[.pointer (some ⟨g,0,none⟩),.int .i64 mi,.bool hxb] W fun e W' => e = .returned (.string (Base.ofL d)) ∧ ua.St w0 W' g r ∧ u1v W W' g none:=by
 subst hmi
 exact u1o.calls_ok w0 W g hxb most s hl hm d r hd h
theorem u1o.no_at (most:Nat) (mi:Int) (hmi:(most:Int) = mi) (w0 W:World) (g:Nat) (hxb:Bool) (s:List UInt8) (hl:s.length ≤ 1000) (hm:most ≤ 1000) (hd:Tx.digitsP hxb most s = none) (h:ua.St w0 W g s) :
 Calls Tryz.prog 126 #[.pointer (some ⟨g,0,none⟩),.int .i64 mi,.bool hxb] W fun e W' => e = .panicked (u2q.chain 280) ∧ Below w0.heap.size w0 W':=by
 subst hmi
 exact u1o.calls_no w0 W g hxb most s hl hm hd h
def u3m.f:Option Int:=none
theorem u3m.index_at:∀ (w q:List UInt8) (c:UInt8),c ∉ w → Lib.indexByte (w ++ c :: q) c = (w.length:Int):=by
 intro w
 induction w with
 | nil => intro q c _;simp [Lib.indexByte]
 | cons x r ih =>
   intro q c h
   have h1:¬ x = c:=fun e => h (by simp [e])
   have h2:=ih q c (fun e => h (by simp [e]))
   simp only [List.cons_append,Lib.indexByte,h2,beq_iff_eq,h1,if_false]
   rw [if_neg (by omega)]
   simp
theorem u3m.index_no:∀ (w:List UInt8) (c:UInt8),c ∉ w → Lib.indexByte w c = -1:=by
 intro w
 induction w with
 | nil => intro c _;rfl
 | cons x r ih =>
   intro c h
   have h1:¬ x = c:=fun e => h (by simp [e])
   have h2:=ih c (fun e => h (by simp [e]))
   simp [Lib.indexByte,h2,h1]
theorem u3m.split (l:List UInt8):(∃ q,l = Tx.partL l ++ 10 :: q ∧ Tx.restL l = q ∧ Lib.indexByte l 10 = ((Tx.partL l).length:Int)) ∨ (Tx.partL l = l ∧ Tx.restL l = [] ∧ Lib.indexByte l 10 = -1):=by
 have hno:∀ p:List UInt8,(10:UInt8) ∉ p.takeWhile (· != 10):=fun p hm => by
  have:=List.all_eq_true.1 (List.all_takeWhile (p:=(· != 10)) (l:=p)) _ hm
  simp at this
 have happ:=List.takeWhile_append_dropWhile (p:=(· != 10)) (l:=l)
 cases hd:l.dropWhile (· != 10) with
 | nil =>
   rw [hd,List.append_nil] at happ
   refine Or.inr ⟨happ,by unfold Tx.restL;rw [hd];rfl,u3m.index_no l 10 ?_⟩
   rw [← happ]
   exact hno l
 | cons c q =>
   have hc:c = 10:=by
    have h:=List.head?_dropWhile_not (p:=(· != 10)) (l:=l)
    rw [hd] at h
    simpa using h
   subst hc
   rw [hd] at happ
   refine Or.inl ⟨q,happ.symm,by unfold Tx.restL;rw [hd];rfl,?_⟩
   conv => lhs;rw [← happ]
   exact u3m.index_at _ q 10 (hno l)
theorem u3m.cells {w:World} {A:Option Addr} {xs:List Int} (h:(Kd.int .u8).C w A xs.length xs) (hp:0 < xs.length):∃ a,A = some a ∧ ∀ i,i < xs.length → w.cell? (a.add i) = some (.int .u8 (xs.getD i 0)) :=
 (Kd.reads_of_C (enc:=Value.int .u8) (d:=(0:Int)) (h1:=fun _ => rfl) h).2.2 hp
set_option maxHeartbeats 2000000 in
set_option maxRecDepth 100000 in
theorem u3m.found (a:Addr) (c n d:Nat) (xs:List Int) (g:Nat) (w:World) (hcap:xs.length ≤ c) (hn:xs.length ≤ 4611686018427387904) (hlt:n < xs.length) (hidx:Calls Tryz.prog 43 #[.slice (some a) xs.length c,.slice (some ⟨g,0,none⟩) 1 d] w fun e w' => e = .returned (.int .i64 (n:Int)) ∧ w' = w) :
 Calls Tryz.prog 17 #[.slice (some a) xs.length c,.slice (some ⟨g,0,none⟩) 1 d] w fun e w' => e = .returned (.tuple #[.slice (some a) n c,.slice (if c = n + 1 then some a else (some a).map (·.add (n + 1))) (xs.length - (n + 1)) (c - (n + 1)),.bool true]) ∧ ∃ q,w' = w.drewN q:=by
 have mixed:Tryz.prog.follows .mixedOrders = true:=by kernel_rfl
 have HI:=Aside0.mk hidx
 clear hidx
 have hl:xs.length - n - 1 = xs.length - (n + 1):=by omega
 go_enter Tryz.func17,Tryz.ntmps17
 go_wp2_with (go_at_call 43;(with_reducible refine HI.out.mono ?_);rintro e w' ⟨rfl,rfl⟩)
 go_region_o
 all_goals go_wp2
 all_goals go_ret3
 all_goals exact ⟨by simp [*],_,rfl⟩
set_option maxHeartbeats 2000000 in
set_option maxRecDepth 100000 in
theorem u3m.missed (a:Addr) (c d:Nat) (xs:List Int) (g:Nat) (w:World) (hidx:Calls Tryz.prog 43 #[.slice (some a) xs.length c,.slice (some ⟨g,0,none⟩) 1 d] w fun e w' => e = .returned (.int .i64 (-1)) ∧ w' = w) :
 Calls Tryz.prog 17 #[.slice (some a) xs.length c,.slice (some ⟨g,0,none⟩) 1 d] w fun e w' => e = .returned (.tuple #[.slice (some a) xs.length c,.slice none 0 0,.bool false]) ∧ ∃ q,w' = w.drewN q:=by
 have HI:=Aside0.mk hidx
 clear hidx
 go_enter Tryz.func17,Tryz.ntmps17
 go_wp2_with (go_at_call 43;(with_reducible refine HI.out.mono ?_);rintro e w' ⟨rfl,rfl⟩)
 go_ret3
 exact ⟨rfl,0,rfl⟩
theorem u3m.cut (A:Option Addr) (c d:Nat) (xs:List Int) (g:Nat) (w:World) (hx:(Kd.int .u8).C w A xs.length xs) (hcap:xs.length ≤ c) (hp:0 < xs.length) (hn:xs.length ≤ 4611686018427387904) (hs:w.cell? ⟨g,0,none⟩ = some (.int .u8 10)) :
 Calls Tryz.prog 17 #[.slice A xs.length c,.slice (some ⟨g,0,none⟩) 1 d] w fun e w' => ∃ (A1 A2:Option Addr) (c1 c2:Nat) (p q:List Int) (f:Bool),e = .returned (.tuple #[.slice A1 p.length c1,.slice A2 q.length c2,.bool f]) ∧ (∀ W,(Kd.int .u8).C W A xs.length xs → (Kd.int .u8).C W A1 p.length p ∧ (Kd.int .u8).C W A2 q.length q) ∧ q.length ≤ c2 ∧ p.length ≤ xs.length ∧ q.length < xs.length ∧ Lib.bytesOf p = Tx.partL (Lib.bytesOf xs) ∧ Lib.bytesOf q = Tx.restL (Lib.bytesOf xs) ∧ Below w.heap.size w w':=by
 obtain ⟨a,rfl,hc⟩:=u3m.cells hx hp
 have hi:=Tryz.bytes_Index_one a xs.length c g 0 d xs 10 w rfl hc hs
 rw [show (10:Int).toNat.toUInt8 = 10 from rfl] at hi
 have hlen:(Lib.bytesOf xs).length = xs.length:=Lib.bytesOf_length xs
 rcases u3m.split (Lib.bytesOf xs) with ⟨q,h1,h2,h3⟩ | ⟨h1,h2,h3⟩
 · rw [h3] at hi
   have hl:(Tx.partL (Lib.bytesOf xs)).length + 1 + q.length = xs.length:=by
    have h4:=congrArg List.length h1
    rw [List.length_append,List.length_cons,hlen] at h4
    omega
   refine (u3m.found a c _ d xs g w hcap hn (by omega) hi).mono ?_
   rintro e w' ⟨rfl,m,rfl⟩
   have e1:(xs.take (Tx.partL (Lib.bytesOf xs)).length).length = (Tx.partL (Lib.bytesOf xs)).length:=by rw [List.length_take];omega
   have e2:(xs.drop ((Tx.partL (Lib.bytesOf xs)).length + 1)).length = xs.length - ((Tx.partL (Lib.bytesOf xs)).length + 1):=List.length_drop
   have kk:∀ W,(Kd.int .u8).C W (some a) xs.length xs → (Kd.int .u8).C W (some a) (xs.take (Tx.partL (Lib.bytesOf xs)).length).length (xs.take (Tx.partL (Lib.bytesOf xs)).length) ∧ (Kd.int .u8).C W (if c = (Tx.partL (Lib.bytesOf xs)).length + 1 then some a else (some a).map (·.add ((Tx.partL (Lib.bytesOf xs)).length + 1))) (xs.drop ((Tx.partL (Lib.bytesOf xs)).length + 1)).length (xs.drop ((Tx.partL (Lib.bytesOf xs)).length + 1)):=fun W hW => by
    have k2:=Kd.C_drop hW (m:=(Tx.partL (Lib.bytesOf xs)).length + 1) (c:=c) (by omega) hcap
    rw [show ((Tx.partL (Lib.bytesOf xs)).length + 1) * (Kd.int .u8).sz = (Tx.partL (Lib.bytesOf xs)).length + 1 from Nat.mul_one _] at k2
    exact ⟨Kd.C_take hW (by omega),k2⟩
   refine ⟨_,_,c,c - ((Tx.partL (Lib.bytesOf xs)).length + 1),xs.take (Tx.partL (Lib.bytesOf xs)).length,xs.drop ((Tx.partL (Lib.bytesOf xs)).length + 1),true,by rw [e1,e2],kk,by omega,by omega,by omega,?_,?_,ub (Below.refl _ _) m⟩
   · rw [Lib.bytesOf_take]
     conv => lhs;arg 2;rw [h1]
     rw [List.take_left]
   · have e3:Lib.bytesOf (xs.drop ((Tx.partL (Lib.bytesOf xs)).length + 1)) = (Lib.bytesOf xs).drop ((Tx.partL (Lib.bytesOf xs)).length + 1):=by simp [Lib.bytesOf,List.map_drop]
     rw [e3,h2]
     conv => lhs;arg 2;rw [h1]
     rw [List.drop_append,List.drop_eq_nil_of_le (by omega),List.nil_append,show (Tx.partL (Lib.bytesOf xs)).length + 1 - (Tx.partL (Lib.bytesOf xs)).length = 1 by omega]
     rfl
 · rw [h3] at hi
   refine (u3m.missed a c d xs g w hi).mono ?_
   rintro e w' ⟨rfl,m,rfl⟩
   exact ⟨some a,none,c,0,xs,[],false,rfl,fun W hW => ⟨hW,Kd.C_nil _ _⟩,Nat.le_refl _,Nat.le_refl _,hp,h1.symm,h2.symm,ub (Below.refl _ _) m⟩
def ug.Pr (w0 W:World) (g:Nat) (bs:List Int):Prop:=w0.heap.size ≤ g ∧ ∃ v:Value,W.heap[g]? = some (.cells #[v] 76 (0,0)) ∧ Kd.R (Kd.int .u8) 5 W w0.heap.size (fun _ => True) v bs
def ug.Stay (W W':World):Prop:=∀ (k t:Nat) (cells:Array Value),W.heap[k]? = some (.cells cells t (0,0)) → t ≠ 76 → t ≠ 5 → W'.heap[k]? = W.heap[k]?
theorem ug.Stay.refl (W:World):ug.Stay W W:=fun _ _ _ _ _ _ => rfl
theorem ug.Stay.trans {a b c:World} (h:ug.Stay a b) (h2:ug.Stay b c):ug.Stay a c:=fun k t cells hk h1 h8 => (h2 k t cells ((h k t cells hk h1 h8).trans hk) h1 h8).trans (h k t cells hk h1 h8)
theorem ug.Stay.below {W W':World} (h:Below W.heap.size W W'):ug.Stay W W':=fun k t cells hk _ _ => h.block k (u3a hk)
theorem ug.Stay.set {W:World} {g:Nat} {v:Value} {t:Nat} (hg:W.heap[g]? = some (.cells #[v] t (0,0))) (ht:t = 76 ∨ t = 5) (o:Nat) (x:Value):ug.Stay W (W.setCell ⟨g,o,none⟩ x):=fun k t2 cells hk h1 h8 => by
 refine Below.heap_setCell _ ⟨g,o,none⟩ _ k (fun e => ?_)
 subst e
 rw [hg] at hk
 injection hk with hk
 injection hk with _ hk _
 rcases ht with h | h
 · exact h1 (hk.symm.trans h)
 · exact h8 (hk.symm.trans h)
theorem ug.Stay.grown {W W':World} {v:Value} {xs:List Int} {b:Nat} {ok:Nat → Prop} (hr:Kd.R (Kd.int .u8) 5 W b ok v xs) (h:W.grownBy W' v.ownBlock):ug.Stay W W':=fun k t cells hk h1 h8 => (u3g hk h (Kd.R_ne hr hk (fun e => h8 e.symm))).trans hk.symm
theorem ug.Pr.more {w0 W W':World} {g:Nat} {bs:List Int} (h:ug.Pr w0 W g bs) (hb:Below W.heap.size W W'):ug.Pr w0 W' g bs:=by
 obtain ⟨h0,v,h1,h2⟩:=h
 exact ⟨h0,v,ua.below_at hb h1,Kd.R_below h2 hb⟩
theorem ug.info8:(Tryz.prog.info? 5).map (fun i => (i.zero,i.size,i.bytes)) = some (some (.int .u8 0),1,1):=by kernel_rfl
theorem ug.R_of {W:World} {base:Nat} {v:Value} {xs:List Int} (h:W.ownsRow base 5 1 v xs.length (nums .u8 xs)):Kd.R (Kd.int .u8) 5 W base (fun _ => True) v xs:=Kd.R_of_own (enc:=Value.int .u8) (h1:=fun _ => rfl) h (fun _ _ => trivial)
def ug.parts (l:List ByteArray):List Int:=l.flatMap bytesOf
theorem ug.parts_next (l:List ByteArray) (i:Nat) (h:i < l.length):ug.parts (l.take (i + 1)) = ug.parts (l.take i) ++ bytesOf l[i]:=by
 unfold ug.parts
 rw [List.take_succ_eq_append_getElem h,List.flatMap_append]
 simp
theorem ug.parts_le (l:List ByteArray) (i:Nat):(ug.parts (l.take i)).length ≤ (ug.parts l).length:=by
 have h:ug.parts l = ug.parts (l.take i) ++ ug.parts (l.drop i):=by
  unfold ug.parts
  rw [← List.flatMap_append,List.take_append_drop]
 rw [h,List.length_append]
 omega
theorem ug.put {w0 W:World} {g:Nat} {v v2:Value} {bs:List Int} (h0:w0.heap.size ≤ g) (hg:W.heap[g]? = some (.cells #[v] 76 (0,0))) (hr:Kd.R (Kd.int .u8) 5 W w0.heap.size (fun _ => True) v2 bs):ug.Pr w0 (W.setCell ⟨g,0,none⟩ v2) g bs :=
 ⟨h0,v2,blk_set hg 0 v2,Kd.R_set hr hg (by decide) 0 v2⟩
set_option maxRecDepth 100000 in
set_option maxHeartbeats 4000000 in
theorem ug.calls (w0 W:World) (g b:Nat) (bs:List Int) (l:List ByteArray) (h:ug.Pr w0 W g bs) (hB:Below w0.heap.size w0 W) (hp:W.heap[b]? = some (.cells (l.map Value.string).toArray 9 (0,0))) (hn:l.length ≤ 10) (hl:bs.length + (ug.parts l).length ≤ 100000000) :
 Calls Tryz.prog 62 #[.pointer (some ⟨g,0,none⟩),.slice (some ⟨b,0,none⟩) l.length l.length] W fun e W' => e = .returned (.tuple #[]) ∧ ug.Pr w0 W' g (bs ++ ug.parts l ++ [10]) ∧ Below w0.heap.size w0 W' ∧ ug.Stay W W' ∧ W.heap.size ≤ W'.heap.size:=by
 have HP:=Aside0.mk h
 have HB:=Aside0.mk hB
 have HPA:=Aside0.mk hp
 clear h hB hp
 go_enter Tryz.func62,Tryz.ntmps62
 go_wp2
 go_loopw [8] (fun v8 wr => ∃ i:Nat,v8 = .int .i64 (i:Int) ∧ i ≤ l.length ∧ Aside0 (ug.Pr w0 wr g (bs ++ ug.parts (l.take i))) ∧ Aside0 (Below w0.heap.size w0 wr) ∧ Aside0 (ug.Stay W wr) ∧ Aside0 (W.heap.size ≤ wr.heap.size)) (fun v8 _ => l.length - (intOf v8).toNat)
 case atStart => exact ⟨0,rfl,Nat.zero_le _,⟨by simpa [ug.parts] using HP.out⟩,HB,⟨ug.Stay.refl _⟩,⟨Nat.le_refl _⟩⟩
 case round =>
  obtain ⟨i,rfl,hi,HR,HBR,HS,HZ⟩:=hrel
  obtain ⟨cur,hcur⟩:∃ cur,bs ++ ug.parts (l.take i) = cur:=⟨_,rfl⟩
  rw [hcur] at HR
  have HC:=Aside0.mk hcur
  clear hcur
  have hst:=HS.out b 9 _ HPA.out (by decide) (by decide)
  have HPW:=Aside0.mk (hst.trans HPA.out)
  obtain ⟨h0,v,hg,hr⟩:=HR.out
  have HG:=Aside0.mk hg
  have HV:=Aside0.mk hr
  have z0:=(uj hg 0).trans rfl
  have z1:=uo hg 0
  have H0:=Aside0.mk h0
  obtain ⟨A,c,ev⟩:=Kd.R_slice hr
  subst ev
  clear hst hg hr h0
  by_cases hlt:i < l.length
  · obtain ⟨s,hs⟩:∃ s,l[i] = s:=⟨_,rfl⟩
    have hc:wr.cell? ⟨b,i,none⟩ = some (.string s):=(uj HPW.out i).trans (by simp [hlt,hs])
    have hq:decide ((i:Int) < (l.length:Int)) = true:=decide_eq_true (by omega)
    have hq2:(i:Int) < (l.length:Int):=by omega
    have hle:cur.length + s.size ≤ 100000000:=by
     rw [← HC.out]
     have h1:=ug.parts_next l i hlt
     have h2:=ug.parts_le l (i + 1)
     rw [h1,hs,List.length_append,bytesOf_length] at h2
     rw [List.length_append]
     omega
    have HN:Aside0 (bs ++ ug.parts (l.take (i + 1)) = cur ++ bytesOf s):=⟨by rw [← HC.out,ug.parts_next l i hlt,hs,List.append_assoc]⟩
    clear hs
    go_wp2_with ((with_reducible refine u3n (b:=.append) (xs:=#[.tmp 16,.tmp 17]) rfl ?_);at_builtin;go_loud (refine print_append_str (w0:=w0) w0.heap.size rfl (.tmp 16) (.tmp 17) 22 9 5 rfl Tryz.underlying22 Tryz.underlying9 ug.info8 _ cur s rfl rfl (by exact Kd.own_of_R HV.out) (by exact HBR.out) ?hb ?hl ?_;(case hb => exact HBR.out.size);(case hl => omega);intro v2 W2 hown hb2 hg2;have HV2:=Aside0.mk (ug.R_of hown);have HB2:=Aside0.mk hb2;have HG2:=Aside0.mk (u3g HG.out hg2 (Kd.R_ne HV.out HG.out (by decide)));have HS2:=Aside0.mk (ug.Stay.grown HV.out hg2);have y0:=(uj HG2.out 0).trans rfl;have y1:=uo HG2.out 0;have HZ2:=Aside0.mk hg2.size;clear hown hb2 hg2 z0 z1;obtain ⟨A2,c2,e2⟩:=Kd.R_slice HV2.out;subst e2))
    go_roundw
    case rel => exact ⟨i + 1,by go_num,by omega,⟨by rw [HN.out];exact ug.put H0.out HG2.out (by have h:=HV2.out;rw [List.length_append] at h;exact h)⟩,⟨HB2.out.setCell H0.out _⟩,⟨HS.out.trans (HS2.out.trans (ug.Stay.set HG2.out (Or.inl rfl) 0 _))⟩,⟨by have:=HZ.out;have:=HZ2.out;simp;omega⟩⟩
    case measure => simp [intOf];omega
  · have hq:decide ((i:Int) < (l.length:Int)) = false:=decide_eq_false (by omega)
    have hq2:decide (i < l.length) = false:=decide_eq_false hlt
    have HN:Aside0 (cur = bs ++ ug.parts l):=⟨by rw [← HC.out,List.take_of_length_le (by omega)]⟩
    have hle:cur.length + 1 ≤ 140737488355328:=by
     rw [HN.out,List.length_append]
     omega
    clear hlt
    go_wp2_with ((with_reducible refine u3n (b:=.append) (xs:=#[.tmp 26,.tmp 27]) rfl ?_);at_builtin;go_loud (refine print_append_num (w0:=w0) w0.heap.size rfl (.tmp 26) (.tmp 27) 22 5 .u8 1 rfl Tryz.underlying22 ug.info8 (by decide) _ cur 10 rfl rfl (by exact Kd.own_of_R HV.out) (by exact HBR.out) ?hb ?hl ?_;(case hb => exact HBR.out.size);(case hl => omega);intro v2 W2 hown hb2 hg2 hat2;have HV2:=Aside0.mk (ug.R_of hown);have HB2:=Aside0.mk hb2;have HG2:=Aside0.mk (u3g HG.out hg2 (Kd.R_ne HV.out HG.out (by decide)));have HS2:=Aside0.mk (ug.Stay.grown HV.out hg2);have y0:=(uj HG2.out 0).trans rfl;have y1:=uo HG2.out 0;have HZ2:=Aside0.mk hg2.size;clear hown hb2 hg2 hat2 z0 z1;obtain ⟨A2,c2,e2⟩:=Kd.R_slice HV2.out;subst e2))
    go_end0
    refine ⟨rfl,by rw [← HN.out];exact ug.put H0.out HG2.out (by have h:=HV2.out;rw [List.length_append] at h;exact h),HB2.out.setCell H0.out _,HS.out.trans (HS2.out.trans (ug.Stay.set HG2.out (Or.inl rfl) 0 _)),?_⟩
    have:=HZ.out
    have:=HZ2.out
    simp
    omega
theorem ug.four (w0 W:World) (g z:Nat) (bs:List Int) (a b c d:ByteArray) (hz:z = W.heap.size) (h:ug.Pr w0 W g bs) (hB:Below w0.heap.size w0 W) (hl:bs.length + (ug.parts [a,b,c,d]).length ≤ 100000000) :
 Calls Tryz.prog 62 #[.pointer (some ⟨g,0,none⟩),.slice (some ⟨z,0,none⟩) 4 4] (W.alloc (.cells #[.string a,.string b,.string c,.string d] 9)) fun e W' => e = .returned (.tuple #[]) ∧ ug.Pr w0 W' g (bs ++ ug.parts [a,b,c,d] ++ [10]) ∧ Below w0.heap.size w0 W' ∧ ug.Stay W W' ∧ W.heap.size ≤ W'.heap.size:=by
 subst hz
 have hb:=ud (Below.refl W.heap.size W) (.cells #[.string a,.string b,.string c,.string d] 9)
 refine (ug.calls w0 (W.alloc (.cells #[.string a,.string b,.string c,.string d] 9)) g W.heap.size bs [a,b,c,d] (h.more hb) (ud hB _) (ua.new_at _ _) (by simp) hl).mono fun e W' ⟨h1,h2,h3,h4,h5⟩ => ⟨h1,h2,h3,(ug.Stay.below hb).trans h4,Nat.le_trans hb.size h5⟩
theorem ug.six (w0 W:World) (g z:Nat) (bs:List Int) (a b c d x y:ByteArray) (hz:z = W.heap.size) (h:ug.Pr w0 W g bs) (hB:Below w0.heap.size w0 W) (hl:bs.length + (ug.parts [a,b,c,d,x,y]).length ≤ 100000000) :
 Calls Tryz.prog 62 #[.pointer (some ⟨g,0,none⟩),.slice (some ⟨z,0,none⟩) 6 6] (W.alloc (.cells #[.string a,.string b,.string c,.string d,.string x,.string y] 9)) fun e W' => e = .returned (.tuple #[]) ∧ ug.Pr w0 W' g (bs ++ ug.parts [a,b,c,d,x,y] ++ [10]) ∧ Below w0.heap.size w0 W' ∧ ug.Stay W W' ∧ W.heap.size ≤ W'.heap.size:=by
 subst hz
 have hb:=ud (Below.refl W.heap.size W) (.cells #[.string a,.string b,.string c,.string d,.string x,.string y] 9)
 refine (ug.calls w0 (W.alloc (.cells #[.string a,.string b,.string c,.string d,.string x,.string y] 9)) g W.heap.size bs [a,b,c,d,x,y] (h.more hb) (ud hB _) (ua.new_at _ _) (by simp) hl).mono fun e W' ⟨h1,h2,h3,h4,h5⟩ => ⟨h1,h2,h3,(ug.Stay.below hb).trans h4,Nat.le_trans hb.size h5⟩
def u1e.dig (z:Int):Int:=if 97 ≤ z then z - 87 else z - 48
def u1e.num (base:Int):List Int → Int → Option Int
 | [],n => some n
 | c :: r,n => if n ≤ (18446744073709551615 - u1e.dig c) / base then u1e.num base r (n * base + u1e.dig c) else none
theorem u1e.u64_id (x:Int) (h0:0 ≤ x) (h1:x ≤ 18446744073709551615):IntKind.u64.wrap x = x:=by
 unfold IntKind.wrap
 simp only [IntKind.signed,IntKind.bits,Bool.false_and,Bool.false_eq_true,if_false]
 omega
theorem u1e.quo {base d:Int} (hb:base = 10 ∨ base = 16) (h0:0 ≤ d) (h1:d ≤ 15):IntKind.u64.wrap ((18446744073709551615 - d).tdiv base) = (18446744073709551615 - d) / base:=by
 rw [Int.tdiv_eq_ediv_of_nonneg (by omega)]
 rcases hb with rfl | rfl <;> exact u1e.u64_id _ (by omega) (by omega)
theorem u1e.fits {base d m:Int} (hb:base = 10 ∨ base = 16) (h0:0 ≤ d) (h1:d ≤ 15) (hm:0 ≤ m) (h:m ≤ (18446744073709551615 - d) / base):0 ≤ m * base + d ∧ m * base + d ≤ 18446744073709551615 ∧ IntKind.u64.wrap (m * base) = m * base ∧ IntKind.u64.wrap (m * base + d) = m * base + d:=by
 rcases hb with rfl | rfl <;> exact ⟨by omega,by omega,u1e.u64_id _ (by omega) (by omega),u1e.u64_id _ (by omega) (by omega)⟩
theorem u1e.rd_at (l:List Int) (x:Nat) (h:x < l.length):rd l (x:Int) ∈ l ∧ l.drop x = rd l (x:Int) :: l.drop (x + 1):=by
 have e:rd l (x:Int) = l[x]:=by simp [rd,List.getD_eq_getElem?_getD,h]
 rw [e]
 exact ⟨List.getElem_mem h,List.drop_eq_getElem_cons h⟩
theorem u1e.add_at (b x:Nat):(⟨b,0,none⟩:Addr).add ((x:Int).toNat) = ⟨b,x,none⟩:=by
 rw [show (x:Int).toNat = x from rfl]
 unfold Addr.add
 split
 · rename_i h
   rw [h]
 · simp
set_option maxRecDepth 100000 in
set_option maxHeartbeats 1000000 in
theorem u1e.calls_ok (s:ByteArray) (base:Int) (hb:base = 10 ∨ base = 16) (hs:s.size ≤ 1000) (hd:∀ c ∈ bytesOf s,(48 ≤ c ∧ c ≤ 57) ∨ (97 ≤ c ∧ c ≤ 102)) (n:Int) (hn:u1e.num base (bytesOf s) 0 = some n) (w:World) :
 Calls Tryz.prog 125 #[.string s,.int .u64 base] w fun e w' => e = .returned (.int .u64 n) ∧ Below w.heap.size w w':=by
 have kb:=fun W => print_bytes (P:=Tryz.prog) 9 22 5 Tryz.underlying9 Tryz.underlying22 Tryz.underlying5 s W
 have HD:=Aside0.mk hd
 have HN:=Aside0.mk hn
 have HBs:=Aside0.mk hb
 have hlen:=bytesOf_length s
 have HR:=Aside0.mk (bytes_reads w 5 s (by omega))
 have h0b:(base == 0) = false:=beq_eq_false_iff_ne.2 (by omega)
 have h0c:¬ base = 0:=by omega
 clear hd hn hb
 go_enter Tryz.func125,Tryz.ntmps125
 go_wp2
 go_loopg [5,12] (s.size) (fun kq v5 v12 wr => ∃ (x:Nat) (m:Int),x ≤ s.size ∧ v12 = .int .i64 x ∧ v5 = .int .u64 m ∧ Aside0 (u1e.num base ((bytesOf s).drop x) m = some n) ∧ Aside0 (0 ≤ m ∧ m ≤ 18446744073709551615) ∧ s.size ≤ kq + x ∧ u1b (Lib.bytesWorld w 5 s) wr)
 case atStart => exact ⟨0,0,by omega,rfl,rfl,⟨by simpa using HN.out⟩,⟨by omega⟩,by omega,u1b.refl _⟩
 case round =>
  clear HN
  obtain ⟨x,m,hx,rfl,rfl,HN,HM,hk,⟨m1,rfl⟩⟩:=hrel
  by_cases hlt:x < s.size
  · obtain ⟨ad,e,hc⟩:=Kd.at_int (Kd.C_of_reads (d:=(0:Int)) (h1:=fun _ => rfl) HR.out) (x:Int) (by omega) (by omega)
    obtain rfl:ad = ⟨w.heap.size,0,none⟩:=by injection e with e;exact e.symm
    clear e
    obtain ⟨hmem,hdrop⟩:=u1e.rd_at (bytesOf s) x (by omega)
    obtain ⟨z,HZ⟩:∃ z:Int,Aside0 (rd (bytesOf s) (x:Int) = z):=⟨_,⟨rfl⟩⟩
    rw [HZ.out] at hc hdrop hmem
    rw [u1e.add_at] at hc
    have hz:=HD.out z hmem
    rw [hdrop] at HN
    clear hdrop hmem
    by_cases h97:97 ≤ z
    · have h102:z ≤ 102:=by omega
      have h48:48 ≤ z:=by omega
      have hdz:u1e.dig z = (z - 97 + 10):=by unfold u1e.dig;rw [if_pos h97];omega
      have hq:=u1e.quo (d:=(z - 97 + 10)) HBs.out (by omega) (by omega)
      unfold u1e.num at HN
      rw [hdz] at HN
      have HQ:=Aside0.mk hq
      clear hz hdz hq
      by_cases hle:m ≤ (18446744073709551615 - (z - 97 + 10)) / base
      · have HF:=Aside0.mk (u1e.fits (d:=(z - 97 + 10)) HBs.out (by omega) (by omega) HM.out.1 hle)
        have HT:Aside0 (decide (m ≤ IntKind.u64.wrap ((18446744073709551615 - (z - 97 + 10)).tdiv base)) = true):=⟨by rw [HQ.out];exact decide_eq_true hle⟩
        rw [if_pos hle] at HN
        clear hle
        go_wp2_with (go_at_call 83;(with_reducible refine (u2h.calls_yes _ HT.out _).mono ?_);rintro e W3 ⟨rfl,rfl⟩)
        obtain ⟨g1,rfl⟩:∃ g1,gk = g1 + 1:=⟨gk - 1,by omega⟩
        go_roundg g1
        case rel =>
         obtain ⟨f1,f2,f3,f4⟩:=HF.out
         exact ⟨x + 1,m * base + (z - 97 + 10),by omega,by go_num,by first | (rw [f3,f4];done) | (rw [f4];done) | (simp only [f3,f4];done),HN,⟨⟨f1,f2⟩⟩,by omega,⟨_,rfl⟩⟩
        case measure => omega
      · have HT:Aside0 (decide (m ≤ IntKind.u64.wrap ((18446744073709551615 - (z - 97 + 10)).tdiv base)) = false):=⟨by rw [HQ.out];exact decide_eq_false hle⟩
        rw [if_neg hle] at HN
        clear hle
        cases HN.out
    · have h102:z ≤ 57:=by omega
      have h48:48 ≤ z:=by omega
      have hdz:u1e.dig z = (z - 48):=by unfold u1e.dig;rw [if_neg h97]
      have hq:=u1e.quo (d:=(z - 48)) HBs.out (by omega) (by omega)
      unfold u1e.num at HN
      rw [hdz] at HN
      have HQ:=Aside0.mk hq
      clear hz hdz hq
      by_cases hle:m ≤ (18446744073709551615 - (z - 48)) / base
      · have HF:=Aside0.mk (u1e.fits (d:=(z - 48)) HBs.out (by omega) (by omega) HM.out.1 hle)
        have HT:Aside0 (decide (m ≤ IntKind.u64.wrap ((18446744073709551615 - (z - 48)).tdiv base)) = true):=⟨by rw [HQ.out];exact decide_eq_true hle⟩
        rw [if_pos hle] at HN
        clear hle
        go_wp2_with (go_at_call 83;(with_reducible refine (u2h.calls_yes _ HT.out _).mono ?_);rintro e W3 ⟨rfl,rfl⟩)
        obtain ⟨g1,rfl⟩:∃ g1,gk = g1 + 1:=⟨gk - 1,by omega⟩
        go_roundg g1
        case rel =>
         obtain ⟨f1,f2,f3,f4⟩:=HF.out
         exact ⟨x + 1,m * base + (z - 48),by omega,by go_num,by first | (rw [f3,f4];done) | (rw [f4];done) | (simp only [f3,f4];done),HN,⟨⟨f1,f2⟩⟩,by omega,⟨_,rfl⟩⟩
        case measure => omega
      · have HT:Aside0 (decide (m ≤ IntKind.u64.wrap ((18446744073709551615 - (z - 48)).tdiv base)) = false):=⟨by rw [HQ.out];exact decide_eq_false hle⟩
        rw [if_neg hle] at HN
        clear hle
        cases HN.out
  · have HE:Aside0 (m = n):=⟨by
     have h1:=HN.out
     rw [List.drop_eq_nil_of_le (by omega)] at h1
     exact Option.some.inj h1⟩
    go_wp2
    go_ret
    exact ⟨by rw [HE.out];rfl,ub (bytes_below (Below.refl _ _) (Nat.le_refl _) _ _) m1⟩
set_option maxRecDepth 100000 in
set_option maxHeartbeats 1000000 in
theorem u1e.calls_no (s:ByteArray) (base:Int) (hb:base = 10 ∨ base = 16) (hs:s.size ≤ 1000) (hd:∀ c ∈ bytesOf s,(48 ≤ c ∧ c ≤ 57) ∨ (97 ≤ c ∧ c ≤ 102)) (hn:u1e.num base (bytesOf s) 0 = none) (w:World) :
 Calls Tryz.prog 125 #[.string s,.int .u64 base] w fun e w' => e = .panicked (u2q.chain 280) ∧ Below w.heap.size w w':=by
 have kb:=fun W => print_bytes (P:=Tryz.prog) 9 22 5 Tryz.underlying9 Tryz.underlying22 Tryz.underlying5 s W
 have HD:=Aside0.mk hd
 have HN:=Aside0.mk hn
 have HBs:=Aside0.mk hb
 have hlen:=bytesOf_length s
 have HR:=Aside0.mk (bytes_reads w 5 s (by omega))
 have h0b:(base == 0) = false:=beq_eq_false_iff_ne.2 (by omega)
 have h0c:¬ base = 0:=by omega
 clear hd hn hb
 go_enter Tryz.func125,Tryz.ntmps125
 go_wp2
 go_loopg [5,12] (s.size) (fun kq v5 v12 wr => ∃ (x:Nat) (m:Int),x ≤ s.size ∧ v12 = .int .i64 x ∧ v5 = .int .u64 m ∧ Aside0 (u1e.num base ((bytesOf s).drop x) m = none) ∧ Aside0 (0 ≤ m ∧ m ≤ 18446744073709551615) ∧ s.size ≤ kq + x ∧ u1b (Lib.bytesWorld w 5 s) wr)
 case atStart => exact ⟨0,0,by omega,rfl,rfl,⟨by simpa using HN.out⟩,⟨by omega⟩,by omega,u1b.refl _⟩
 case round =>
  clear HN
  obtain ⟨x,m,hx,rfl,rfl,HN,HM,hk,⟨m1,rfl⟩⟩:=hrel
  by_cases hlt:x < s.size
  · obtain ⟨ad,e,hc⟩:=Kd.at_int (Kd.C_of_reads (d:=(0:Int)) (h1:=fun _ => rfl) HR.out) (x:Int) (by omega) (by omega)
    obtain rfl:ad = ⟨w.heap.size,0,none⟩:=by injection e with e;exact e.symm
    clear e
    obtain ⟨hmem,hdrop⟩:=u1e.rd_at (bytesOf s) x (by omega)
    obtain ⟨z,HZ⟩:∃ z:Int,Aside0 (rd (bytesOf s) (x:Int) = z):=⟨_,⟨rfl⟩⟩
    rw [HZ.out] at hc hdrop hmem
    rw [u1e.add_at] at hc
    have hz:=HD.out z hmem
    rw [hdrop] at HN
    clear hdrop hmem
    by_cases h97:97 ≤ z
    · have h102:z ≤ 102:=by omega
      have h48:48 ≤ z:=by omega
      have hdz:u1e.dig z = (z - 97 + 10):=by unfold u1e.dig;rw [if_pos h97];omega
      have hq:=u1e.quo (d:=(z - 97 + 10)) HBs.out (by omega) (by omega)
      unfold u1e.num at HN
      rw [hdz] at HN
      have HQ:=Aside0.mk hq
      clear hz hdz hq
      by_cases hle:m ≤ (18446744073709551615 - (z - 97 + 10)) / base
      · have HF:=Aside0.mk (u1e.fits (d:=(z - 97 + 10)) HBs.out (by omega) (by omega) HM.out.1 hle)
        have HT:Aside0 (decide (m ≤ IntKind.u64.wrap ((18446744073709551615 - (z - 97 + 10)).tdiv base)) = true):=⟨by rw [HQ.out];exact decide_eq_true hle⟩
        rw [if_pos hle] at HN
        clear hle
        go_wp2_with (go_at_call 83;(with_reducible refine (u2h.calls_yes _ HT.out _).mono ?_);rintro e W3 ⟨rfl,rfl⟩)
        obtain ⟨g1,rfl⟩:∃ g1,gk = g1 + 1:=⟨gk - 1,by omega⟩
        go_roundg g1
        case rel =>
         obtain ⟨f1,f2,f3,f4⟩:=HF.out
         exact ⟨x + 1,m * base + (z - 97 + 10),by omega,by go_num,by first | (rw [f3,f4];done) | (rw [f4];done) | (simp only [f3,f4];done),HN,⟨⟨f1,f2⟩⟩,by omega,⟨_,rfl⟩⟩
        case measure => omega
      · have HT:Aside0 (decide (m ≤ IntKind.u64.wrap ((18446744073709551615 - (z - 97 + 10)).tdiv base)) = false):=⟨by rw [HQ.out];exact decide_eq_false hle⟩
        rw [if_neg hle] at HN
        clear hle
        go_wp2_with (go_at_call 83;(with_reducible refine (u2h.calls_not _ HT.out _).mono ?_);rintro e W3 ⟨rfl,rfl⟩)
        exact ⟨rfl,rfl,ub (bytes_below (Below.refl _ _) (Nat.le_refl _) _ _) m1⟩
    · have h102:z ≤ 57:=by omega
      have h48:48 ≤ z:=by omega
      have hdz:u1e.dig z = (z - 48):=by unfold u1e.dig;rw [if_neg h97]
      have hq:=u1e.quo (d:=(z - 48)) HBs.out (by omega) (by omega)
      unfold u1e.num at HN
      rw [hdz] at HN
      have HQ:=Aside0.mk hq
      clear hz hdz hq
      by_cases hle:m ≤ (18446744073709551615 - (z - 48)) / base
      · have HF:=Aside0.mk (u1e.fits (d:=(z - 48)) HBs.out (by omega) (by omega) HM.out.1 hle)
        have HT:Aside0 (decide (m ≤ IntKind.u64.wrap ((18446744073709551615 - (z - 48)).tdiv base)) = true):=⟨by rw [HQ.out];exact decide_eq_true hle⟩
        rw [if_pos hle] at HN
        clear hle
        go_wp2_with (go_at_call 83;(with_reducible refine (u2h.calls_yes _ HT.out _).mono ?_);rintro e W3 ⟨rfl,rfl⟩)
        obtain ⟨g1,rfl⟩:∃ g1,gk = g1 + 1:=⟨gk - 1,by omega⟩
        go_roundg g1
        case rel =>
         obtain ⟨f1,f2,f3,f4⟩:=HF.out
         exact ⟨x + 1,m * base + (z - 48),by omega,by go_num,by first | (rw [f3,f4];done) | (rw [f4];done) | (simp only [f3,f4];done),HN,⟨⟨f1,f2⟩⟩,by omega,⟨_,rfl⟩⟩
        case measure => omega
      · have HT:Aside0 (decide (m ≤ IntKind.u64.wrap ((18446744073709551615 - (z - 48)).tdiv base)) = false):=⟨by rw [HQ.out];exact decide_eq_false hle⟩
        rw [if_neg hle] at HN
        clear hle
        go_wp2_with (go_at_call 83;(with_reducible refine (u2h.calls_not _ HT.out _).mono ?_);rintro e W3 ⟨rfl,rfl⟩)
        exact ⟨rfl,rfl,ub (bytes_below (Below.refl _ _) (Nat.le_refl _) _ _) m1⟩
  · have h1:=HN.out
    rw [List.drop_eq_nil_of_le (by omega)] at h1
    cases h1
theorem u1e.num_is (base:Int):∀ (d:List UInt8) (n:Int),u1e.num base (d.map fun c => (c.toNat:Int)) n = Tx.numL base d n
 | [],n => rfl
 | c :: d,n => by
   have e:u1e.dig (c.toNat:Int) = Tx.digV c:=by
    unfold u1e.dig Tx.digV
    by_cases h:97 ≤ c.toNat
    · rw [if_pos h,if_pos (by omega)]
    · rw [if_neg h,if_neg (by omega)]
   rw [List.map_cons]
   unfold u1e.num Tx.numL
   rw [e,u1e.num_is base d]
theorem u1e.bytes_ofL (d:List UInt8):bytesOf (Base.ofL d) = d.map fun c => (c.toNat:Int):=by
 unfold bytesOf
 rw [Base.ofL_data]
theorem u1e.bytes_hex {d:List UInt8} (hd:∀ c ∈ d,Tx.hexC c = true):∀ c ∈ bytesOf (Base.ofL d),(48 ≤ c ∧ c ≤ 57) ∨ (97 ≤ c ∧ c ≤ 102):=by
 rw [u1e.bytes_ofL]
 intro z hz
 obtain ⟨c,hc,rfl⟩:=List.mem_map.1 hz
 have h:=hd c hc
 unfold Tx.hexC Tx.decC at h
 simp only [Bool.or_eq_true,Bool.and_eq_true,decide_eq_true_eq] at h
 omega
theorem u1e.says (d:List UInt8) (base:Int) (hb:base = 10 ∨ base = 16) (hs:d.length ≤ 1000) (hd:∀ c ∈ d,Tx.hexC c = true) (n:Int) (hn:Tx.numL base d 0 = some n) (w:World) :
 Calls Tryz.prog 125 #[.string (Base.ofL d),.int .u64 base] w fun e w' => e = .returned (.int .u64 n) ∧ Below w.heap.size w w' :=
 u1e.calls_ok (Base.ofL d) base hb (by rw [(Tx.cut_ofL d 0 (by omega)).2.2];exact hs) (u1e.bytes_hex hd) n (by rw [u1e.bytes_ofL,u1e.num_is];exact hn) w
theorem u1e.says_no (d:List UInt8) (base:Int) (hb:base = 10 ∨ base = 16) (hs:d.length ≤ 1000) (hd:∀ c ∈ d,Tx.hexC c = true) (hn:Tx.numL base d 0 = none) (w:World) :
 Calls Tryz.prog 125 #[.string (Base.ofL d),.int .u64 base] w fun e w' => e = .panicked (u2q.chain 280) ∧ Below w.heap.size w w' :=
 u1e.calls_no (Base.ofL d) base hb (by rw [(Tx.cut_ofL d 0 (by omega)).2.2];exact hs) (u1e.bytes_hex hd) (by rw [u1e.bytes_ofL,u1e.num_is];exact hn) w
theorem u1j.cut_pre (p s:List UInt8):u1u.f (Base.ofL s) (Base.ofL p) = if p.isPrefixOf s = true then some (Base.ofL (s.drop p.length),true) else some (Base.ofL s,false):=by
 have hs:(Base.ofL s).size = s.length:=(Tx.cut_ofL s 0 (by omega)).2.2
 have hp:(Base.ofL p).size = p.length:=(Tx.cut_ofL p 0 (by omega)).2.2
 unfold u1u.f u2n.f u1t.f
 rw [hs,hp]
 by_cases h:p.length ≤ s.length
 · have e1:((Base.ofL s).extract 0 ((p.length:Int)).toNat).toList = s.take p.length:=by
    rw [ByteArray.toList_eq,Base.extract_list,Base.ofL_data]
    simp
   have e2:(Base.ofL p).toList = p:=by rw [ByteArray.toList_eq,Base.ofL_data]
   have e3:(Base.ofL s).extract ((p.length:Int)).toNat s.length = Base.ofL (s.drop p.length):=by
    have:=(Tx.cut_ofL s p.length h).2.1
    rw [hs] at this
    simpa using this
   have e4:(s.take p.length == p) = p.isPrefixOf s:=by
    rw [Bool.eq_iff_iff,beq_iff_eq,List.isPrefixOf_iff_prefix]
    constructor
    · intro e
      rw [← e]
      exact List.take_prefix _ _
    · intro e
      exact (List.prefix_iff_eq_take.1 e).symm
   rw [if_pos (by omega),if_pos (by omega),if_pos (by omega),e1,e2,e4,e3]
   cases p.isPrefixOf s <;> simp [h]
 · have e5:p.isPrefixOf s = false:=by
    cases e:p.isPrefixOf s with
    | false => rfl
    | true => exact absurd (List.IsPrefix.length_le (List.isPrefixOf_iff_prefix.1 e)) h
   rw [if_neg (by omega),e5]
   rfl
theorem u1j.dig_all {h:Bool} {s:List UInt8}:∀ c ∈ s.takeWhile (Tx.digC h),Tx.hexC c = true:=by
 intro c hc
 have h1:Tx.digC h c = true:=by
  have:=List.all_takeWhile (p:=Tx.digC h) (l:=s)
  exact List.all_eq_true.1 this c hc
 unfold Tx.digC at h1
 cases h with
 | true => simpa using h1
 | false =>
   have h2:Tx.decC c = true:=by simpa using h1
   unfold Tx.hexC
   rw [h2]
   rfl
theorem u1j.dig_is {h:Bool} {most:Nat} {s d r:List UInt8} (hd:Tx.digitsP h most s = some (d,r)):(∀ c ∈ d,Tx.hexC c = true) ∧ d.length ≤ most ∧ r.length ≤ s.length:=by
 unfold Tx.digitsP at hd
 split at hd
 · rename_i hc
   obtain ⟨rfl,rfl⟩:=Prod.mk.inj (Option.some.inj hd)
   refine ⟨u1j.dig_all,hc.2,?_⟩
   have h1:=congrArg List.length (List.takeWhile_append_dropWhile (p:=Tx.digC h) (l:=s))
   rw [List.length_append] at h1
   omega
 · cases hd
set_option maxRecDepth 100000 in
set_option maxHeartbeats 1000000 in
theorem u1j.hex_ok (w0 W:World) (g:Nat) (s:List UInt8) (hl:s.length ≤ 1000) (q:List UInt8) (hs:s = 48 :: 120 :: q) (n:Int) (r:List UInt8) (hv:Tx.valueD true 16 16 q = some (n,r)) (h:ua.St w0 W g s) :
 Calls Tryz.prog 98 #[.pointer (some ⟨g,0,none⟩)] W fun e W' => e = .returned (.int .u64 n) ∧ ua.St w0 W' g r ∧ u1v W W' g none:=by
 unfold Tx.valueD at hv
 obtain ⟨⟨d,r'⟩,hd,hv⟩:=Option.bind_eq_some_iff.1 hv
 obtain ⟨n',hn,hv⟩:=Option.map_eq_some_iff.1 hv
 obtain ⟨rfl,rfl⟩:=Prod.mk.inj hv
 simp only at hn
 obtain ⟨ha,hdl,hrl⟩:=u1j.dig_is hd
 have HA:=Aside0.mk ha
 have HD:=Aside0.mk hd
 have HN:=Aside0.mk hn
 have hq:q.length ≤ 1000:=by rw [hs,List.length_cons,List.length_cons] at hl;omega
 have HC:Aside0 (u1u.f (Base.ofL (48 :: 120 :: q)) (⟨#[48,120]⟩:ByteArray) = some (Base.ofL q,true)):=⟨by
  have e:=u1j.cut_pre [48,120] s
  rw [hs,if_pos (by simp [List.isPrefixOf])] at e
  exact e⟩
 subst hs
 have HS:=Aside0.mk h
 obtain ⟨h0,f0⟩:=h.look
 clear h
 clear ha hd hn hv
 go_enter Tryz.func98,Tryz.ntmps98
 go_wp2_with (first
  | (go_at_call 117;(with_reducible refine (u1u.calls _ _ _ _ _ HC.out).mono ?_);rintro e W1 ⟨rfl,⟨nd,rfl⟩⟩)
  | (go_at_call 126;(with_reducible refine (u1o.ok_at 16 16 rfl w0 _ g true q (by omega) (by omega) d r' HD.out (by exact (HS.out.drew nd).set q)).mono ?_);rintro e W2 ⟨rfl,hs2,hk2⟩;have HS2:=Aside0.mk hs2;have HK2:=Aside0.mk hk2;clear hs2 hk2)
  | (go_at_call 125;(with_reducible refine (u1e.says d 16 (by omega) (by omega) HA.out n' HN.out _).mono ?_);rintro e W3 ⟨rfl,hb3⟩;have HB3:=Aside0.mk hb3;clear hb3))
 go_ret
 exact ⟨rfl,HS2.out.more HB3.out,ua.keep_then ((u1v.of_below (ub (Below.refl _ _) nd) g none).set_ 0 _) (ua.keep_then HK2.out (u1v.of_below HB3.out g none))⟩
set_option maxRecDepth 100000 in
set_option maxHeartbeats 1000000 in
theorem u1j.hex_no (w0 W:World) (g:Nat) (s:List UInt8) (hl:s.length ≤ 1000) (q:List UInt8) (hs:s = 48 :: 120 :: q) (hv:Tx.valueD true 16 16 q = none) (h:ua.St w0 W g s) :
 Calls Tryz.prog 98 #[.pointer (some ⟨g,0,none⟩)] W fun e W' => e = .panicked (u2q.chain 280) ∧ Below w0.heap.size w0 W':=by
 unfold Tx.valueD at hv
 have hq:q.length ≤ 1000:=by rw [hs,List.length_cons,List.length_cons] at hl;omega
 have HC:Aside0 (u1u.f (Base.ofL (48 :: 120 :: q)) (⟨#[48,120]⟩:ByteArray) = some (Base.ofL q,true)):=⟨by
  have e:=u1j.cut_pre [48,120] s
  rw [hs,if_pos (by simp [List.isPrefixOf])] at e
  exact e⟩
 subst hs
 have HS:=Aside0.mk h
 obtain ⟨h0,f0⟩:=h.look
 clear h
 cases hd:Tx.digitsP true 16 q with
 | none =>
   have HD:=Aside0.mk hd
   clear hd hv
   go_enter Tryz.func98,Tryz.ntmps98
   go_wp2_with (first
    | (go_at_call 117;(with_reducible refine (u1u.calls _ _ _ _ _ HC.out).mono ?_);rintro e W1 ⟨rfl,⟨nd,rfl⟩⟩)
    | (go_at_call 126;(with_reducible refine (u1o.no_at 16 16 rfl w0 _ g true q (by omega) (by omega) HD.out (by exact (HS.out.drew nd).set q)).mono ?_);rintro e W2 ⟨rfl,hb2⟩))
   exact ⟨rfl,rfl,hb2⟩
 | some p =>
   obtain ⟨d,r⟩:=p
   rw [hd] at hv
   have hn:Tx.numL 16 d 0 = none:=by simpa using hv
   obtain ⟨ha,hdl,hrl⟩:=u1j.dig_is hd
   have HA:=Aside0.mk ha
   have HD:=Aside0.mk hd
   have HN:=Aside0.mk hn
   clear ha hd hn hv
   go_enter Tryz.func98,Tryz.ntmps98
   go_wp2_with (first
    | (go_at_call 117;(with_reducible refine (u1u.calls _ _ _ _ _ HC.out).mono ?_);rintro e W1 ⟨rfl,⟨nd,rfl⟩⟩)
    | (go_at_call 126;(with_reducible refine (u1o.ok_at 16 16 rfl w0 _ g true q (by omega) (by omega) d r HD.out (by exact (HS.out.drew nd).set q)).mono ?_);rintro e W2 ⟨rfl,hs2,hk2⟩;have HS2:=Aside0.mk hs2;have HK2:=Aside0.mk hk2;clear hs2 hk2)
    | (go_at_call 125;(with_reducible refine (u1e.says_no d 16 (by omega) (by omega) HA.out HN.out _).mono ?_);rintro e W3 ⟨rfl,hb3⟩))
   exact ⟨rfl,rfl,(HS2.out.more hb3).below⟩
set_option maxRecDepth 100000 in
set_option maxHeartbeats 1000000 in
theorem u1j.dec_ok (w0 W:World) (g:Nat) (s:List UInt8) (hl:s.length ≤ 1000) (hs:([48,120]:List UInt8).isPrefixOf s = false) (n:Int) (r:List UInt8) (hv:Tx.valueD false 20 10 s = some (n,r)) (h:ua.St w0 W g s) :
 Calls Tryz.prog 98 #[.pointer (some ⟨g,0,none⟩)] W fun e W' => e = .returned (.int .u64 n) ∧ ua.St w0 W' g r ∧ u1v W W' g none:=by
 unfold Tx.valueD at hv
 obtain ⟨⟨d,r'⟩,hd,hv⟩:=Option.bind_eq_some_iff.1 hv
 obtain ⟨n',hn,hv⟩:=Option.map_eq_some_iff.1 hv
 obtain ⟨rfl,rfl⟩:=Prod.mk.inj hv
 simp only at hn
 obtain ⟨ha,hdl,hrl⟩:=u1j.dig_is hd
 have HA:=Aside0.mk ha
 have HD:=Aside0.mk hd
 have HN:=Aside0.mk hn
 have HC:Aside0 (u1u.f (Base.ofL s) (⟨#[48,120]⟩:ByteArray) = some (Base.ofL s,false)):=⟨by
  have e:=u1j.cut_pre [48,120] s
  rw [if_neg (by rw [hs];decide)] at e
  exact e⟩
 clear hs
 have HS:=Aside0.mk h
 obtain ⟨h0,f0⟩:=h.look
 clear h
 clear ha hd hn hv
 go_enter Tryz.func98,Tryz.ntmps98
 go_wp2_with (first
  | (go_at_call 117;(with_reducible refine (u1u.calls _ _ _ _ _ HC.out).mono ?_);rintro e W1 ⟨rfl,⟨nd,rfl⟩⟩)
  | (go_at_call 126;(with_reducible refine (u1o.ok_at 20 20 rfl w0 _ g false s (by omega) (by omega) d r' HD.out (by exact HS.out.drew nd)).mono ?_);rintro e W2 ⟨rfl,hs2,hk2⟩;have HS2:=Aside0.mk hs2;have HK2:=Aside0.mk hk2;clear hs2 hk2)
  | (go_at_call 125;(with_reducible refine (u1e.says d 10 (by omega) (by omega) HA.out n' HN.out _).mono ?_);rintro e W3 ⟨rfl,hb3⟩;have HB3:=Aside0.mk hb3;clear hb3))
 go_ret
 exact ⟨rfl,HS2.out.more HB3.out,ua.keep_then (u1v.of_below (ub (Below.refl _ _) nd) g none) (ua.keep_then HK2.out (u1v.of_below HB3.out g none))⟩
set_option maxRecDepth 100000 in
set_option maxHeartbeats 1000000 in
theorem u1j.dec_no (w0 W:World) (g:Nat) (s:List UInt8) (hl:s.length ≤ 1000) (hs:([48,120]:List UInt8).isPrefixOf s = false) (hv:Tx.valueD false 20 10 s = none) (h:ua.St w0 W g s) :
 Calls Tryz.prog 98 #[.pointer (some ⟨g,0,none⟩)] W fun e W' => e = .panicked (u2q.chain 280) ∧ Below w0.heap.size w0 W':=by
 unfold Tx.valueD at hv
 have HC:Aside0 (u1u.f (Base.ofL s) (⟨#[48,120]⟩:ByteArray) = some (Base.ofL s,false)):=⟨by
  have e:=u1j.cut_pre [48,120] s
  rw [if_neg (by rw [hs];decide)] at e
  exact e⟩
 clear hs
 have HS:=Aside0.mk h
 obtain ⟨h0,f0⟩:=h.look
 clear h
 cases hd:Tx.digitsP false 20 s with
 | none =>
   have HD:=Aside0.mk hd
   clear hd hv
   go_enter Tryz.func98,Tryz.ntmps98
   go_wp2_with (first
    | (go_at_call 117;(with_reducible refine (u1u.calls _ _ _ _ _ HC.out).mono ?_);rintro e W1 ⟨rfl,⟨nd,rfl⟩⟩)
    | (go_at_call 126;(with_reducible refine (u1o.no_at 20 20 rfl w0 _ g false s (by omega) (by omega) HD.out (by exact HS.out.drew nd)).mono ?_);rintro e W2 ⟨rfl,hb2⟩))
   exact ⟨rfl,rfl,hb2⟩
 | some p =>
   obtain ⟨d,r⟩:=p
   rw [hd] at hv
   have hn:Tx.numL 10 d 0 = none:=by simpa using hv
   obtain ⟨ha,hdl,hrl⟩:=u1j.dig_is hd
   have HA:=Aside0.mk ha
   have HD:=Aside0.mk hd
   have HN:=Aside0.mk hn
   clear ha hd hn hv
   go_enter Tryz.func98,Tryz.ntmps98
   go_wp2_with (first
    | (go_at_call 117;(with_reducible refine (u1u.calls _ _ _ _ _ HC.out).mono ?_);rintro e W1 ⟨rfl,⟨nd,rfl⟩⟩)
    | (go_at_call 126;(with_reducible refine (u1o.ok_at 20 20 rfl w0 _ g false s (by omega) (by omega) d r HD.out (by exact HS.out.drew nd)).mono ?_);rintro e W2 ⟨rfl,hs2,hk2⟩;have HS2:=Aside0.mk hs2;have HK2:=Aside0.mk hk2;clear hs2 hk2)
    | (go_at_call 125;(with_reducible refine (u1e.says_no d 10 (by omega) (by omega) HA.out HN.out _).mono ?_);rintro e W3 ⟨rfl,hb3⟩))
   exact ⟨rfl,rfl,(HS2.out.more hb3).below⟩
theorem u1j.value_is (s:List UInt8):(∃ q,s = 48 :: 120 :: q ∧ Tx.valueP s = Tx.valueD true 16 16 q) ∨ (([48,120]:List UInt8).isPrefixOf s = false ∧ Tx.valueP s = Tx.valueD false 20 10 s):=by
 by_cases h:∃ q,s = 48 :: 120 :: q
 · obtain ⟨q,rfl⟩:=h
   exact Or.inl ⟨q,rfl,rfl⟩
 · refine Or.inr ⟨?_,?_⟩
   · cases e:([48,120]:List UInt8).isPrefixOf s with
     | false => rfl
     | true =>
       obtain ⟨t,ht⟩:=List.isPrefixOf_iff_prefix.1 e
       exact absurd ⟨t,ht.symm⟩ h
   · unfold Tx.valueP
     split
     · exact absurd ⟨_,rfl⟩ h
     · rfl
theorem u1j.calls_ok (w0 W:World) (g:Nat) (s:List UInt8) (hl:s.length ≤ 1000) (n:Int) (r:List UInt8) (hv:Tx.valueP s = some (n,r)) (h:ua.St w0 W g s) :
 Calls Tryz.prog 98 #[.pointer (some ⟨g,0,none⟩)] W fun e W' => e = .returned (.int .u64 n) ∧ ua.St w0 W' g r ∧ u1v W W' g none:=by
 rcases u1j.value_is s with ⟨q,hq,e⟩ | ⟨hq,e⟩
 · exact u1j.hex_ok w0 W g s hl q hq n r (e ▸ hv) h
 · exact u1j.dec_ok w0 W g s hl hq n r (e ▸ hv) h
theorem u1j.calls_no (w0 W:World) (g:Nat) (s:List UInt8) (hl:s.length ≤ 1000) (hv:Tx.valueP s = none) (h:ua.St w0 W g s) :
 Calls Tryz.prog 98 #[.pointer (some ⟨g,0,none⟩)] W fun e W' => e = .panicked (u2q.chain 280) ∧ Below w0.heap.size w0 W':=by
 rcases u1j.value_is s with ⟨q,hq,e⟩ | ⟨hq,e⟩
 · exact u1j.hex_no w0 W g s hl q hq (e ▸ hv) h
 · exact u1j.dec_no w0 W g s hl hq (e ▸ hv) h
def u1x.l0:Nat → ByteArray → ByteArray → Int → Option (ByteArray)
 | 0,_,_,_ => none
 | k + 1,x0,x3,x4 => if x4 < (x0.size:Int) then (if 0 ≤ x4 then (if (bt x0 x4) = 34 then (if x3.size + 1 ≤ 9223372036854775807 then (if x4 ≤ (wrap64 (x4 + 1)) then (if (wrap64 (x4 + 1)) ≤ (x0.size:Int) then (if (x3 ++ (⟨#[92]⟩:ByteArray)).size + (x0.extract (x4:Int).toNat ((wrap64 (x4 + 1)):Int).toNat).size ≤ 9223372036854775807 then (u1x.l0 k x0 ((x3 ++ (⟨#[92]⟩:ByteArray)) ++ (x0.extract (x4:Int).toNat ((wrap64 (x4 + 1)):Int).toNat)) (wrap64 (x4 + 1))) else (none)) else (none)) else (none)) else (none)) else (if (bt x0 x4) = 92 then (if x3.size + 1 ≤ 9223372036854775807 then (if x4 ≤ (wrap64 (x4 + 1)) then (if (wrap64 (x4 + 1)) ≤ (x0.size:Int) then (if (x3 ++ (⟨#[92]⟩:ByteArray)).size + (x0.extract (x4:Int).toNat ((wrap64 (x4 + 1)):Int).toNat).size ≤ 9223372036854775807 then (u1x.l0 k x0 ((x3 ++ (⟨#[92]⟩:ByteArray)) ++ (x0.extract (x4:Int).toNat ((wrap64 (x4 + 1)):Int).toNat)) (wrap64 (x4 + 1))) else (none)) else (none)) else (none)) else (none)) else (if x4 ≤ (wrap64 (x4 + 1)) then (if (wrap64 (x4 + 1)) ≤ (x0.size:Int) then (if x3.size + (x0.extract (x4:Int).toNat ((wrap64 (x4 + 1)):Int).toNat).size ≤ 9223372036854775807 then (u1x.l0 k x0 (x3 ++ (x0.extract (x4:Int).toNat ((wrap64 (x4 + 1)):Int).toNat)) (wrap64 (x4 + 1))) else (none)) else (none)) else (none)))) else (none)) else (if x3.size + 1 ≤ 9223372036854775807 then (some (x3 ++ (⟨#[34]⟩:ByteArray))) else (none))
def u1x.f (k:Nat) (a0:ByteArray):Option (ByteArray):=u1x.l0 k a0 (⟨#[34]⟩:ByteArray) 0
set_option maxHeartbeats 8000000 in
set_option maxRecDepth 100000 in
theorem u1x.calls (k:Nat) (a0:ByteArray) (r:ByteArray) (w:World) (h:u1x.f k a0 = some r) :
 Calls Tryz.prog 113 #[.string a0] w fun e w' => e = .returned (.string r) ∧ u1b w w':=by
 have H:(u1x.l0 k a0 (⟨#[34]⟩:ByteArray) 0) = some r:=h
 clear h
 have H':=Aside0.mk H
 clear H
 go_enter Tryz.func113,Tryz.ntmps113
 go_wp2
 go_loopg [3,4] k (fun kq v3 v4 w' => ∃ (x3_1:ByteArray) (x4_1:Int),v3 = .string x3_1 ∧ v4 = .int .i64 x4_1 ∧ Aside0 (u1x.l0 kq a0 x3_1 x4_1 = some r) ∧ Aside0 (kq ≤ k) ∧ u1b w w')
 case atStart => exact ⟨((⟨#[34]⟩:ByteArray)),(0),(by first | rfl | (simp;done) | (simp [*];done)),(by first | rfl | (simp;done) | (simp [*];done)),H',⟨Nat.le_refl _⟩,by repeat (first | exact u1b.refl _ | apply u1b.step)⟩
 case round =>
  clear H'
  try clear c1
  obtain ⟨x3_1,x4_1,rfl,rfl,HA,HK1,⟨m1,rfl⟩⟩:=hrel
  cases gk with
  | zero => exact absurd HA.out (by simp [u1x.l0])
  | succ k1 =>
    have H:=HA.out
    clear HA
    simp only [u1x.l0] at H
    by_cases c2:x4_1 < (a0.size:Int)
    · rw [if_pos c2] at H
      have c2b0:decide (x4_1 < (a0.size:Int)) = true:=decide_eq_true c2
      clear c2
      by_cases c3:0 ≤ x4_1
      · rw [if_pos c3] at H
        have c3b0:decide (0 ≤ x4_1) = true:=decide_eq_true c3
        clear c3
        by_cases c5:(bt a0 x4_1) = 34
        · rw [if_pos c5] at H
          have c5b0:((bt a0 x4_1) == 34) = true:=beq_iff_eq.mpr c5
          have c5b1:((bt a0 x4_1) != 34) = false:=bne_eq_false_iff_eq.mpr c5
          clear c5
          by_cases c6:x3_1.size + 1 ≤ 9223372036854775807
          · rw [if_pos c6] at H
            have c6b0:=eq_true c6
            have c6b1:decide (x3_1.size + 1 ≤ 9223372036854775807) = true:=decide_eq_true c6
            try have c6b2:(9223372036854775807 < x3_1.size + 1) = False:=eq_false (Nat.not_lt.2 c6)
            try (have c6b3:=c6b2;simp only [ByteArray.size_append,Base.size1,(show ∀ a_ b_:UInt8,(⟨#[a_,b_]⟩:ByteArray).size = 2 from fun _ _ => rfl)] at c6b3)
            have c7b0:=eq_true (of_decide_eq_true (by first | (with_reducible assumption) | assumption):0 ≤ x4_1)
            by_cases c8:x4_1 ≤ (wrap64 (x4_1 + 1))
            · rw [if_pos c8] at H
              have c8b0:=eq_true c8
              have c8b1:decide (x4_1 ≤ (wrap64 (x4_1 + 1))) = true:=decide_eq_true c8
              by_cases c9:(wrap64 (x4_1 + 1)) ≤ (a0.size:Int)
              · rw [if_pos c9] at H
                have c9b0:=eq_true c9
                have c9b1:decide ((wrap64 (x4_1 + 1)) ≤ (a0.size:Int)) = true:=decide_eq_true c9
                by_cases c10:(x3_1 ++ (⟨#[92]⟩:ByteArray)).size + (a0.extract (x4_1:Int).toNat ((wrap64 (x4_1 + 1)):Int).toNat).size ≤ 9223372036854775807
                · rw [if_pos c10] at H
                  have c10b0:=eq_true c10
                  have c10b1:decide ((x3_1 ++ (⟨#[92]⟩:ByteArray)).size + (a0.extract (x4_1:Int).toNat ((wrap64 (x4_1 + 1)):Int).toNat).size ≤ 9223372036854775807) = true:=decide_eq_true c10
                  try have c10b2:(9223372036854775807 < (x3_1 ++ (⟨#[92]⟩:ByteArray)).size + (a0.extract (x4_1:Int).toNat ((wrap64 (x4_1 + 1)):Int).toNat).size) = False:=eq_false (Nat.not_lt.2 c10)
                  try (have c10b3:=c10b2;simp only [ByteArray.size_append,Base.size1,(show ∀ a_ b_:UInt8,(⟨#[a_,b_]⟩:ByteArray).size = 2 from fun _ _ => rfl)] at c10b3)
                  try (have c10b4:(9223372036854775807 < (x3_1 ++ (⟨#[92]⟩:ByteArray)).size + (((wrap64 (x4_1 + 1))).toNat - (x4_1).toNat)) = False:=eq_false (by have h4_:=c10;simp only [ByteArray.size_extract,ByteArray.size_append,Base.size1] at h4_;omega))
                  have H':=Aside0.mk H
                  clear H
                  have p4:0 ≤ (x4_1:Int):=of_decide_eq_true (by first | (with_reducible assumption) | assumption)
                  have q4:x4_1 < (a0.size:Int):=of_decide_eq_true (by first | (with_reducible assumption) | assumption)
                  have hx4:=bt_at a0 x4_1
                  replace p4:=eq_true p4
                  replace q4:=eq_true q4
                  go_wp2
                  go_roundg k1
                  case measure => have:=HK1.out;omega
                  case rel => exact ⟨((x3_1 ++ (⟨#[92]⟩:ByteArray)) ++ (a0.extract (x4_1:Int).toNat ((wrap64 (x4_1 + 1)):Int).toNat)),(wrap64 (x4_1 + 1)),(by first | rfl | (simp;done) | (simp [*];done)),(by first | rfl | (simp;done) | (simp [*];done)),H',⟨by have:=HK1.out;omega⟩,by repeat (first | exact u1b.refl _ | apply u1b.step)⟩
                · rw [if_neg c10] at H
                  exact absurd H (by simp)
              · rw [if_neg c9] at H
                exact absurd H (by simp)
            · rw [if_neg c8] at H
              exact absurd H (by simp)
          · rw [if_neg c6] at H
            exact absurd H (by simp)
        · rw [if_neg c5] at H
          have c5b0:((bt a0 x4_1) == 34) = false:=beq_eq_false_iff_ne.mpr c5
          have c5b1:((bt a0 x4_1) != 34) = true:=bne_iff_ne.mpr c5
          by_cases c12:(bt a0 x4_1) = 92
          · rw [if_pos c12] at H
            have c12b0:((bt a0 x4_1) == 92) = true:=beq_iff_eq.mpr c12
            have c12b1:((bt a0 x4_1) != 92) = false:=bne_eq_false_iff_eq.mpr c12
            clear c12
            by_cases c13:x3_1.size + 1 ≤ 9223372036854775807
            · rw [if_pos c13] at H
              have c13b0:=eq_true c13
              have c13b1:decide (x3_1.size + 1 ≤ 9223372036854775807) = true:=decide_eq_true c13
              try have c13b2:(9223372036854775807 < x3_1.size + 1) = False:=eq_false (Nat.not_lt.2 c13)
              try (have c13b3:=c13b2;simp only [ByteArray.size_append,Base.size1,(show ∀ a_ b_:UInt8,(⟨#[a_,b_]⟩:ByteArray).size = 2 from fun _ _ => rfl)] at c13b3)
              have c14b0:=eq_true (of_decide_eq_true (by first | (with_reducible assumption) | assumption):0 ≤ x4_1)
              by_cases c15:x4_1 ≤ (wrap64 (x4_1 + 1))
              · rw [if_pos c15] at H
                have c15b0:=eq_true c15
                have c15b1:decide (x4_1 ≤ (wrap64 (x4_1 + 1))) = true:=decide_eq_true c15
                by_cases c16:(wrap64 (x4_1 + 1)) ≤ (a0.size:Int)
                · rw [if_pos c16] at H
                  have c16b0:=eq_true c16
                  have c16b1:decide ((wrap64 (x4_1 + 1)) ≤ (a0.size:Int)) = true:=decide_eq_true c16
                  by_cases c17:(x3_1 ++ (⟨#[92]⟩:ByteArray)).size + (a0.extract (x4_1:Int).toNat ((wrap64 (x4_1 + 1)):Int).toNat).size ≤ 9223372036854775807
                  · rw [if_pos c17] at H
                    have c17b0:=eq_true c17
                    have c17b1:decide ((x3_1 ++ (⟨#[92]⟩:ByteArray)).size + (a0.extract (x4_1:Int).toNat ((wrap64 (x4_1 + 1)):Int).toNat).size ≤ 9223372036854775807) = true:=decide_eq_true c17
                    try have c17b2:(9223372036854775807 < (x3_1 ++ (⟨#[92]⟩:ByteArray)).size + (a0.extract (x4_1:Int).toNat ((wrap64 (x4_1 + 1)):Int).toNat).size) = False:=eq_false (Nat.not_lt.2 c17)
                    try (have c17b3:=c17b2;simp only [ByteArray.size_append,Base.size1,(show ∀ a_ b_:UInt8,(⟨#[a_,b_]⟩:ByteArray).size = 2 from fun _ _ => rfl)] at c17b3)
                    try (have c17b4:(9223372036854775807 < (x3_1 ++ (⟨#[92]⟩:ByteArray)).size + (((wrap64 (x4_1 + 1))).toNat - (x4_1).toNat)) = False:=eq_false (by have h4_:=c17;simp only [ByteArray.size_extract,ByteArray.size_append,Base.size1] at h4_;omega))
                    have H':=Aside0.mk H
                    clear H
                    have p4:0 ≤ (x4_1:Int):=of_decide_eq_true (by first | (with_reducible assumption) | assumption)
                    have q4:x4_1 < (a0.size:Int):=of_decide_eq_true (by first | (with_reducible assumption) | assumption)
                    have hx4:=bt_at a0 x4_1
                    replace p4:=eq_true p4
                    replace q4:=eq_true q4
                    have p11:0 ≤ (x4_1:Int):=of_decide_eq_true (by first | (with_reducible assumption) | assumption)
                    have q11:x4_1 < (a0.size:Int):=of_decide_eq_true (by first | (with_reducible assumption) | assumption)
                    have hx11:=bt_at a0 x4_1
                    replace p11:=eq_true p11
                    replace q11:=eq_true q11
                    go_wp2
                    go_roundg k1
                    case measure => have:=HK1.out;omega
                    case rel => exact ⟨((x3_1 ++ (⟨#[92]⟩:ByteArray)) ++ (a0.extract (x4_1:Int).toNat ((wrap64 (x4_1 + 1)):Int).toNat)),(wrap64 (x4_1 + 1)),(by first | rfl | (simp;done) | (simp [*];done)),(by first | rfl | (simp;done) | (simp [*];done)),H',⟨by have:=HK1.out;omega⟩,by repeat (first | exact u1b.refl _ | apply u1b.step)⟩
                  · rw [if_neg c17] at H
                    exact absurd H (by simp)
                · rw [if_neg c16] at H
                  exact absurd H (by simp)
              · rw [if_neg c15] at H
                exact absurd H (by simp)
            · rw [if_neg c13] at H
              exact absurd H (by simp)
          · rw [if_neg c12] at H
            have c12b0:((bt a0 x4_1) == 92) = false:=beq_eq_false_iff_ne.mpr c12
            have c12b1:((bt a0 x4_1) != 92) = true:=bne_iff_ne.mpr c12
            have c18b0:=eq_true (of_decide_eq_true (by first | (with_reducible assumption) | assumption):0 ≤ x4_1)
            by_cases c19:x4_1 ≤ (wrap64 (x4_1 + 1))
            · rw [if_pos c19] at H
              have c19b0:=eq_true c19
              have c19b1:decide (x4_1 ≤ (wrap64 (x4_1 + 1))) = true:=decide_eq_true c19
              by_cases c20:(wrap64 (x4_1 + 1)) ≤ (a0.size:Int)
              · rw [if_pos c20] at H
                have c20b0:=eq_true c20
                have c20b1:decide ((wrap64 (x4_1 + 1)) ≤ (a0.size:Int)) = true:=decide_eq_true c20
                by_cases c21:x3_1.size + (a0.extract (x4_1:Int).toNat ((wrap64 (x4_1 + 1)):Int).toNat).size ≤ 9223372036854775807
                · rw [if_pos c21] at H
                  have c21b0:=eq_true c21
                  have c21b1:decide (x3_1.size + (a0.extract (x4_1:Int).toNat ((wrap64 (x4_1 + 1)):Int).toNat).size ≤ 9223372036854775807) = true:=decide_eq_true c21
                  try have c21b2:(9223372036854775807 < x3_1.size + (a0.extract (x4_1:Int).toNat ((wrap64 (x4_1 + 1)):Int).toNat).size) = False:=eq_false (Nat.not_lt.2 c21)
                  try (have c21b3:=c21b2;simp only [ByteArray.size_append,Base.size1,(show ∀ a_ b_:UInt8,(⟨#[a_,b_]⟩:ByteArray).size = 2 from fun _ _ => rfl)] at c21b3)
                  try (have c21b4:(9223372036854775807 < x3_1.size + (((wrap64 (x4_1 + 1))).toNat - (x4_1).toNat)) = False:=eq_false (by have h4_:=c21;simp only [ByteArray.size_extract,ByteArray.size_append,Base.size1] at h4_;omega))
                  have H':=Aside0.mk H
                  clear H
                  have p4:0 ≤ (x4_1:Int):=of_decide_eq_true (by first | (with_reducible assumption) | assumption)
                  have q4:x4_1 < (a0.size:Int):=of_decide_eq_true (by first | (with_reducible assumption) | assumption)
                  have hx4:=bt_at a0 x4_1
                  replace p4:=eq_true p4
                  replace q4:=eq_true q4
                  have p11:0 ≤ (x4_1:Int):=of_decide_eq_true (by first | (with_reducible assumption) | assumption)
                  have q11:x4_1 < (a0.size:Int):=of_decide_eq_true (by first | (with_reducible assumption) | assumption)
                  have hx11:=bt_at a0 x4_1
                  replace p11:=eq_true p11
                  replace q11:=eq_true q11
                  go_wp2
                  go_roundg k1
                  case measure => have:=HK1.out;omega
                  case rel => exact ⟨(x3_1 ++ (a0.extract (x4_1:Int).toNat ((wrap64 (x4_1 + 1)):Int).toNat)),(wrap64 (x4_1 + 1)),(by first | rfl | (simp;done) | (simp [*];done)),(by first | rfl | (simp;done) | (simp [*];done)),H',⟨by have:=HK1.out;omega⟩,by repeat (first | exact u1b.refl _ | apply u1b.step)⟩
                · rw [if_neg c21] at H
                  exact absurd H (by simp)
              · rw [if_neg c20] at H
                exact absurd H (by simp)
            · rw [if_neg c19] at H
              exact absurd H (by simp)
      · rw [if_neg c3] at H
        exact absurd H (by simp)
    · rw [if_neg c2] at H
      have c2b0:decide (x4_1 < (a0.size:Int)) = false:=decide_eq_false c2
      clear c2
      by_cases c22:x3_1.size + 1 ≤ 9223372036854775807
      · rw [if_pos c22] at H
        have c22b0:=eq_true c22
        have c22b1:decide (x3_1.size + 1 ≤ 9223372036854775807) = true:=decide_eq_true c22
        try have c22b2:(9223372036854775807 < x3_1.size + 1) = False:=eq_false (Nat.not_lt.2 c22)
        try (have c22b3:=c22b2;simp only [ByteArray.size_append,Base.size1,(show ∀ a_ b_:UInt8,(⟨#[a_,b_]⟩:ByteArray).size = 2 from fun _ _ => rfl)] at c22b3)
        obtain rfl:=Option.some.inj H
        go_wp2
        go_ret
        exact ⟨by first | rfl | (simp;done) | (simp [*];done),by repeat (first | exact u1b.refl _ | apply u1b.step)⟩
      · rw [if_neg c22] at H
        exact absurd H (by simp)
def uw.f (a0:ByteArray):Option (ByteArray × ByteArray × Int):=if a0.size ≤ 140737488355328 then some (Base.unq a0) else none
theorem uw.cut_yes (c:UInt8) (s:ByteArray) (r:List UInt8) (h:s.data.toList = c :: r):u1u.f s (⟨#[c]⟩:ByteArray) = some (s.extract 1 s.size,true):=by
 have hs:s.size = r.length + 1:=by rw [← u2k,h];rfl
 have h1:(s.extract 0 1).toList = [c]:=by
  rw [ByteArray.toList_eq,Base.extract_list,h]
  rfl
 have h2:((s.size:Int) ≥ 1):=by omega
 have h3:((1:Int) ≤ (s.size:Int)):=by omega
 simp [u1u.f,u2n.f,u1t.f,Base.size1,h1,h2,h3,ByteArray.toList_eq]
theorem uw.cut_no (c:UInt8) (s:ByteArray) (h:∀ r,s.data.toList ≠ c :: r):u1u.f s (⟨#[c]⟩:ByteArray) = some (s,false):=by
 by_cases h2:((s.size:Int) ≥ 1)
 · have h3:((1:Int) ≤ (s.size:Int)):=by omega
   have h1:¬ List.take 1 s.data.toList = [c]:=by
    cases hl:s.data.toList with
    | nil => simp
    | cons x q =>
      intro e
      have:x = c:=by simpa using e
      subst this
      exact h q hl
   simp [u1u.f,u2n.f,u1t.f,Base.size1,h1,h2,h3,ByteArray.toList_eq]
 · have h3:¬ ((1:Int) ≤ (s.size:Int)):=by omega
   simp [u1u.f,u2n.f,u1t.f,Base.size1,h3]
theorem uw.head (x:ByteArray) (c:UInt8) (r:List UInt8) (h:x.data.toList = c :: r):∃ hp:0 < x.size,((x[0]'hp).toNat:Int) = c.toNat ∧ (x.extract 1 x.size).data.toList = r ∧ x.size = r.length + 1 ∧ x.toList.isEmpty = false:=by
 have hs:x.size = r.length + 1:=by rw [← u2k,h];rfl
 have hp:0 < x.size:=by omega
 refine ⟨hp,?_,?_,hs,?_⟩
 · have h1:x.data.toList[0]? = some c:=by rw [h];rfl
   have h2:x.data.toList[0]'(by rw [u2k];exact hp) = c:=by
    rw [List.getElem?_eq_getElem (by rw [u2k];exact hp)] at h1
    exact Option.some.inj h1
   have h3:x[0]'hp = x.data.toList[0]'(by rw [u2k];exact hp):=rfl
   rw [h3,h2]
 · rw [Base.extract_rest,h]
   rfl
 · rw [ByteArray.toList_eq,h]
   rfl
theorem uw.byte_is (c:UInt8):((c.toNat:Int) = 34 ↔ c = 34) ∧ ((c.toNat:Int) = 92 ↔ c = 92):=by
 refine ⟨⟨fun e => UInt8.toNat_inj.1 (by simpa using (by omega:c.toNat = 34)),fun e => by rw [e];rfl⟩,⟨fun e => UInt8.toNat_inj.1 (by simpa using (by omega:c.toNat = 92)),fun e => by rw [e];rfl⟩⟩
theorem uw.info:(Tryz.prog.info? 5).map (fun i => (i.zero,i.size,i.bytes)) = some (some (.int .u8 0),1,1):=by kernel_rfl
def uw.nats (l:List UInt8):List Int:=l.map fun c => (c.toNat:Int)
theorem uw.str_of (l:List UInt8):strOfNums (uw.nats l) = Base.ofL l:=by
 refine Base.ext_data ?_
 rw [strOfNums_data,Base.ofL_data,uw.nats,List.map_map]
 conv => rhs;rw [← List.map_id l]
 refine List.map_congr_left (fun c _ => ?_)
 simp
def uw.out (o:Option (List UInt8 × List UInt8)):ByteArray × ByteArray × Int:=match o with
 | some (a,q) => (Base.ofL a,Base.ofL q,0)
 | none => (⟨#[]⟩,⟨#[]⟩,5)
set_option maxHeartbeats 4000000 in
set_option maxRecDepth 100000 in
theorem uw.calls (a0:ByteArray) (r1:ByteArray) (r2:ByteArray) (r3:Int) (w:World) (h:uw.f a0 = some (r1,r2,r3)) :
 Calls Tryz.prog 144 #[.string a0] w fun e w' => e = .returned (.tuple #[.string r1,.string r2,.int .i64 r3]) ∧ Below w.heap.size w w':=by
 unfold uw.f at h
 by_cases hlim:a0.size ≤ 140737488355328
 · rw [if_pos hlim] at h
   have hu:=Option.some.inj h
   clear h
   by_cases hq:∃ r,a0.data.toList = 34 :: r
   · obtain ⟨r,hr⟩:=hq
     have hu2:uw.out (Base.unqL r []) = (r1,r2,r3):=by
      rw [← hu]
      unfold Base.unq
      rw [hr]
      simp only [uw.out,if_true]
      cases Base.unqL r [] with
      | none => rfl
      | some y => rfl
     have HU:=Aside0.mk hu2
     have HC:=Aside0.mk (uw.cut_yes 34 a0 r hr)
     have hrl:Aside0 ((a0.extract 1 a0.size).data.toList = r):=⟨by rw [Base.extract_rest,hr];rfl⟩
     have hrn:r.length ≤ a0.size:=by rw [← u2k,hr];simp
     clear hu hu2 hr
     go_enter Tryz.func144,Tryz.ntmps144
     go_wp2_with (go_at_call 117;refine (u1u.calls _ _ _ _ _ HC.out).mono ?_;rintro e W1 ⟨rfl,⟨nd,rfl⟩⟩)
     go_loopg [5,7] (r.length) (fun kq v5 v7 wr => ∃ (x:ByteArray) (l acc:List UInt8),v5 = .string x ∧ Aside0 (x.data.toList = l ∧ uw.out (Base.unqL l acc) = (r1,r2,r3) ∧ Kd.R (Kd.int .u8) 5 wr w.heap.size (fun _ => True) v7 (uw.nats acc)) ∧ l.length ≤ kq ∧ acc.length + l.length ≤ r.length ∧ Aside0 (Below w.heap.size w wr))
     case atStart => exact ⟨_,r,[],rfl,⟨hrl.out,HU.out,Kd.R_nil _ _ _ _ _⟩,Nat.le_refl _,by simp,⟨ub (Below.refl _ _) nd⟩⟩
     case round =>
      obtain ⟨x,l,acc,rfl,HR,hk,hal,HB⟩:=hrel
      cases l with
      | nil =>
        have he:x.toList.isEmpty = true:=by rw [ByteArray.toList_eq,HR.out.1];rfl
        have hfin:Aside0 (r1 = ⟨#[]⟩ ∧ r2 = ⟨#[]⟩ ∧ r3 = 5):=⟨by
         have h5:=HR.out.2.1
         rw [Base.unqL_nil] at h5
         obtain ⟨h6,h7⟩:=Prod.mk.inj h5
         obtain ⟨h8,h9⟩:=Prod.mk.inj h7
         exact ⟨h6.symm,h8.symm,h9.symm⟩⟩
        go_wp2
        go_ret3
        exact ⟨by rw [hfin.out.1,hfin.out.2.1,hfin.out.2.2];rfl,HB.out⟩
      | cons c q =>
        obtain ⟨hp,hc,hx2,hxs,he⟩:=uw.head x c q HR.out.1
        have HX2:=Aside0.mk hx2
        have HXS:=Aside0.mk hxs
        have hx1:1 ≤ x.size:=by omega
        clear hx2 hxs
        have hcz:=uw.byte_is c
        obtain ⟨z,hzc⟩:∃ z:Int,Aside0 ((c.toNat:Int) = z):=⟨_,⟨rfl⟩⟩
        rw [hzc.out] at hc hcz
        by_cases h34:c = 34
        · have hz:(z == 34) = true:=by simpa using hcz.1.2 h34
          have hcv:=own_string (P:=Tryz.prog) (src:=22) (dst:=9) (e:=5) (xs:=uw.nats acc) Tryz.underlying22 Tryz.underlying5 Tryz.underlying9 (Kd.own_of_R HR.out.2.2)
          rw [uw.str_of] at hcv
          have hfin:Aside0 (r1 = Base.ofL acc ∧ r2 = Base.ofL q ∧ r3 = 0):=⟨by
           have h5:=HR.out.2.1
           rw [h34,Base.unqL_end] at h5
           obtain ⟨h6,h7⟩:=Prod.mk.inj h5
           obtain ⟨h8,h9⟩:=Prod.mk.inj h7
           exact ⟨h6.symm,h8.symm,h9.symm⟩⟩
          have hrest:Aside0 (x.extract 1 x.size = Base.ofL q):=⟨Base.ext_data (by rw [HX2.out,Base.ofL_data])⟩
          go_wp2
          go_ret3
          exact ⟨by rw [hfin.out.1,hfin.out.2.1,hfin.out.2.2,← hrest.out];rfl,HB.out⟩
        · have hb34:(z == 34) = false:=by
           have:¬ z = 34:=fun e => h34 (hcz.1.1 e)
           simpa using this
          obtain ⟨g1,rfl⟩:∃ g1,gk = g1 + 1:=⟨gk - 1,by simp at hk;omega⟩
          by_cases h92:c = 92
          · have hz:(z == 92) = true:=by simpa using hcz.2.2 h92
            cases q with
            | nil =>
              have he2:(x.extract 1 x.size).toList.isEmpty = true:=by rw [ByteArray.toList_eq,HX2.out];rfl
              have hfin:Aside0 (r1 = ⟨#[]⟩ ∧ r2 = ⟨#[]⟩ ∧ r3 = 5):=⟨by
               have h5:=HR.out.2.1
               rw [h92,Base.unqL_open] at h5
               obtain ⟨h6,h7⟩:=Prod.mk.inj h5
               obtain ⟨h8,h9⟩:=Prod.mk.inj h7
               exact ⟨h6.symm,h8.symm,h9.symm⟩⟩
              go_wp2
              go_ret3
              exact ⟨by rw [hfin.out.1,hfin.out.2.1,hfin.out.2.2];rfl,HB.out⟩
            | cons d q2 =>
              obtain ⟨hp2,hc2,hx22,hxs2,he2⟩:=uw.head (x.extract 1 x.size) d q2 HX2.out
              have HX22:=Aside0.mk hx22
              have HXS2:=Aside0.mk hxs2
              have hx12:1 ≤ (x.extract 1 x.size).size:=by omega
              have hx2s:2 ≤ x.size:=by
               have:=HXS.out
               simp at this
               omega
              have HX23:Aside0 (((x.extract 1 x.size).extract 1 (x.size - 1)).data.toList = q2):=⟨by
               have e1:(x.extract 1 x.size).size = x.size - 1:=by
                have h1:=HXS.out
                have h2:=HXS2.out
                simp at h1
                omega
               have h3:=HX22.out
               rw [e1] at h3
               exact h3⟩
              clear hx22 hxs2
              have hcz2:=uw.byte_is d
              obtain ⟨z2,hzd⟩:∃ z2:Int,Aside0 ((d.toNat:Int) = z2):=⟨_,⟨rfl⟩⟩
              rw [hzd.out] at hc2 hcz2
              by_cases hd:d = 34 ∨ d = 92
              · have hfin:Aside0 (uw.out (Base.unqL q2 (acc ++ [d])) = (r1,r2,r3)):=⟨by
                 have h5:=HR.out.2.1
                 rw [h92,Base.unqL_esc d q2 acc hd] at h5
                 exact h5⟩
                by_cases hd34:d = 34
                · have hz2:(z2 == 34) = true:=by simpa using hcz2.1.2 hd34
                  have hz2b:(z2 != 34) = false:=by simpa using hcz2.1.2 hd34
                  go_wp2_with fail
                  go_quiet (fail)
                  go_wp2_with (at_builtin;refine print_append_num (w0:=w) w.heap.size rfl (.tmp 47) (.tmp 49) 22 5 .u8 1 rfl Tryz.underlying22 uw.info (by decide) _ (uw.nats acc) z2 rfl rfl (by exact pw_own_below (Kd.own_of_R HR.out.2.2) (ub (Below.refl _ _) _)) (by exact ub HB.out _) ?_ ?_ ?_)
                  · have:=HB.out.size;simpa using this
                  · have h8:(uw.nats acc).length = acc.length:=by simp [uw.nats]
                    rw [h8];simp at hal;omega
                  · intro v1 w1 hown hB hg hat
                    have hR1:Kd.R (Kd.int .u8) 5 w1 w.heap.size (fun _ => True) v1 (uw.nats (acc ++ [d])):=by
                     have h9:uw.nats (acc ++ [d]) = uw.nats acc ++ [z2]:=by simp [uw.nats,hzd.out]
                     rw [h9]
                     have e9:∀ y:Int,(uw.nats acc ++ [y]).length = (uw.nats acc).length + 1:=fun y => by simp
                     refine Kd.R_of_own ?_ (fun _ _ => trivial)
                     rw [e9]
                     exact hown
                    have HR1:=Aside0.mk hR1
                    have HB1:=Aside0.mk hB
                    clear hown hg hat hB hR1
                    go_wp2
                    go_roundg g1
                    case rel => exact ⟨_,q2,acc ++ [d],rfl,⟨HX23.out,hfin.out,HR1.out⟩,by simp at hk;omega,by simp at hal ⊢;omega,HB1⟩
                    case measure => omega
                · have hz2:(z2 == 34) = false:=by
                   have:¬ z2 = 34:=fun e => hd34 (hcz2.1.1 e)
                   simpa using this
                  have hz3:(z2 == 92) = true:=by
                   have:d = 92:=by rcases hd with h | h;exact absurd h hd34;exact h
                   simpa using hcz2.2.2 this
                  have hz2b:(z2 != 34) = true:=by
                   have:¬ z2 = 34:=fun e => hd34 (hcz2.1.1 e)
                   simpa using this
                  have hz3b:(z2 != 92) = false:=by
                   have:d = 92:=by rcases hd with h | h;exact absurd h hd34;exact h
                   simpa using hcz2.2.2 this
                  go_wp2_with fail
                  go_quiet (fail)
                  go_wp2_with (at_builtin;refine print_append_num (w0:=w) w.heap.size rfl (.tmp 47) (.tmp 49) 22 5 .u8 1 rfl Tryz.underlying22 uw.info (by decide) _ (uw.nats acc) z2 rfl rfl (by exact pw_own_below (Kd.own_of_R HR.out.2.2) (ub (Below.refl _ _) _)) (by exact ub HB.out _) ?_ ?_ ?_)
                  · have:=HB.out.size;simpa using this
                  · have h8:(uw.nats acc).length = acc.length:=by simp [uw.nats]
                    rw [h8];simp at hal;omega
                  · intro v1 w1 hown hB hg hat
                    have hR1:Kd.R (Kd.int .u8) 5 w1 w.heap.size (fun _ => True) v1 (uw.nats (acc ++ [d])):=by
                     have h9:uw.nats (acc ++ [d]) = uw.nats acc ++ [z2]:=by simp [uw.nats,hzd.out]
                     rw [h9]
                     have e9:∀ y:Int,(uw.nats acc ++ [y]).length = (uw.nats acc).length + 1:=fun y => by simp
                     refine Kd.R_of_own ?_ (fun _ _ => trivial)
                     rw [e9]
                     exact hown
                    have HR1:=Aside0.mk hR1
                    have HB1:=Aside0.mk hB
                    clear hown hg hat hB hR1
                    go_wp2
                    go_roundg g1
                    case rel => exact ⟨_,q2,acc ++ [d],rfl,⟨HX23.out,hfin.out,HR1.out⟩,by simp at hk;omega,by simp at hal ⊢;omega,HB1⟩
                    case measure => omega
              · have hfin:Aside0 (r1 = ⟨#[]⟩ ∧ r2 = ⟨#[]⟩ ∧ r3 = 5):=⟨by
                 have h5:=HR.out.2.1
                 rw [h92,Base.unqL_bad d q2 acc hd] at h5
                 obtain ⟨h6,h7⟩:=Prod.mk.inj h5
                 obtain ⟨h8,h9⟩:=Prod.mk.inj h7
                 exact ⟨h6.symm,h8.symm,h9.symm⟩⟩
                have hz2:(z2 == 34) = false:=by
                 have:¬ z2 = 34:=fun e => hd (.inl (hcz2.1.1 e))
                 simpa using this
                have hz3:(z2 == 92) = false:=by
                 have:¬ z2 = 92:=fun e => hd (.inr (hcz2.2.1 e))
                 simpa using this
                have hz2b:(z2 != 34) = true:=by simpa using hz2
                have hz3b:(z2 != 92) = true:=by simpa using hz3
                go_wp2
                go_ret3
                exact ⟨by rw [hfin.out.1,hfin.out.2.1,hfin.out.2.2];rfl,HB.out⟩
          · have hb92:(z == 92) = false:=by
             have:¬ z = 92:=fun e => h92 (hcz.2.1 e)
             simpa using this
            have hfin:Aside0 (uw.out (Base.unqL q (acc ++ [c])) = (r1,r2,r3)):=⟨by
             have h5:=HR.out.2.1
             rw [Base.unqL_plain c q acc h34 h92] at h5
             exact h5⟩
            go_wp2_with (at_builtin;refine print_append_num (w0:=w) w.heap.size rfl (.tmp 47) (.tmp 49) 22 5 .u8 1 rfl Tryz.underlying22 uw.info (by decide) _ (uw.nats acc) z rfl rfl (by exact Kd.own_of_R HR.out.2.2) (by exact HB.out) ?_ ?_ ?_)
            · have:=HB.out.size;simpa using this
            · have h8:(uw.nats acc).length = acc.length:=by simp [uw.nats]
              rw [h8];simp at hal;omega
            · intro v1 w1 hown hB hg hat
              have hR1:Kd.R (Kd.int .u8) 5 w1 w.heap.size (fun _ => True) v1 (uw.nats (acc ++ [c])):=by
               have h9:uw.nats (acc ++ [c]) = uw.nats acc ++ [z]:=by simp [uw.nats,hzc.out]
               rw [h9]
               have e9:∀ y:Int,(uw.nats acc ++ [y]).length = (uw.nats acc).length + 1:=fun y => by simp
               refine Kd.R_of_own ?_ (fun _ _ => trivial)
               rw [e9]
               exact hown
              have HR1:=Aside0.mk hR1
              have HB1:=Aside0.mk hB
              clear hown hg hat hB hR1
              go_wp2
              go_roundg g1
              case rel => exact ⟨_,q,acc ++ [c],rfl,⟨HX2.out,hfin.out,HR1.out⟩,by simp at hk;omega,by simp at hal ⊢;omega,HB1⟩
              case measure => omega
   · have hcut:=uw.cut_no 34 a0 (fun r hr => hq ⟨r,hr⟩)
     have HC:=Aside0.mk hcut
     have hu2:Aside0 (r1 = ⟨#[]⟩ ∧ r2 = ⟨#[]⟩ ∧ r3 = 5):=⟨by
      unfold Base.unq at hu
      cases hl:a0.data.toList with
      | nil =>
        rw [hl] at hu
        obtain ⟨h6,h7⟩:=Prod.mk.inj hu
        obtain ⟨h8,h9⟩:=Prod.mk.inj h7
        exact ⟨h6.symm,h8.symm,h9.symm⟩
      | cons c q =>
        rw [hl] at hu
        have hc:¬ c = 34:=fun e => hq ⟨q,by rw [hl,e]⟩
        simp only [hc,if_false] at hu
        obtain ⟨h6,h7⟩:=Prod.mk.inj hu
        obtain ⟨h8,h9⟩:=Prod.mk.inj h7
        exact ⟨h6.symm,h8.symm,h9.symm⟩⟩
     clear hcut hu
     go_enter Tryz.func144,Tryz.ntmps144
     go_wp2_with (go_at_call 117;refine (u1u.calls _ _ _ _ _ HC.out).mono ?_;rintro e W1 ⟨rfl,⟨nd,rfl⟩⟩)
     refine wp_loop_rounds 1 ?_
     rw [rounds_succ]
     go_wp2
     go_ret3
     exact ⟨by rw [hu2.out.1,hu2.out.2.1,hu2.out.2.2];rfl,ub (Below.refl _ _) nd⟩
 · rw [if_neg hlim] at h
   exact absurd h (by simp)
set_option maxRecDepth 100000 in
set_option maxHeartbeats 1000000 in
theorem u1m.walk (w0 W:World) (g:Nat) (s:List UInt8) (hl:s.length ≤ 1000) (n:ByteArray) (r:List UInt8) (hn:Tx.nameP s = some (n,r)) (q:List UInt8) (hq:r = 61 :: q) (v:ByteArray) (t:List UInt8) (hv:Base.unq (Base.ofL q) = (v,Base.ofL t,0)) (hql:q.length ≤ 1000)
 (h:ua.St w0 W g s) :
 Calls Tryz.prog 122 #[.pointer (some ⟨g,0,none⟩)] W fun e W' => e = .returned (.agg #[.string n,.string v]) ∧ ua.St w0 W' g t ∧ u1v W W' g none:=by
 have HS:=Aside0.mk h
 have HN:=Aside0.mk hn
 have HG:=Aside0.mk h.lt
 have HU:Aside0 (uw.f (Base.ofL q) = some (v,Base.ofL t,0)):=⟨by
  unfold uw.f
  rw [if_pos (by rw [(Tx.cut_ofL q 0 (by omega)).2.2];omega),hv]⟩
 subst hq
 clear h hn hv
 go_enter Tryz.func122,Tryz.ntmps122
 go_wp2_with (first
  | (go_at_call 81;(with_reducible refine (u2p.calls_ok w0 _ g s (by omega) n (61 :: q) HN.out (by exact HS.out.one_more _)).mono ?_);rintro e W1 ⟨rfl,hs1,hk1⟩;have HS1:=Aside0.mk hs1;have HK1:=Aside0.mk hk1;have HL1:Aside0 (W.heap.size < W1.heap.size):=⟨by have:=hk1.1;simp at this;omega⟩;have B1:=Aside0.mk (ua.kept_at hk1 (by have:=HG.out;omega) (ua.new_at W _));clear hs1 hk1)
  | (go_at_call 82;(with_reducible refine (u1s.calls_ok w0 _ g 61 q (by exact HS1.out.one_more _)).mono ?_);rintro e W2 ⟨rfl,hs2,hk2⟩;have HS2:=Aside0.mk hs2;have HK2:=Aside0.mk hk2;have B2:=Aside0.mk (ua.kept_at hk2 (by have:=HG.out;omega) (ua.new_old B1.out _));have B3:=Aside0.mk (ua.kept_at hk2 (by have:=HG.out;have:=HL1.out;omega) (ua.new_at W1 _));obtain ⟨h0,f0⟩:=hs2.look;clear hs2 hk2)
  | (go_at_call 144;(with_reducible refine (uw.calls _ _ _ _ _ HU.out).mono ?_);rintro e W3 ⟨rfl,hb⟩;clear h0 f0;obtain ⟨h0,f0⟩:=(HS2.out.more hb).look;obtain ⟨a0,a1,a2,a3⟩:=ua.look2 (ua.below_at hb B2.out);obtain ⟨b0,b1,b2,b3⟩:=ua.look2 (ua.below_at hb B3.out);have HB:=Aside0.mk hb;clear hb;have n1:¬ W1.heap.size = g:=(by have:=HG.out;have:=HL1.out;omega);have n2:¬ W.heap.size = g:=(by have:=HG.out;omega);have n3:¬ W.heap.size = W1.heap.size:=(by have:=HL1.out;omega);have n4:¬ g = W1.heap.size:=fun e => n1 e.symm;have n5:¬ g = W.heap.size:=fun e => n2 e.symm;have n6:¬ W1.heap.size = W.heap.size:=fun e => n3 e.symm)
  | (go_at_call 83;(with_reducible refine (u2h.calls_ok _).mono ?_);rintro e W4 ⟨rfl,rfl⟩))
 refine bodyPost_ret (v:=.agg #[.string n,.string v]) (by simp [results,Tryz.results122,go_sem,n1,n2,n3,n4,n5,n6,a0,a1,a2,a3]) rfl ⟨rfl,?_,?_⟩
 · have hw:w0.heap.size ≤ W.heap.size:=HS.out.below.size
   have hw1:w0.heap.size ≤ W1.heap.size:=HS1.out.below.size
   exact ((((HS2.out.more HB.out).far hw1 n4 _).set t).far hw n5 _).far hw n5 _
 · have k4:u1v W W4 g none:=ua.keep_then (ua.keep_from HK1.out) (ua.keep_then (ua.keep_from HK2.out) (u1v.of_below HB.out g none))
   exact ua.keep_new (ua.keep_new ((ua.keep_new k4 (by have:=HL1.out;show W.heap.size ≤ W1.heap.size;omega) _).set_ 0 _) (Nat.le_refl _) _) (Nat.le_refl _) _
theorem u1m.quoted (q:List UInt8):(∀ v t,Tx.quotedP q = some (v,t) → Base.unq (Base.ofL q) = (v,Base.ofL t,0)) ∧ (Tx.quotedP q = none → Base.unq (Base.ofL q) = (⟨#[]⟩,⟨#[]⟩,5)):=by
 unfold Tx.quotedP Base.unq
 rw [Base.ofL_data]
 cases q with
 | nil => exact ⟨fun v t h => (by cases h),fun _ => rfl⟩
 | cons c r =>
   simp only
   by_cases hc:c = 34
   · rw [if_pos hc,if_pos hc]
     cases Base.unqL r [] with
     | none => exact ⟨fun v t h => (by cases h),fun _ => rfl⟩
     | some p =>
       refine ⟨fun v t h => ?_,fun h => by cases h⟩
       obtain ⟨rfl,rfl⟩:=Prod.mk.inj (Option.some.inj h)
       rfl
   · rw [if_neg hc,if_neg hc]
     exact ⟨fun v t h => (by cases h),fun _ => rfl⟩
theorem u1m.name_rest {s r:List UInt8} {n:ByteArray} (h:Tx.nameP s = some (n,r)):r.length ≤ s.length:=by
 unfold Tx.nameP at h
 split at h
 · obtain ⟨_,rfl⟩:=Prod.mk.inj (Option.some.inj h)
   have h1:=congrArg List.length (List.takeWhile_append_dropWhile (p:=Tx.wordC) (l:=s))
   rw [List.length_append] at h1
   omega
 · cases h
theorem u1m.expect_is (c:UInt8) (s:List UInt8):(∀ q,Tx.expectP [c] s = some q → s = c :: q) ∧ (Tx.expectP [c] s = none → ∀ r,s ≠ c :: r):=by
 unfold Tx.expectP
 cases s with
 | nil => exact ⟨fun q h => by simp [List.isPrefixOf] at h,fun _ r h => by cases h⟩
 | cons d t =>
   by_cases hc:c = d
   · subst hc
     exact ⟨fun q h => by simp [List.isPrefixOf] at h;rw [h],fun h => by simp [List.isPrefixOf] at h⟩
   · exact ⟨fun q h => by simp [List.isPrefixOf,hc] at h,fun _ r h => hc (List.cons.inj h).1.symm⟩
theorem u1m.calls_ok (w0 W:World) (g:Nat) (s:List UInt8) (hl:s.length ≤ 1000) (x:Tx.Lb) (t:List UInt8) (hx:Tx.labelP s = some (x,t)) (h:ua.St w0 W g s) :
 Calls Tryz.prog 122 #[.pointer (some ⟨g,0,none⟩)] W fun e W' => e = .returned (.agg #[.string x.f0,.string x.f1]) ∧ ua.St w0 W' g t ∧ u1v W W' g none:=by
 unfold Tx.labelP at hx
 obtain ⟨⟨n,r⟩,hn,hx⟩:=Option.bind_eq_some_iff.1 hx
 obtain ⟨⟨v,t'⟩,hv,hx⟩:=Option.map_eq_some_iff.1 hx
 obtain ⟨rfl,rfl⟩:=Prod.mk.inj hx
 obtain ⟨q,hq,hv⟩:=Option.bind_eq_some_iff.1 hv
 have hr:=u1m.name_rest hn
 have hq2:=(u1m.expect_is 61 r).1 q hq
 subst hq2
 rw [List.length_cons] at hr
 exact u1m.walk w0 W g s hl n _ hn q rfl v t' ((u1m.quoted q).1 v t' hv) (by omega) h
set_option maxRecDepth 100000 in
set_option maxHeartbeats 1000000 in
theorem u1m.calls_no (w0 W:World) (g:Nat) (s:List UInt8) (hl:s.length ≤ 1000) (hx:Tx.labelP s = none) (h:ua.St w0 W g s) :
 Calls Tryz.prog 122 #[.pointer (some ⟨g,0,none⟩)] W fun e W' => e = .panicked (u2q.chain 280) ∧ Below w0.heap.size w0 W':=by
 have HS:=Aside0.mk h
 have HG:=Aside0.mk h.lt
 have HX:=Aside0.mk hx
 clear h hx
 cases hn:Tx.nameP s with
 | none =>
   have HN:=Aside0.mk hn
   clear hn
   go_enter Tryz.func122,Tryz.ntmps122
   go_wp2_with (go_at_call 81;(with_reducible refine (u2p.calls_no w0 _ g s (by omega) HN.out (by exact HS.out.one_more _)).mono ?_);rintro e W1 ⟨rfl,hb1⟩)
   exact ⟨rfl,rfl,hb1⟩
 | some p =>
   obtain ⟨n,r⟩:=p
   have hr:=u1m.name_rest hn
   have HN:=Aside0.mk hn
   cases hq:Tx.expectP [61] r with
   | none =>
     have HQ:=Aside0.mk ((u1m.expect_is 61 r).2 hq)
     clear hn hq
     go_enter Tryz.func122,Tryz.ntmps122
     go_wp2_with (first
      | (go_at_call 81;(with_reducible refine (u2p.calls_ok w0 _ g s (by omega) n r HN.out (by exact HS.out.one_more _)).mono ?_);rintro e W1 ⟨rfl,hs1,hk1⟩;have HS1:=Aside0.mk hs1;clear hs1 hk1)
      | (go_at_call 82;(with_reducible refine (u1s.calls_no w0 _ g 61 r HQ.out (by exact HS1.out.one_more _)).mono ?_);rintro e W2 ⟨rfl,hb2⟩))
     exact ⟨rfl,rfl,hb2⟩
   | some q =>
     have hq2:=(u1m.expect_is 61 r).1 q hq
     subst hq2
     have hv:Tx.quotedP q = none:=by
      have h1:=HX.out
      unfold Tx.labelP Tx.valP at h1
      rw [hn] at h1
      simp only [Option.bind_some] at h1
      rw [hq] at h1
      simpa using h1
     rw [List.length_cons] at hr
     have HU:Aside0 (uw.f (Base.ofL q) = some (⟨#[]⟩,⟨#[]⟩,5)):=⟨by
      unfold uw.f
      rw [if_pos (by rw [(Tx.cut_ofL q 0 (by omega)).2.2];omega),(u1m.quoted q).2 hv]⟩
     clear hn hq hv
     go_enter Tryz.func122,Tryz.ntmps122
     go_wp2_with (first
      | (go_at_call 81;(with_reducible refine (u2p.calls_ok w0 _ g s (by omega) n (61 :: q) HN.out (by exact HS.out.one_more _)).mono ?_);rintro e W1 ⟨rfl,hs1,hk1⟩;have HS1:=Aside0.mk hs1;clear hs1 hk1)
      | (go_at_call 82;(with_reducible refine (u1s.calls_ok w0 _ g 61 q (by exact HS1.out.one_more _)).mono ?_);rintro e W2 ⟨rfl,hs2,hk2⟩;have HS2:=Aside0.mk hs2;obtain ⟨h0,f0⟩:=hs2.look;clear hs2 hk2)
      | (go_at_call 144;(with_reducible refine (uw.calls _ _ _ _ _ HU.out).mono ?_);rintro e W3 ⟨rfl,hb⟩;have HB:=Aside0.mk hb;clear hb)
      | (go_at_call 83;(with_reducible refine (u2h.calls_no _).mono ?_);rintro e W4 ⟨rfl,rfl⟩))
     exact ⟨rfl,rfl,(HS2.out.more HB.out).below⟩
theorem ux.neg_is {n:Int} (h0:0 ≤ n) (h:n ≤ 9223372036854775808):wrap64 (IntKind.u64.wrap (-n)) = -n:=by
 unfold wrap64 IntKind.wrap
 simp only [IntKind.signed,IntKind.bits,Bool.false_and,Bool.false_eq_true,if_false]
 omega
theorem ux.pos_is {n:Int} (h0:0 ≤ n) (h:n < 9223372036854775808):wrap64 n = n:=by
 unfold wrap64
 omega
theorem ux.num_ge (base:Int) (hb:base = 10 ∨ base = 16):∀ (d:List UInt8) (m n:Int),(∀ c ∈ d,Tx.hexC c = true) → 0 ≤ m → Tx.numL base d m = some n → 0 ≤ n
 | [],m,n,_,hm,h => by
   cases Option.some.inj h
   exact hm
 | c :: d,m,n,hd,hm,h => by
   unfold Tx.numL at h
   split at h
   · refine ux.num_ge base hb d _ n (fun x hx => hd x (List.mem_cons_of_mem _ hx)) ?_ h
     have h1:=hd c (List.mem_cons_self ..)
     unfold Tx.hexC Tx.decC at h1
     simp only [Bool.or_eq_true,Bool.and_eq_true,decide_eq_true_eq] at h1
     have h2:0 ≤ Tx.digV c:=by
      unfold Tx.digV
      split <;> omega
     rcases hb with rfl | rfl <;> omega
   · cases h
theorem ux.peek_at (w0 W:World) (g:Nat) (s:List UInt8) (z:Int) (hz:ua.pk s = z) (h:ua.St w0 W g s):Calls Tryz.prog 47 #[.pointer (some ⟨g,0,none⟩)] W fun e W' => e = .returned (.int .u8 z) ∧ u1b W W':=by
 subst hz
 exact ua.calls w0 W g s h
set_option maxRecDepth 100000 in
set_option maxHeartbeats 1000000 in
theorem ux.minus_ok (w0 W:World) (g:Nat) (s:List UInt8) (hl:s.length ≤ 1000) (q:List UInt8) (hs:s = 45 :: q) (n:Int) (r:List UInt8) (hv:Tx.valueD false 19 10 q = some (n,r)) (hle:n ≤ 9223372036854775808) (h:ua.St w0 W g s) :
 Calls Tryz.prog 99 #[.pointer (some ⟨g,0,none⟩)] W fun e W' => e = .returned (.int .i64 (-n)) ∧ ua.St w0 W' g r ∧ u1v W W' g none:=by
 subst hs
 have hql:q.length ≤ 1000:=by rw [List.length_cons] at hl;omega
 have HP:Aside0 (ua.pk (45 :: q) = 45):=⟨rfl⟩
 have HS:=Aside0.mk h
 clear h
 unfold Tx.valueD at hv
 obtain ⟨⟨d,r'⟩,hd,hv⟩:=Option.bind_eq_some_iff.1 hv
 obtain ⟨n',hn,hv⟩:=Option.map_eq_some_iff.1 hv
 obtain ⟨rfl,rfl⟩:=Prod.mk.inj hv
 simp only at hn
 obtain ⟨ha,hdl,hrl⟩:=u1j.dig_is hd
 have h0:=ux.num_ge 10 (Or.inl rfl) d 0 n' ha (Int.le_refl 0) hn
 have HA:=Aside0.mk ha
 have HD:=Aside0.mk hd
 have HN:=Aside0.mk hn
 have HT:Aside0 (decide (n' ≤ 9223372036854775808) = true):=⟨decide_eq_true hle⟩
 have HW:=Aside0.mk (ux.neg_is h0 hle)
 clear ha hd hn hv hle h0
 go_enter Tryz.func99,Tryz.ntmps99
 go_wp2_with (first
  | (go_at_call 47;(with_reducible refine (ux.peek_at w0 _ g (45 :: q) 45 HP.out (by exact HS.out)).mono ?_);rintro e W0 ⟨rfl,⟨nd,rfl⟩⟩)
  | (go_at_call 82;(with_reducible refine (u1s.calls_ok w0 _ g 45 q (by exact HS.out.drew nd)).mono ?_);rintro e W1 ⟨rfl,hs1,hk1⟩;have HS1:=Aside0.mk hs1;have HK1:=Aside0.mk hk1;clear hs1 hk1)
  | (go_at_call 126;(with_reducible refine (u1o.ok_at 19 19 rfl w0 _ g false q (by omega) (by omega) d r' HD.out (by exact HS1.out)).mono ?_);rintro e W2 ⟨rfl,hs2,hk2⟩;have HS2:=Aside0.mk hs2;have HK2:=Aside0.mk hk2;clear hs2 hk2)
  | (go_at_call 125;(with_reducible refine (u1e.says d 10 (by omega) (by omega) HA.out n' HN.out _).mono ?_);rintro e W3 ⟨rfl,hb3⟩;have HB3:=Aside0.mk hb3;clear hb3)
  | (go_at_call 83;(with_reducible refine (u2h.calls_yes _ HT.out _).mono ?_);rintro e W4 ⟨rfl,rfl⟩))
 go_ret
 exact ⟨by first | rfl | (rw [HW.out];rfl),HS2.out.more HB3.out,ua.keep_then (ua.keep_then (u1v.of_below (ub (Below.refl _ _) nd) g none) HK1.out) (ua.keep_then HK2.out (u1v.of_below HB3.out g none))⟩
set_option maxRecDepth 100000 in
set_option maxHeartbeats 1000000 in
theorem ux.minus_big (w0 W:World) (g:Nat) (s:List UInt8) (hl:s.length ≤ 1000) (q:List UInt8) (hs:s = 45 :: q) (n:Int) (r:List UInt8) (hv:Tx.valueD false 19 10 q = some (n,r)) (hle:¬ n ≤ 9223372036854775808) (h:ua.St w0 W g s) :
 Calls Tryz.prog 99 #[.pointer (some ⟨g,0,none⟩)] W fun e W' => e = .panicked (u2q.chain 280) ∧ Below w0.heap.size w0 W':=by
 subst hs
 have hql:q.length ≤ 1000:=by rw [List.length_cons] at hl;omega
 have HP:Aside0 (ua.pk (45 :: q) = 45):=⟨rfl⟩
 have HS:=Aside0.mk h
 clear h
 unfold Tx.valueD at hv
 obtain ⟨⟨d,r'⟩,hd,hv⟩:=Option.bind_eq_some_iff.1 hv
 obtain ⟨n',hn,hv⟩:=Option.map_eq_some_iff.1 hv
 obtain ⟨rfl,rfl⟩:=Prod.mk.inj hv
 simp only at hn
 obtain ⟨ha,hdl,hrl⟩:=u1j.dig_is hd
 have HA:=Aside0.mk ha
 have HD:=Aside0.mk hd
 have HN:=Aside0.mk hn
 have HT:Aside0 (decide (n' ≤ 9223372036854775808) = false):=⟨decide_eq_false hle⟩
 clear ha hd hn hv hle
 go_enter Tryz.func99,Tryz.ntmps99
 go_wp2_with (first
  | (go_at_call 47;(with_reducible refine (ux.peek_at w0 _ g (45 :: q) 45 HP.out (by exact HS.out)).mono ?_);rintro e W0 ⟨rfl,⟨nd,rfl⟩⟩)
  | (go_at_call 82;(with_reducible refine (u1s.calls_ok w0 _ g 45 q (by exact HS.out.drew nd)).mono ?_);rintro e W1 ⟨rfl,hs1,hk1⟩;have HS1:=Aside0.mk hs1;have HK1:=Aside0.mk hk1;clear hs1 hk1)
  | (go_at_call 126;(with_reducible refine (u1o.ok_at 19 19 rfl w0 _ g false q (by omega) (by omega) d r' HD.out (by exact HS1.out)).mono ?_);rintro e W2 ⟨rfl,hs2,hk2⟩;have HS2:=Aside0.mk hs2;have HK2:=Aside0.mk hk2;clear hs2 hk2)
  | (go_at_call 125;(with_reducible refine (u1e.says d 10 (by omega) (by omega) HA.out n' HN.out _).mono ?_);rintro e W3 ⟨rfl,hb3⟩;have HB3:=Aside0.mk hb3;clear hb3)
  | (go_at_call 83;(with_reducible refine (u2h.calls_not _ HT.out _).mono ?_);rintro e W4 ⟨rfl,rfl⟩))
 exact ⟨rfl,rfl,(HS2.out.more HB3.out).below⟩
set_option maxRecDepth 100000 in
set_option maxHeartbeats 1000000 in
theorem ux.minus_no (w0 W:World) (g:Nat) (s:List UInt8) (hl:s.length ≤ 1000) (q:List UInt8) (hs:s = 45 :: q) (hv:Tx.valueD false 19 10 q = none) (h:ua.St w0 W g s) :
 Calls Tryz.prog 99 #[.pointer (some ⟨g,0,none⟩)] W fun e W' => e = .panicked (u2q.chain 280) ∧ Below w0.heap.size w0 W':=by
 subst hs
 have hql:q.length ≤ 1000:=by rw [List.length_cons] at hl;omega
 have HP:Aside0 (ua.pk (45 :: q) = 45):=⟨rfl⟩
 have HS:=Aside0.mk h
 clear h
 unfold Tx.valueD at hv
 cases hd:Tx.digitsP false 19 q with
 | none =>
   have HD:=Aside0.mk hd
   clear hd hv
   go_enter Tryz.func99,Tryz.ntmps99
   go_wp2_with (first
   | (go_at_call 47;(with_reducible refine (ux.peek_at w0 _ g (45 :: q) 45 HP.out (by exact HS.out)).mono ?_);rintro e W0 ⟨rfl,⟨nd,rfl⟩⟩)
   | (go_at_call 82;(with_reducible refine (u1s.calls_ok w0 _ g 45 q (by exact HS.out.drew nd)).mono ?_);rintro e W1 ⟨rfl,hs1,hk1⟩;have HS1:=Aside0.mk hs1;have HK1:=Aside0.mk hk1;clear hs1 hk1)
   | (go_at_call 126;(with_reducible refine (u1o.no_at 19 19 rfl w0 _ g false q (by omega) (by omega) HD.out (by exact HS1.out)).mono ?_);rintro e W2 ⟨rfl,hb2⟩))
   exact ⟨rfl,rfl,hb2⟩
 | some p =>
   obtain ⟨d,r⟩:=p
   rw [hd] at hv
   have hn:Tx.numL 10 d 0 = none:=by simpa using hv
   obtain ⟨ha,hdl,hrl⟩:=u1j.dig_is hd
   have HA:=Aside0.mk ha
   have HD:=Aside0.mk hd
   have HN:=Aside0.mk hn
   clear ha hd hn hv
   go_enter Tryz.func99,Tryz.ntmps99
   go_wp2_with (first
   | (go_at_call 47;(with_reducible refine (ux.peek_at w0 _ g (45 :: q) 45 HP.out (by exact HS.out)).mono ?_);rintro e W0 ⟨rfl,⟨nd,rfl⟩⟩)
   | (go_at_call 82;(with_reducible refine (u1s.calls_ok w0 _ g 45 q (by exact HS.out.drew nd)).mono ?_);rintro e W1 ⟨rfl,hs1,hk1⟩;have HS1:=Aside0.mk hs1;have HK1:=Aside0.mk hk1;clear hs1 hk1)
   | (go_at_call 126;(with_reducible refine (u1o.ok_at 19 19 rfl w0 _ g false q (by omega) (by omega) d r HD.out (by exact HS1.out)).mono ?_);rintro e W2 ⟨rfl,hs2,hk2⟩;have HS2:=Aside0.mk hs2;have HK2:=Aside0.mk hk2;clear hs2 hk2)
   | (go_at_call 125;(with_reducible refine (u1e.says_no d 10 (by omega) (by omega) HA.out HN.out _).mono ?_);rintro e W3 ⟨rfl,hb3⟩))
   exact ⟨rfl,rfl,(HS2.out.more hb3).below⟩
set_option maxRecDepth 100000 in
set_option maxHeartbeats 1000000 in
theorem ux.plus_ok (w0 W:World) (g:Nat) (s:List UInt8) (hl:s.length ≤ 1000) (hs:∀ q,s ≠ 45 :: q) (n:Int) (r:List UInt8) (hv:Tx.valueD false 19 10 s = some (n,r)) (hle:n < 9223372036854775808) (h:ua.St w0 W g s) :
 Calls Tryz.prog 99 #[.pointer (some ⟨g,0,none⟩)] W fun e W' => e = .returned (.int .i64 (n)) ∧ ua.St w0 W' g r ∧ u1v W W' g none:=by
 obtain ⟨z,hz⟩:∃ z,ua.pk s = z:=⟨_,rfl⟩
 have hz45:¬ z = 45:=by
  intro e
  cases s with
  | nil => rw [← hz] at e;exact absurd e (by decide)
  | cons c q =>
    have e2:(c.toNat:Int) = 45:=hz.trans e
    exact hs q (by rw [show c = 45 from UInt8.toNat_inj.1 (by simpa using (by omega:c.toNat = 45))])
 have HP:=Aside0.mk hz
 have hzb:(z == 45) = false:=beq_eq_false_iff_ne.2 hz45
 clear hz hs
 have HS:=Aside0.mk h
 clear h
 unfold Tx.valueD at hv
 obtain ⟨⟨d,r'⟩,hd,hv⟩:=Option.bind_eq_some_iff.1 hv
 obtain ⟨n',hn,hv⟩:=Option.map_eq_some_iff.1 hv
 obtain ⟨rfl,rfl⟩:=Prod.mk.inj hv
 simp only at hn
 obtain ⟨ha,hdl,hrl⟩:=u1j.dig_is hd
 have h0:=ux.num_ge 10 (Or.inl rfl) d 0 n' ha (Int.le_refl 0) hn
 have HA:=Aside0.mk ha
 have HD:=Aside0.mk hd
 have HN:=Aside0.mk hn
 have HT:Aside0 (decide (n' < 9223372036854775808) = true):=⟨decide_eq_true hle⟩
 have HW:=Aside0.mk (ux.pos_is h0 hle)
 clear ha hd hn hv hle h0
 go_enter Tryz.func99,Tryz.ntmps99
 go_wp2_with (first
  | (go_at_call 47;(with_reducible refine (ux.peek_at w0 _ g s z HP.out (by exact HS.out)).mono ?_);rintro e W0 ⟨rfl,⟨nd,rfl⟩⟩)
  | (go_at_call 126;(with_reducible refine (u1o.ok_at 19 19 rfl w0 _ g false s (by omega) (by omega) d r' HD.out (by exact HS.out.drew nd)).mono ?_);rintro e W2 ⟨rfl,hs2,hk2⟩;have HS2:=Aside0.mk hs2;have HK2:=Aside0.mk hk2;clear hs2 hk2)
  | (go_at_call 125;(with_reducible refine (u1e.says d 10 (by omega) (by omega) HA.out n' HN.out _).mono ?_);rintro e W3 ⟨rfl,hb3⟩;have HB3:=Aside0.mk hb3;clear hb3)
  | (go_at_call 83;(with_reducible refine (u2h.calls_yes _ HT.out _).mono ?_);rintro e W4 ⟨rfl,rfl⟩))
 go_ret
 exact ⟨by first | rfl | (rw [HW.out];rfl),HS2.out.more HB3.out,ua.keep_then (u1v.of_below (ub (Below.refl _ _) nd) g none) (ua.keep_then HK2.out (u1v.of_below HB3.out g none))⟩
set_option maxRecDepth 100000 in
set_option maxHeartbeats 1000000 in
theorem ux.plus_big (w0 W:World) (g:Nat) (s:List UInt8) (hl:s.length ≤ 1000) (hs:∀ q,s ≠ 45 :: q) (n:Int) (r:List UInt8) (hv:Tx.valueD false 19 10 s = some (n,r)) (hle:¬ n < 9223372036854775808) (h:ua.St w0 W g s) :
 Calls Tryz.prog 99 #[.pointer (some ⟨g,0,none⟩)] W fun e W' => e = .panicked (u2q.chain 280) ∧ Below w0.heap.size w0 W':=by
 obtain ⟨z,hz⟩:∃ z,ua.pk s = z:=⟨_,rfl⟩
 have hz45:¬ z = 45:=by
  intro e
  cases s with
  | nil => rw [← hz] at e;exact absurd e (by decide)
  | cons c q =>
    have e2:(c.toNat:Int) = 45:=hz.trans e
    exact hs q (by rw [show c = 45 from UInt8.toNat_inj.1 (by simpa using (by omega:c.toNat = 45))])
 have HP:=Aside0.mk hz
 have hzb:(z == 45) = false:=beq_eq_false_iff_ne.2 hz45
 clear hz hs
 have HS:=Aside0.mk h
 clear h
 unfold Tx.valueD at hv
 obtain ⟨⟨d,r'⟩,hd,hv⟩:=Option.bind_eq_some_iff.1 hv
 obtain ⟨n',hn,hv⟩:=Option.map_eq_some_iff.1 hv
 obtain ⟨rfl,rfl⟩:=Prod.mk.inj hv
 simp only at hn
 obtain ⟨ha,hdl,hrl⟩:=u1j.dig_is hd
 have HA:=Aside0.mk ha
 have HD:=Aside0.mk hd
 have HN:=Aside0.mk hn
 have HT:Aside0 (decide (n' < 9223372036854775808) = false):=⟨decide_eq_false hle⟩
 clear ha hd hn hv hle
 go_enter Tryz.func99,Tryz.ntmps99
 go_wp2_with (first
  | (go_at_call 47;(with_reducible refine (ux.peek_at w0 _ g s z HP.out (by exact HS.out)).mono ?_);rintro e W0 ⟨rfl,⟨nd,rfl⟩⟩)
  | (go_at_call 126;(with_reducible refine (u1o.ok_at 19 19 rfl w0 _ g false s (by omega) (by omega) d r' HD.out (by exact HS.out.drew nd)).mono ?_);rintro e W2 ⟨rfl,hs2,hk2⟩;have HS2:=Aside0.mk hs2;have HK2:=Aside0.mk hk2;clear hs2 hk2)
  | (go_at_call 125;(with_reducible refine (u1e.says d 10 (by omega) (by omega) HA.out n' HN.out _).mono ?_);rintro e W3 ⟨rfl,hb3⟩;have HB3:=Aside0.mk hb3;clear hb3)
  | (go_at_call 83;(with_reducible refine (u2h.calls_not _ HT.out _).mono ?_);rintro e W4 ⟨rfl,rfl⟩))
 exact ⟨rfl,rfl,(HS2.out.more HB3.out).below⟩
set_option maxRecDepth 100000 in
set_option maxHeartbeats 1000000 in
theorem ux.plus_no (w0 W:World) (g:Nat) (s:List UInt8) (hl:s.length ≤ 1000) (hs:∀ q,s ≠ 45 :: q) (hv:Tx.valueD false 19 10 s = none) (h:ua.St w0 W g s) :
 Calls Tryz.prog 99 #[.pointer (some ⟨g,0,none⟩)] W fun e W' => e = .panicked (u2q.chain 280) ∧ Below w0.heap.size w0 W':=by
 obtain ⟨z,hz⟩:∃ z,ua.pk s = z:=⟨_,rfl⟩
 have hz45:¬ z = 45:=by
  intro e
  cases s with
  | nil => rw [← hz] at e;exact absurd e (by decide)
  | cons c q =>
    have e2:(c.toNat:Int) = 45:=hz.trans e
    exact hs q (by rw [show c = 45 from UInt8.toNat_inj.1 (by simpa using (by omega:c.toNat = 45))])
 have HP:=Aside0.mk hz
 have hzb:(z == 45) = false:=beq_eq_false_iff_ne.2 hz45
 clear hz hs
 have HS:=Aside0.mk h
 clear h
 unfold Tx.valueD at hv
 cases hd:Tx.digitsP false 19 s with
 | none =>
   have HD:=Aside0.mk hd
   clear hd hv
   go_enter Tryz.func99,Tryz.ntmps99
   go_wp2_with (first
   | (go_at_call 47;(with_reducible refine (ux.peek_at w0 _ g s z HP.out (by exact HS.out)).mono ?_);rintro e W0 ⟨rfl,⟨nd,rfl⟩⟩)
   | (go_at_call 126;(with_reducible refine (u1o.no_at 19 19 rfl w0 _ g false s (by omega) (by omega) HD.out (by exact HS.out.drew nd)).mono ?_);rintro e W2 ⟨rfl,hb2⟩))
   exact ⟨rfl,rfl,hb2⟩
 | some p =>
   obtain ⟨d,r⟩:=p
   rw [hd] at hv
   have hn:Tx.numL 10 d 0 = none:=by simpa using hv
   obtain ⟨ha,hdl,hrl⟩:=u1j.dig_is hd
   have HA:=Aside0.mk ha
   have HD:=Aside0.mk hd
   have HN:=Aside0.mk hn
   clear ha hd hn hv
   go_enter Tryz.func99,Tryz.ntmps99
   go_wp2_with (first
   | (go_at_call 47;(with_reducible refine (ux.peek_at w0 _ g s z HP.out (by exact HS.out)).mono ?_);rintro e W0 ⟨rfl,⟨nd,rfl⟩⟩)
   | (go_at_call 126;(with_reducible refine (u1o.ok_at 19 19 rfl w0 _ g false s (by omega) (by omega) d r HD.out (by exact HS.out.drew nd)).mono ?_);rintro e W2 ⟨rfl,hs2,hk2⟩;have HS2:=Aside0.mk hs2;have HK2:=Aside0.mk hk2;clear hs2 hk2)
   | (go_at_call 125;(with_reducible refine (u1e.says_no d 10 (by omega) (by omega) HA.out HN.out _).mono ?_);rintro e W3 ⟨rfl,hb3⟩))
   exact ⟨rfl,rfl,(HS2.out.more hb3).below⟩
theorem ux.time_is (s:List UInt8):(∃ q,s = 45 :: q ∧ Tx.timeP s = (Tx.valueD false 19 10 q).bind fun p => if p.1 ≤ 9223372036854775808 then some (-p.1,p.2) else none) ∨ ((∀ q,s ≠ 45 :: q) ∧ Tx.timeP s = (Tx.valueD false 19 10 s).bind fun p => if p.1 < 9223372036854775808 then some p else none):=by
 by_cases h:∃ q,s = 45 :: q
 · obtain ⟨q,rfl⟩:=h
   exact Or.inl ⟨q,rfl,rfl⟩
 · refine Or.inr ⟨fun q e => h ⟨q,e⟩,?_⟩
   unfold Tx.timeP
   split
   · exact absurd ⟨_,rfl⟩ h
   · rfl
theorem ux.calls_ok (w0 W:World) (g:Nat) (s:List UInt8) (hl:s.length ≤ 1000) (t:Int) (r:List UInt8) (hv:Tx.timeP s = some (t,r)) (h:ua.St w0 W g s) :
 Calls Tryz.prog 99 #[.pointer (some ⟨g,0,none⟩)] W fun e W' => e = .returned (.int .i64 t) ∧ ua.St w0 W' g r ∧ u1v W W' g none:=by
 rcases ux.time_is s with ⟨q,hq,e⟩ | ⟨hq,e⟩
 · rw [e] at hv
   obtain ⟨⟨n,r'⟩,hd,hv⟩:=Option.bind_eq_some_iff.1 hv
   simp only at hv
   split at hv
   · rename_i hle
     obtain ⟨rfl,rfl⟩:=Prod.mk.inj (Option.some.inj hv)
     exact ux.minus_ok w0 W g s hl q hq n _ hd hle h
   · cases hv
 · rw [e] at hv
   obtain ⟨⟨n,r'⟩,hd,hv⟩:=Option.bind_eq_some_iff.1 hv
   simp only at hv
   split at hv
   · rename_i hle
     obtain ⟨rfl,rfl⟩:=Prod.mk.inj (Option.some.inj hv)
     exact ux.plus_ok w0 W g s hl hq _ _ hd hle h
   · cases hv
theorem ux.calls_no (w0 W:World) (g:Nat) (s:List UInt8) (hl:s.length ≤ 1000) (hv:Tx.timeP s = none) (h:ua.St w0 W g s) :
 Calls Tryz.prog 99 #[.pointer (some ⟨g,0,none⟩)] W fun e W' => e = .panicked (u2q.chain 280) ∧ Below w0.heap.size w0 W':=by
 rcases ux.time_is s with ⟨q,hq,e⟩ | ⟨hq,e⟩
 · rw [e] at hv
   cases hd:Tx.valueD false 19 10 q with
   | none => exact ux.minus_no w0 W g s hl q hq hd h
   | some p =>
     rw [hd] at hv
     exact ux.minus_big w0 W g s hl q hq p.1 p.2 hd (by simpa using hv) h
 · rw [e] at hv
   cases hd:Tx.valueD false 19 10 s with
   | none => exact ux.plus_no w0 W g s hl hq hd h
   | some p =>
     rw [hd] at hv
     exact ux.plus_big w0 W g s hl hq p.1 p.2 hd (by simpa using hv) h
theorem uk.infoL:(Tryz.prog.info? 66).map (fun i => (i.zero,i.size,i.bytes)) = some (some (.agg #[(.string ⟨#[]⟩),(.string ⟨#[]⟩)]),2,32):=by kernel_rfl
def uk.Out (w0 W:World) (g:Nat) (o:Option (List Tx.Lb × List UInt8)) (e:Ending) (W':World):Prop:=match o with
 | some (l,r) => ∃ v:Value,e = .returned v ∧ Kd.R k66 66 W' W.heap.size (fun k => k ≠ g) v l ∧ ua.St w0 W' g r ∧ u1v W W' g none
 | none => e = .panicked (u2q.chain 280) ∧ Below w0.heap.size w0 W'
theorem uk.out_some {w0 W:World} {g:Nat} {o:Option (List Tx.Lb × List UInt8)} {l:List Tx.Lb} {r:List UInt8} (ho:o = some (l,r)) {v:Value} {W':World} (h1:Kd.R k66 66 W' W.heap.size (fun k => k ≠ g) v l) (h2:ua.St w0 W' g r) (h3:u1v W W' g none):uk.Out w0 W g o (.returned v) W':=by
 subst ho
 exact ⟨v,rfl,h1,h2,h3⟩
theorem uk.out_none {w0 W:World} {g:Nat} {o:Option (List Tx.Lb × List UInt8)} (ho:o = none) {W':World} (h1:Below w0.heap.size w0 W'):uk.Out w0 W g o (.panicked (u2q.chain 280)) W':=by
 subst ho
 exact ⟨rfl,h1⟩
theorem uk.unq_rest:∀ (n:Nat) (l acc a q:List UInt8),l.length ≤ n → Base.unqL l acc = some (a,q) → q.length < l.length
 | 0,l,acc,a,q,hn,h => by
   cases l with
   | nil => rw [Base.unqL_nil] at h;cases h
   | cons c r => simp at hn
 | n + 1,l,acc,a,q,hn,h => by
   cases l with
   | nil => rw [Base.unqL_nil] at h;cases h
   | cons c r =>
     rw [List.length_cons] at hn ⊢
     by_cases h1:c = 34
     · subst h1
       rw [Base.unqL_end] at h
       obtain ⟨_,rfl⟩:=Prod.mk.inj (Option.some.inj h)
       omega
     · by_cases h2:c = 92
       · subst h2
         cases r with
         | nil => rw [Base.unqL_open] at h;cases h
         | cons d z =>
           by_cases h3:d = 34 ∨ d = 92
           · rw [Base.unqL_esc _ _ _ h3] at h
             have:=uk.unq_rest n z _ a q (by simp at hn;omega) h
             rw [List.length_cons]
             omega
           · rw [Base.unqL_bad _ _ _ h3] at h
             cases h
       · rw [Base.unqL_plain _ _ _ h1 h2] at h
         have:=uk.unq_rest n r _ a q (by omega) h
         omega
theorem uk.quoted_rest {q t:List UInt8} {v:ByteArray} (h:Tx.quotedP q = some (v,t)):t.length < q.length:=by
 unfold Tx.quotedP at h
 cases q with
 | nil => cases h
 | cons c r =>
   simp only at h
   split at h
   · obtain ⟨⟨a,z⟩,h1,h2⟩:=Option.map_eq_some_iff.1 h
     obtain ⟨_,rfl⟩:=Prod.mk.inj h2
     have:=uk.unq_rest _ r [] a z (Nat.le_refl _) h1
     rw [List.length_cons]
     simp only
     omega
   · cases h
theorem uk.label_rest {s r:List UInt8} {x:Tx.Lb} (h:Tx.labelP s = some (x,r)):r.length < s.length:=by
 unfold Tx.labelP at h
 obtain ⟨⟨n,q⟩,hn,h⟩:=Option.bind_eq_some_iff.1 h
 obtain ⟨⟨v,t⟩,hv,h⟩:=Option.map_eq_some_iff.1 h
 obtain ⟨_,rfl⟩:=Prod.mk.inj h
 obtain ⟨z,hz,hv⟩:=Option.bind_eq_some_iff.1 hv
 have h1:=u1m.name_rest hn
 have h2:=(u1m.expect_is 61 q).1 z hz
 rw [h2,List.length_cons] at h1
 have h3:=uk.quoted_rest hv
 show t.length < s.length
 omega
def uk.rest (k:Nat) (acc:List Tx.Lb) (s:List UInt8):Option (List Tx.Lb × List UInt8):=(Tx.labelsP k acc s).bind fun q => (Tx.expectP [125] q.2).map fun t => (q.1,t)
theorem uk.rest_comma (k:Nat) (acc:List Tx.Lb) (t:List UInt8):uk.rest (k + 1) acc (44 :: t) = if acc.length ≤ 8 then (Tx.labelP t).bind fun p => uk.rest k (acc ++ [p.1]) p.2 else none:=by
 unfold uk.rest
 conv => lhs;unfold Tx.labelsP
 simp only
 split
 · cases Tx.labelP t <;> rfl
 · rfl
theorem uk.rest_other (k:Nat) (acc:List Tx.Lb) (s:List UInt8) (h:∀ t,s ≠ 44 :: t):uk.rest (k + 1) acc s = (Tx.expectP [125] s).map fun t => (acc,t):=by
 unfold uk.rest
 conv => lhs;unfold Tx.labelsP
 split
 · exact absurd rfl (h _)
 · rfl
theorem uk.pk_ne (s:List UInt8) (c:UInt8) (hc:c.toNat ≠ 0) (h:∀ t,s ≠ c :: t):¬ ua.pk s = (c.toNat:Int):=by
 intro e
 cases s with
 | nil =>
   have e2:(0:Int) = c.toNat:=e
   omega
 | cons d t =>
   have e2:(d.toNat:Int) = c.toNat:=e
   exact h t (by rw [show d = c from UInt8.toNat_inj.1 (by omega)])
theorem uk.grown_keep {W W3 w1:World} {g:Nat} {v:Value} (hk:u1v W W3 g none) (hv:∀ b,v.ownBlock = some b → W.heap.size ≤ b) (hg:W3.grownBy w1 v.ownBlock):u1v W w1 g none :=
 ⟨Nat.le_trans hk.1 hg.size,fun i hi hne hr => (hg.block i (Nat.lt_of_lt_of_le hi hk.1) (fun e => by have:=hv i e.symm;omega)).trans (hk.2 i hi hne hr)⟩
theorem uk.grown_st {w0 W3 w1:World} {g:Nat} {s:List UInt8} {v:Value} (hs:ua.St w0 W3 g s) (hv:∀ b,v.ownBlock = some b → b ≠ g ∧ w0.heap.size ≤ b) (hg:W3.grownBy w1 v.ownBlock):ua.St w0 w1 g s :=
 hs.keep (hs.below.grown hg hs.below.size (fun k hk => (hv k hk).2)) (hg.block g hs.lt (fun e => (hv g e.symm).1 rfl))
structure uk.Own (W w0:World) (g:Nat) (v:Value):Prop where
 base:∀ b,v.ownBlock = some b → W.heap.size ≤ b
 far:∀ b,v.ownBlock = some b → b ≠ g ∧ w0.heap.size ≤ b
theorem uk.own_facts {w0 W W7:World} {g:Nat} {v:Value} {l:List Tx.Lb} (h:Kd.R k66 66 W7 W.heap.size (fun k => k ≠ g) v l) (hw:w0.heap.size ≤ W.heap.size):uk.Own W w0 g v :=
 ⟨fun b hb => Kd.R_base h b hb,fun b hb => ⟨h.1 b hb,Nat.le_trans hw (Kd.R_base h b hb)⟩⟩
set_option maxRecDepth 100000 in
set_option maxHeartbeats 2000000 in
theorem uk.calls (w0 W:World) (g:Nat) (s:List UInt8) (hl:s.length ≤ 1000) (h:ua.St w0 W g s) :
 Calls Tryz.prog 92 #[.pointer (some ⟨g,0,none⟩)] W fun e W' => uk.Out w0 W g (Tx.bracesP s) e W':=by
 have HS:=Aside0.mk h
 have HG:=Aside0.mk h.lt
 clear h
 cases hq:Tx.expectP [123] s with
 | none =>
   have HQ:=Aside0.mk ((u1m.expect_is 123 s).2 hq)
   have HO:Aside0 (Tx.bracesP s = none):=⟨by unfold Tx.bracesP;rw [hq];rfl⟩
   clear hq
   go_enter Tryz.func92,Tryz.ntmps92
   go_wp2_with (go_at_call 82;(with_reducible refine (u1s.calls_no w0 _ g 123 s HQ.out (by exact HS.out)).mono ?_);rintro e W1 ⟨rfl,hb1⟩)
   exact ⟨rfl,uk.out_none HO.out hb1⟩
 | some q =>
   have hs:=(u1m.expect_is 123 s).1 q hq
   cases hx:Tx.labelP q with
   | none =>
     have HO:Aside0 (Tx.bracesP s = none):=⟨by unfold Tx.bracesP;rw [hq];simp [hx]⟩
     subst hs
     have hql:q.length ≤ 1000:=by rw [List.length_cons] at hl;omega
     have HX:=Aside0.mk hx
     clear hq hx
     go_enter Tryz.func92,Tryz.ntmps92
     go_wp2_with (first
      | (go_at_call 82;(with_reducible refine (u1s.calls_ok w0 _ g 123 q (by exact HS.out)).mono ?_);rintro e W1 ⟨rfl,hs1,hk1⟩;have HS1:=Aside0.mk hs1;clear hs1 hk1)
      | (go_at_call 122;(with_reducible refine (u1m.calls_no w0 _ g q (by omega) HX.out (by exact HS1.out)).mono ?_);rintro e W2 ⟨rfl,hb2⟩))
     exact ⟨rfl,uk.out_none HO.out hb2⟩
   | some p =>
     obtain ⟨x,t⟩:=p
     have HO:Aside0 (Tx.bracesP s = uk.rest s.length [x] t):=⟨by unfold Tx.bracesP;rw [hq];simp [hx,uk.rest]⟩
     have htl:=uk.label_rest hx
     subst hs
     have hql:q.length + 1 ≤ 1000:=by rw [List.length_cons] at hl;omega
     have HX:=Aside0.mk hx
     clear hq hx hl
     rw [HO.out,List.length_cons]
     clear HO
     generalize HZ:uk.rest (q.length + 1) [x] t = o
     have HO:=Aside0.mk HZ
     clear HZ
     go_enter Tryz.func92,Tryz.ntmps92
     go_wp2_with (first
      | (go_at_call 82;(with_reducible refine (u1s.calls_ok w0 _ g 123 q (by exact HS.out)).mono ?_);rintro e W1 ⟨rfl,hs1,hk1⟩;have HS1:=Aside0.mk hs1;have HK1:=Aside0.mk hk1;clear hs1 hk1)
      | (go_at_call 122;(with_reducible refine (u1m.calls_ok w0 _ g q (by omega) x t HX.out (by exact HS1.out)).mono ?_);rintro e W2 ⟨rfl,hs2,hk2⟩;have HS2:=Aside0.mk hs2;have HK2:=Aside0.mk (ua.keep_then HK1.out hk2);clear hs2 hk2)
      | ((with_reducible refine u2u (N:=8) rfl ?_);refine Kd.R_lit k66 (w0:=W2) W.heap.size 66 ?hg (N:=8) ?hd (xs:=([x]:List Tx.Lb)) (inner:=[.string x.f0,.string x.f1]) (ok:=fun k => k ≠ g) (okp:=fun _ => False) ?hr ?hp (fun _ hk => hk.elim) ?hf (Below.refl _ _) HK2.out.1 (by simp) ?_;(case hd => rfl);(case hg => rfl);(case hr => first | (go_simp;done) | (go_simp;rfl));(case hp => exact (Reps.c2 (show Kd.M k66 _ _ _ x [.string x.f0,.string x.f1] from (k66_mkM _ _ _ x)) (Reps.none _ _)));(case hf => have h1:=HK2.out.1;have h2:=HG.out;omega);intro v3 w3 ho hb hg_ hnew_;have HR3:=Aside0.mk ho;have HK3:=Aside0.mk (ua.keep_then HK2.out (u1v.of_grown hg_ g));have HS3:=Aside0.mk (HS2.out.more ⟨hg_.os,hg_.tape,hg_.output,hg_.size,fun i hi => hg_.block i hi (by simp)⟩);clear ho hb hg_ hnew_))
     go_loopg [3] (q.length + 1) (fun kq v3 wr => ∃ (acc:List Tx.Lb) (s2:List UInt8),s2.length < kq ∧ s2.length ≤ 1000 ∧ Aside0 (uk.rest kq acc s2 = o) ∧ Aside0 (Kd.R k66 66 wr W.heap.size (fun k => k ≠ g) v3 acc) ∧ Aside0 (ua.St w0 wr g s2) ∧ Aside0 (u1v W wr g none))
     case atStart => exact ⟨[x],t,by omega,by omega,HO,HR3,HS3,HK3⟩
     case round =>
      clear HO HR3 HS3 HK3 HS1 HK1 HS2 HK2
      have HS0:=HS
      clear HS
      obtain ⟨acc,s2,hlk,hl2,HO,HR,HS,HK⟩:=hrel
      obtain ⟨A,c,e⟩:=Kd.R_slice HR.out
      subst e
      obtain ⟨k1,rfl⟩:∃ k1,gk = k1 + 1:=⟨gk - 1,by omega⟩
      by_cases hcm:∃ u,s2 = 44 :: u
      · obtain ⟨u,rfl⟩:=hcm
        rw [List.length_cons] at hlk hl2
        have HP:Aside0 (ua.pk (44 :: u) = 44):=⟨rfl⟩
        rw [uk.rest_comma] at HO
        by_cases h8:acc.length ≤ 8
        · have HT:Aside0 (decide ((acc.length:Int) ≤ 8) = true):=⟨decide_eq_true (by omega)⟩
          have HA8:=Aside0.mk h8
          rw [if_pos h8] at HO
          clear h8
          cases hy:Tx.labelP u with
          | none =>
            rw [hy] at HO
            have HY:=Aside0.mk hy
            clear hy
            go_wp2_with (first
             | (go_at_call 47;(with_reducible refine (ux.peek_at w0 _ g (44 :: u) 44 HP.out (by exact HS.out)).mono ?_);rintro e W4 ⟨rfl,⟨nd,rfl⟩⟩)
             | (go_at_call 82;(with_reducible refine (u1s.calls_ok w0 _ g 44 u (by exact HS.out.drew nd)).mono ?_);rintro e W5 ⟨rfl,hs5,hk5⟩;have HS5:=Aside0.mk hs5;have HK5:=Aside0.mk (ua.keep_then HK.out (ua.keep_then (u1v.of_below (ub (Below.refl _ _) nd) g none) hk5));have HR5:=Aside0.mk (Kd.R_keep (Kd.R_drewN HR.out nd) hk5 (fun _ hk => hk));clear hs5 hk5)
             | (go_at_call 83;(with_reducible refine (u2h.calls_yes _ HT.out _).mono ?_);rintro e W6 ⟨rfl,rfl⟩)
             | (go_at_call 122;(with_reducible refine (u1m.calls_no w0 _ g u (by omega) HY.out (by exact HS5.out)).mono ?_);rintro e W7 ⟨rfl,hb7⟩))
            exact ⟨rfl,uk.out_none HO.out.symm hb7⟩
          | some p =>
            obtain ⟨y,t2⟩:=p
            rw [hy] at HO
            have hyl:=uk.label_rest hy
            have HY:=Aside0.mk hy
            have HWB:Aside0 (w0.heap.size ≤ W.heap.size):=⟨HS0.out.below.size⟩
            clear hy
            go_wp2_with (first
             | (go_at_call 47;(with_reducible refine (ux.peek_at w0 _ g (44 :: u) 44 HP.out (by exact HS.out)).mono ?_);rintro e W4 ⟨rfl,⟨nd,rfl⟩⟩)
             | (go_at_call 82;(with_reducible refine (u1s.calls_ok w0 _ g 44 u (by exact HS.out.drew nd)).mono ?_);rintro e W5 ⟨rfl,hs5,hk5⟩;have HS5:=Aside0.mk hs5;have HK5:=Aside0.mk (ua.keep_then HK.out (ua.keep_then (u1v.of_below (ub (Below.refl _ _) nd) g none) hk5));have HR5:=Aside0.mk (Kd.R_keep (Kd.R_drewN HR.out nd) hk5 (fun _ hk => hk));clear hs5 hk5)
             | (go_at_call 83;(with_reducible refine (u2h.calls_yes _ HT.out _).mono ?_);rintro e W6 ⟨rfl,rfl⟩)
             | (go_at_call 122;(with_reducible refine (u1m.calls_ok w0 _ g u (by omega) y t2 HY.out (by exact HS5.out)).mono ?_);rintro e W7 ⟨rfl,hs7,hk7⟩;have HS7:=Aside0.mk hs7;have HK7:=Aside0.mk (ua.keep_then HK5.out hk7);have HR7:=Aside0.mk (Kd.R_keep HR5.out hk7 (fun _ hk => hk));clear hs7 hk7)
             | (at_builtin;refine Kd.R_append k66 (w0:=W7) (W:=W7) W.heap.size rfl (.tmp 18) (.tmp 21) 50 66 (.agg #[(.string ⟨#[]⟩),(.string ⟨#[]⟩)]) 32 rfl Tryz.underlying50 uk.infoL rfl (by decide) (by decide) _ acc y [.string y.f0,.string y.f1] (fun k => k ≠ g) (fun _ => False) rfl rfl (k66_mkM _ _ _ y) (fun _ hk => hk.elim) ?hfr HR7.out (Below.refl _ _) HK7.out.1 ?hbig ?_;(case hfr => have h1:=HS7.out.lt;intro k hk;omega);(case hbig => have:=HA8.out;omega);intro v8 w8 ho hb hg8 hat;have HOW:=Aside0.mk (uk.own_facts HR7.out HWB.out);have HR8:=Aside0.mk ho;have HS8:=Aside0.mk (uk.grown_st HS7.out HOW.out.far hg8);have HK8:=Aside0.mk (uk.grown_keep HK7.out HOW.out.base hg8);clear ho hb hg8 hat))
            go_roundg k1
            case rel => exact ⟨acc ++ [y],t2,by omega,by omega,⟨HO.out⟩,HR8,HS8,HK8⟩
            case measure => omega
        · have HT:Aside0 (decide ((acc.length:Int) ≤ 8) = false):=⟨decide_eq_false (by omega)⟩
          rw [if_neg h8] at HO
          clear h8
          go_wp2_with (first
           | (go_at_call 47;(with_reducible refine (ux.peek_at w0 _ g (44 :: u) 44 HP.out (by exact HS.out)).mono ?_);rintro e W4 ⟨rfl,⟨nd,rfl⟩⟩)
           | (go_at_call 82;(with_reducible refine (u1s.calls_ok w0 _ g 44 u (by exact HS.out.drew nd)).mono ?_);rintro e W5 ⟨rfl,hs5,hk5⟩;have HS5:=Aside0.mk hs5;have HK5:=Aside0.mk (ua.keep_then HK.out (ua.keep_then (u1v.of_below (ub (Below.refl _ _) nd) g none) hk5));have HR5:=Aside0.mk (Kd.R_keep (Kd.R_drewN HR.out nd) hk5 (fun _ hk => hk));clear hs5 hk5)
           | (go_at_call 83;(with_reducible refine (u2h.calls_not _ HT.out _).mono ?_);rintro e W6 ⟨rfl,rfl⟩))
          exact ⟨rfl,uk.out_none HO.out.symm HS5.out.below⟩
      · obtain ⟨z,hz⟩:∃ z,ua.pk s2 = z:=⟨_,rfl⟩
        have hz44:¬ z = 44:=by
         rw [← hz]
         exact uk.pk_ne s2 44 (by decide) (fun u e => hcm ⟨u,e⟩)
        have HP:=Aside0.mk hz
        have hzb:(z == 44) = false:=beq_eq_false_iff_ne.2 hz44
        rw [uk.rest_other _ _ _ (fun u e => hcm ⟨u,e⟩)] at HO
        clear hz hcm
        cases he:Tx.expectP [125] s2 with
        | none =>
          rw [he] at HO
          have HE:=Aside0.mk ((u1m.expect_is 125 s2).2 he)
          clear he
          go_wp2_with (first
           | (go_at_call 47;(with_reducible refine (ux.peek_at w0 _ g s2 z HP.out (by exact HS.out)).mono ?_);rintro e W4 ⟨rfl,⟨nd,rfl⟩⟩)
           | (go_at_call 82;(with_reducible refine (u1s.calls_no w0 _ g 125 s2 HE.out (by exact HS.out.drew nd)).mono ?_);rintro e W5 ⟨rfl,hb5⟩))
          exact ⟨rfl,uk.out_none HO.out.symm hb5⟩
        | some r =>
          rw [he] at HO
          have he2:=(u1m.expect_is 125 s2).1 r he
          subst he2
          clear he
          go_wp2_with (first
           | (go_at_call 47;(with_reducible refine (ux.peek_at w0 _ g (125 :: r) z HP.out (by exact HS.out)).mono ?_);rintro e W4 ⟨rfl,⟨nd,rfl⟩⟩)
           | (go_at_call 82;(with_reducible refine (u1s.calls_ok w0 _ g 125 r (by exact HS.out.drew nd)).mono ?_);rintro e W5 ⟨rfl,hs5,hk5⟩;have HS5:=Aside0.mk hs5;have HK5:=Aside0.mk (ua.keep_then HK.out (ua.keep_then (u1v.of_below (ub (Below.refl _ _) nd) g none) hk5));have HR5:=Aside0.mk (Kd.R_keep (Kd.R_drewN HR.out nd) hk5 (fun _ hk => hk));clear hs5 hk5))
          go_ret
          exact uk.out_some HO.out.symm HR5.out HS5.out HK5.out
theorem u1h.nan (s:ByteArray) (w:World):Calls Tryz.prog 124 #[.string s] w fun e w' => e = .returned (.bool false) ∧ w' = w:=by
 go_enter Tryz.func124,Tryz.ntmps124
 go_wp2
 go_ret
 exact ⟨by simp,rfl⟩
def u1h.cmpB (a b:ByteArray):Int:=if Tx.less a b = true then -1 else if Tx.less b a = true then 1 else 0
theorem u1h.cmp_less (a b:ByteArray):decide (u1h.cmpB a b < 0) = Tx.less a b:=by
 unfold u1h.cmpB
 split
 · rename_i h
   rw [h]
   decide
 · rename_i h
   have h2:Tx.less a b = false:=by simpa using h
   rw [h2]
   split <;> decide
theorem u1h.less_is (a b:ByteArray):Tx.less a b = Op.bytesLess a.toList b.toList:=by
 unfold Tx.less
 rw [ByteArray.toList_eq,ByteArray.toList_eq]
theorem u1h.cmp (a b:ByteArray) (w:World):Calls Tryz.prog 95 #[.string a,.string b] w fun e w' => e = .returned (.int .i64 (u1h.cmpB a b)) ∧ w' = w:=by
 have HE:Aside0 (u1h.cmpB a b = if Op.bytesLess a.toList b.toList = true then -1 else if Op.bytesLess b.toList a.toList = true then 1 else 0):=⟨by unfold u1h.cmpB;rw [u1h.less_is,u1h.less_is]⟩
 rw [HE.out]
 clear HE
 cases h1:Op.bytesLess a.toList b.toList with
 | true =>
   go_enter Tryz.func95,Tryz.ntmps95
   go_wp2_with (go_at_call 124;refine (u1h.nan _ _).mono ?_;rintro e W1 ⟨rfl,rfl⟩)
   go_ret
   exact ⟨rfl,rfl⟩
 | false =>
   cases h2:Op.bytesLess b.toList a.toList with
   | true =>
     go_enter Tryz.func95,Tryz.ntmps95
     go_wp2_with (go_at_call 124;refine (u1h.nan _ _).mono ?_;rintro e W1 ⟨rfl,rfl⟩)
     go_ret
     exact ⟨rfl,rfl⟩
   | false =>
     go_enter Tryz.func95,Tryz.ntmps95
     go_wp2_with (go_at_call 124;refine (u1h.nan _ _).mono ?_;rintro e W1 ⟨rfl,rfl⟩)
     go_ret
     exact ⟨rfl,rfl⟩
theorem u1h.by_name (x y:Tx.Lb) (w:World):Calls Tryz.prog 94 #[.agg #[.string x.f0,.string x.f1],.agg #[.string y.f0,.string y.f1]] w fun e w' => e = .returned (.int .i64 (u1h.cmpB x.f0 y.f0)) ∧ ∃ q os',w' = Go.Sort.grow (w.drewN q) os':=by
 go_enter Tryz.func94,Tryz.ntmps94
 go_wp2_with (go_at_call 95;(with_reducible refine (u1h.cmp _ _ _).mono ?_);rintro e W1 ⟨rfl,rfl⟩)
 go_ret
 exact ⟨rfl,0,#[.cells #[.string x.f0,.string x.f1] 66,.cells #[.string y.f0,.string y.f1] 66],by rw [Go.Sort.alloc_eq_grow,Go.Sort.alloc_eq_grow,Go.Sort.grow_grow];rfl⟩
theorem u1h.cell_at {W:World} {gb c:Nat} {l:List Tx.Lb} {base:Nat} {ok:Nat → Prop} (h:Kd.R k66 66 W base ok (.slice (some ⟨gb,0,none⟩) l.length c) l) (i:Nat) (hi:i < l.length):W.cell? ⟨gb,i * 2,none⟩ = some (.string l[i].f0) ∧ W.cell? ⟨gb,i * 2 + 1,none⟩ = some (.string l[i].f1) ∧ gb < W.heap.size:=by
 obtain ⟨ad,ea,q0,q1⟩:=at_T66 (Kd.R_reads' h).2.2 (i:Int) (by omega) (by omega)
 obtain rfl:ad = ⟨gb,0,none⟩:=by injection ea with ea;exact ea.symm
 have hadd:(⟨gb,0,none⟩:Addr).add ((i:Int).toNat * 2) = ⟨gb,i * 2,none⟩:=by
  rw [show (i:Int).toNat = i from rfl]
  unfold Addr.add
  split
  · rename_i h0
    rw [h0]
  · simp
 rw [hadd] at q0 q1
 have hr:uq l (i:Int) = l[i]:=by simp [uq,List.getD_eq_getElem?_getD,hi]
 rw [hr] at q0 q1
 exact ⟨q0,q1,Kd.R_lt h gb (by simp [Value.ownBlock])⟩
theorem u1h.below_grow (W:World) (os:Array Obj):Below W.heap.size W (Go.Sort.grow W os):=⟨rfl,rfl,rfl,by simp,fun i hi => Go.Sort.heap_grow_old W os hi⟩
theorem u1h.thawed {W:World} {gb n c:Nat} {l:List Tx.Lb} {base:Nat} {ok:Nat → Prop} (h:Kd.R k66 66 W base ok (.slice (some ⟨gb,0,none⟩) n c) l):(∀ o,W.frozen? ⟨gb,o,none⟩ = false) ∧ True:=by
 obtain ⟨_,inner,hown,_⟩:=h
 rcases hown.2 with ⟨hv,_⟩ | ⟨g',cap',cur,hv,hb,hh,_⟩
 · cases hv
 injection hv with ha _ _
 injection ha with ha
 injection ha with hg'
 subst hg'
 exact ⟨fun o => uo hh o,trivial⟩
theorem u1h.set_elem {W:World} {gb c n:Nat} {l:List Tx.Lb} {base:Nat} {ok:Nat → Prop} (h:Kd.R k66 66 W base ok (.slice (some ⟨gb,0,none⟩) n c) l) (hn:l.length = n) (i:Nat) (hi:i < n) (x:Tx.Lb) :
 Kd.R k66 66 (W.setCells gb (i * 2) [.string x.f0,.string x.f1]) base ok (.slice (some ⟨gb,0,none⟩) n c) (l.set i x) ∧ W.grownBy (W.setCells gb (i * 2) [.string x.f0,.string x.f1]) (some gb):=by
 subst hn
 obtain ⟨q0,q1,_⟩:=u1h.cell_at h i hi
 have hs:=Kd.R_seg (okp:=fun k => ok k ∧ k ≠ gb) (x':=x) (seg:=[.string x.f0,.string x.f1]) (c:=[.string l[i].f0,.string l[i].f1]) (j:=0) h (i:Int) (by omega) (by omega) rfl (by
  intro j' u hu
  have e2:(i:Int).toNat * k66.sz = i * 2:=rfl
  rw [e2]
  match j',hu with
  | 0,hu => simp at hu;subst hu;exact q0
  | 1,hu => simp at hu;subst hu;exact q1) (by show 0 + 2 ≤ 2;omega) (k66_mkM _ _ _ _) (fun k hk => hk)
 exact hs
set_option maxRecDepth 100000 in
set_option maxHeartbeats 4000000 in
theorem u1h.insertion (W:World) (base:Nat) (ok:Nat → Prop) (gb c:Nat) (l:List Tx.Lb) (hn:l.length ≤ 19) (hR:Kd.R k66 66 W base ok (.slice (some ⟨gb,0,none⟩) l.length c) l) :
 Calls Tryz.prog 145 #[.slice (some ⟨gb,0,none⟩) l.length c,.int .i64 0,.int .i64 (l.length:Int),.func (.func 94) #[] #[]] W fun e W' => e = .returned (.tuple #[]) ∧ Kd.R k66 66 W' base ok (.slice (some ⟨gb,0,none⟩) l.length c) (Tx.sortP l) ∧ W.grownBy W' (some gb):=by
 have HR:=Aside0.mk hR
 have mixed:Tryz.prog.follows .mixedOrders = true:=by kernel_rfl
 clear hR
 go_enter Tryz.func145,Tryz.ntmps145
 go_wp2
 go_loopg [8] (l.length) (fun kq vi wr => ∃ (i:Nat) (cur:List Tx.Lb),vi = .int .i64 i ∧ 1 ≤ i ∧ i ≤ l.length + 1 ∧ l.length ≤ kq + i ∧ Aside0 (cur.length = l.length ∧ cur = Tx.sortedTo l i ++ l.drop i) ∧ Aside0 (Kd.R k66 66 wr base ok (.slice (some ⟨gb,0,none⟩) l.length c) cur) ∧ Aside0 (W.grownBy wr (some gb)))
 case atStart => exact ⟨1,l,by go_num,by omega,by omega,by omega,⟨rfl,by rcases l with _ | ⟨x,l⟩ <;> rfl⟩,HR,⟨World.grownBy.refl _ _⟩⟩
 case round =>
  clear HR
  obtain ⟨i,cur,rfl,hi1,hi2,hkk,HC,HR,HG⟩:=hrel
  by_cases hlt:i < l.length
  · go_wp2
    go_loopg [9] i (fun kj vj wq => ∃ (pa pb:List Tx.Lb) (cur2:List Tx.Lb),vj = .int .i64 (pa.length:Int) ∧ pa.length ≤ kj ∧ pa.length ≤ i ∧ cur2.length = l.length ∧ Aside0 (Tx.sortedTo l i = pa ++ pb ∧ (∀ y ∈ pb,Tx.less l[i].f0 y.f0 = true) ∧ cur2 = pa ++ l[i] :: (pb ++ l.drop (i + 1))) ∧ Aside0 (Kd.R k66 66 wq base ok (.slice (some ⟨gb,0,none⟩) l.length c) cur2) ∧ Aside0 (W.grownBy wq (some gb)))
    case atStart => exact ⟨Tx.sortedTo l i,[],cur,by rw [Tx.sortedTo_len l i (by omega)],by rw [Tx.sortedTo_len l i (by omega)];exact Nat.le_refl _,by rw [Tx.sortedTo_len l i (by omega)];exact Nat.le_refl _,HC.out.1,⟨(List.append_nil _).symm,fun y hy => (by cases hy),by rw [HC.out.2,List.nil_append,List.drop_eq_getElem_cons hlt]⟩,HR,HG⟩
    case round =>
     clear HC HR HG
     obtain ⟨pa,pb,cur2,rfl,hj1,hj2,hcl,HC,HR,HG⟩:=hrel
     cases hpa:pa.reverse with
     | nil =>
       obtain rfl:pa = []:=by simpa using hpa
       have OUT:Aside0 (Tx.sortedTo l (i + 1) ++ l.drop (i + 1) = cur2):=⟨by rw [Tx.sortedTo_next l i hlt [] pb HC.out.1 HC.out.2.1 (fun y hy => (by cases hy)),HC.out.2.2];simp⟩
       have HHC:=Aside0.mk hcl
       clear hpa HC hcl hj1 hj2
       have hjaz:decide (((([]:List Tx.Lb).length:Nat):Int) > 0) = false:=rfl
       have HRd:=Aside0.mk (Kd.R_drew HR.out)
       have HGd:=Aside0.mk (HG.out.trans (u3i (uf (Below.refl _ _)) _))
       rw [List.length_nil]
       go_wp2_with fail
       go_big_region_o
       all_goals go_wp2
       go_roundg (l.length - (i + 1))
       case measure => omega
       case rel => exact ⟨i + 1,cur2,by go_num,by omega,by omega,by omega,⟨HHC.out,OUT.out.symm⟩,HRd,HGd⟩
     | cons y pr =>
       obtain ⟨pq,rfl⟩:∃ pq,pa = pq ++ [y]:=⟨pr.reverse,by rw [← List.reverse_reverse pa,hpa,List.reverse_cons]⟩
       clear hpa
       rw [List.length_append,List.length_singleton] at hj1 hj2
       obtain ⟨jp,hjp⟩:∃ jp,jp = pq.length:=⟨_,rfl⟩
       have hrow:=HC.out.2.2
       have e1:cur2[jp + 1]? = some l[i]:=by rw [hrow];simp [hjp]
       have e2:cur2[jp]? = some y:=by rw [hrow];simp [hjp]
       have b1:jp + 1 < cur2.length:=(List.getElem?_eq_some_iff.1 e1).1
       have b2:jp < cur2.length:=(List.getElem?_eq_some_iff.1 e2).1
       have e3:cur2[jp + 1] = l[i]:=(List.getElem?_eq_some_iff.1 e1).2
       have e4:cur2[jp] = y:=(List.getElem?_eq_some_iff.1 e2).2
       rw [← hcl] at HR
       obtain ⟨x0,x1,hgb⟩:=u1h.cell_at HR.out (jp + 1) b1
       obtain ⟨y0,y1,_⟩:=u1h.cell_at HR.out jp b2
       rw [e3] at x0 x1
       rw [e4] at y0 y1
       rw [hcl] at HR b1 b2
       clear hrow e1 e2 e3 e4
       rw [List.length_append,List.length_singleton,← hjp]
       generalize hxi:l[i] = xi at *
       have HJ:=Aside0.mk hjp
       have HXI:=Aside0.mk hxi
       clear hjp hxi
       have lx0:=fun n os => Go.cell_grown (n:=n) (os:=os) hgb x0
       have lx1:=fun n os => Go.cell_grown (n:=n) (os:=os) hgb x1
       have ly0:=fun n os => Go.cell_grown (n:=n) (os:=os) hgb y0
       have ly1:=fun n os => Go.cell_grown (n:=n) (os:=os) hgb y1
       have hwp:IntKind.i64.wrap (jp:Int) = (jp:Int):=by rw [IntKind.wrap_i64];omega
       have jz:(jp:Int) + 1 < (l.length:Int):=by omega
       have jz1:(jp:Int) < (l.length:Int):=by omega
       have p0:(0:Int) ≤ (jp:Int) + 1:=by omega
       have e0:((jp:Int) + 1).toNat = jp + 1:=by omega
       have hcg:∀ n' os',Calls Tryz.prog 94 #[.agg #[.string xi.f0,.string xi.f1],.agg #[.string y.f0,.string y.f1]] (Go.Sort.grow (wr.drewN n') os') fun e w' => e = .returned (.int .i64 (u1h.cmpB xi.f0 y.f0)) ∧ ∃ q os'',w' = Go.Sort.grow ((Go.Sort.grow (wr.drewN n') os').drewN q) os'':=fun n' os' => u1h.by_name xi y _
       have HHC:=Aside0.mk hcl
       have HJ2:=Aside0.mk hj2
       have HGB:=Aside0.mk hgb
       clear hcl hj2
       have cl:=u1h.cmp_less xi.f0 y.f0
       cases hlv:Tx.less xi.f0 y.f0 with
       | true =>
         rw [hlv] at cl
         go_wp2_with fail
         go_quiet_grown (first | (go_at_call 94;refine Calls.grown_of (hcg _ _)))
         go_wp2_with fail
         have x0':=lx0 nq osq
         have x1':=lx1 nq osq
         have y0':=ly0 nq osq
         have y1':=ly1 nq osq
         have HR2:Aside0 (Kd.R k66 66 (Go.Sort.grow (wr.drewN nq) osq) base ok (.slice (some ⟨gb,0,none⟩) l.length c) cur2):=⟨Kd.R_below (Kd.R_drewN HR.out nq) (u1h.below_grow _ _)⟩
         have HG2:Aside0 (W.grownBy (Go.Sort.grow (wr.drewN nq) osq) (some gb)):=⟨HG.out.trans (u3i (u1d (ub (Below.refl _ _) nq) (u1h.below_grow _ _)) _)⟩
         clear lx0 lx1 ly0 ly1 hcg x0 x1 y0 y1 HR HG
         generalize Go.Sort.grow (wr.drewN nq) osq = wq2 at *
         obtain ⟨fz,_⟩:=u1h.thawed HR2.out
         have n1:¬ jp * 2 = (jp + 1) * 2:=by omega
         have n2:¬ jp * 2 = (jp + 1) * 2 + 1:=by omega
         have n3:¬ jp * 2 + 1 = (jp + 1) * 2:=by omega
         have n4:¬ jp * 2 + 1 = (jp + 1) * 2 + 1:=by omega
         go_big_region_o
         all_goals go_wp2
         obtain ⟨r1,g1⟩:=u1h.set_elem HR2.out HHC.out (jp + 1) (by omega) y
         obtain ⟨r2,g2⟩:=u1h.set_elem r1 (by rw [List.length_set];exact HHC.out) jp (by omega) xi
         have HR3:Aside0 (Kd.R k66 66 ((((wq2.setCell ⟨gb,(jp + 1) * 2,none⟩ (.string y.f0)).setCell ⟨gb,(jp + 1) * 2 + 1,none⟩ (.string y.f1)).setCell ⟨gb,jp * 2,none⟩ (.string xi.f0)).setCell ⟨gb,jp * 2 + 1,none⟩ (.string xi.f1)).drew base ok (.slice (some ⟨gb,0,none⟩) l.length c) ((cur2.set (jp + 1) y).set jp xi)):=⟨Kd.R_drew r2⟩
         have HG3:Aside0 (W.grownBy ((((wq2.setCell ⟨gb,(jp + 1) * 2,none⟩ (.string y.f0)).setCell ⟨gb,(jp + 1) * 2 + 1,none⟩ (.string y.f1)).setCell ⟨gb,jp * 2,none⟩ (.string xi.f0)).setCell ⟨gb,jp * 2 + 1,none⟩ (.string xi.f1)).drew (some gb)):=⟨((HG2.out.trans g1).trans g2).trans (u3i (uf (Below.refl _ _)) _)⟩
         clear r1 g1 r2 g2 HR2 HG2
         go_roundg jp
         case measure => have:=HJ.out;omega
         case rel =>
          refine ⟨pq,y :: pb,(cur2.set (jp + 1) y).set jp xi,by rw [HJ.out],by rw [HJ.out];exact Nat.le_refl _,by have:=HJ.out;have:=HJ2.out;omega,by rw [List.length_set,List.length_set];exact HHC.out,⟨?_,?_,?_⟩,HR3,HG3⟩
          · rw [HC.out.1,List.append_assoc,List.singleton_append]
          · intro z hz
            rcases List.mem_cons.1 hz with rfl | hz
            · exact hlv
            · exact HC.out.2.1 z hz
          · rw [HC.out.2.2,HJ.out]
            simp
       | false =>
         rw [hlv] at cl
         go_wp2_with fail
         go_quiet_grown (first | (go_at_call 94;refine Calls.grown_of (hcg _ _)))
         go_wp2
         have HR2:Aside0 (Kd.R k66 66 (Go.Sort.grow (wr.drewN nq) osq) base ok (.slice (some ⟨gb,0,none⟩) l.length c) cur2):=⟨Kd.R_below (Kd.R_drewN HR.out nq) (u1h.below_grow _ _)⟩
         have HG2:Aside0 (W.grownBy (Go.Sort.grow (wr.drewN nq) osq) (some gb)):=⟨HG.out.trans (u3i (u1d (ub (Below.refl _ _) nq) (u1h.below_grow _ _)) _)⟩
         have OUT:Aside0 (Tx.sortedTo l (i + 1) ++ l.drop (i + 1) = cur2):=⟨by
          rw [Tx.sortedTo_next l i hlt (pq ++ [y]) pb HC.out.1 (fun z hz => by rw [HXI.out];exact HC.out.2.1 z hz) (fun z hz => by
           obtain rfl:y = z:=by simpa using hz
           rw [HXI.out,hlv]
           decide),HC.out.2.2,HXI.out]
          simp⟩
         go_roundg (l.length - (i + 1))
         case measure => omega
         case rel => exact ⟨i + 1,cur2,by go_num,by omega,by omega,by omega,⟨HHC.out,OUT.out.symm⟩,HR2,HG2⟩
  · have hin:i = l.length ∨ i = l.length + 1:=by omega
    have HF:Aside0 (cur = Tx.sortP l):=⟨by
     rw [HC.out.2,List.drop_eq_nil_of_le (by omega),List.append_nil]
     rcases hin with h9 | h9
     · rw [h9,Tx.sortedTo_all]
     · unfold Tx.sortedTo Tx.sortP
       rw [List.take_of_length_le (by omega)]⟩
    clear hin
    go_wp2
    go_end0
    exact ⟨rfl,HF.out ▸ HR.out,HG.out⟩
theorem u1h.insertion_few (W:World) (A:Option Addr) (c:Nat) (l:List Tx.Lb) (hn:l.length ≤ 1) :
 Calls Tryz.prog 145 #[.slice A l.length c,.int .i64 0,.int .i64 (l.length:Int),.func (.func 94) #[] #[]] W fun e W' => e = .returned (.tuple #[]) ∧ W' = W:=by
 have hd:decide ((1:Int) < (l.length:Int)) = false:=decide_eq_false (by omega)
 have hlt:¬ (1:Int) < (l.length:Int):=by omega
 go_enter Tryz.func145,Tryz.ntmps145
 go_wp2
 go_loopg [8] (1) (fun kq vi wr => vi = .int .i64 1 ∧ 0 < kq ∧ wr = W)
 case atStart => exact ⟨by rfl,by omega,rfl⟩
 case round =>
  obtain ⟨rfl,hk,rfl⟩:=hrel
  go_wp2
  go_end0
  exact ⟨rfl,rfl⟩
theorem u1h.sortP_few (l:List Tx.Lb) (hn:l.length ≤ 1):Tx.sortP l = l:=by
 rcases l with _ | ⟨x,_ | ⟨y,l⟩⟩
 · rfl
 · rfl
 · simp at hn
theorem u1h.form {W:World} {base n c:Nat} {ok:Nat → Prop} {A:Option Addr} {xs:List Tx.Lb} (h:Kd.R k66 66 W base ok (.slice A n c) xs) (hn:0 < n):∃ g,A = some ⟨g,0,none⟩:=by
 obtain ⟨_,_,ho,_⟩:=h
 rcases ho.2 with ⟨hv,h0⟩ | ⟨g,cap,cur,hv,_⟩
 · injection hv with _ h1
   omega
 · injection hv with h1
   exact ⟨g,h1⟩
theorem u1h.ins (W:World) (base:Nat) (ok:Nat → Prop) (A:Option Addr) (c:Nat) (l:List Tx.Lb) (hn:l.length ≤ 19) (hR:Kd.R k66 66 W base ok (.slice A l.length c) l) :
 Calls Tryz.prog 145 #[.slice A l.length c,.int .i64 0,.int .i64 (l.length:Int),.func (.func 94) #[] #[]] W fun e W' => e = .returned (.tuple #[]) ∧ Kd.R k66 66 W' base ok (.slice A l.length c) (Tx.sortP l) ∧ W.grownBy W' (Value.slice A l.length c).ownBlock:=by
 by_cases h1:l.length ≤ 1
 · refine (u1h.insertion_few W A c l h1).mono ?_
   rintro e W' ⟨rfl,rfl⟩
   exact ⟨rfl,by rw [u1h.sortP_few l h1];exact hR,World.grownBy.refl _ _⟩
 · obtain ⟨gb,rfl⟩:=u1h.form hR (by omega)
   exact u1h.insertion W base ok gb c l hn hR
set_option maxRecDepth 100000 in
set_option maxHeartbeats 1000000 in
theorem u1h.stable (W:World) (base:Nat) (ok:Nat → Prop) (A:Option Addr) (c:Nat) (l:List Tx.Lb) (hn:l.length ≤ 19) (hR:Kd.R k66 66 W base ok (.slice A l.length c) l) :
 Calls Tryz.prog 123 #[.slice A l.length c,.int .i64 (l.length:Int),.func (.func 94) #[] #[]] W fun e W' => e = .returned (.tuple #[]) ∧ Kd.R k66 66 W' base ok (.slice A l.length c) (Tx.sortP l) ∧ W.grownBy W' (Value.slice A l.length c).ownBlock:=by
 have HR:=Aside0.mk hR
 clear hR
 have h20:¬ (20:Int) ≤ (l.length:Int):=by omega
 have h20b:¬ (20:Int) < (l.length:Int):=by omega
 go_enter Tryz.func123,Tryz.ntmps123
 go_wp2
 go_loopg [7,8] (1) (fun kq v7 v8 wr => v7 = .int .i64 0 ∧ v8 = .int .i64 20 ∧ 0 < kq ∧ wr = W)
 case atStart => exact ⟨by rfl,by rfl,by omega,rfl⟩
 case round =>
  obtain ⟨rfl,rfl,hk,rfl⟩:=hrel
  go_wp2_with (go_at_call 145;(with_reducible refine (u1h.ins _ base ok A c l hn HR.out).mono ?_);rintro e W1 ⟨rfl,hr1,hg1⟩;have HR1:=Aside0.mk hr1;have HG1:=Aside0.mk hg1;clear hr1 hg1)
  go_loopg [6] (1) (fun kq v6 wr => v6 = .int .i64 20 ∧ 0 < kq ∧ wr = W1)
  case atStart => exact ⟨by rfl,by omega,rfl⟩
  case round =>
   obtain ⟨rfl,hk,rfl⟩:=hrel
   go_wp2
   go_end0
   exact ⟨rfl,HR1.out,HG1.out⟩
theorem u1h.calls (W:World) (base:Nat) (ok:Nat → Prop) (A:Option Addr) (c:Nat) (l:List Tx.Lb) (hn:l.length ≤ 19) (hR:Kd.R k66 66 W base ok (.slice A l.length c) l) :
 Calls Tryz.prog 93 #[.slice A l.length c,.func (.func 94) #[] #[]] W fun e W' => e = .returned (.tuple #[]) ∧ Kd.R k66 66 W' base ok (.slice A l.length c) (Tx.sortP l) ∧ W.grownBy W' (Value.slice A l.length c).ownBlock:=by
 have HR:=Aside0.mk hR
 clear hR
 go_enter Tryz.func93,Tryz.ntmps93
 go_wp2_with (go_at_call 123;(with_reducible refine (u1h.stable _ base ok A c l hn HR.out).mono ?_);rintro e W1 ⟨rfl,hr1,hg1⟩;have HR1:=Aside0.mk hr1;have HG1:=Aside0.mk hg1;clear hr1 hg1)
 go_end0
 exact ⟨rfl,HR1.out,HG1.out⟩
theorem u3b.clear_run (m b o c:Nat) (hm:0 < m) (W:World) (hc:∀ j,j < 2 * m → (W.cell? ⟨b,o + j,none⟩).isSome = true) (hf:∀ j,j < 2 * m → W.frozen? ⟨b,o + j,none⟩ = false) (ty:TypeId) :
 (Builtin.clear_ #[50] ty #[.slice (some ⟨b,o,none⟩) m c]).run Tryz.prog W = .ok (.tuple #[]) (W.setCells b o (List.replicate (2 * m) (.string ⟨#[]⟩))):=by
 have hzc:(Builtin.zeroCells (Value.agg #[.string ⟨#[]⟩,.string ⟨#[]⟩]).cells m).toList = List.replicate (2 * m) (.string ⟨#[]⟩):=by
  simp [Builtin.zeroCells,Value.cells]
  apply List.ext_getElem
  · simp [Nat.mul_comm]
  · intro i h1 h2
    have hi:i % 2 = 0 ∨ i % 2 = 1:=by omega
    rcases hi with hi | hi <;> simp [hi]
 have hst:=run_storeCells_cells (P:=Tryz.prog) b o (List.replicate (2 * m) (.string ⟨#[]⟩)) 0 W (by simpa using hc) (by simpa using hf) (by
  intro v hv'
  rw [List.eq_of_mem_replicate hv']
  rfl)
 simp only [Nat.add_zero] at hst
 obtain ⟨q,rfl⟩:∃ q,m = q + 1:=⟨m - 1,by omega⟩
 have hzv:∀ w,(zeroValue 66).run Tryz.prog w = .ok (.agg #[.string ⟨#[]⟩,.string ⟨#[]⟩]) w:=fun w => by kernel_rfl
 simp [Builtin.clear_,run_underlying Tryz.underlying50,hzv,hzc,hst]
theorem u3b.clear_keep (g c n:Nat) (base:Nat) (ok:Nat → Prop):∀ (k i:Nat) (W:World) (cur:List Tx.Lb),Kd.R k66 66 W base ok (.slice (some ⟨g,0,none⟩) n c) cur → cur.length = n → i + k = n →
 ∃ cur':List Tx.Lb,cur'.length = n ∧ cur'.take i = cur.take i ∧ Kd.R k66 66 (W.setCells g (i * 2) (List.replicate (2 * k) (.string ⟨#[]⟩))) base ok (.slice (some ⟨g,0,none⟩) n c) cur' ∧ W.grownBy (W.setCells g (i * 2) (List.replicate (2 * k) (.string ⟨#[]⟩))) (some g)
 | 0,i,W,cur,h,hl,_ => ⟨cur,hl,rfl,h,World.grownBy.refl _ _⟩
 | k + 1,i,W,cur,h,hl,hik => by
   obtain ⟨r1,g1⟩:=u1h.set_elem h hl i (by omega) ⟨⟨#[]⟩,⟨#[]⟩⟩
   obtain ⟨cur',h1,h2,h3,h4⟩:=u3b.clear_keep g c n base ok k (i + 1) _ _ r1 (by rw [List.length_set];exact hl) (by omega)
   have e:W.setCells g (i * 2) (List.replicate (2 * (k + 1)) (.string ⟨#[]⟩)) = (W.setCells g (i * 2) [.string ⟨#[]⟩,.string ⟨#[]⟩]).setCells g ((i + 1) * 2) (List.replicate (2 * k) (.string ⟨#[]⟩)):=by
    rw [show 2 * (k + 1) = 2 * k + 1 + 1 by omega,List.replicate_succ,List.replicate_succ,show (i + 1) * 2 = i * 2 + 1 + 1 by omega]
    rfl
   rw [e]
   refine ⟨cur',h1,?_,h3,g1.trans h4⟩
   have h5:=congrArg (List.take i) h2
   rw [List.take_take,List.take_take,show min i (i + 1) = i by omega] at h5
   rw [h5,List.take_set_of_le (by omega)]
theorem u3b.keep_next (p:Tx.Lb → Bool) (l:List Tx.Lb) (j:Nat) (hj:j < l.length):(l.take (j + 1)).filter (fun x => !p x) = (l.take j).filter (fun x => !p x) ++ if p l[j] = true then [] else [l[j]]:=by
 rw [List.take_succ_eq_append_getElem hj,List.filter_append]
 cases hp:p l[j] <;> simp [hp]
theorem u3b.hit_pre (p:Tx.Lb → Bool) (l:List Tx.Lb) (i:Nat) (h:l.findIdx? p = some i):∃ hi:i < l.length,p l[i] = true ∧ (l.take (i + 1)).filter (fun x => !p x) = l.take i:=by
 obtain ⟨hi,h1,h2⟩:=List.findIdx?_eq_some_iff_getElem.1 h
 refine ⟨hi,h1,?_⟩
 rw [u3b.keep_next p l i hi,if_pos h1,List.append_nil,List.filter_eq_self]
 intro x hx
 obtain ⟨j,hj,rfl⟩:=List.getElem_of_mem hx
 rw [List.length_take] at hj
 rw [List.getElem_take]
 have:=h2 j (by omega)
 simpa using this
theorem u3b.head {W:World} {base:Nat} {ok:Nat → Prop} {A:Option Addr} {c:Nat} {l:List Tx.Lb} (h:Kd.R k66 66 W base ok (.slice A l.length c) l) (hl:0 < l.length):∃ g,A = some ⟨g,0,none⟩:=by
 obtain ⟨ad,ea,_⟩:=at_T66 (Kd.R_reads' h).2.2 0 (by omega) (by omega)
 subst ea
 obtain ⟨g,e⟩:=Kd.R_head h
 exact ⟨g,by rw [e]⟩
theorem u3b.look2s {W:World} {b:Nat} {x y:Value} {t:TypeId} (h:W.heap[b]? = some (.cells #[x,y] t (0,0))):(W.cell? ⟨b,0,none⟩ = some x ∧ W.cell? ⟨b,1,none⟩ = some y) ∧ W.frozen? ⟨b,0,none⟩ = false :=
 ⟨⟨(uj h 0).trans rfl,(uj h 1).trans rfl⟩,uo h 0⟩
set_option maxRecDepth 100000 in
set_option maxHeartbeats 4000000 in
theorem u3b.calls (W:World) (base:Nat) (v:Value) (l:List Tx.Lb) (fn:Nat) (lb:Array Value) (p:Tx.Lb → Bool) (hR:Kd.R k66 66 W base (fun _ => True) v l) (hm:l.length ≤ 4611686018427387904) (eg:∀ args W,(callFunc fn args).run Tryz.prog W = .ok (.enter fn args) W)
 (hp:∀ (W':World) (x:Tx.Lb),W.grownBy W' v.ownBlock → x ∈ l → Calls Tryz.prog fn (#[.agg #[.string x.f0,.string x.f1]] ++ lb) W' fun e w' => e = .returned (.bool (p x)) ∧ Below W'.heap.size W' w') :
 Calls Tryz.prog 64 #[v,.func (.func fn) #[] lb] W fun e W' => ∃ v',e = .returned v' ∧ Kd.R k66 66 W' base (fun _ => True) v' (l.filter (fun x => !p x)) ∧ W.grownBy W' v.ownBlock:=by
 obtain ⟨A,c,rfl⟩:=Kd.R_slice hR
 have HIX:=Aside0.mk (u2x.calls A c l fn lb p W (Kd.R_reads' hR).2.2 (by omega) eg (fun W' x hb hx => hp W' x (u3i hb _) hx))
 have HP:=Aside0.mk hp
 have HR:=Aside0.mk hR
 clear hp hR
 cases hf:l.findIdx? p with
 | none =>
   have hid:u2x.idx p l = -1:=by unfold u2x.idx;rw [hf]
   rw [hid] at HIX
   have HFL:Aside0 (l.filter (fun x => !p x) = l):=⟨List.filter_eq_self.2 (fun x hx => by rw [List.findIdx?_eq_none_iff.1 hf x hx];rfl)⟩
   clear hf hid
   go_enter Tryz.func64,Tryz.ntmps64
   go_wp2_with (go_at_call 106;(with_reducible refine HIX.out.mono ?_);rintro e W1 ⟨rfl,hb⟩)
   go_ret
   exact ⟨_,rfl,by rw [HFL.out];exact Kd.R_below HR.out hb,u3i hb _⟩
 | some i0 =>
   have hid:u2x.idx p l = (i0:Int):=by unfold u2x.idx;rw [hf]
   rw [hid] at HIX
   obtain ⟨hi0,hpi,hpre⟩:=u3b.hit_pre p l i0 hf
   obtain ⟨g,eg0⟩:=u3b.head HR.out (by omega)
   subst eg0
   have HPI:=Aside0.mk hpi
   have HPRE:=Aside0.mk hpre
   have hne:((i0:Int) == -1) = false:=beq_eq_false_iff_ne.2 (by omega)
   clear hf hid hpi hpre
   go_enter Tryz.func64,Tryz.ntmps64
   go_wp2_with (go_at_call 106;(with_reducible refine HIX.out.mono ?_);rintro e W1 ⟨rfl,hb⟩;have HR1:=Aside0.mk (Kd.R_below HR.out hb);have HG1:=Aside0.mk (u3i hb (some g));clear hb)
   go_loopg [5,6] (l.length) (fun kq v5 v6 wr => ∃ (i j:Nat) (cur:List Tx.Lb),v5 = .int .i64 (i:Int) ∧ v6 = .int .i64 (j:Int) ∧ i < j ∧ j ≤ l.length ∧ l.length ≤ kq + j ∧ cur.length = l.length ∧ Aside0 (cur.take i = (l.take j).filter (fun x => !p x) ∧ cur.drop j = l.drop j) ∧ Aside0 (Kd.R k66 66 wr base (fun _ => True) (.slice (some ⟨g,0,none⟩) l.length c) cur) ∧ Aside0 (W.grownBy wr (some g)))
   case atStart => exact ⟨i0,i0 + 1,l,rfl,by go_num,by omega,by omega,by omega,rfl,⟨HPRE.out.symm,rfl⟩,HR1,HG1⟩
   case round =>
    clear HR1 HG1
    obtain ⟨i,j,cur,rfl,rfl,hij,hj,hk,hcl,HC,HRR,HG⟩:=hrel
    by_cases hlt:j < l.length
    · have hcj:cur[j]'(by omega) = l[j]:=by
       have h1:=HC.out.2
       rw [List.drop_eq_getElem_cons (by omega),List.drop_eq_getElem_cons hlt] at h1
       exact (List.cons.inj h1).1
      have hcd:cur.drop (j + 1) = l.drop (j + 1):=by
       have h1:=HC.out.2
       rw [List.drop_eq_getElem_cons (by omega),List.drop_eq_getElem_cons hlt] at h1
       exact (List.cons.inj h1).2
      have hkn:=u3b.keep_next p l j hlt
      rw [← hcl] at HRR
      obtain ⟨x0,x1,hgb⟩:=u1h.cell_at HRR.out j (by omega)
      rw [hcj] at x0 x1
      rw [hcl] at HRR
      obtain ⟨y,hy⟩:∃ y,l[j] = y:=⟨_,rfl⟩
      have hmem:y ∈ l:=by rw [← hy];exact List.getElem_mem hlt
      rw [hy] at x0 x1 hkn
      have HCD:=Aside0.mk hcd
      have HKN:=Aside0.mk hkn
      have HY:=Aside0.mk hy
      have hq:decide ((j:Int) < (l.length:Int)) = true:=decide_eq_true (by omega)
      have hq2:(j:Int) < (l.length:Int):=by omega
      have hq3:(i:Int) < (l.length:Int):=by omega
      have HT:Aside0 (Calls Tryz.prog fn (#[.agg #[.string y.f0,.string y.f1]] ++ lb) (wr.alloc (.cells #[.string y.f0,.string y.f1] 66)) fun e w' => e = .returned (.bool (p y)) ∧ Below (wr.alloc (.cells #[.string y.f0,.string y.f1] 66)).heap.size (wr.alloc (.cells #[.string y.f0,.string y.f1] 66)) w'):=⟨HP.out _ y (HG.out.trans (u3i (ud (Below.refl _ _) _) _)) hmem⟩
      have HCL:=Aside0.mk hcl
      have HNB:=Aside0.mk (ua.new_at wr (.cells #[.string y.f0,.string y.f1] 66))
      clear hcj hcd hkn hy hmem hcl
      obtain ⟨k1,rfl⟩:∃ k1,gk = k1 + 1:=⟨gk - 1,by omega⟩
      cases hpy:p y with
      | true =>
        rw [hpy] at HT
        have HFN:Aside0 (cur.take i = (l.take (j + 1)).filter (fun x => !p x)):=⟨by rw [HKN.out,if_pos hpy,List.append_nil];exact HC.out.1⟩
        clear hpy
        go_wp2_with (go_at_fn fn;refine HT.out.mono ?_;rintro e W2 ⟨rfl,hb2⟩;have HB2:=Aside0.mk (u1d (ud (Below.refl wr.heap.size wr) _) hb2);clear hb2)
        go_roundg k1
        case rel => exact ⟨i,j + 1,cur,rfl,by go_num,by omega,by omega,by omega,HCL.out,⟨HFN.out,HCD.out⟩,⟨Kd.R_below HRR.out HB2.out⟩,⟨HG.out.trans (u3i HB2.out _)⟩⟩
        case measure => omega
      | false =>
        rw [hpy] at HT
        have HFN:Aside0 (cur.take i ++ [y] = (l.take (j + 1)).filter (fun x => !p x)):=⟨by rw [HKN.out,if_neg (by rw [hpy];exact Bool.false_ne_true),HC.out.1]⟩
        clear hpy
        go_wp2_with (go_at_fn fn;refine HT.out.mono ?_;rintro e W2 ⟨rfl,hb2⟩;have HB2:=Aside0.mk (u1d (ud (Below.refl wr.heap.size wr) _) hb2);have HR2:=Aside0.mk (Kd.R_below HRR.out HB2.out);obtain ⟨⟨n0,n1⟩,n2⟩:=u3b.look2s (ua.below_at hb2 HNB.out);have HR3:Aside0 (Kd.R k66 66 W2 base (fun _ => True) (.slice (some ⟨g,0,none⟩) cur.length c) cur):=⟨by rw [HCL.out];exact HR2.out⟩;obtain ⟨o0,o1,_⟩:=u1h.cell_at HR3.out i (by have:=HCL.out;omega);obtain ⟨fz,_⟩:=u1h.thawed HR2.out;have f0:=fz (i * 2);have f1:=fz (i * 2 + 1);clear hb2 x0 x1 fz HR3)
        obtain ⟨r1,g1⟩:=u1h.set_elem HR2.out HCL.out i (by omega) y
        have HR4:=Aside0.mk r1
        have HG4:=Aside0.mk ((HG.out.trans (u3i HB2.out _)).trans g1)
        clear r1 g1
        go_roundg k1
        case rel =>
         refine ⟨i + 1,j + 1,cur.set i y,by go_num,by go_num,by omega,by omega,by omega,by rw [List.length_set];exact HCL.out,⟨?_,?_⟩,HR4,HG4⟩
         · rw [← HFN.out,List.take_succ_eq_append_getElem (by rw [List.length_set];have:=HCL.out;omega),List.take_set_of_le (Nat.le_refl _),List.getElem_set_self]
         · rw [List.drop_set_of_lt (by omega)]
           exact HCD.out
        case measure => omega
    · have hjl:j = l.length:=by omega
      have HJ:=Aside0.mk hjl
      have HFN:Aside0 (cur.take i = l.filter (fun x => !p x)):=⟨by rw [HC.out.1,hjl,List.take_length]⟩
      have hq:decide ((j:Int) < (l.length:Int)) = false:=decide_eq_false (by omega)
      have hq2:decide (j < l.length) = false:=decide_eq_false hlt
      have hin:i < l.length:=by omega
      have hlc:l.length ≤ c:=(Kd.R_reads' HRR.out).2.1
      have hic:¬ c = i:=by omega
      obtain ⟨fz,_⟩:=u1h.thawed HRR.out
      have hcl2:∀ ty,(Builtin.clear_ #[50] ty #[.slice (some ⟨g,i * 2,none⟩) (l.length - i) (c - i)]).run Tryz.prog wr = .ok (.tuple #[]) (wr.setCells g (i * 2) (List.replicate (2 * (l.length - i)) (.string ⟨#[]⟩))):=fun ty => u3b.clear_run (l.length - i) g (i * 2) (c - i) (by omega) wr (fun q hq => by
       have h9:Kd.R k66 66 wr base (fun _ => True) (.slice (some ⟨g,0,none⟩) cur.length c) cur:=by rw [hcl];exact HRR.out
       obtain ⟨c0,c1,_⟩:=u1h.cell_at h9 (i + q / 2) (by omega)
       rcases (show q % 2 = 0 ∨ q % 2 = 1 by omega) with hz | hz
       · rw [show i * 2 + q = (i + q / 2) * 2 by omega,c0]
         rfl
       · rw [show i * 2 + q = (i + q / 2) * 2 + 1 by omega,c1]
         rfl) (fun q _ => fz _) ty
      obtain ⟨cur',k1,k2,k3,k4⟩:=u3b.clear_keep g c l.length base (fun _ => True) (l.length - i) i wr cur HRR.out hcl (by omega)
      have HK:=Aside0.mk (And.intro k1 k2)
      have HRK:=Aside0.mk k3
      have HGK:=Aside0.mk (HG.out.trans k4)
      clear k1 k2 k3 k4 fz hjl hcl hlt
      generalize wr.setCells g (i * 2) (List.replicate (2 * (l.length - i)) (.string ⟨#[]⟩)) = W9 at *
      go_wp2
      go_ret
      refine ⟨_,rfl,?_,HGK.out⟩
      have h9:=Kd.R_take HRK.out (m:=i) (by rw [HK.out.1];omega)
      rw [HK.out.2,HFN.out] at h9
      exact h9
def u1n.f (a0:ByteArray):Option ByteArray:=if (Base.quoteL a0.data.toList).length ≤ 140737488355328 then some (Base.quoteS a0) else none
set_option maxRecDepth 100000 in
theorem u1n.check_used (b:Nat) (w:World) (h0:w.cell? ⟨b,0,none⟩ = some (.pointer (some ⟨b,0,none⟩))) :
 Calls Tryz.prog 149 #[.pointer (some ⟨b,0,none⟩)] w fun e w' => e = .returned (.tuple #[]) ∧ w' = w:=by
 obtain ⟨j,hj,_⟩:=Option.map_eq_some_iff.1 (Tryz.Builder_Extra_169).toX72.sizeBuilder
 have u70:=run_underlying (P:=Tryz.prog) Tryz.underlying166
 go_enter Tryz.func149,Tryz.ntmps149
 go_wp2
 rw [Lib.run_neq_ptr_same w _ Tryz.underlying166 hj]
 go_wp2
 go_end0
 exact ⟨rfl,rfl⟩
set_option maxRecDepth 100000 in
theorem u1n.check_fresh (b:Nat) (w:World) (h0:w.cell? ⟨b,0,none⟩ = some (.pointer none)) (hsh:w.shape? b = some (168,2)) (hfz:w.frozen? ⟨b,0,none⟩ = false) :
 Calls Tryz.prog 149 #[.pointer (some ⟨b,0,none⟩)] w fun e w' => e = .returned (.tuple #[]) ∧ w' = w.setCell ⟨b,0,none⟩ (.pointer (some ⟨b,0,none⟩)):=by
 obtain ⟨j,hj,hjs⟩:=Option.map_eq_some_iff.1 (Tryz.Builder_Extra_169).toX72.sizeBuilder
 go_enter Tryz.func149,Tryz.ntmps149
 go_wp2
 rw [Lib.run_to_unsafe w ⟨b,0,none⟩ Tryz.underlying166 Tryz.underlying195 hj (by rw [hjs];decide) hsh (Nat.zero_lt_succ 1)]
 simp only [Result.andThen]
 rw [Oper.upon_value]
 go_wp2
 rw [run_callFunc_extern Tryz.func159 (by kernel_rfl) (by kernel_rfl) (by kernel_rfl) (e:=Extern.AbiNoEscape.same) (by kernel_rfl)]
 rw [Lib.run_noEscape]
 simp only [Result.andThen]
 rw [Oper.upon_value]
 go_wp2
 rw [Lib.run_from_unsafe w ⟨b,0,none⟩ Tryz.underlying195 Tryz.underlying166 hj hsh (Tryz.Builder_Extra_169).toX72.liesBuilder]
 simp only [Result.andThen]
 rw [Oper.upon_value]
 go_wp2
 go_end0
 exact ⟨rfl,rfl⟩
def u1n.Bld (B b:Nat) (p v:Value) (l:List UInt8) (w:World):Prop :=
 B ≤ b ∧ w.heap[b]? = some (.cells #[p,v] 168 (0,0)) ∧ w.ownsRow B 5 1 v (Lib.byteCells l).length (Lib.byteCells l) ∧ v.ownBlock ≠ some b
def u1n.Left (b:Nat) (v v':Value) (w w':World):Prop :=
 (∀ i,i < w.heap.size → i ≠ b → some i ≠ v.ownBlock → w'.heap[i]? = w.heap[i]?) ∧ (v'.ownBlock = v.ownBlock ∨ ∃ k,v'.ownBlock = some k ∧ w.heap.size ≤ k)
theorem u1n.check (B b:Nat) (p v:Value) (l:List UInt8) (w:World) (h:u1n.Bld B b p v l w) (hp:p = .pointer none ∨ p = .pointer (some ⟨b,0,none⟩)) :
 Calls Tryz.prog 149 #[.pointer (some ⟨b,0,none⟩)] w fun e w' => e = .returned (.tuple #[]) ∧ (u1n.Bld B b (.pointer (some ⟨b,0,none⟩)) v l w' ∧ Below B w w' ∧ w'.heap.size = w.heap.size ∧ ∀ i,i ≠ b → w'.heap[i]? = w.heap[i]?):=by
 obtain ⟨hB,hb,ho,hne⟩:=h
 rcases hp with rfl | rfl
 · have hA:Lib.BuilderAt 168 5 B b (.pointer none) (Lib.byteCells l) w:=⟨hB,v,hb,ho,hne⟩
   refine (u1n.check_fresh b w hA.cell0 hA.shape hA.frozen0).mono ?_
   rintro e w' ⟨rfl,rfl⟩
   have hlt:b < w.heap.size:=hA.lt
   have hother:∀ i,i ≠ b → (w.setCell ⟨b,0,none⟩ (.pointer (some ⟨b,0,none⟩))).heap[i]? = w.heap[i]? := fun i hi => Below.heap_setCell w ⟨b,0,none⟩ _ i hi
   refine ⟨rfl,⟨hB,?_,?_,hne⟩,(Below.refl B w).setCell (p:=⟨b,0,none⟩) hB _,by simp,hother⟩
   · simp [World.setCell,Array.getElem?_modify,hb]
   · refine own_move ho (fun k hk => hother k ?_)
     rintro rfl
     exact hne hk
 · have hA:Lib.BuilderAt 168 5 B b (.pointer (some ⟨b,0,none⟩)) (Lib.byteCells l) w:=⟨hB,v,hb,ho,hne⟩
   refine (u1n.check_used b w hA.cell0).mono ?_
   rintro e w' ⟨rfl,rfl⟩
   exact ⟨rfl,⟨hB,hb,ho,hne⟩,Below.refl B _,rfl,fun _ _ => rfl⟩
set_option maxHeartbeats 1000000 in
theorem u1n.write (B b:Nat) (p v:Value) (l:List UInt8) (c:UInt8) (w:World) (h:u1n.Bld B b p v l w) (hp:p = .pointer none ∨ p = .pointer (some ⟨b,0,none⟩)) (hlen:l.length + 1 ≤ 140737488355328) (hBw:B ≤ w.heap.size) :
 Calls Tryz.prog 131 #[.pointer (some ⟨b,0,none⟩),.int .u8 c.toNat] w fun e w' => e = .returned .nilIface ∧ ∃ v',u1n.Bld B b (.pointer (some ⟨b,0,none⟩)) v' (l ++ [c]) w' ∧ Below B w w' ∧ u1n.Left b v v' w w':=by
 go_enter Tryz.func131,Tryz.ntmps131
 go_wp2_with (go_at_call 149;refine (u1n.check B b p v l _ h hp).mono ?_)
 rintro e w1 ⟨rfl,h1,hb1,hz1,hk1⟩
 obtain ⟨hB,hbk,hown,hne⟩:=h1
 have c1:w1.cell? ⟨b,1,none⟩ = some v:=by rw [Lib.cell_of_heap hbk];rfl
 have hll:(Lib.byteCells l).length = l.length:=Lib.byteCells_length l
 have HL:=Aside0.mk hll
 clear hll
 have HK:=Aside0.mk hk1
 have HZ:=Aside0.mk hz1
 clear hk1 hz1
 go_wp2_with (at_builtin;refine print_append (w0:=w) B rfl (.tmp 11) (.tmp 13) 22 5 (.int .u8 0) 1 rfl Tryz.underlying22 (Tryz.Builder_Extra_169).infoByte rfl (by decide) v (Lib.byteCells l) (.int .u8 c.toNat) rfl rfl rfl hown hb1 ?c5 ?c4 ?_)
 case c5 => have:=hb1.size;omega
 case c4 => rw [HL.out];omega
 intro v' w2 hown' hbel hgrow hat
 have hlt:b < w1.heap.size:=by
  rcases Nat.lt_or_ge b w1.heap.size with h' | h'
  · exact h'
  · simp [Array.getElem?_eq_none h'] at hbk
 have hb2:w2.heap[b]? = some (.cells #[.pointer (some ⟨b,0,none⟩),v] 168 (0,0)):=by
  rw [hgrow.block b hlt (fun e => hne e.symm)]
  exact hbk
 have d1:w2.cell? ⟨b,1,none⟩ = some v:=by rw [Lib.cell_of_heap hb2];rfl
 have f1:w2.frozen? ⟨b,1,none⟩ = false:=Lib.frozen_of_heap hb2 1
 obtain ⟨g,cap,rfl⟩:∃ g cap,v' = .slice (some ⟨g,0,none⟩) (l.length + 1) cap:=by
  rcases hown'.2 with ⟨_,h0⟩ | ⟨g,cap,cur,hv,_⟩
  · simp at h0
  · have hv2:v' = .slice (some ⟨g,0,none⟩) ((Lib.byteCells l).length + 1) cap:=by simpa using hv
    rw [HL.out] at hv2
    exact ⟨g,cap,hv2⟩
 have H2:=Aside0.mk hown'
 have HB2:=Aside0.mk hbel
 have HG2:=Aside0.mk hgrow
 have HA2:=Aside0.mk hat
 have HN:=Aside0.mk hne
 clear hown' hbel hgrow hat hne hown
 have hg2:g ≠ b:=by
  rintro rfl
  rcases HA2.out with h1 | ⟨k,h1,h2⟩
  · exact HN.out (by rw [← h1];rfl)
  · have h3:g = k:=by simpa [Value.ownBlock] using h1
    omega
 go_wp2
 go_ret
 refine ⟨rfl,.slice (some ⟨g,0,none⟩) (l.length + 1) cap,⟨hB,?_,?_,?_⟩,HB2.out.setCell (p:=⟨b,1,none⟩) hB _,?_,?_⟩
 · simp [World.setCell,Array.getElem?_modify,hb2]
 · have hbc:Lib.byteCells (l ++ [c]) = Lib.byteCells l ++ [Value.int .u8 c.toNat]:=by rw [Lib.byteCells_append];rfl
   rw [hbc]
   have h4:w2.ownsRow B 5 1 (.slice (some ⟨g,0,none⟩) (l.length + 1) cap) (Lib.byteCells l ++ [Value.int .u8 c.toNat]).length (Lib.byteCells l ++ [Value.int .u8 c.toNat]):=by simpa using H2.out
   refine own_move h4 (fun k hk => Below.heap_setCell w2 ⟨b,1,none⟩ _ k ?_)
   have h3:g = k:=by simpa [Value.ownBlock] using hk
   rintro rfl
   exact hg2 h3
 · simpa [Value.ownBlock] using hg2
 · intro i hi hib hiv
   rw [Below.heap_setCell w2 ⟨b,1,none⟩ _ i hib,HG2.out.block i (by rw [HZ.out];exact hi) hiv]
   exact HK.out i hib
 · rcases HA2.out with h1 | ⟨k,h1,h2⟩
   · exact .inl h1
   · exact .inr ⟨k,h1,by rw [← HZ.out];exact h2⟩
theorem u1n.write_z (B b:Nat) (p v:Value) (l:List UInt8) (c:UInt8) (z:Int) (w:World) (hz:(c.toNat:Int) = z) (h:u1n.Bld B b p v l w) (hp:p = .pointer none ∨ p = .pointer (some ⟨b,0,none⟩)) (hlen:l.length + 1 ≤ 140737488355328) (hBw:B ≤ w.heap.size) :
 Calls Tryz.prog 131 #[.pointer (some ⟨b,0,none⟩),.int .u8 z] w fun e w' => e = .returned .nilIface ∧ ∃ v',u1n.Bld B b (.pointer (some ⟨b,0,none⟩)) v' (l ++ [c]) w' ∧ Below B w w' ∧ u1n.Left b v v' w w':=by
 subst hz
 exact u1n.write B b p v l c w h hp hlen hBw
theorem u1n.cell_same (w w':World) (D j:Nat) (h:w'.heap[D]? = w.heap[D]?):w'.cell? ⟨D,j,none⟩ = w.cell? ⟨D,j,none⟩:=by
 simp [World.cell?,h]
theorem u1n.byte_at (s:ByteArray) (x:Nat) (h:x < s.size):∃ c:UInt8,(c.toNat:Int) = bt s x ∧ s.data.toList.take (x + 1) = s.data.toList.take x ++ [c]:=by
 have h':x < s.data.toList.length:=by rw [u2k];exact h
 refine ⟨s.data.toList[x],?_,?_⟩
 · have h2:=bt_at s x (by simpa using h)
   rw [← h2]
   rfl
 · rw [List.take_succ_eq_append_getElem h']
theorem u1n.part_le (l:List UInt8) (x:Nat):((34:UInt8) :: (l.take x).flatMap Base.quoteByte).length + 1 ≤ (Base.quoteL l).length:=by
 have h1:(l.take x).flatMap Base.quoteByte ++ (l.drop x).flatMap Base.quoteByte = l.flatMap Base.quoteByte:=by
  rw [← List.flatMap_append,List.take_append_drop]
 have h2:(Base.quoteL l).length = (l.flatMap Base.quoteByte).length + 2:=by simp [Base.quoteL]
 rw [h2,← h1]
 simp
def u1n.Inv (B D:Nat) (H:Option Obj) (w:World) (v:Value) (l:List UInt8) (wr:World):Prop :=
 u1n.Bld B B (.pointer (some ⟨B,0,none⟩)) v l wr ∧ Below B w wr ∧ wr.heap[D]? = H ∧ v.ownBlock ≠ some D ∧ D < wr.heap.size
theorem u1n.inv_write (B D:Nat) (H:Option Obj) (w:World) (v:Value) (l:List UInt8) (wr:World) (h:u1n.Inv B D H w v l wr) (hBD:B < D) (c:UInt8) (z:Int) (hz:(c.toNat:Int) = z) (hlen:l.length + 1 ≤ 140737488355328) :
 Calls Tryz.prog 131 #[.pointer (some ⟨B,0,none⟩),.int .u8 z] wr fun e w' => e = .returned .nilIface ∧ ∃ v',u1n.Inv B D H w v' (l ++ [c]) w':=by
 obtain ⟨h1,h2,h3,h4,h5⟩:=h
 refine (u1n.write_z B B _ v l c z wr hz h1 (.inr rfl) hlen (by omega)).mono ?_
 rintro e w' ⟨rfl,v',g1,g2,g3,g4⟩
 refine ⟨rfl,v',g1,h2.trans g2,?_,?_,?_⟩
 · rw [g3 D h5 (by omega) (fun e => h4 e.symm)]
   exact h3
 · rcases g4 with g4 | ⟨k,g4,g5⟩
   · rw [g4];exact h4
   · rw [g4]
     intro e
     have:k = D:=Option.some.inj e
     omega
 · have hs:=g1.2.2.1
   have h6:∀ i,i < wr.heap.size → i ≠ B → some i ≠ v.ownBlock → w'.heap[i]? = wr.heap[i]? := g3
   have h7:=h6 D h5 (by omega) (fun e => h4 e.symm)
   rcases Nat.lt_or_ge D w'.heap.size with h8 | h8
   · exact h8
   · rw [Array.getElem?_eq_none h8,Array.getElem?_eq_getElem h5] at h7
     exact absurd h7 (by simp)
set_option maxHeartbeats 4000000 in
theorem u1n.calls (a0:ByteArray) (r:ByteArray) (w:World) (h:u1n.f a0 = some r) :
 Calls Tryz.prog 108 #[.string a0] w fun e w' => e = .returned (.string r) ∧ Below w.heap.size w w':=by
 unfold u1n.f at h
 by_cases hlim:(Base.quoteL a0.data.toList).length ≤ 140737488355328
 · rw [if_pos hlim] at h
   obtain rfl:=Option.some.inj h
   clear h
   have HLIM:=Aside0.mk hlim
   clear hlim
   have hsz:a0.size ≤ 140737488355328:=by
    have h1:∀ l:List UInt8,l.length ≤ (l.flatMap Base.quoteByte).length:=by
     intro l
     induction l with
     | nil => simp
     | cons x q ih =>
       have h3:1 ≤ (Base.quoteByte x).length:=by unfold Base.quoteByte;split <;> simp
       simp only [List.flatMap_cons,List.length_append,List.length_cons]
       omega
    have h2:=h1 a0.data.toList
    have h4:=HLIM.out
    simp only [Base.quoteL,List.length_cons,List.length_append,List.length_nil] at h4
    rw [u2k] at h2
    omega
   have kb:=fun W => print_bytes (P:=Tryz.prog) 9 22 5 Tryz.underlying9 Tryz.underlying22 Tryz.underlying5 a0 W
   have hB0:u1n.Bld w.heap.size w.heap.size (.pointer none) (.slice none 0 0) [] (w.alloc (.cells #[.pointer none,.slice none 0 0] 168)) :=
    ⟨Nat.le_refl _,heap_alloc_new w _,own_nil _ _ _ _,by simp [Value.ownBlock]⟩
   have HB0:=Aside0.mk hB0
   clear hB0
   go_enter Tryz.func108,Tryz.ntmps108
   go_wp2_with fail
   refine (u1n.write_z w.heap.size w.heap.size _ _ [] 34 34 _ rfl HB0.out (.inl rfl) (by simp) (by simp)).mono ?_
   rintro e w1 ⟨rfl,v1,hb1,hw1,hl1⟩
   have hsz1:w.heap.size + 1 ≤ w1.heap.size:=by
    have:=hw1.size
    simpa using this
   have H1:=Aside0.mk hb1
   have HW1:=Aside0.mk (((Below.refl _ w).alloc (Nat.le_refl _) (.cells #[.pointer none,.slice none 0 0] 168)).trans hw1)
   clear hb1 hw1 hl1 HB0
   have hrd:=bytes_reads w1 5 a0 (by omega)
   have hcell:∀ j:Nat,j < a0.size → (Lib.bytesWorld w1 5 a0).cell? ⟨w1.heap.size,j,none⟩ = some (.int .u8 (bt a0 j)):=by
    intro j hj
    obtain ⟨ad,e,hc⟩:=hrd.2.2 (by omega)
    cases e
    have h5:=hc j hj
    rw [add_plain] at h5
    rw [h5,← rd_bytesOf]
    simp [rd]
   have HCELL:=Aside0.mk hcell
   clear hcell hrd
   have H2:Aside0 (u1n.Bld w.heap.size w.heap.size (.pointer (some ⟨w.heap.size,0,none⟩)) v1 [34] (Lib.bytesWorld w1 5 a0)):=by
    obtain ⟨g1,g2,g3,g4⟩:=H1.out
    have hold:∀ i,i < w1.heap.size → (Lib.bytesWorld w1 5 a0).heap[i]? = w1.heap[i]? := fun i hi => Lib.bytesWorld_at_old w1 5 a0 i hi
    exact ⟨⟨g1,by rw [hold _ (by omega)];exact g2,own_move g3 (fun k hk => hold k (own_lt g3 k hk)),g4⟩⟩
   have hD:v1.ownBlock ≠ some w1.heap.size:=by
    intro hk
    have:=own_lt H1.out.2.2.1 _ hk
    omega
   have HD:=Aside0.mk hD
   clear hD H1
   have HSZ:Aside0 (w1.heap.size < (Lib.bytesWorld w1 5 a0).heap.size):=⟨by rw [Lib.bytesWorld_size];omega⟩
   have HW2:Aside0 (Below w.heap.size w (Lib.bytesWorld w1 5 a0)):=⟨bytes_below HW1.out (by omega) _ _⟩
   go_wp2_with fail
   have HI0:Aside0 (u1n.Inv w.heap.size w1.heap.size ((Lib.bytesWorld w1 5 a0).heap[w1.heap.size]?) w v1 [34] (Lib.bytesWorld w1 5 a0)):=⟨H2.out,HW2.out,rfl,HD.out,HSZ.out⟩
   clear H2 HW2 HD HSZ
   have hBD:w.heap.size < w1.heap.size:=by omega
   go_loopg [10] (a0.size) (fun kq v10 wr => ∃ (x:Nat) (v:Value),x ≤ a0.size ∧ v10 = .int .i64 x ∧ a0.size ≤ kq + x ∧ Aside0 (u1n.Inv w.heap.size w1.heap.size ((Lib.bytesWorld w1 5 a0).heap[w1.heap.size]?) w v (34 :: (a0.data.toList.take x).flatMap Base.quoteByte) wr))
   case atStart => exact ⟨0,v1,by omega,rfl,by omega,⟨by simpa using HI0.out⟩⟩
   case round =>
    obtain ⟨x,v,hx,rfl,hk,HR⟩:=hrel
    by_cases hlt:x < a0.size
    · obtain ⟨g1,rfl⟩:∃ g1,gk = g1 + 1:=⟨gk - 1,by omega⟩
      obtain ⟨c,hc,htk⟩:=u1n.byte_at a0 x hlt
      have HT:=Aside0.mk htk
      have HC:=Aside0.mk hc
      clear htk hc
      have hcl:wr.cell? ⟨w1.heap.size,x,none⟩ = some (.int .u8 (bt a0 x)):=by
       rw [u1n.cell_same _ _ _ _ HR.out.2.2.1]
       exact HCELL.out x hlt
      have hpl:=Aside0.mk (u1n.part_le a0.data.toList x)
      have hpl2:=Aside0.mk (u1n.part_le a0.data.toList (x + 1))
      have hlen1:Aside0 (((34:UInt8) :: (a0.data.toList.take x).flatMap Base.quoteByte).length + 1 ≤ 140737488355328):=⟨Nat.le_trans hpl.out HLIM.out⟩
      have hrng:=bt_range a0 x
      generalize bt a0 x = z at HC hcl hrng
      have hstep:Aside0 (z = 34 ∨ z = 92 → (34:UInt8) :: (a0.data.toList.take (x + 1)).flatMap Base.quoteByte = ((34:UInt8) :: (a0.data.toList.take x).flatMap Base.quoteByte) ++ [92] ++ [c]):=⟨by
       intro hz
       have h7:Base.quoteByte c = [92,c]:=by
        unfold Base.quoteByte
        rw [if_pos]
        rcases hz with hz | hz
        · left;rw [hz] at HC;have:=HC.out;exact UInt8.toNat_inj.1 (by simpa using (by omega:c.toNat = 34))
        · right;rw [hz] at HC;have:=HC.out;exact UInt8.toNat_inj.1 (by simpa using (by omega:c.toNat = 92))
       rw [HT.out,List.flatMap_append]
       simp [h7]⟩
      have hstep1:Aside0 (¬ z = 34 → ¬ z = 92 → (34:UInt8) :: (a0.data.toList.take (x + 1)).flatMap Base.quoteByte = ((34:UInt8) :: (a0.data.toList.take x).flatMap Base.quoteByte) ++ [c]):=⟨by
       intro hz1 hz2
       have h7:Base.quoteByte c = [c]:=by
        unfold Base.quoteByte
        rw [if_neg]
        rintro (h8 | h8)
        · apply hz1;rw [← HC.out,h8];rfl
        · apply hz2;rw [← HC.out,h8];rfl
       rw [HT.out,List.flatMap_append]
       simp [h7]⟩
      have hlen2:Aside0 (z = 34 ∨ z = 92 → (((34:UInt8) :: (a0.data.toList.take x).flatMap Base.quoteByte) ++ [92]).length + 1 ≤ 140737488355328):=⟨by
       intro hz
       have h8:=hpl2.out
       rw [hstep.out hz] at h8
       have h9:=HLIM.out
       simp only [List.length_append,List.length_cons,List.length_nil] at h8 ⊢
       omega⟩
      by_cases hq:z = 34 ∨ z = 92
      · have HQ:=Aside0.mk hq
        have fin:∀ (W:World),Aside0 (u1n.Inv w.heap.size w1.heap.size ((Lib.bytesWorld w1 5 a0).heap[w1.heap.size]?) w v (34 :: (a0.data.toList.take x).flatMap Base.quoteByte) W) → True:=fun _ _ => trivial
        clear fin
        by_cases h34:z = 34
        · have hb:(z == 34) = true:=by simp [h34]
          clear hq h34
          go_wp2_with fail
          refine (u1n.inv_write _ _ _ w v _ _ HR.out hBD 92 92 rfl hlen1.out).mono ?_
          rintro e W1 ⟨rfl,v2,hI2⟩
          have HI2:=Aside0.mk hI2
          clear hI2
          go_wp2_with fail
          refine (u1n.inv_write _ _ _ w v2 _ _ HI2.out hBD c z HC.out (hlen2.out HQ.out)).mono ?_
          rintro e W2 ⟨rfl,v3,hI3⟩
          rw [← hstep.out HQ.out] at hI3
          have HI3:=Aside0.mk hI3
          clear hI3
          go_wp2
          go_roundg g1
          case rel => exact ⟨x + 1,v3,by omega,by go_num,by omega,HI3⟩
          case measure => omega
        · have h92:z = 92:=by omega
          have hb:(z == 34) = false:=by simp [h34]
          have hb2:(z == 92) = true:=by simp [h92]
          clear hq h34 h92
          go_wp2_with fail
          refine (u1n.inv_write _ _ _ w v _ _ HR.out hBD 92 92 rfl hlen1.out).mono ?_
          rintro e W1 ⟨rfl,v2,hI2⟩
          have HI2:=Aside0.mk hI2
          clear hI2
          go_wp2_with fail
          refine (u1n.inv_write _ _ _ w v2 _ _ HI2.out hBD c z HC.out (hlen2.out HQ.out)).mono ?_
          rintro e W2 ⟨rfl,v3,hI3⟩
          rw [← hstep.out HQ.out] at hI3
          have HI3:=Aside0.mk hI3
          clear hI3
          go_wp2
          go_roundg g1
          case rel => exact ⟨x + 1,v3,by omega,by go_num,by omega,HI3⟩
          case measure => omega
      · have h34:¬ z = 34:=by omega
        have h92:¬ z = 92:=by omega
        have hb:(z == 34) = false:=by simp [h34]
        have hb2:(z == 92) = false:=by simp [h92]
        have HE:=Aside0.mk (hstep1.out h34 h92)
        clear hq h34 h92
        go_wp2_with fail
        refine (u1n.inv_write _ _ _ w v _ _ HR.out hBD c z HC.out hlen1.out).mono ?_
        rintro e W1 ⟨rfl,v2,hI2⟩
        rw [← HE.out] at hI2
        have HI2:=Aside0.mk hI2
        clear hI2
        go_wp2
        go_roundg g1
        case rel => exact ⟨x + 1,v2,by omega,by go_num,by omega,HI2⟩
        case measure => omega
    · have hlen1:Aside0 (((34:UInt8) :: (a0.data.toList.take x).flatMap Base.quoteByte).length + 1 ≤ 140737488355328):=⟨Nat.le_trans (u1n.part_le a0.data.toList x) HLIM.out⟩
      have hfull:a0.data.toList.take x = a0.data.toList:=List.take_of_length_le (by rw [u2k];omega)
      rw [hfull] at HR hlen1
      clear hfull
      go_wp2_with fail
      refine (u1n.inv_write _ _ _ w v _ _ HR.out hBD 34 34 rfl hlen1.out).mono ?_
      rintro e W1 ⟨rfl,v2,hI2⟩
      have HI2:Aside0 (u1n.Inv w.heap.size w1.heap.size ((Lib.bytesWorld w1 5 a0).heap[w1.heap.size]?) w v2 (Base.quoteL a0.data.toList) W1):=⟨by simpa [Base.quoteL] using hI2⟩
      clear hI2
      have hbf:Lib.IsBuilderF 168 5 w.heap.size w.heap.size (Lib.byteCells (Base.quoteL a0.data.toList)) W1:=Lib.IsBuilderF.of (.inr ⟨HI2.out.1.1,v2,HI2.out.1.2.1,HI2.out.1.2.2.1,HI2.out.1.2.2.2⟩)
      have HBF:=Aside0.mk hbf
      clear hbf
      go_wp2_with fail
      refine (Tryz.Builder_String_any_k w.heap.size w.heap.size (Base.quoteL a0.data.toList) W1 HBF.out HI2.out.2.1.size).mono ?_
      rintro e W2 ⟨rfl,_,hb3,_⟩
      have HB3:=Aside0.mk (HI2.out.2.1.trans hb3)
      clear hb3
      go_wp2
      go_ret
      exact ⟨rfl,HB3.out⟩
 · rw [if_neg hlim] at h
   exact absurd h (by simp)
def uv.l0:Nat → ByteArray → Int → Option (Bool)
 | 0,_,_ => none
 | k + 1,x0,x3 => if x3 < (x0.size:Int) then (if 0 ≤ x3 then (if (bt x0 x3) ≥ 97 then (if (bt x0 x3) ≤ 122 then (uv.l0 k x0 (wrap64 (x3 + 1))) else (if (bt x0 x3) ≥ 65 then (if (bt x0 x3) ≤ 90 then (uv.l0 k x0 (wrap64 (x3 + 1))) else (if ((bt x0 x3) = 95) then (uv.l0 k x0 (wrap64 (x3 + 1))) else (if x3 = 0 then (some false) else (if (bt x0 x3) < 48 then (some false) else (if (bt x0 x3) > 57 then (some false) else (uv.l0 k x0 (wrap64 (x3 + 1)))))))) else (if ((bt x0 x3) = 95) then (uv.l0 k x0 (wrap64 (x3 + 1))) else (if x3 = 0 then (some false) else (if (bt x0 x3) < 48 then (some false) else (if (bt x0 x3) > 57 then (some false) else (uv.l0 k x0 (wrap64 (x3 + 1))))))))) else (if (bt x0 x3) ≥ 65 then (if (bt x0 x3) ≤ 90 then (uv.l0 k x0 (wrap64 (x3 + 1))) else (if ((bt x0 x3) = 95) then (uv.l0 k x0 (wrap64 (x3 + 1))) else (if x3 = 0 then (some false) else (if (bt x0 x3) < 48 then (some false) else (if (bt x0 x3) > 57 then (some false) else (uv.l0 k x0 (wrap64 (x3 + 1)))))))) else (if ((bt x0 x3) = 95) then (uv.l0 k x0 (wrap64 (x3 + 1))) else (if x3 = 0 then (some false) else (if (bt x0 x3) < 48 then (some false) else (if (bt x0 x3) > 57 then (some false) else (uv.l0 k x0 (wrap64 (x3 + 1))))))))) else (none)) else (if (x0.size:Int) ≥ 1 then (some (decide ((x0.size:Int) ≤ 24))) else (some false))
def uv.f (k:Nat) (a0:ByteArray):Option (Bool):=uv.l0 k a0 0
set_option maxHeartbeats 8000000 in
set_option maxRecDepth 100000 in
theorem uv.calls (k:Nat) (a0:ByteArray) (r:Bool) (w:World) (h:uv.f k a0 = some r) :
 Calls Tryz.prog 37 #[.string a0] w fun e w' => e = .returned (.bool r) ∧ u1b w w':=by
 have H:(uv.l0 k a0 0) = some r:=h
 clear h
 have H':=Aside0.mk H
 clear H
 go_enter Tryz.func37,Tryz.ntmps37
 go_wp2
 go_loopg [3] k (fun kq v3 w' => ∃ (x3_1:Int),v3 = .int .i64 x3_1 ∧ Aside0 (uv.l0 kq a0 x3_1 = some r) ∧ Aside0 (kq ≤ k) ∧ u1b w w')
 case atStart => exact ⟨(0),(by first | rfl | (simp;done) | (simp [*];done)),H',⟨Nat.le_refl _⟩,by repeat (first | exact u1b.refl _ | apply u1b.step)⟩
 case round =>
  clear H'
  obtain ⟨x3_1,rfl,HA,HK1,⟨m1,rfl⟩⟩:=hrel
  cases gk with
  | zero => exact absurd HA.out (by simp [uv.l0])
  | succ k1 =>
    have H:=HA.out
    clear HA
    simp only [uv.l0] at H
    by_cases c2:x3_1 < (a0.size:Int)
    · rw [if_pos c2] at H
      have c2b0:decide (x3_1 < (a0.size:Int)) = true:=decide_eq_true c2
      clear c2
      by_cases c3:0 ≤ x3_1
      · rw [if_pos c3] at H
        have c3b0:decide (0 ≤ x3_1) = true:=decide_eq_true c3
        clear c3
        by_cases c5:(bt a0 x3_1) ≥ 97
        · rw [if_pos c5] at H
          have c5b0:decide (97 ≤ (bt a0 x3_1)) = true:=decide_eq_true c5
          clear c5
          by_cases c6:(bt a0 x3_1) ≤ 122
          · rw [if_pos c6] at H
            have c6b0:decide ((bt a0 x3_1) ≤ 122) = true:=decide_eq_true c6
            clear c6
            have H':=Aside0.mk H
            clear H
            have p4:0 ≤ (x3_1:Int):=of_decide_eq_true (by first | (with_reducible assumption) | assumption)
            have q4:x3_1 < (a0.size:Int):=of_decide_eq_true (by first | (with_reducible assumption) | assumption)
            have hx4:=bt_at a0 x3_1
            replace p4:=eq_true p4
            replace q4:=eq_true q4
            go_wp2
            go_roundg k1
            case measure => have:=HK1.out;omega
            case rel => exact ⟨(wrap64 (x3_1 + 1)),(by first | rfl | (simp;done) | (simp [*];done)),H',⟨by have:=HK1.out;omega⟩,by repeat (first | exact u1b.refl _ | apply u1b.step)⟩
          · rw [if_neg c6] at H
            have c6b0:decide ((bt a0 x3_1) ≤ 122) = false:=decide_eq_false c6
            clear c6
            by_cases c7:(bt a0 x3_1) ≥ 65
            · rw [if_pos c7] at H
              have c7b0:decide (65 ≤ (bt a0 x3_1)) = true:=decide_eq_true c7
              clear c7
              by_cases c8:(bt a0 x3_1) ≤ 90
              · rw [if_pos c8] at H
                have c8b0:decide ((bt a0 x3_1) ≤ 90) = true:=decide_eq_true c8
                clear c8
                have H':=Aside0.mk H
                clear H
                have p4:0 ≤ (x3_1:Int):=of_decide_eq_true (by first | (with_reducible assumption) | assumption)
                have q4:x3_1 < (a0.size:Int):=of_decide_eq_true (by first | (with_reducible assumption) | assumption)
                have hx4:=bt_at a0 x3_1
                replace p4:=eq_true p4
                replace q4:=eq_true q4
                go_wp2
                go_roundg k1
                case measure => have:=HK1.out;omega
                case rel => exact ⟨(wrap64 (x3_1 + 1)),(by first | rfl | (simp;done) | (simp [*];done)),H',⟨by have:=HK1.out;omega⟩,by repeat (first | exact u1b.refl _ | apply u1b.step)⟩
              · rw [if_neg c8] at H
                have c8b0:decide ((bt a0 x3_1) ≤ 90) = false:=decide_eq_false c8
                clear c8
                by_cases c9:((bt a0 x3_1) = 95)
                · rw [if_pos c9] at H
                  have c9b0:((bt a0 x3_1) == 95) = true:=beq_iff_eq.mpr c9
                  have c9b1:((bt a0 x3_1) != 95) = false:=bne_eq_false_iff_eq.mpr c9
                  clear c9
                  have H':=Aside0.mk H
                  clear H
                  have p4:0 ≤ (x3_1:Int):=of_decide_eq_true (by first | (with_reducible assumption) | assumption)
                  have q4:x3_1 < (a0.size:Int):=of_decide_eq_true (by first | (with_reducible assumption) | assumption)
                  have hx4:=bt_at a0 x3_1
                  replace p4:=eq_true p4
                  replace q4:=eq_true q4
                  go_wp2
                  go_roundg k1
                  case measure => have:=HK1.out;omega
                  case rel => exact ⟨(wrap64 (x3_1 + 1)),(by first | rfl | (simp;done) | (simp [*];done)),H',⟨by have:=HK1.out;omega⟩,by repeat (first | exact u1b.refl _ | apply u1b.step)⟩
                · rw [if_neg c9] at H
                  have c9b0:((bt a0 x3_1) == 95) = false:=beq_eq_false_iff_ne.mpr c9
                  have c9b1:((bt a0 x3_1) != 95) = true:=bne_iff_ne.mpr c9
                  by_cases c10:x3_1 = 0
                  · rw [if_pos c10] at H
                    have c10b0:(x3_1 == 0) = true:=beq_iff_eq.mpr c10
                    have c10b1:(x3_1 != 0) = false:=bne_eq_false_iff_eq.mpr c10
                    clear c10
                    obtain rfl:=Option.some.inj H
                    have p4:0 ≤ (x3_1:Int):=of_decide_eq_true (by first | (with_reducible assumption) | assumption)
                    have q4:x3_1 < (a0.size:Int):=of_decide_eq_true (by first | (with_reducible assumption) | assumption)
                    have hx4:=bt_at a0 x3_1
                    replace p4:=eq_true p4
                    replace q4:=eq_true q4
                    go_wp2
                    go_ret
                    exact ⟨by first | rfl | (simp;done) | (simp [*];done),by repeat (first | exact u1b.refl _ | apply u1b.step)⟩
                  · rw [if_neg c10] at H
                    have c10b0:(x3_1 == 0) = false:=beq_eq_false_iff_ne.mpr c10
                    have c10b1:(x3_1 != 0) = true:=bne_iff_ne.mpr c10
                    by_cases c11:(bt a0 x3_1) < 48
                    · rw [if_pos c11] at H
                      have c11b0:decide ((bt a0 x3_1) < 48) = true:=decide_eq_true c11
                      clear c11
                      obtain rfl:=Option.some.inj H
                      have p4:0 ≤ (x3_1:Int):=of_decide_eq_true (by first | (with_reducible assumption) | assumption)
                      have q4:x3_1 < (a0.size:Int):=of_decide_eq_true (by first | (with_reducible assumption) | assumption)
                      have hx4:=bt_at a0 x3_1
                      replace p4:=eq_true p4
                      replace q4:=eq_true q4
                      go_wp2
                      go_ret
                      exact ⟨by first | rfl | (simp;done) | (simp [*];done),by repeat (first | exact u1b.refl _ | apply u1b.step)⟩
                    · rw [if_neg c11] at H
                      have c11b0:decide ((bt a0 x3_1) < 48) = false:=decide_eq_false c11
                      clear c11
                      by_cases c12:(bt a0 x3_1) > 57
                      · rw [if_pos c12] at H
                        have c12b0:decide (57 < (bt a0 x3_1)) = true:=decide_eq_true c12
                        clear c12
                        obtain rfl:=Option.some.inj H
                        have p4:0 ≤ (x3_1:Int):=of_decide_eq_true (by first | (with_reducible assumption) | assumption)
                        have q4:x3_1 < (a0.size:Int):=of_decide_eq_true (by first | (with_reducible assumption) | assumption)
                        have hx4:=bt_at a0 x3_1
                        replace p4:=eq_true p4
                        replace q4:=eq_true q4
                        go_wp2
                        go_ret
                        exact ⟨by first | rfl | (simp;done) | (simp [*];done),by repeat (first | exact u1b.refl _ | apply u1b.step)⟩
                      · rw [if_neg c12] at H
                        have c12b0:decide (57 < (bt a0 x3_1)) = false:=decide_eq_false c12
                        clear c12
                        have H':=Aside0.mk H
                        clear H
                        have p4:0 ≤ (x3_1:Int):=of_decide_eq_true (by first | (with_reducible assumption) | assumption)
                        have q4:x3_1 < (a0.size:Int):=of_decide_eq_true (by first | (with_reducible assumption) | assumption)
                        have hx4:=bt_at a0 x3_1
                        replace p4:=eq_true p4
                        replace q4:=eq_true q4
                        go_wp2
                        go_roundg k1
                        case measure => have:=HK1.out;omega
                        case rel => exact ⟨(wrap64 (x3_1 + 1)),(by first | rfl | (simp;done) | (simp [*];done)),H',⟨by have:=HK1.out;omega⟩,by repeat (first | exact u1b.refl _ | apply u1b.step)⟩
            · rw [if_neg c7] at H
              have c7b0:decide (65 ≤ (bt a0 x3_1)) = false:=decide_eq_false c7
              clear c7
              by_cases c13:((bt a0 x3_1) = 95)
              · rw [if_pos c13] at H
                have c13b0:((bt a0 x3_1) == 95) = true:=beq_iff_eq.mpr c13
                have c13b1:((bt a0 x3_1) != 95) = false:=bne_eq_false_iff_eq.mpr c13
                clear c13
                have H':=Aside0.mk H
                clear H
                have p4:0 ≤ (x3_1:Int):=of_decide_eq_true (by first | (with_reducible assumption) | assumption)
                have q4:x3_1 < (a0.size:Int):=of_decide_eq_true (by first | (with_reducible assumption) | assumption)
                have hx4:=bt_at a0 x3_1
                replace p4:=eq_true p4
                replace q4:=eq_true q4
                go_wp2
                go_roundg k1
                case measure => have:=HK1.out;omega
                case rel => exact ⟨(wrap64 (x3_1 + 1)),(by first | rfl | (simp;done) | (simp [*];done)),H',⟨by have:=HK1.out;omega⟩,by repeat (first | exact u1b.refl _ | apply u1b.step)⟩
              · rw [if_neg c13] at H
                have c13b0:((bt a0 x3_1) == 95) = false:=beq_eq_false_iff_ne.mpr c13
                have c13b1:((bt a0 x3_1) != 95) = true:=bne_iff_ne.mpr c13
                by_cases c14:x3_1 = 0
                · rw [if_pos c14] at H
                  have c14b0:(x3_1 == 0) = true:=beq_iff_eq.mpr c14
                  have c14b1:(x3_1 != 0) = false:=bne_eq_false_iff_eq.mpr c14
                  clear c14
                  obtain rfl:=Option.some.inj H
                  have p4:0 ≤ (x3_1:Int):=of_decide_eq_true (by first | (with_reducible assumption) | assumption)
                  have q4:x3_1 < (a0.size:Int):=of_decide_eq_true (by first | (with_reducible assumption) | assumption)
                  have hx4:=bt_at a0 x3_1
                  replace p4:=eq_true p4
                  replace q4:=eq_true q4
                  go_wp2
                  go_ret
                  exact ⟨by first | rfl | (simp;done) | (simp [*];done),by repeat (first | exact u1b.refl _ | apply u1b.step)⟩
                · rw [if_neg c14] at H
                  have c14b0:(x3_1 == 0) = false:=beq_eq_false_iff_ne.mpr c14
                  have c14b1:(x3_1 != 0) = true:=bne_iff_ne.mpr c14
                  by_cases c15:(bt a0 x3_1) < 48
                  · rw [if_pos c15] at H
                    have c15b0:decide ((bt a0 x3_1) < 48) = true:=decide_eq_true c15
                    clear c15
                    obtain rfl:=Option.some.inj H
                    have p4:0 ≤ (x3_1:Int):=of_decide_eq_true (by first | (with_reducible assumption) | assumption)
                    have q4:x3_1 < (a0.size:Int):=of_decide_eq_true (by first | (with_reducible assumption) | assumption)
                    have hx4:=bt_at a0 x3_1
                    replace p4:=eq_true p4
                    replace q4:=eq_true q4
                    go_wp2
                    go_ret
                    exact ⟨by first | rfl | (simp;done) | (simp [*];done),by repeat (first | exact u1b.refl _ | apply u1b.step)⟩
                  · rw [if_neg c15] at H
                    have c15b0:decide ((bt a0 x3_1) < 48) = false:=decide_eq_false c15
                    clear c15
                    by_cases c16:(bt a0 x3_1) > 57
                    · rw [if_pos c16] at H
                      have c16b0:decide (57 < (bt a0 x3_1)) = true:=decide_eq_true c16
                      clear c16
                      obtain rfl:=Option.some.inj H
                      have p4:0 ≤ (x3_1:Int):=of_decide_eq_true (by first | (with_reducible assumption) | assumption)
                      have q4:x3_1 < (a0.size:Int):=of_decide_eq_true (by first | (with_reducible assumption) | assumption)
                      have hx4:=bt_at a0 x3_1
                      replace p4:=eq_true p4
                      replace q4:=eq_true q4
                      go_wp2
                      go_ret
                      exact ⟨by first | rfl | (simp;done) | (simp [*];done),by repeat (first | exact u1b.refl _ | apply u1b.step)⟩
                    · rw [if_neg c16] at H
                      have c16b0:decide (57 < (bt a0 x3_1)) = false:=decide_eq_false c16
                      clear c16
                      have H':=Aside0.mk H
                      clear H
                      have p4:0 ≤ (x3_1:Int):=of_decide_eq_true (by first | (with_reducible assumption) | assumption)
                      have q4:x3_1 < (a0.size:Int):=of_decide_eq_true (by first | (with_reducible assumption) | assumption)
                      have hx4:=bt_at a0 x3_1
                      replace p4:=eq_true p4
                      replace q4:=eq_true q4
                      go_wp2
                      go_roundg k1
                      case measure => have:=HK1.out;omega
                      case rel => exact ⟨(wrap64 (x3_1 + 1)),(by first | rfl | (simp;done) | (simp [*];done)),H',⟨by have:=HK1.out;omega⟩,by repeat (first | exact u1b.refl _ | apply u1b.step)⟩
        · rw [if_neg c5] at H
          have c5b0:decide (97 ≤ (bt a0 x3_1)) = false:=decide_eq_false c5
          clear c5
          by_cases c17:(bt a0 x3_1) ≥ 65
          · rw [if_pos c17] at H
            have c17b0:decide (65 ≤ (bt a0 x3_1)) = true:=decide_eq_true c17
            clear c17
            by_cases c18:(bt a0 x3_1) ≤ 90
            · rw [if_pos c18] at H
              have c18b0:decide ((bt a0 x3_1) ≤ 90) = true:=decide_eq_true c18
              clear c18
              have H':=Aside0.mk H
              clear H
              have p4:0 ≤ (x3_1:Int):=of_decide_eq_true (by first | (with_reducible assumption) | assumption)
              have q4:x3_1 < (a0.size:Int):=of_decide_eq_true (by first | (with_reducible assumption) | assumption)
              have hx4:=bt_at a0 x3_1
              replace p4:=eq_true p4
              replace q4:=eq_true q4
              go_wp2
              go_roundg k1
              case measure => have:=HK1.out;omega
              case rel => exact ⟨(wrap64 (x3_1 + 1)),(by first | rfl | (simp;done) | (simp [*];done)),H',⟨by have:=HK1.out;omega⟩,by repeat (first | exact u1b.refl _ | apply u1b.step)⟩
            · rw [if_neg c18] at H
              have c18b0:decide ((bt a0 x3_1) ≤ 90) = false:=decide_eq_false c18
              clear c18
              by_cases c19:((bt a0 x3_1) = 95)
              · rw [if_pos c19] at H
                have c19b0:((bt a0 x3_1) == 95) = true:=beq_iff_eq.mpr c19
                have c19b1:((bt a0 x3_1) != 95) = false:=bne_eq_false_iff_eq.mpr c19
                clear c19
                have H':=Aside0.mk H
                clear H
                have p4:0 ≤ (x3_1:Int):=of_decide_eq_true (by first | (with_reducible assumption) | assumption)
                have q4:x3_1 < (a0.size:Int):=of_decide_eq_true (by first | (with_reducible assumption) | assumption)
                have hx4:=bt_at a0 x3_1
                replace p4:=eq_true p4
                replace q4:=eq_true q4
                go_wp2
                go_roundg k1
                case measure => have:=HK1.out;omega
                case rel => exact ⟨(wrap64 (x3_1 + 1)),(by first | rfl | (simp;done) | (simp [*];done)),H',⟨by have:=HK1.out;omega⟩,by repeat (first | exact u1b.refl _ | apply u1b.step)⟩
              · rw [if_neg c19] at H
                have c19b0:((bt a0 x3_1) == 95) = false:=beq_eq_false_iff_ne.mpr c19
                have c19b1:((bt a0 x3_1) != 95) = true:=bne_iff_ne.mpr c19
                by_cases c20:x3_1 = 0
                · rw [if_pos c20] at H
                  have c20b0:(x3_1 == 0) = true:=beq_iff_eq.mpr c20
                  have c20b1:(x3_1 != 0) = false:=bne_eq_false_iff_eq.mpr c20
                  clear c20
                  obtain rfl:=Option.some.inj H
                  have p4:0 ≤ (x3_1:Int):=of_decide_eq_true (by first | (with_reducible assumption) | assumption)
                  have q4:x3_1 < (a0.size:Int):=of_decide_eq_true (by first | (with_reducible assumption) | assumption)
                  have hx4:=bt_at a0 x3_1
                  replace p4:=eq_true p4
                  replace q4:=eq_true q4
                  go_wp2
                  go_ret
                  exact ⟨by first | rfl | (simp;done) | (simp [*];done),by repeat (first | exact u1b.refl _ | apply u1b.step)⟩
                · rw [if_neg c20] at H
                  have c20b0:(x3_1 == 0) = false:=beq_eq_false_iff_ne.mpr c20
                  have c20b1:(x3_1 != 0) = true:=bne_iff_ne.mpr c20
                  by_cases c21:(bt a0 x3_1) < 48
                  · rw [if_pos c21] at H
                    have c21b0:decide ((bt a0 x3_1) < 48) = true:=decide_eq_true c21
                    clear c21
                    obtain rfl:=Option.some.inj H
                    have p4:0 ≤ (x3_1:Int):=of_decide_eq_true (by first | (with_reducible assumption) | assumption)
                    have q4:x3_1 < (a0.size:Int):=of_decide_eq_true (by first | (with_reducible assumption) | assumption)
                    have hx4:=bt_at a0 x3_1
                    replace p4:=eq_true p4
                    replace q4:=eq_true q4
                    go_wp2
                    go_ret
                    exact ⟨by first | rfl | (simp;done) | (simp [*];done),by repeat (first | exact u1b.refl _ | apply u1b.step)⟩
                  · rw [if_neg c21] at H
                    have c21b0:decide ((bt a0 x3_1) < 48) = false:=decide_eq_false c21
                    clear c21
                    by_cases c22:(bt a0 x3_1) > 57
                    · rw [if_pos c22] at H
                      have c22b0:decide (57 < (bt a0 x3_1)) = true:=decide_eq_true c22
                      clear c22
                      obtain rfl:=Option.some.inj H
                      have p4:0 ≤ (x3_1:Int):=of_decide_eq_true (by first | (with_reducible assumption) | assumption)
                      have q4:x3_1 < (a0.size:Int):=of_decide_eq_true (by first | (with_reducible assumption) | assumption)
                      have hx4:=bt_at a0 x3_1
                      replace p4:=eq_true p4
                      replace q4:=eq_true q4
                      go_wp2
                      go_ret
                      exact ⟨by first | rfl | (simp;done) | (simp [*];done),by repeat (first | exact u1b.refl _ | apply u1b.step)⟩
                    · rw [if_neg c22] at H
                      have c22b0:decide (57 < (bt a0 x3_1)) = false:=decide_eq_false c22
                      clear c22
                      have H':=Aside0.mk H
                      clear H
                      have p4:0 ≤ (x3_1:Int):=of_decide_eq_true (by first | (with_reducible assumption) | assumption)
                      have q4:x3_1 < (a0.size:Int):=of_decide_eq_true (by first | (with_reducible assumption) | assumption)
                      have hx4:=bt_at a0 x3_1
                      replace p4:=eq_true p4
                      replace q4:=eq_true q4
                      go_wp2
                      go_roundg k1
                      case measure => have:=HK1.out;omega
                      case rel => exact ⟨(wrap64 (x3_1 + 1)),(by first | rfl | (simp;done) | (simp [*];done)),H',⟨by have:=HK1.out;omega⟩,by repeat (first | exact u1b.refl _ | apply u1b.step)⟩
          · rw [if_neg c17] at H
            have c17b0:decide (65 ≤ (bt a0 x3_1)) = false:=decide_eq_false c17
            clear c17
            by_cases c23:((bt a0 x3_1) = 95)
            · rw [if_pos c23] at H
              have c23b0:((bt a0 x3_1) == 95) = true:=beq_iff_eq.mpr c23
              have c23b1:((bt a0 x3_1) != 95) = false:=bne_eq_false_iff_eq.mpr c23
              clear c23
              have H':=Aside0.mk H
              clear H
              have p4:0 ≤ (x3_1:Int):=of_decide_eq_true (by first | (with_reducible assumption) | assumption)
              have q4:x3_1 < (a0.size:Int):=of_decide_eq_true (by first | (with_reducible assumption) | assumption)
              have hx4:=bt_at a0 x3_1
              replace p4:=eq_true p4
              replace q4:=eq_true q4
              go_wp2
              go_roundg k1
              case measure => have:=HK1.out;omega
              case rel => exact ⟨(wrap64 (x3_1 + 1)),(by first | rfl | (simp;done) | (simp [*];done)),H',⟨by have:=HK1.out;omega⟩,by repeat (first | exact u1b.refl _ | apply u1b.step)⟩
            · rw [if_neg c23] at H
              have c23b0:((bt a0 x3_1) == 95) = false:=beq_eq_false_iff_ne.mpr c23
              have c23b1:((bt a0 x3_1) != 95) = true:=bne_iff_ne.mpr c23
              by_cases c24:x3_1 = 0
              · rw [if_pos c24] at H
                have c24b0:(x3_1 == 0) = true:=beq_iff_eq.mpr c24
                have c24b1:(x3_1 != 0) = false:=bne_eq_false_iff_eq.mpr c24
                clear c24
                obtain rfl:=Option.some.inj H
                have p4:0 ≤ (x3_1:Int):=of_decide_eq_true (by first | (with_reducible assumption) | assumption)
                have q4:x3_1 < (a0.size:Int):=of_decide_eq_true (by first | (with_reducible assumption) | assumption)
                have hx4:=bt_at a0 x3_1
                replace p4:=eq_true p4
                replace q4:=eq_true q4
                go_wp2
                go_ret
                exact ⟨by first | rfl | (simp;done) | (simp [*];done),by repeat (first | exact u1b.refl _ | apply u1b.step)⟩
              · rw [if_neg c24] at H
                have c24b0:(x3_1 == 0) = false:=beq_eq_false_iff_ne.mpr c24
                have c24b1:(x3_1 != 0) = true:=bne_iff_ne.mpr c24
                by_cases c25:(bt a0 x3_1) < 48
                · rw [if_pos c25] at H
                  have c25b0:decide ((bt a0 x3_1) < 48) = true:=decide_eq_true c25
                  clear c25
                  obtain rfl:=Option.some.inj H
                  have p4:0 ≤ (x3_1:Int):=of_decide_eq_true (by first | (with_reducible assumption) | assumption)
                  have q4:x3_1 < (a0.size:Int):=of_decide_eq_true (by first | (with_reducible assumption) | assumption)
                  have hx4:=bt_at a0 x3_1
                  replace p4:=eq_true p4
                  replace q4:=eq_true q4
                  go_wp2
                  go_ret
                  exact ⟨by first | rfl | (simp;done) | (simp [*];done),by repeat (first | exact u1b.refl _ | apply u1b.step)⟩
                · rw [if_neg c25] at H
                  have c25b0:decide ((bt a0 x3_1) < 48) = false:=decide_eq_false c25
                  clear c25
                  by_cases c26:(bt a0 x3_1) > 57
                  · rw [if_pos c26] at H
                    have c26b0:decide (57 < (bt a0 x3_1)) = true:=decide_eq_true c26
                    clear c26
                    obtain rfl:=Option.some.inj H
                    have p4:0 ≤ (x3_1:Int):=of_decide_eq_true (by first | (with_reducible assumption) | assumption)
                    have q4:x3_1 < (a0.size:Int):=of_decide_eq_true (by first | (with_reducible assumption) | assumption)
                    have hx4:=bt_at a0 x3_1
                    replace p4:=eq_true p4
                    replace q4:=eq_true q4
                    go_wp2
                    go_ret
                    exact ⟨by first | rfl | (simp;done) | (simp [*];done),by repeat (first | exact u1b.refl _ | apply u1b.step)⟩
                  · rw [if_neg c26] at H
                    have c26b0:decide (57 < (bt a0 x3_1)) = false:=decide_eq_false c26
                    clear c26
                    have H':=Aside0.mk H
                    clear H
                    have p4:0 ≤ (x3_1:Int):=of_decide_eq_true (by first | (with_reducible assumption) | assumption)
                    have q4:x3_1 < (a0.size:Int):=of_decide_eq_true (by first | (with_reducible assumption) | assumption)
                    have hx4:=bt_at a0 x3_1
                    replace p4:=eq_true p4
                    replace q4:=eq_true q4
                    go_wp2
                    go_roundg k1
                    case measure => have:=HK1.out;omega
                    case rel => exact ⟨(wrap64 (x3_1 + 1)),(by first | rfl | (simp;done) | (simp [*];done)),H',⟨by have:=HK1.out;omega⟩,by repeat (first | exact u1b.refl _ | apply u1b.step)⟩
      · rw [if_neg c3] at H
        exact absurd H (by simp)
    · rw [if_neg c2] at H
      have c2b0:decide (x3_1 < (a0.size:Int)) = false:=decide_eq_false c2
      clear c2
      by_cases c27:(a0.size:Int) ≥ 1
      · rw [if_pos c27] at H
        have c27b0:decide (1 ≤ (a0.size:Int)) = true:=decide_eq_true c27
        have c27b1:decide (1 ≤ a0.size) = true:=decide_eq_true (by omega)
        clear c27
        obtain rfl:=Option.some.inj H
        go_wp2
        go_ret
        exact ⟨by first | rfl | (simp;done) | (simp [*];done),by repeat (first | exact u1b.refl _ | apply u1b.step)⟩
      · rw [if_neg c27] at H
        have c27b0:decide (1 ≤ (a0.size:Int)) = false:=decide_eq_false c27
        have c27b1:decide (1 ≤ a0.size) = false:=decide_eq_false (by omega)
        clear c27
        obtain rfl:=Option.some.inj H
        go_wp2
        go_ret
        exact ⟨by first | rfl | (simp;done) | (simp [*];done),by repeat (first | exact u1b.refl _ | apply u1b.step)⟩
def u3j.l0:Nat → ByteArray → Int → Option (ByteArray × ByteArray)
 | 0,_,_ => none
 | k + 1,x0,x4 => if x4 < (x0.size:Int) then (if 0 ≤ x4 then (if x4 ≤ (wrap64 (x4 + 1)) then (if (wrap64 (x4 + 1)) ≤ (x0.size:Int) then (if 1 + (x0.extract (x4:Int).toNat ((wrap64 (x4 + 1)):Int).toNat).size ≤ 9223372036854775807 then ((uv.f k ((⟨#[97]⟩:ByteArray) ++ (x0.extract (x4:Int).toNat ((wrap64 (x4 + 1)):Int).toNat))).bind fun t113 => (if t113 = true then (u3j.l0 k x0 (wrap64 (x4 + 1))) else (if x4 ≤ (x0.size:Int) then (some (x0.extract 0 (x4:Int).toNat,x0.extract (x4:Int).toNat x0.size)) else (none)))) else (none)) else (none)) else (none)) else (none)) else (if 0 ≤ x4 then (if x4 ≤ (x0.size:Int) then (some (x0.extract 0 (x4:Int).toNat,x0.extract (x4:Int).toNat x0.size)) else (none)) else (none))
def u3j.f (k:Nat) (a0:ByteArray):Option (ByteArray × ByteArray):=u3j.l0 k a0 0
mutual
def u1w.j0:Nat → List (S66) → Bool → Option (Bool)
 | 0,_,_ => none
 | k + 1,x0,x13 => if x13 = true then (some false) else (u1w.l0 k (⟨#[]⟩:ByteArray) x0 (x0.length:Int) 0)
def u1w.l0:Nat → ByteArray → List (S66) → Int → Int → Option (Bool)
 | 0,_,_,_,_ => none
 | k + 1,x3,x14,x15,x16 => if x16 < x15 then (if 0 ≤ x16 then (if x16 < (x14.length:Int) then ((u1r.f ((uq x14 x16).f0)).bind fun t103 => (if t103 = true then ((u3e.f ((uq x14 x16).f1)).bind fun t104 => (if t104 = true then (if ((Op.bytesLess x3.toList (((uq x14 x16).f0).toList)) = true) then (u1w.l0 k ((uq x14 x16).f0) x14 x15 (wrap64 (x16 + 1))) else (some false)) else (some false))) else (some false))) else (none)) else (none)) else (some true)
end
def u1w.f (k:Nat) (l0:List (S66)):Option (Bool):=if (l0.length:Int) = 0 then (u1w.j0 k l0 true) else (u1w.j0 k l0 (decide ((l0.length:Int) > 8)))
set_option maxHeartbeats 8000000 in
set_option maxRecDepth 100000 in
theorem u1w.calls (k:Nat) (A0:Option Addr) (c0:Nat) (l0:List (S66)) (r:Bool) (w:World) (hr0:Kd.C k66 w A0 l0.length l0) (hc0:l0.length ≤ c0) (h:u1w.f k l0 = some r) :
 Calls Tryz.prog 33 #[.slice A0 l0.length c0] w fun e w' => e = .returned (.bool r) ∧ Below w.heap.size w w':=by
 have hu66:=Tryz.underlying66
 have HR0:=Aside0.mk hr0
 have HC0:=Aside0.mk hc0
 clear hr0 hc0
 have HB:=Aside0.mk (Below.refl w.heap.size w)
 have H:(if (l0.length:Int) = 0 then (u1w.j0 k l0 true) else (u1w.j0 k l0 (decide ((l0.length:Int) > 8)))) = some r:=h
 clear h
 have HC2:=Aside0.mk H
 clear H
 go_enter Tryz.func33,Tryz.ntmps33
 go_upto_region 1 with (fail)
 go_cut [13] (fun v13 wc => ∃ (kq:Nat) (x13_1:Bool),v13 = .bool x13_1 ∧ Aside0 (u1w.j0 kq l0 x13_1 = some r) ∧ Aside0 (kq ≤ k) ∧ Aside0 (Below w.heap.size w wc))
 case first =>
  have H:=HC2.out
  clear HC2
  by_cases c3:(l0.length:Int) = 0
  · rw [if_pos c3] at H
    have c3b0:((l0.length:Int) == 0) = true:=beq_iff_eq.mpr c3
    have c3b1:((l0.length:Int) != 0) = false:=bne_eq_false_iff_eq.mpr c3
    clear c3
    (first | rw [c3b0] | (simp only [i64_w,i32_w];rw [c3b0]) | skip)
    have H':=Aside0.mk H
    clear H
    go_wp2
    go_meet
    case rel => exact ⟨_,(true),(by first | rfl | (simp;done) | (simp [*];done)),H',⟨by first | omega | exact Nat.le_refl _⟩,⟨by repeat (first | (with_reducible first | exact HB.out | apply ud | apply ub | apply uf) | exact HB.out)⟩⟩
  · rw [if_neg c3] at H
    have c3b0:((l0.length:Int) == 0) = false:=beq_eq_false_iff_ne.mpr c3
    have c3b1:((l0.length:Int) != 0) = true:=bne_iff_ne.mpr c3
    have c3b2:¬ (l0 = []):=fun h_ => c3 (by rw [h_];rfl)
    (first | rw [c3b0] | (simp only [i64_w,i32_w];rw [c3b0]) | skip)
    have H':=Aside0.mk H
    clear H
    go_wp2
    go_meet
    case rel => exact ⟨_,(decide ((l0.length:Int) > 8)),(by first | rfl | (simp;done) | (simp [*];done)),H',⟨by first | omega | exact Nat.le_refl _⟩,⟨by repeat (first | (with_reducible first | exact HB.out | apply ud | apply ub | apply uf) | exact HB.out)⟩⟩
 case rest =>
  clear HC2
  try clear p2
  try clear c3
  try clear c3b0
  try clear c3b1
  try clear c3b2
  obtain ⟨kq,x13_1,rfl,HA,HJ1,HB⟩:=hcut
  cases kq with
  | zero => exact absurd HA.out (by simp [u1w.j0])
  | succ kj1 =>
    have H:=HA.out
    clear HA
    simp only [u1w.j0] at H
    by_cases c4:x13_1 = true
    · subst c4
      have H1:(some false) = some r:=by rw [if_pos rfl] at H;exact H
      clear H
      have H:=H1
      clear H1
      obtain rfl:=Option.some.inj H
      go_wp2
      go_ret
      exact ⟨by first | rfl | (simp [u2c,u2b] <;> rfl) | (simp [*,u2c,u2b] <;> rfl),by repeat (first | (with_reducible first | exact HB.out | apply ud | apply ub | apply uf) | exact HB.out)⟩
    · replace c4:=Bool.eq_false_iff.mpr c4
      subst c4
      have H1:(u1w.l0 kj1 (⟨#[]⟩:ByteArray) l0 (l0.length:Int) 0) = some r:=by rw [if_neg (show ¬ (false = true) by decide)] at H;exact H
      clear H
      have H:=H1
      clear H1
      have H':=Aside0.mk H
      clear H
      go_wp2
      go_loopg [3,16] kj1 (fun kq v3 v16 w' => ∃ (x3_2:ByteArray) (x16_2:Int),v3 = .string x3_2 ∧ v16 = .int .i64 x16_2 ∧ Aside0 (u1w.l0 kq x3_2 l0 (l0.length:Int) x16_2 = some r) ∧ Aside0 (kq ≤ kj1) ∧ Aside0 (Below w.heap.size w w'))
      case atStart => exact ⟨((⟨#[]⟩:ByteArray)),(0),(by first | rfl | (simp;done) | (simp [*];done)),(by first | rfl | (simp;done) | (simp [*];done)),H',⟨Nat.le_refl _⟩,⟨by repeat (first | (with_reducible first | exact HB.out | apply ud | apply ub | apply uf) | exact HB.out)⟩⟩
      case round =>
       clear H'
       try clear p2
       try clear c3
       try clear c3b0
       try clear c3b1
       try clear c3b2
       try clear c4
       try clear p2
       obtain ⟨x3_2,x16_2,rfl,rfl,HA,HK2,HB⟩:=hrel
       cases gk with
       | zero => exact absurd HA.out (by simp [u1w.l0])
       | succ k2 =>
         have H:=HA.out
         clear HA
         simp only [u1w.l0] at H
         by_cases c5:x16_2 < (l0.length:Int)
         · rw [if_pos c5] at H
           have c5b0:decide (x16_2 < (l0.length:Int)) = true:=decide_eq_true c5
           clear c5
           by_cases c6:0 ≤ x16_2
           · rw [if_pos c6] at H
             have c6b0:decide (0 ≤ x16_2) = true:=decide_eq_true c6
             clear c6
             by_cases c7:x16_2 < (l0.length:Int)
             · rw [if_pos c7] at H
               have c7b0:decide (x16_2 < (l0.length:Int)) = true:=decide_eq_true c7
               clear c7
               replace H:=Option.bind_eq_some_iff.mp H
               obtain ⟨t103,A80,H⟩:=H
               replace H:(if t103 = true then ((u3e.f ((uq l0 x16_2).f1)).bind fun t104 => (if t104 = true then (if ((Op.bytesLess x3_2.toList (((uq l0 x16_2).f0).toList)) = true) then (u1w.l0 k2 ((uq l0 x16_2).f0) l0 (l0.length:Int) (wrap64 (x16_2 + 1))) else (some false)) else (some false))) else (some false)) = some r:=H
               have A8:=Aside0.mk A80
               clear A80
               by_cases c9:t103 = true
               · subst c9
                 have H1:((u3e.f ((uq l0 x16_2).f1)).bind fun t104 => (if t104 = true then (if ((Op.bytesLess x3_2.toList (((uq l0 x16_2).f0).toList)) = true) then (u1w.l0 k2 ((uq l0 x16_2).f0) l0 (l0.length:Int) (wrap64 (x16_2 + 1))) else (some false)) else (some false))) = some r:=by rw [if_pos rfl] at H;exact H
                 clear H
                 have H:=H1
                 clear H1
                 replace H:=Option.bind_eq_some_iff.mp H
                 obtain ⟨t104,A100,H⟩:=H
                 replace H:(if t104 = true then (if ((Op.bytesLess x3_2.toList (((uq l0 x16_2).f0).toList)) = true) then (u1w.l0 k2 ((uq l0 x16_2).f0) l0 (l0.length:Int) (wrap64 (x16_2 + 1))) else (some false)) else (some false)) = some r:=H
                 have A10:=Aside0.mk A100
                 clear A100
                 by_cases c11:t104 = true
                 · subst c11
                   have H1:(if ((Op.bytesLess x3_2.toList (((uq l0 x16_2).f0).toList)) = true) then (u1w.l0 k2 ((uq l0 x16_2).f0) l0 (l0.length:Int) (wrap64 (x16_2 + 1))) else (some false)) = some r:=by rw [if_pos rfl] at H;exact H
                   clear H
                   have H:=H1
                   clear H1
                   by_cases c12:((Op.bytesLess x3_2.toList (((uq l0 x16_2).f0).toList)) = true)
                   · rw [if_pos c12] at H
                     have c12b0:(Op.bytesLess x3_2.toList (((uq l0 x16_2).f0).toList)) = true:=c12
                     clear c12
                     have H':=Aside0.mk H
                     clear H
                     have p101:0 ≤ (x16_2:Int):=of_decide_eq_true (by first | (with_reducible assumption) | assumption)
                     have q101:x16_2 < (l0.length:Int):=of_decide_eq_true (by first | (with_reducible assumption) | assumption)
                     obtain ⟨ad101,e101,hx101_0,hx101_1⟩:=at_T66 HR0.out x16_2 p101 q101
                     cases e101
                     replace hx101_0:=(HB.out.cell (World.block_lt_of_cell? w _ hx101_0)).trans hx101_0
                     replace hx101_1:=(HB.out.cell (World.block_lt_of_cell? w _ hx101_1)).trans hx101_1
                     replace p101:=eq_true p101
                     replace q101:=eq_true q101
                     go_wp2_with (first | ((with_reducible refine u2u (N:=5) rfl ?_);(try (refine u3o (by rfl) ?_;dsimp only));refine u2r ?hg (N:=5) ?hd (cs:=#[.string (⟨#[]⟩:ByteArray),.string (⟨#[]⟩:ByteArray)]) (t:=66) ?hr ?_;(case hd => rfl);(case hg => rfl);(case hr => first | (go_simp;done) | (go_simp;rfl));intro gb102 hg w13 hbox hb;have n0_:=Aside0.mk (u1d (by repeat (first | (with_reducible first | exact HB.out | apply ud | apply ub | apply uf) | exact HB.out)) hb);have n1_:=Aside0.mk (hbox);have n2_:=Aside0.mk ((by rw [hg];exact (u1c (by repeat (first | (with_reducible first | exact HB.out | apply ud | apply ub | apply uf) | exact HB.out))):w.heap.size ≤ gb102));have n3_:=Aside0.mk ((by rw [hg];exact (u1c (by repeat (first | (with_reducible first | exact HB.out | apply ud | apply ub | apply uf) | exact HB.out))):w.heap.size ≤ gb102));clear HB;have HB:=n0_;have BK102:=n1_;have GW102:=n2_;have GE102:=n3_;clear n0_ n1_ n2_ n3_;clear hb hbox hg;have hcz14_0:w13.cell? ⟨gb102,0,none⟩ = some (.string (⟨#[]⟩:ByteArray)):=(uj BK102.out 0).trans rfl;have hcz14_1:w13.cell? ⟨gb102,1,none⟩ = some (.string (⟨#[]⟩:ByteArray)):=(uj BK102.out 1).trans rfl;have hfz14_0:=uo BK102.out 0;have hfz14_1:=uo BK102.out 1) | ((with_reducible refine u3d (f:=29) rfl ?_);refine goesL_ (some 22) rfl rfl Tryz.func29 (by kernel_rfl) rfl #[.string ((uq l0 x16_2).f0)] rfl (by (try simp only [List.map_toArray,List.map_cons,List.map_nil]);first | done | rfl | (simp only [List.length_drop,List.length_take];rfl)) ?_;(with_reducible refine (u1r.calls ((uq l0 x16_2).f0) true _ A8.out).mono ?_);rintro e w15 ⟨rfl,hb⟩;refine ⟨_,rfl,?_⟩;have n0_:=Aside0.mk (u2d (g:=gb102) (o:=.cells #[.string ((uq l0 x16_2).f0),.string ((uq l0 x16_2).f1)] 66 (0,0)) (by (with_reducible repeat (first | refine uu ?_ _ | refine uy ?_ | refine us ?_ _));refine u3f (cs:=#[.string ((uq l0 x16_2).f0),.string (⟨#[]⟩:ByteArray)]) ?_ 1 _ rfl;(with_reducible repeat (first | refine uu ?_ _ | refine uy ?_ | refine us ?_ _));refine u3f (cs:=#[.string (⟨#[]⟩:ByteArray),.string (⟨#[]⟩:ByteArray)]) ?_ 0 _ rfl;(with_reducible repeat (first | refine uu ?_ _ | refine uy ?_ | refine us ?_ _));exact BK102.out) hb);have n1_:=Aside0.mk (u1d (by repeat (first | (with_reducible first | exact HB.out | apply ud | apply ub | apply uf | refine uz ?_ GE102.out) | exact HB.out)) hb);clear BK102;clear HB;have BK102:=n0_;have HB:=n1_;clear n0_ n1_;(try clear hb);(try clear hb2);(try clear hk);(try clear hi);have hcz16_0:w15.cell? ⟨gb102,0,none⟩ = some (.string ((uq l0 x16_2).f0)):=(uj BK102.out 0).trans rfl;have hcz16_1:w15.cell? ⟨gb102,1,none⟩ = some (.string ((uq l0 x16_2).f1)):=(uj BK102.out 1).trans rfl;have hfz16_0:=uo BK102.out 0;have hfz16_1:=uo BK102.out 1) | (go_at_call 60;(with_reducible refine (u3e.calls ((uq l0 x16_2).f1) true _ A10.out).mono ?_);rintro e w17 ⟨rfl,hb⟩;have n0_:=Aside0.mk (u2d (g:=gb102) (o:=.cells #[.string ((uq l0 x16_2).f0),.string ((uq l0 x16_2).f1)] 66 (0,0)) (by (with_reducible repeat (first | refine uu ?_ _ | refine uy ?_ | refine us ?_ _));exact BK102.out) hb);have n1_:=Aside0.mk (u1d (by repeat (first | (with_reducible first | exact HB.out | apply ud | apply ub | apply uf | refine uz ?_ GE102.out) | exact HB.out)) hb);clear BK102;clear HB;have BK102:=n0_;have HB:=n1_;clear n0_ n1_;(try clear hb);(try clear hb2);(try clear hk);(try clear hi);have hcz18_0:w17.cell? ⟨gb102,0,none⟩ = some (.string ((uq l0 x16_2).f0)):=(uj BK102.out 0).trans rfl;have hcz18_1:w17.cell? ⟨gb102,1,none⟩ = some (.string ((uq l0 x16_2).f1)):=(uj BK102.out 1).trans rfl;have hfz18_0:=uo BK102.out 0;have hfz18_1:=uo BK102.out 1))
                     go_roundg k2
                     case measure => have:=HJ1.out;have:=HK2.out;omega
                     case rel => exact ⟨((uq l0 x16_2).f0),(wrap64 (x16_2 + 1)),(by first | rfl | (simp;done) | (simp [*];done)),(by first | rfl | (simp;done) | (simp [*];done)),H',⟨by have:=HJ1.out;have:=HK2.out;omega⟩,⟨by repeat (first | (with_reducible first | exact HB.out | apply ud | apply ub | apply uf | refine uz ?_ GE102.out) | exact HB.out)⟩⟩
                   · rw [if_neg c12] at H
                     have c12b0:(Op.bytesLess x3_2.toList (((uq l0 x16_2).f0).toList)) = false:=by simpa using c12
                     clear c12
                     obtain rfl:=Option.some.inj H
                     have p101:0 ≤ (x16_2:Int):=of_decide_eq_true (by first | (with_reducible assumption) | assumption)
                     have q101:x16_2 < (l0.length:Int):=of_decide_eq_true (by first | (with_reducible assumption) | assumption)
                     obtain ⟨ad101,e101,hx101_0,hx101_1⟩:=at_T66 HR0.out x16_2 p101 q101
                     cases e101
                     replace hx101_0:=(HB.out.cell (World.block_lt_of_cell? w _ hx101_0)).trans hx101_0
                     replace hx101_1:=(HB.out.cell (World.block_lt_of_cell? w _ hx101_1)).trans hx101_1
                     replace p101:=eq_true p101
                     replace q101:=eq_true q101
                     go_wp2_with (first | ((with_reducible refine u2u (N:=5) rfl ?_);(try (refine u3o (by rfl) ?_;dsimp only));refine u2r ?hg (N:=5) ?hd (cs:=#[.string (⟨#[]⟩:ByteArray),.string (⟨#[]⟩:ByteArray)]) (t:=66) ?hr ?_;(case hd => rfl);(case hg => rfl);(case hr => first | (go_simp;done) | (go_simp;rfl));intro gb102 hg w19 hbox hb;have n0_:=Aside0.mk (u1d (by repeat (first | (with_reducible first | exact HB.out | apply ud | apply ub | apply uf) | exact HB.out)) hb);have n1_:=Aside0.mk (hbox);have n2_:=Aside0.mk ((by rw [hg];exact (u1c (by repeat (first | (with_reducible first | exact HB.out | apply ud | apply ub | apply uf) | exact HB.out))):w.heap.size ≤ gb102));have n3_:=Aside0.mk ((by rw [hg];exact (u1c (by repeat (first | (with_reducible first | exact HB.out | apply ud | apply ub | apply uf) | exact HB.out))):w.heap.size ≤ gb102));clear HB;have HB:=n0_;have BK102:=n1_;have GW102:=n2_;have GE102:=n3_;clear n0_ n1_ n2_ n3_;clear hb hbox hg;have hcz20_0:w19.cell? ⟨gb102,0,none⟩ = some (.string (⟨#[]⟩:ByteArray)):=(uj BK102.out 0).trans rfl;have hcz20_1:w19.cell? ⟨gb102,1,none⟩ = some (.string (⟨#[]⟩:ByteArray)):=(uj BK102.out 1).trans rfl;have hfz20_0:=uo BK102.out 0;have hfz20_1:=uo BK102.out 1) | ((with_reducible refine u3d (f:=29) rfl ?_);refine goesL_ (some 22) rfl rfl Tryz.func29 (by kernel_rfl) rfl #[.string ((uq l0 x16_2).f0)] rfl (by (try simp only [List.map_toArray,List.map_cons,List.map_nil]);first | done | rfl | (simp only [List.length_drop,List.length_take];rfl)) ?_;(with_reducible refine (u1r.calls ((uq l0 x16_2).f0) true _ A8.out).mono ?_);rintro e w21 ⟨rfl,hb⟩;refine ⟨_,rfl,?_⟩;have n0_:=Aside0.mk (u2d (g:=gb102) (o:=.cells #[.string ((uq l0 x16_2).f0),.string ((uq l0 x16_2).f1)] 66 (0,0)) (by (with_reducible repeat (first | refine uu ?_ _ | refine uy ?_ | refine us ?_ _));refine u3f (cs:=#[.string ((uq l0 x16_2).f0),.string (⟨#[]⟩:ByteArray)]) ?_ 1 _ rfl;(with_reducible repeat (first | refine uu ?_ _ | refine uy ?_ | refine us ?_ _));refine u3f (cs:=#[.string (⟨#[]⟩:ByteArray),.string (⟨#[]⟩:ByteArray)]) ?_ 0 _ rfl;(with_reducible repeat (first | refine uu ?_ _ | refine uy ?_ | refine us ?_ _));exact BK102.out) hb);have n1_:=Aside0.mk (u1d (by repeat (first | (with_reducible first | exact HB.out | apply ud | apply ub | apply uf | refine uz ?_ GE102.out) | exact HB.out)) hb);clear BK102;clear HB;have BK102:=n0_;have HB:=n1_;clear n0_ n1_;(try clear hb);(try clear hb2);(try clear hk);(try clear hi);have hcz22_0:w21.cell? ⟨gb102,0,none⟩ = some (.string ((uq l0 x16_2).f0)):=(uj BK102.out 0).trans rfl;have hcz22_1:w21.cell? ⟨gb102,1,none⟩ = some (.string ((uq l0 x16_2).f1)):=(uj BK102.out 1).trans rfl;have hfz22_0:=uo BK102.out 0;have hfz22_1:=uo BK102.out 1) | (go_at_call 60;(with_reducible refine (u3e.calls ((uq l0 x16_2).f1) true _ A10.out).mono ?_);rintro e w23 ⟨rfl,hb⟩;have n0_:=Aside0.mk (u2d (g:=gb102) (o:=.cells #[.string ((uq l0 x16_2).f0),.string ((uq l0 x16_2).f1)] 66 (0,0)) (by (with_reducible repeat (first | refine uu ?_ _ | refine uy ?_ | refine us ?_ _));exact BK102.out) hb);have n1_:=Aside0.mk (u1d (by repeat (first | (with_reducible first | exact HB.out | apply ud | apply ub | apply uf | refine uz ?_ GE102.out) | exact HB.out)) hb);clear BK102;clear HB;have BK102:=n0_;have HB:=n1_;clear n0_ n1_;(try clear hb);(try clear hb2);(try clear hk);(try clear hi);have hcz24_0:w23.cell? ⟨gb102,0,none⟩ = some (.string ((uq l0 x16_2).f0)):=(uj BK102.out 0).trans rfl;have hcz24_1:w23.cell? ⟨gb102,1,none⟩ = some (.string ((uq l0 x16_2).f1)):=(uj BK102.out 1).trans rfl;have hfz24_0:=uo BK102.out 0;have hfz24_1:=uo BK102.out 1))
                     go_ret
                     exact ⟨by first | rfl | (simp [u2c,u2b] <;> rfl) | (simp [*,u2c,u2b] <;> rfl),by repeat (first | (with_reducible first | exact HB.out | apply ud | apply ub | apply uf | refine uz ?_ GE102.out) | exact HB.out)⟩
                 · replace c11:=Bool.eq_false_iff.mpr c11
                   subst c11
                   have H1:(some false) = some r:=by rw [if_neg (show ¬ (false = true) by decide)] at H;exact H
                   clear H
                   have H:=H1
                   clear H1
                   obtain rfl:=Option.some.inj H
                   have p101:0 ≤ (x16_2:Int):=of_decide_eq_true (by first | (with_reducible assumption) | assumption)
                   have q101:x16_2 < (l0.length:Int):=of_decide_eq_true (by first | (with_reducible assumption) | assumption)
                   obtain ⟨ad101,e101,hx101_0,hx101_1⟩:=at_T66 HR0.out x16_2 p101 q101
                   cases e101
                   replace hx101_0:=(HB.out.cell (World.block_lt_of_cell? w _ hx101_0)).trans hx101_0
                   replace hx101_1:=(HB.out.cell (World.block_lt_of_cell? w _ hx101_1)).trans hx101_1
                   replace p101:=eq_true p101
                   replace q101:=eq_true q101
                   go_wp2_with (first | ((with_reducible refine u2u (N:=5) rfl ?_);(try (refine u3o (by rfl) ?_;dsimp only));refine u2r ?hg (N:=5) ?hd (cs:=#[.string (⟨#[]⟩:ByteArray),.string (⟨#[]⟩:ByteArray)]) (t:=66) ?hr ?_;(case hd => rfl);(case hg => rfl);(case hr => first | (go_simp;done) | (go_simp;rfl));intro gb102 hg w25 hbox hb;have n0_:=Aside0.mk (u1d (by repeat (first | (with_reducible first | exact HB.out | apply ud | apply ub | apply uf) | exact HB.out)) hb);have n1_:=Aside0.mk (hbox);have n2_:=Aside0.mk ((by rw [hg];exact (u1c (by repeat (first | (with_reducible first | exact HB.out | apply ud | apply ub | apply uf) | exact HB.out))):w.heap.size ≤ gb102));have n3_:=Aside0.mk ((by rw [hg];exact (u1c (by repeat (first | (with_reducible first | exact HB.out | apply ud | apply ub | apply uf) | exact HB.out))):w.heap.size ≤ gb102));clear HB;have HB:=n0_;have BK102:=n1_;have GW102:=n2_;have GE102:=n3_;clear n0_ n1_ n2_ n3_;clear hb hbox hg;have hcz26_0:w25.cell? ⟨gb102,0,none⟩ = some (.string (⟨#[]⟩:ByteArray)):=(uj BK102.out 0).trans rfl;have hcz26_1:w25.cell? ⟨gb102,1,none⟩ = some (.string (⟨#[]⟩:ByteArray)):=(uj BK102.out 1).trans rfl;have hfz26_0:=uo BK102.out 0;have hfz26_1:=uo BK102.out 1) | ((with_reducible refine u3d (f:=29) rfl ?_);refine goesL_ (some 22) rfl rfl Tryz.func29 (by kernel_rfl) rfl #[.string ((uq l0 x16_2).f0)] rfl (by (try simp only [List.map_toArray,List.map_cons,List.map_nil]);first | done | rfl | (simp only [List.length_drop,List.length_take];rfl)) ?_;(with_reducible refine (u1r.calls ((uq l0 x16_2).f0) true _ A8.out).mono ?_);rintro e w27 ⟨rfl,hb⟩;refine ⟨_,rfl,?_⟩;have n0_:=Aside0.mk (u2d (g:=gb102) (o:=.cells #[.string ((uq l0 x16_2).f0),.string ((uq l0 x16_2).f1)] 66 (0,0)) (by (with_reducible repeat (first | refine uu ?_ _ | refine uy ?_ | refine us ?_ _));refine u3f (cs:=#[.string ((uq l0 x16_2).f0),.string (⟨#[]⟩:ByteArray)]) ?_ 1 _ rfl;(with_reducible repeat (first | refine uu ?_ _ | refine uy ?_ | refine us ?_ _));refine u3f (cs:=#[.string (⟨#[]⟩:ByteArray),.string (⟨#[]⟩:ByteArray)]) ?_ 0 _ rfl;(with_reducible repeat (first | refine uu ?_ _ | refine uy ?_ | refine us ?_ _));exact BK102.out) hb);have n1_:=Aside0.mk (u1d (by repeat (first | (with_reducible first | exact HB.out | apply ud | apply ub | apply uf | refine uz ?_ GE102.out) | exact HB.out)) hb);clear BK102;clear HB;have BK102:=n0_;have HB:=n1_;clear n0_ n1_;(try clear hb);(try clear hb2);(try clear hk);(try clear hi);have hcz28_0:w27.cell? ⟨gb102,0,none⟩ = some (.string ((uq l0 x16_2).f0)):=(uj BK102.out 0).trans rfl;have hcz28_1:w27.cell? ⟨gb102,1,none⟩ = some (.string ((uq l0 x16_2).f1)):=(uj BK102.out 1).trans rfl;have hfz28_0:=uo BK102.out 0;have hfz28_1:=uo BK102.out 1) | (go_at_call 60;(with_reducible refine (u3e.calls ((uq l0 x16_2).f1) false _ A10.out).mono ?_);rintro e w29 ⟨rfl,hb⟩;have n0_:=Aside0.mk (u2d (g:=gb102) (o:=.cells #[.string ((uq l0 x16_2).f0),.string ((uq l0 x16_2).f1)] 66 (0,0)) (by (with_reducible repeat (first | refine uu ?_ _ | refine uy ?_ | refine us ?_ _));exact BK102.out) hb);have n1_:=Aside0.mk (u1d (by repeat (first | (with_reducible first | exact HB.out | apply ud | apply ub | apply uf | refine uz ?_ GE102.out) | exact HB.out)) hb);clear BK102;clear HB;have BK102:=n0_;have HB:=n1_;clear n0_ n1_;(try clear hb);(try clear hb2);(try clear hk);(try clear hi)))
                   go_ret
                   exact ⟨by first | rfl | (simp [u2c,u2b] <;> rfl) | (simp [*,u2c,u2b] <;> rfl),by repeat (first | (with_reducible first | exact HB.out | apply ud | apply ub | apply uf | refine uz ?_ GE102.out) | exact HB.out)⟩
               · replace c9:=Bool.eq_false_iff.mpr c9
                 subst c9
                 have H1:(some false) = some r:=by rw [if_neg (show ¬ (false = true) by decide)] at H;exact H
                 clear H
                 have H:=H1
                 clear H1
                 obtain rfl:=Option.some.inj H
                 have p101:0 ≤ (x16_2:Int):=of_decide_eq_true (by first | (with_reducible assumption) | assumption)
                 have q101:x16_2 < (l0.length:Int):=of_decide_eq_true (by first | (with_reducible assumption) | assumption)
                 obtain ⟨ad101,e101,hx101_0,hx101_1⟩:=at_T66 HR0.out x16_2 p101 q101
                 cases e101
                 replace hx101_0:=(HB.out.cell (World.block_lt_of_cell? w _ hx101_0)).trans hx101_0
                 replace hx101_1:=(HB.out.cell (World.block_lt_of_cell? w _ hx101_1)).trans hx101_1
                 replace p101:=eq_true p101
                 replace q101:=eq_true q101
                 go_wp2_with (first | ((with_reducible refine u2u (N:=5) rfl ?_);(try (refine u3o (by rfl) ?_;dsimp only));refine u2r ?hg (N:=5) ?hd (cs:=#[.string (⟨#[]⟩:ByteArray),.string (⟨#[]⟩:ByteArray)]) (t:=66) ?hr ?_;(case hd => rfl);(case hg => rfl);(case hr => first | (go_simp;done) | (go_simp;rfl));intro gb102 hg w30 hbox hb;have n0_:=Aside0.mk (u1d (by repeat (first | (with_reducible first | exact HB.out | apply ud | apply ub | apply uf) | exact HB.out)) hb);have n1_:=Aside0.mk (hbox);have n2_:=Aside0.mk ((by rw [hg];exact (u1c (by repeat (first | (with_reducible first | exact HB.out | apply ud | apply ub | apply uf) | exact HB.out))):w.heap.size ≤ gb102));have n3_:=Aside0.mk ((by rw [hg];exact (u1c (by repeat (first | (with_reducible first | exact HB.out | apply ud | apply ub | apply uf) | exact HB.out))):w.heap.size ≤ gb102));clear HB;have HB:=n0_;have BK102:=n1_;have GW102:=n2_;have GE102:=n3_;clear n0_ n1_ n2_ n3_;clear hb hbox hg;have hcz31_0:w30.cell? ⟨gb102,0,none⟩ = some (.string (⟨#[]⟩:ByteArray)):=(uj BK102.out 0).trans rfl;have hcz31_1:w30.cell? ⟨gb102,1,none⟩ = some (.string (⟨#[]⟩:ByteArray)):=(uj BK102.out 1).trans rfl;have hfz31_0:=uo BK102.out 0;have hfz31_1:=uo BK102.out 1) | ((with_reducible refine u3d (f:=29) rfl ?_);refine goesL_ (some 22) rfl rfl Tryz.func29 (by kernel_rfl) rfl #[.string ((uq l0 x16_2).f0)] rfl (by (try simp only [List.map_toArray,List.map_cons,List.map_nil]);first | done | rfl | (simp only [List.length_drop,List.length_take];rfl)) ?_;(with_reducible refine (u1r.calls ((uq l0 x16_2).f0) false _ A8.out).mono ?_);rintro e w32 ⟨rfl,hb⟩;refine ⟨_,rfl,?_⟩;have n0_:=Aside0.mk (u2d (g:=gb102) (o:=.cells #[.string ((uq l0 x16_2).f0),.string ((uq l0 x16_2).f1)] 66 (0,0)) (by (with_reducible repeat (first | refine uu ?_ _ | refine uy ?_ | refine us ?_ _));refine u3f (cs:=#[.string ((uq l0 x16_2).f0),.string (⟨#[]⟩:ByteArray)]) ?_ 1 _ rfl;(with_reducible repeat (first | refine uu ?_ _ | refine uy ?_ | refine us ?_ _));refine u3f (cs:=#[.string (⟨#[]⟩:ByteArray),.string (⟨#[]⟩:ByteArray)]) ?_ 0 _ rfl;(with_reducible repeat (first | refine uu ?_ _ | refine uy ?_ | refine us ?_ _));exact BK102.out) hb);have n1_:=Aside0.mk (u1d (by repeat (first | (with_reducible first | exact HB.out | apply ud | apply ub | apply uf | refine uz ?_ GE102.out) | exact HB.out)) hb);clear BK102;clear HB;have BK102:=n0_;have HB:=n1_;clear n0_ n1_;(try clear hb);(try clear hb2);(try clear hk);(try clear hi)))
                 go_ret
                 exact ⟨by first | rfl | (simp [u2c,u2b] <;> rfl) | (simp [*,u2c,u2b] <;> rfl),by repeat (first | (with_reducible first | exact HB.out | apply ud | apply ub | apply uf | refine uz ?_ GE102.out) | exact HB.out)⟩
             · rw [if_neg c7] at H
               exact absurd H (by simp)
           · rw [if_neg c6] at H
             exact absurd H (by simp)
         · rw [if_neg c5] at H
           have c5b0:decide (x16_2 < (l0.length:Int)) = false:=decide_eq_false c5
           clear c5
           obtain rfl:=Option.some.inj H
           go_wp2
           go_ret
           exact ⟨by first | rfl | (simp [u2c,u2b] <;> rfl) | (simp [*,u2c,u2b] <;> rfl),by repeat (first | (with_reducible first | exact HB.out | apply ud | apply ub | apply uf) | exact HB.out)⟩
end Go.Proofs.YtmcpeifhapekoaaGreatDoor.PAll
namespace Go.Proofs.YtmcpeifhapekoaaGreatDoor.Laws
open Go.RowKit Go.Proofs.YtmcpeifhapekoaaGreatDoor.PAll Go.Proofs.YtmcpeifhapekoaaGreatDoorW.PrintWords Go.Proofs.YtmcpeifhapekoaaGreatDoorW.PrintLast
set_option linter.unusedVariables false
set_option linter.unusedSimpArgs false
def okFrom:List UInt8 → List S66 → Bool
 | _,[] => true
 | last,x :: r => Base.nameB x.f0 && Base.valueB x.f1 && Op.bytesLess last x.f0.data.toList && okFrom x.f0.data.toList r
def canB (l:List S66):Bool:=decide (1 ≤ l.length) && decide (l.length ≤ 8) && okFrom [] l
theorem rd_drop (l:List S66) (i:Nat) (x:S66) (r:List S66) (h:l.drop i = x :: r):uq l (i:Int) = x ∧ i < l.length ∧ l.drop (i + 1) = r:=by
 have hlt:i < l.length:=by
  rcases Nat.lt_or_ge i l.length with h1 | h1
  · exact h1
  · rw [List.drop_eq_nil_of_le h1] at h
    cases h
 rw [List.drop_eq_getElem_cons hlt] at h
 obtain ⟨h1,h2⟩:=List.cons.inj h
 refine ⟨?_,hlt,h2⟩
 rw [← h1]
 simp [uq,List.getD_eq_getElem?_getD,hlt]
theorem can_l0 (l:List S66) (hl:l.length ≤ 8):∀ (r:List S66) (i:Nat) (last:ByteArray),l.drop i = r →
 Ev (fun k => u1w.l0 k last l (l.length:Int) (i:Int)) (okFrom last.data.toList r):=by
 intro r
 induction r with
 | nil =>
   intro i last h
   have hi:l.length ≤ i:=by
    rcases Nat.lt_or_ge i l.length with h1 | h1
    · rw [List.drop_eq_getElem_cons h1] at h
      cases h
    · exact h1
   refine Ev.step (f:=fun _ => some true) (fun k => ?_) (Ev.now _)
   simp only [u1w.l0]
   rw [if_neg (by omega)]
 | cons x r ih =>
   intro i last h
   obtain ⟨hx,hi,hr⟩:=rd_drop l i x r h
   have hw:wrap64 ((i:Int) + 1) = ((i + 1:Nat):Int):=Base.wrap_nat i (by omega)
   have h1:((i:Int) < (l.length:Int)):=by omega
   have h0:((0:Int) ≤ (i:Int)):=by omega
   cases hn:Base.nameB x.f0 with
   | false =>
     refine Ev.step (f:=fun _ => some false) (fun k => ?_) ?_
     · simp only [u1w.l0]
       rw [if_pos h1,if_pos h0,if_pos h1,hx]
       simp [u1r.f,hn]
     · have:okFrom last.data.toList (x :: r) = false:=by simp [okFrom,hn]
       rw [this]
       exact Ev.now _
   | true =>
     cases hv:Base.valueB x.f1 with
     | false =>
       refine Ev.step (f:=fun _ => some false) (fun k => ?_) ?_
       · simp only [u1w.l0]
         rw [if_pos h1,if_pos h0,if_pos h1,hx]
         simp [u1r.f,u3e.f,hn,hv]
       · have:okFrom last.data.toList (x :: r) = false:=by simp [okFrom,hn,hv]
         rw [this]
         exact Ev.now _
     | true =>
       cases hb:Op.bytesLess last.data.toList x.f0.data.toList with
       | false =>
         refine Ev.step (f:=fun _ => some false) (fun k => ?_) ?_
         · simp only [u1w.l0]
           rw [if_pos h1,if_pos h0,if_pos h1,hx]
           simp [u1r.f,u3e.f,hn,hv,ByteArray.toList_eq,hb]
         · have:okFrom last.data.toList (x :: r) = false:=by simp [okFrom,hn,hv,hb]
           rw [this]
           exact Ev.now _
       | true =>
         have ih2:=ih (i + 1) x.f0 hr
         refine Ev.step (f:=fun k => u1w.l0 k x.f0 l (l.length:Int) ((i + 1:Nat):Int)) (fun k => ?_) ?_
         · simp only [u1w.l0]
           rw [if_pos h1,if_pos h0,if_pos h1,hx,hw]
           simp [u1r.f,u3e.f,hn,hv,ByteArray.toList_eq,hb]
         · have:okFrom last.data.toList (x :: r) = okFrom x.f0.data.toList r:=by simp [okFrom,hn,hv,hb]
           rw [this]
           exact ih2
theorem can_ev (l:List S66):Ev (fun k => u1w.f k l) (canB l):=by
 by_cases h0:l.length = 0
 · have hc:canB l = false:=by simp [canB,h0]
   rw [hc]
   refine Ev.congr (f:=fun k => u1w.j0 k l true) (fun k => ?_) ?_
   · simp only [u1w.f]
     rw [if_pos (by omega)]
   · refine Ev.step (f:=fun _ => some false) (fun k => ?_) (Ev.now _)
     simp only [u1w.j0]
     simp
 · refine Ev.congr (f:=fun k => u1w.j0 k l (decide ((l.length:Int) > 8))) (fun k => ?_) ?_
   · simp only [u1w.f]
     rw [if_neg (by omega)]
   · by_cases h8:l.length ≤ 8
     · have hc:canB l = okFrom [] l:=by
        have h1:1 ≤ l.length:=by omega
        simp [canB,h1,h8]
       rw [hc]
       refine Ev.step (f:=fun k => u1w.l0 k (⟨#[]⟩:ByteArray) l (l.length:Int) 0) (fun k => ?_) (can_l0 l h8 l 0 ⟨#[]⟩ rfl)
       simp only [u1w.j0]
       rw [if_neg (by simp;omega)]
     · have hc:canB l = false:=by simp [canB,h8]
       rw [hc]
       refine Ev.step (f:=fun _ => some false) (fun k => ?_) (Ev.now _)
       simp only [u1w.j0]
       rw [if_pos (by simp;omega)]
theorem nameB_size {s:ByteArray} (h:Base.nameB s = true):1 ≤ s.size ∧ s.size ≤ 24:=by
 simp only [Base.nameB,Bool.and_eq_true,decide_eq_true_eq] at h
 omega
theorem valueB_size {s:ByteArray} (h:Base.valueB s = true):1 ≤ s.size ∧ s.size ≤ 40:=by
 simp only [Base.valueB,Bool.and_eq_true,decide_eq_true_eq] at h
 omega
theorem okFrom_mem:∀ (l:List S66) (last:List UInt8),okFrom last l = true → ∀ x ∈ l,Base.nameB x.f0 = true ∧ Base.valueB x.f1 = true:=by
 intro l
 induction l with
 | nil => intro _ _ x hx;cases hx
 | cons y r ih =>
   intro last h x hx
   simp only [okFrom,Bool.and_eq_true] at h
   rcases List.mem_cons.1 hx with rfl | hx
   · exact ⟨h.1.1.1,h.1.1.2⟩
   · exact ih _ h.2 x hx
end Go.Proofs.YtmcpeifhapekoaaGreatDoor.Laws
namespace Go.Proofs.YtmcpeifhapekoaaGreatDoor.Tx
open Go.RowKit Go.Proofs.YtmcpeifhapekoaaGreatDoor.PAll Go.Proofs.YtmcpeifhapekoaaGreatDoorW.PrintWords Go.Proofs.YtmcpeifhapekoaaGreatDoorW.PrintLast
open Go.Proofs.YtmcpeifhapekoaaGreatDoor.Laws (okFrom canB)
set_option linter.unusedVariables false
set_option linter.unusedSimpArgs false
theorem expect_cons (c d:UInt8) (t:B8):expectP [c] (d :: t) = if d = c then some t else none:=by
 unfold expectP
 by_cases h:d = c
 · subst h
   simp [List.isPrefixOf]
 · rw [if_neg h,if_neg]
   simp [List.isPrefixOf]
   exact fun e => h e.symm
def okN (l:List Lb):Bool:=l.all fun x => Base.nameB x.f0
theorem label_is (s:B8):labelP s = if Base.nameB (Base.ofL (s.takeWhile wordC)) = true then (valP (s.dropWhile wordC)).map fun q => (⟨Base.ofL (s.takeWhile wordC),q.1⟩,q.2) else none:=by
 unfold labelP nameP
 split <;> rfl
theorem insR_perm (x:Lb):∀ r:List Lb,(insR x r).Perm (x :: r)
 | [] => List.Perm.refl _
 | y :: r => by
   unfold insR
   split
   · exact ((insR_perm x r).cons y).trans (List.Perm.swap x y r)
   · exact List.Perm.refl _
theorem ins_fold_perm:∀ (l acc:List Lb),(l.foldl (fun r x => insR x r) acc).Perm (acc ++ l)
 | [],acc => by simp
 | x :: l,acc => by
   rw [List.foldl_cons]
   refine (ins_fold_perm l (insR x acc)).trans ?_
   refine ((insR_perm x acc).append_right l).trans ?_
   exact List.perm_middle.symm
theorem less_iff (a b:List UInt8):Op.bytesLess a b = true ↔ a < b:=by rw [Go.Proofs.bytesLess_eq];exact decide_eq_true_iff
theorem less_tr {a b c:List UInt8} (h1:Op.bytesLess a b = true) (h2:Op.bytesLess b c = true):Op.bytesLess a c = true:=by
 rw [less_iff] at *
 exact List.lt_trans h1 h2
theorem ok_above:∀ (l:List Lb) (last:List UInt8),okFrom last l = true → ∀ x ∈ l,Op.bytesLess last x.f0.data.toList = true
 | y :: l,last,h,x,hx => by
   unfold okFrom at h
   rw [Bool.and_eq_true,Bool.and_eq_true] at h
   rcases List.mem_cons.1 hx with rfl | hx
   · exact h.1.2
   · exact less_tr h.1.2 (ok_above l _ h.2 x hx)
theorem ok_nodup:∀ (l:List Lb) (last:List UInt8),okFrom last l = true → (l.map (·.f0)).Nodup
 | [],last,h => List.nodup_nil
 | y :: l,last,h => by
   unfold okFrom at h
   rw [Bool.and_eq_true] at h
   rw [List.map_cons,List.nodup_cons]
   refine ⟨fun hm => ?_,ok_nodup l _ h.2⟩
   obtain ⟨x,hx,e⟩:=List.mem_map.1 hm
   have:=ok_above l _ h.2 x hx
   rw [e,Base.less_irrefl] at this
   cases this
theorem can_names {l:List Lb} (h:canB l = true):l.length ≤ 8 ∧ okN l = true ∧ (l.map (·.f0)).Nodup:=by
 unfold canB at h
 rw [Bool.and_eq_true,Bool.and_eq_true] at h
 refine ⟨of_decide_eq_true h.1.2,?_,ok_nodup _ _ h.2⟩
 have:∀ (l:List Lb) (last:List UInt8),okFrom last l = true → okN l = true:=fun l => by
  induction l with
  | nil => exact fun _ _ => rfl
  | cons y l ih =>
    intro last h
    unfold okFrom at h
    rw [Bool.and_eq_true,Bool.and_eq_true,Bool.and_eq_true] at h
    unfold okN
    rw [List.all_cons,h.1.1.1,Bool.true_and]
    exact ih _ h.2
 exact this _ _ h.2
end Go.Proofs.YtmcpeifhapekoaaGreatDoor.Tx
namespace Go.Proofs.YtmcpeifhapekoaaGreatDoor.Tx
open Go.RowKit Go.Proofs.YtmcpeifhapekoaaGreatDoor.PAll Go.Proofs.YtmcpeifhapekoaaGreatDoorW.PrintWords Go.Proofs.YtmcpeifhapekoaaGreatDoorW.PrintLast
open Go.Proofs.YtmcpeifhapekoaaGreatDoor.Laws (okFrom canB)
theorem awake_read:readP canB [117,112,123,106,111,98,61,34,120,34,125,32,48,120,49,102,32,55] 0 = (some ⟨[⟨metric,Base.ofL [117,112]⟩,⟨Base.ofL [106,111,98],Base.ofL [120]⟩],7,31⟩,me0,0):=by kernel_rfl
end Go.Proofs.YtmcpeifhapekoaaGreatDoor.Tx
