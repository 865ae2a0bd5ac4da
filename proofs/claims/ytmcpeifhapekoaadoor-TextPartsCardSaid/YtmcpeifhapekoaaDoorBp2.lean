/- Texts of this seat, joined in the order in which they build. -/
import Derived.Test.YtmcpeifhapekoaaDoorBp1
import Derived.Laws.Cover4
import Derived.Lib.MapLaws
import Derived.Sort.Walk0
namespace Go.Proofs.YtmcpeifhapekoaaDoor.PAll
open Go.RowKit Go.Proofs.YtmcpeifhapekoaaDoorW.PrintWords Go.Proofs.YtmcpeifhapekoaaDoorW.PrintLast Go.Proofs.YtmcpeifhapekoaaDoorW.PrintMore
attribute [local go_sem] max2_int min2_int max_two min_two max_three min_three max_four min_four
set_option linter.unusedVariables false
set_option linter.unusedSimpArgs false
def uv.same (k:Nat) (x y:S25):Option Bool:=(u1w.f k x.f0 y.f0).bind fun b => some (b && (x.f1 == y.f1) && (x.f2 == y.f2))
def uv.all (k:Nat):List S25 → List S25 → Option Bool
 | [],_ => some true
 | _ :: _,[] => some true
 | x :: r,y :: q => (uv.same k x y).bind fun b => if b = true then uv.all k r q else some false
def uv.f (k:Nat) (l0 l1:List S25):Option Bool:=if l0.length = l1.length then (if l0.length ≤ 4611686018427387904 then uv.all k l0 l1 else none) else some false
set_option maxHeartbeats 4000000 in
set_option maxRecDepth 100000 in
theorem uv.calls_one (k:Nat) (x y:S25) (A0 A1:Option Addr) (c0 c1:Nat) (b:Bool) (w:World) (hx:x.f0.length ≤ c0) (gx:Kd.C k37 w A0 x.f0.length x.f0) (hy:y.f0.length ≤ c1) (gy:Kd.C k37 w A1 y.f0.length y.f0) (h:uv.same k x y = some b) :
 Calls Tryd.prog 26 #[.agg #[.slice A0 x.f0.length c0,.int .i64 x.f1,.int .u64 x.f2],.agg #[.slice A1 y.f0.length c1,.int .i64 y.f1,.int .u64 y.f2]] w fun e w' => e = .returned (.bool b) ∧ Below w.heap.size w w':=by
 obtain ⟨c,hc,h2⟩:=Option.bind_eq_some_iff.1 h
 have HCc:=Aside0.mk hc
 have H2:=Aside0.mk (Option.some.inj h2)
 have GX:=Aside0.mk gx
 have GY:=Aside0.mk gy
 have HX:=Aside0.mk hx
 have HY:=Aside0.mk hy
 clear hc h2 h gx gy hx hy
 cases c with
 | false =>
   have hb:false = b:=by simpa using H2.out
   subst hb
   go_enter Tryd.func26,Tryd.ntmps26
   go_wp2_with (go_at_call 27;(with_reducible refine (u1w.calls k _ _ x.f0 _ _ y.f0 false _ (Kd.C_alloc (Kd.C_alloc GX.out _) _) HX.out (Kd.C_alloc (Kd.C_alloc GY.out _) _) HY.out HCc.out).mono ?_);rintro e w3 ⟨rfl,⟨nd,rfl⟩⟩)
   all_goals
    go_ret
    refine ⟨?_,by repeat (first | exact Below.refl _ _ | apply uf | apply ud)⟩
    first | rfl | (rw [← H2.out];simp [*];done) | (rw [← H2.out];simp [*];rfl)
 | true =>
   go_enter Tryd.func26,Tryd.ntmps26
   go_wp2_with (go_at_call 27;(with_reducible refine (u1w.calls k _ _ x.f0 _ _ y.f0 true _ (Kd.C_alloc (Kd.C_alloc GX.out _) _) HX.out (Kd.C_alloc (Kd.C_alloc GY.out _) _) HY.out HCc.out).mono ?_);rintro e w3 ⟨rfl,⟨nd,rfl⟩⟩)
   all_goals
    go_ret
    refine ⟨?_,by repeat (first | exact Below.refl _ _ | apply uf | apply ud)⟩
    first | rfl | (rw [← H2.out];simp [*];done) | (rw [← H2.out];simp [*];rfl)
theorem uv.calls (k:Nat) (A0:Option Addr) (c0:Nat) (l0:List S25) (A1:Option Addr) (c1:Nat) (l1:List S25) (r:Bool) (w:World) (hr0:Kd.C k25 w A0 l0.length l0) (hc0:l0.length ≤ c0) (hr1:Kd.C k25 w A1 l1.length l1) (hc1:l1.length ≤ c1) (h:uv.f k l0 l1 = some r) :
 Calls Tryd.prog 15 #[.slice A0 l0.length c0,.slice A1 l1.length c1] w fun e w' => e = .returned (.bool r) ∧ Below w.heap.size w w':=by
 have HR0:=Aside0.mk hr0
 have HR1:=Aside0.mk hr1
 clear hr0 hr1
 unfold uv.f at h
 by_cases hlen:l0.length = l1.length
 · rw [if_pos hlen] at h
   by_cases hmax:l0.length ≤ 4611686018427387904
   · rw [if_pos hmax] at h
     have H:=Aside0.mk h
     clear h
     go_enter Tryd.func15,Tryd.ntmps15
     go_wp2_with (go_in)
     go_loopg [17] (l0.length) (fun kq v17 wr => ∃ (i:Nat) (ra rb:List S25),i ≤ l0.length ∧ v17 = .int .i64 i ∧ Aside0 (l0.drop i = ra ∧ l1.drop i = rb ∧ uv.all k ra rb = some r) ∧ l0.length ≤ kq + i ∧ Aside0 (Below w.heap.size w wr))
     case atStart => exact ⟨0,l0,l1,by omega,rfl,⟨rfl,rfl,H.out⟩,by omega,⟨Below.refl _ _⟩⟩
     case round =>
      clear H
      obtain ⟨i,ra,rb,hi,rfl,HA,hk,HB⟩:=hrel
      by_cases hlt:i < l0.length
      · obtain ⟨g1,rfl⟩:∃ g1,gk = g1 + 1:=⟨gk - 1,by omega⟩
        obtain ⟨x,ra2,hx⟩:∃ x ra2,Aside0 (ra = x :: ra2 ∧ rd_T25 l0 (i:Int) = x):=by
         have h1:=HA.out.1
         rw [List.drop_eq_getElem_cons hlt] at h1
         exact ⟨_,_,⟨h1.symm,by simp [rd_T25,List.getD_eq_getElem?_getD,hlt]⟩⟩
        obtain ⟨y,rb2,hy⟩:∃ y rb2,Aside0 (rb = y :: rb2 ∧ rd_T25 l1 (i:Int) = y):=by
         have h1:=HA.out.2.1
         have hlt2:i < l1.length:=by omega
         rw [List.drop_eq_getElem_cons hlt2] at h1
         exact ⟨_,_,⟨h1.symm,by simp [rd_T25,List.getD_eq_getElem?_getD,hlt2]⟩⟩
        obtain ⟨b,hb,HA2⟩:∃ b,Aside0 (uv.same k x y = some b) ∧ Aside0 ((if b = true then uv.all k ra2 rb2 else some false) = some r):=by
         have h1:=HA.out.2.2
         rw [hx.out.1,hy.out.1] at h1
         obtain ⟨b,h2,h3⟩:=Option.bind_eq_some_iff.1 h1
         exact ⟨b,⟨h2⟩,⟨h3⟩⟩
        have HD:Aside0 (l0.drop (i + 1) = ra2 ∧ l1.drop (i + 1) = rb2):=⟨by
         have h1:=HA.out
         rw [hx.out.1,hy.out.1] at h1
         rw [← List.drop_drop,← List.drop_drop,h1.1,h1.2.1]
         exact ⟨rfl,rfl⟩⟩
        obtain ⟨ad0,B0,d0,e0,f00,f01,f02,g00,g01⟩:=at_T25 (Kd.C_below HR0.out HB.out) (i:Int) (by omega) (by omega)
        subst e0
        obtain ⟨ad1,B1,d1,e1,f10,f11,f12,g10,g11⟩:=at_T25 (Kd.C_below HR1.out HB.out) (i:Int) (by omega) (by omega)
        subst e1
        rw [hx.out.2] at f00 f01 f02 g00 g01
        rw [hy.out.2] at f10 f11 f12 g10 g11
        simp only [Int.toNat_natCast] at f00 f01 f02 f10 f11 f12
        have hlt1:i < l1.length:=by omega
        have q0:∀ o:Obj,(wr.alloc o).cell? _ = some _:=fun o => ((uf (Below.refl wr.heap.size wr) o).cell (World.block_lt_of_cell? wr _ f10)).trans f10
        have q1:∀ o:Obj,(wr.alloc o).cell? _ = some _:=fun o => ((uf (Below.refl wr.heap.size wr) o).cell (World.block_lt_of_cell? wr _ f11)).trans f11
        have q2:∀ o:Obj,(wr.alloc o).cell? _ = some _:=fun o => ((uf (Below.refl wr.heap.size wr) o).cell (World.block_lt_of_cell? wr _ f12)).trans f12
        have GX:=Aside0.mk g01
        have GY:=Aside0.mk g11
        have HX:=Aside0.mk g00
        have HY:=Aside0.mk g10
        clear g00 g01 g10 g11 HA hx hy
        cases b with
        | false =>
          have hr:Aside0 (r = false):=⟨by simpa using HA2.out.symm⟩
          go_wp2_with (go_at_call 26;(with_reducible refine (uv.calls_one k x y _ _ _ _ false _ HX.out (Kd.C_alloc (Kd.C_alloc GX.out _) _) HY.out (Kd.C_alloc (Kd.C_alloc GY.out _) _) hb.out).mono ?_);rintro e w3 ⟨rfl,hb3⟩;have HB3:=Aside0.mk (u1i (uf (uf HB.out _) _) hb3);clear hb3)
          go_ret
          exact ⟨by rw [hr.out];rfl,HB3.out⟩
        | true =>
          have HA3:Aside0 (uv.all k ra2 rb2 = some r):=⟨by simpa using HA2.out⟩
          go_wp2_with (go_at_call 26;(with_reducible refine (uv.calls_one k x y _ _ _ _ true _ HX.out (Kd.C_alloc (Kd.C_alloc GX.out _) _) HY.out (Kd.C_alloc (Kd.C_alloc GY.out _) _) hb.out).mono ?_);rintro e w3 ⟨rfl,hb3⟩;have HB3:=Aside0.mk (u1i (uf (uf HB.out _) _) hb3);clear hb3)
          go_roundg g1
          case rel => exact ⟨i + 1,ra2,rb2,by omega,by go_num,⟨HD.out.1,HD.out.2,HA3.out⟩,by omega,HB3⟩
          case measure => omega
      · have hr:Aside0 (r = true):=⟨by
         have h1:=HA.out
         rw [List.drop_eq_nil_of_le (by omega)] at h1
         rw [← h1.1] at h1
         simpa [uv.all] using h1.2.2.symm⟩
        go_wp2
        go_ret
        exact ⟨by rw [hr.out];rfl,HB.out⟩
   · rw [if_neg hmax] at h
     cases h
 · rw [if_neg hlen] at h
   obtain rfl:=Option.some.inj h
   have hne:¬ (l0.length:Int) = (l1.length:Int):=by omega
   go_enter Tryd.func15,Tryd.ntmps15
   go_wp2_with (go_in)
   go_ret
   exact ⟨rfl,Below.refl _ _⟩
end Go.Proofs.YtmcpeifhapekoaaDoor.PAll
namespace Go.Proofs.YtmcpeifhapekoaaDoor.Tx
open Go.RowKit Go.Proofs.YtmcpeifhapekoaaDoor.PAll Go.Proofs.YtmcpeifhapekoaaDoorW.PrintWords Go.Proofs.YtmcpeifhapekoaaDoorW.PrintLast
set_option linter.unusedVariables false
set_option linter.unusedSimpArgs false
abbrev Lb:=S37
abbrev B8:=List UInt8
def wordC (c:UInt8):Bool:=Base.letterB (c.toNat:Int) || Base.digitB (c.toNat:Int)
def blankC (c:UInt8):Bool:=decide (c = 32) || decide (c = 9)
def decC (c:UInt8):Bool:=decide (48 ≤ c.toNat) && decide (c.toNat ≤ 57)
def hexC (c:UInt8):Bool:=decC c || (decide (97 ≤ c.toNat) && decide (c.toNat ≤ 102))
def digC (h:Bool) (c:UInt8):Bool:=if h then hexC c else decC c
def digV (c:UInt8):Int:=if 97 ≤ c.toNat then (c.toNat:Int) - 87 else (c.toNat:Int) - 48
def numL (base:Int):B8 → Int → Option Int
 | [],n => some n
 | c :: r,n => if n ≤ (18446744073709551615 - digV c) / base then numL base r (n * base + digV c) else none
def digitsP (h:Bool) (most:Nat) (s:B8):Option (B8 × B8) :=
 if (s.takeWhile (digC h)) ≠ [] ∧ (s.takeWhile (digC h)).length ≤ most then some (s.takeWhile (digC h),s.dropWhile (digC h)) else none
def valueD (h:Bool) (most:Nat) (base:Int) (s:B8):Option (Int × B8):=(digitsP h most s).bind fun p => (numL base p.1 0).map fun n => (n,p.2)
def valueP (s:B8):Option (Int × B8):=match s with
 | 48 :: 120 :: r => valueD true 16 16 r
 | _ => valueD false 20 10 s
def timeP (s:B8):Option (Int × B8):=match s with
 | 45 :: r => (valueD false 19 10 r).bind fun p => if p.1 ≤ 9223372036854775808 then some (-p.1,p.2) else none
 | _ => (valueD false 19 10 s).bind fun p => if p.1 < 9223372036854775808 then some p else none
def nameP (s:B8):Option (ByteArray × B8):=if Base.nameB (Base.ofL (s.takeWhile wordC)) = true then some (Base.ofL (s.takeWhile wordC),s.dropWhile wordC) else none
def expectP (p:B8) (s:B8):Option B8:=if p.isPrefixOf s = true then some (s.drop p.length) else none
def quotedP (s:B8):Option (ByteArray × B8):=match s with
 | [] => none
 | c :: r => if c = 34 then (Base.unqL r []).map fun p => (Base.ofL p.1,p.2) else none
def valP (s:B8):Option (ByteArray × B8):=(expectP [61] s).bind quotedP
def labelP (s:B8):Option (Lb × B8):=(nameP s).bind fun p => (valP p.2).map fun q => (⟨p.1,q.1⟩,q.2)
def labelsP:Nat → List Lb → B8 → Option (List Lb × B8)
 | 0,_,_ => none
 | n + 1,acc,s => match s with
   | 44 :: r => if acc.length ≤ 8 then (labelP r).bind fun p => labelsP n (acc ++ [p.1]) p.2 else none
   | _ => some (acc,s)
def bracesP (s:B8):Option (List Lb × B8):=(expectP [123] s).bind fun r => (labelP r).bind fun p => (labelsP s.length [p.1] p.2).bind fun q => (expectP [125] q.2).map fun t => (q.1,t)
def less (a b:ByteArray):Bool:=Op.bytesLess a.data.toList b.data.toList
def insR (x:Lb):List Lb → List Lb
 | [] => [x]
 | y :: r => if less x.f0 y.f0 = true then y :: insR x r else x :: y :: r
def sortP (l:List Lb):List Lb:=(l.foldl (fun r x => insR x r) []).reverse
def metric:ByteArray:=Base.ofL [95,95,110,97,109,101,95,95]
def headP (s:B8):Option (List Lb × B8):=match s with
 | [] => some ([],[])
 | c :: r => if wordC c = true then (nameP s).map fun p => ([⟨metric,p.1⟩],p.2) else some ([],s)
def restP (l:List Lb) (s:B8):Option (List Lb × B8):=match s with
 | 123 :: _ => (bracesP s).map fun q => (l ++ q.1,q.2)
 | _ => some (l,s)
def labsP (s:B8):Option (List Lb × B8):=(headP s).bind fun p => restP p.1 p.2
def endP (s:B8) (now:Int):Option (Int × Int) :=
 if s.takeWhile blankC = [] then none else (valueP (s.dropWhile blankC)).bind fun p =>
  if p.2.dropWhile blankC = [] then some (now,p.1) else if p.2.takeWhile blankC = [] then none else
   (timeP (p.2.dropWhile blankC)).bind fun q => if q.2.dropWhile blankC = [] then some (q.1,p.1) else none
abbrev Rw:=S25
abbrev Me:=ByteArray × ByteArray × ByteArray
def helpW:B8:=[35,32,72,69,76,80,32]
def typeW:B8:=[35,32,84,89,80,69,32]
def kinds:List B8:=[[99,111,117,110,116,101,114],[103,97,117,103,101],[104,105,115,116,111,103,114,97,109],[115,117,109,109,97,114,121],[117,110,116,121,112,101,100]]
def knownL (s:B8):Bool:=kinds.contains s
def plainL (s:B8):Bool:=s.all fun c => decide (32 ≤ c.toNat)
def me0:Me:=(Base.ofL [],Base.ofL [],Base.ofL [])
def remarkP (s:B8):Option Me:=if (helpW.isPrefixOf s || typeW.isPrefixOf s) = true then
    (nameP (s.drop 7)).bind fun p => (expectP [32] p.2).bind fun r => if typeW.isPrefixOf s = true then (if knownL r = true then some (p.1,Base.ofL r,Base.ofL []) else none) else if plainL r = true then some (p.1,Base.ofL [],Base.ofL r) else none
 else some me0
def sampleP (can:List Lb → Bool) (s:B8) (now:Int):Option Rw:=(labsP s).bind fun p => if can (sortP p.1) = true then (endP p.2 now).map fun q => ⟨sortP p.1,q.1,q.2⟩ else none
def readP (can:List Lb → Bool) (s:B8) (now:Int):Option Rw × Me × Int :=
 if s.length > 1000 then (none,me0,4) else if s.contains 10 = true then (none,me0,280) else match s with
  | 35 :: _ => (match remarkP s with | none => (none,me0,280) | some m => (none,m,0))
  | _ => if s.all blankC = true then (none,me0,0) else match sampleP can s now with | none => (none,me0,280) | some r => (some r,me0,0)
def noteP (m:Me) (help:Bool):List Me → List Me
 | [] => [m]
 | x :: l => if x.1 = m.1 then (if help = true then (x.1,x.2.1,m.2.2) else (x.1,m.2.1,x.2.2)) :: l else x :: noteP m help l
def partL (b:B8):B8:=b.takeWhile (· != 10)
def restL (b:B8):B8:=(b.dropWhile (· != 10)).drop 1
def parseP (can:List Lb → Bool) (now:Int):Nat → Int → List Rw → List Me → B8 → List Rw × List Me × Int × Int
 | 0,_,rows,book,_ => (rows,book,0,0)
 | n + 1,line,rows,book,b => if b = [] then (rows,book,0,0) else
   let x:=readP can (partL b) now
   let e:=if x.1.isSome = true ∧ rows.length = 10000 then 4 else x.2.2
   if e ≠ 0 then ([],[],e,line) else parseP can now n (line + 1) (rows ++ x.1.toList) (if x.2.1.1 = Base.ofL [] then book else noteP x.2.1 (helpW.isPrefixOf (partL b)) book) (restL b)
theorem tw_step {α:Type} (p:α → Bool):∀ (s:List α) (i:Nat) (h:i ≤ (s.takeWhile p).length) (hi:i < s.length),(p s[i] = true → i + 1 ≤ (s.takeWhile p).length) ∧ (p s[i] = false → i = (s.takeWhile p).length)
 | c :: s,i,h,hi => by
   by_cases hc:p c = true
   · rw [List.takeWhile_cons,if_pos hc,List.length_cons] at h ⊢
     cases i with
     | zero => exact ⟨fun _ => by omega,fun h9 => by rw [List.getElem_cons_zero,hc] at h9;cases h9⟩
     | succ i =>
       obtain ⟨g1,g2⟩:=tw_step p s i (by omega) (by rw [List.length_cons] at hi;omega)
       rw [List.getElem_cons_succ]
       exact ⟨fun h9 => by have:=g1 h9;omega,fun h9 => by have:=g2 h9;omega⟩
   · rw [List.takeWhile_cons,if_neg hc,List.length_nil] at h ⊢
     obtain rfl:i = 0:=by omega
     rw [List.getElem_cons_zero]
     exact ⟨fun h9 => absurd h9 hc,fun _ => rfl⟩
theorem tw_le {α:Type} (p:α → Bool):∀ s:List α,(s.takeWhile p).length ≤ s.length
 | [] => Nat.le_refl _
 | c :: s => by
   have:=tw_le p s
   rw [List.takeWhile_cons]
   split
   · rw [List.length_cons,List.length_cons]
     omega
   · exact Nat.zero_le _
theorem tw_take {α:Type} (p:α → Bool):∀ s:List α,s.take (s.takeWhile p).length = s.takeWhile p ∧ s.drop (s.takeWhile p).length = s.dropWhile p
 | [] => ⟨rfl,rfl⟩
 | c :: s => by
   obtain ⟨h1,h2⟩:=tw_take p s
   rw [List.takeWhile_cons,List.dropWhile_cons]
   by_cases hc:p c = true
   · rw [if_pos hc,if_pos hc,List.length_cons,List.take_succ_cons,List.drop_succ_cons,h1,h2]
     exact ⟨rfl,rfl⟩
   · rw [if_neg hc,if_neg hc]
     exact ⟨rfl,rfl⟩
theorem cut_ofL (s:B8) (n:Nat) (h:n ≤ s.length):(Base.ofL s).extract 0 n = Base.ofL (s.take n) ∧ (Base.ofL s).extract n (Base.ofL s).size = Base.ofL (s.drop n) ∧ (Base.ofL s).size = s.length:=by
 refine ⟨Base.ext_data ?_,Base.ext_data ?_,?_⟩
 · rw [Base.extract_list,Base.ofL_data,Base.ofL_data,List.drop_zero,Nat.sub_zero]
 · rw [Base.extract_rest,Base.ofL_data,Base.ofL_data]
 · rw [← u1q,Base.ofL_data]
theorem insR_pass (x:Lb):∀ (A R:List Lb),(∀ y ∈ A,less x.f0 y.f0 = true) → insR x (A ++ R) = A ++ insR x R
 | [],R,_ => rfl
 | y :: A,R,h => by
   rw [List.cons_append,List.cons_append]
   conv => lhs;unfold insR
   rw [if_pos (h y (List.mem_cons_self ..)),insR_pass x A R (fun z hz => h z (List.mem_cons_of_mem _ hz))]
theorem insR_stop (x:Lb) (R:List Lb) (h:∀ y,R.head? = some y → ¬ less x.f0 y.f0 = true):insR x R = x :: R:=by
 cases R with
 | nil => rfl
 | cons y R =>
   unfold insR
   rw [if_neg (h y rfl)]
def sortedTo (l:List Lb) (i:Nat):List Lb:=((l.take i).foldl (fun r x => insR x r) []).reverse
theorem sortedTo_all (l:List Lb):sortedTo l l.length = sortP l:=by
 unfold sortedTo sortP
 rw [List.take_length]
theorem sortedTo_next (l:List Lb) (i:Nat) (hi:i < l.length) (a b:List Lb) (hab:sortedTo l i = a ++ b) (hb:∀ y ∈ b,less l[i].f0 y.f0 = true) (ha:∀ y,a.getLast? = some y → ¬ less l[i].f0 y.f0 = true):sortedTo l (i + 1) = a ++ l[i] :: b:=by
 unfold sortedTo at hab ⊢
 rw [List.take_succ_eq_append_getElem hi,List.foldl_append]
 have e:(l.take i).foldl (fun r x => insR x r) [] = b.reverse ++ a.reverse:=by
  rw [← List.reverse_append,← hab,List.reverse_reverse]
 rw [e]
 show (insR l[i] (b.reverse ++ a.reverse)).reverse = _
 rw [insR_pass _ _ _ (fun y hy => hb y (List.mem_reverse.1 hy)),insR_stop _ _ (fun y hy => ha y (by rw [List.head?_reverse] at hy;exact hy))]
 simp
theorem sortedTo_len (l:List Lb) (i:Nat) (hi:i ≤ l.length):(sortedTo l i).length = i:=by
 have ins_len:∀ (x:Lb) (r:List Lb),(insR x r).length = r.length + 1:=fun x r => by
  induction r with
  | nil => rfl
  | cons y r ih =>
    unfold insR
    split
    · rw [List.length_cons,ih,List.length_cons]
    · rfl
 have:∀ (m r:List Lb),(m.foldl (fun r x => insR x r) r).length = r.length + m.length:=fun m => by
  induction m with
  | nil => exact fun r => rfl
  | cons x m ih =>
    intro r
    rw [List.foldl_cons,ih,ins_len,List.length_cons]
    omega
 unfold sortedTo
 rw [List.length_reverse,this,List.length_take,List.length_nil]
 omega
end Go.Proofs.YtmcpeifhapekoaaDoor.Tx
namespace Go.Proofs.YtmcpeifhapekoaaDoor.PAll
open Go.RowKit Go.Proofs.YtmcpeifhapekoaaDoorW.PrintWords Go.Proofs.YtmcpeifhapekoaaDoorW.PrintLast Go.Proofs.YtmcpeifhapekoaaDoorW.PrintMore
attribute [local go_sem] max2_int min2_int max_two min_two max_three min_three max_four min_four
set_option linter.unusedVariables false
set_option linter.unusedSimpArgs false
def u1x.badB (c:Int):Bool:=decide (c < 32)
theorem u1x.test (c:Int) (w:World):Calls Tryd.prog 80 #[.int .u8 c] w fun e w' => e = .returned (.bool (u1x.badB c)) ∧ u1c w w':=by
 unfold u1x.badB
 go_enter Tryd.func80,Tryd.ntmps80
 go_wp2
 go_ret
 exact ⟨rfl,⟨0,rfl⟩⟩
set_option maxHeartbeats 1000000 in
theorem u1x.index (A:Option Addr) (c:Nat) (l:List Int) (w:World) (hr:Kd.C (Kd.int .u8) w A l.length l) (hm:l.length ≤ 140737488355328) :
 Calls Tryd.prog 101 #[.slice A l.length c,.func (.func 80) #[] #[]] w fun e w' => (∃ i:Int,e = .returned (.int .i64 i) ∧ decide (0 ≤ i) = l.any u1x.badB) ∧ u1c w w':=by
 have HR:=Aside0.mk hr
 clear hr
 go_enter Tryd.func101,Tryd.ntmps101
 go_wp2
 go_loopg [8] (l.length) (fun kq v8 w' => ∃ (x:Nat),x ≤ l.length ∧ v8 = .int .i64 x ∧ Aside0 ((l.take x).any u1x.badB = false) ∧ l.length ≤ kq + x ∧ u1c w w')
 case atStart => exact ⟨0,by omega,rfl,⟨rfl⟩,by omega,u1c.refl _⟩
 case round =>
  obtain ⟨x,hx,rfl,HN,hk,⟨m1,rfl⟩⟩:=hrel
  by_cases hlt:x < l.length
  · obtain ⟨ad,e,hc⟩:=Kd.at_int HR.out (x:Int) (by omega) (by omega)
    subst e
    have hc2:w.cell? (ad.add x) = some (.int .u8 (rd l x)):=by simpa using hc
    clear hc
    have htk:l.take (x + 1) = l.take x ++ [rd l x]:=by
     rw [List.take_succ_eq_append_getElem hlt]
     simp [rd,List.getD_eq_getElem?_getD,hlt]
    have HT:=Aside0.mk htk
    clear htk
    cases hb:u1x.badB (rd l x) with
    | true =>
      go_wp2_with (go_at_call 80;refine (u1x.test _ _).mono ?_;rintro e W1 ⟨rfl,⟨nd,rfl⟩⟩)
      go_ret
      refine ⟨⟨_,rfl,?_⟩,⟨_,rfl⟩⟩
      have h1:l.any u1x.badB = true:=by
       rw [List.any_eq_true]
       refine ⟨rd l x,?_,hb⟩
       have h2:rd l x ∈ l.take (x + 1):=by rw [HT.out];simp
       exact List.mem_of_mem_take h2
      rw [h1]
      simp
    | false =>
      go_wp2_with (go_at_call 80;refine (u1x.test _ _).mono ?_;rintro e W1 ⟨rfl,⟨nd,rfl⟩⟩)
      obtain ⟨g1,rfl⟩:∃ g1,gk = g1 + 1:=⟨gk - 1,by omega⟩
      go_roundg g1
      case rel =>
       refine ⟨x + 1,by omega,by go_num,⟨?_⟩,by omega,⟨_,rfl⟩⟩
       rw [HT.out,List.any_append,HN.out]
       simp [hb]
      case measure => omega
  · go_wp2
    go_ret
    refine ⟨⟨_,rfl,?_⟩,⟨_,rfl⟩⟩
    have h1:=HN.out
    rw [List.take_of_length_le (by omega)] at h1
    rw [h1]
    simp
theorem u1x.contains (A:Option Addr) (c:Nat) (l:List Int) (w:World) (hr:Kd.C (Kd.int .u8) w A l.length l) (hm:l.length ≤ 140737488355328) :
 Calls Tryd.prog 79 #[.slice A l.length c,.func (.func 80) #[] #[]] w fun e w' => e = .returned (.bool (l.any u1x.badB)) ∧ u1c w w':=by
 go_enter Tryd.func79,Tryd.ntmps79
 go_wp2_with (go_at_call 101;refine (u1x.index _ _ _ _ hr hm).mono ?_;rintro e W1 ⟨⟨i,rfl,hi⟩,⟨nd,rfl⟩⟩)
 go_ret
 exact ⟨by simp,⟨_,rfl⟩⟩
theorem u1x.contains_n (A:Option Addr) (c n:Nat) (l:List Int) (w:World) (hn:l.length = n) (hr:Kd.C (Kd.int .u8) w A n l) (hm:n ≤ 140737488355328) :
 Calls Tryd.prog 79 #[.slice A n c,.func (.func 80) #[] #[]] w fun e w' => e = .returned (.bool (l.any u1x.badB)) ∧ u1c w w':=by
 subst hn
 exact u1x.contains A c l w hr hm
set_option maxHeartbeats 1000000 in
theorem u1x.calls (s:List UInt8) (hl:s.length ≤ 1000) (w:World) :
 Calls Tryd.prog 47 #[.string (Base.ofL s)] w fun e w' => e = .returned (.bool (Tx.plainL s)) ∧ Below w.heap.size w w':=by
 obtain ⟨a0,ha⟩:∃ a0,a0 = Base.ofL s:=⟨_,rfl⟩
 have hsz:a0.size = s.length:=by rw [ha];exact (Tx.cut_ofL s 0 (by omega)).2.2
 have HV:Aside0 (Tx.plainL s = !(bytesOf a0).any u1x.badB):=⟨by
  unfold Tx.plainL bytesOf
  rw [ha,Base.ofL_data,List.all_eq_not_any_not,List.any_map]
  congr 2
  funext c
  unfold u1x.badB
  simp only [Function.comp]
  rw [Bool.eq_iff_iff]
  simp
  omega⟩
 rw [← ha,HV.out]
 clear HV ha
 have hsz2:a0.size ≤ 1000:=by omega
 clear hsz hl
 have kb:=fun W => print_bytes (P:=Tryd.prog) 9 42 5 Tryd.underlying9 Tryd.underlying42 Tryd.underlying5 a0 W
 have hr:=Aside0.mk (bytes_reads w 5 a0 (by omega))
 have hc:Aside0 (Kd.C (Kd.int .u8) (Lib.bytesWorld w 5 a0) (some ⟨w.heap.size,0,none⟩) a0.size (bytesOf a0)):=⟨Kd.C_of_reads (d:=(0:Int)) (h1:=fun _ => rfl) hr.out⟩
 go_enter Tryd.func47,Tryd.ntmps47
 go_wp2_with (go_at_call 79;refine (u1x.contains_n _ _ _ _ _ (bytesOf_length a0) hc.out (by omega)).mono ?_;rintro e W2 ⟨rfl,⟨md,rfl⟩⟩)
 go_ret
 exact ⟨rfl,ud (bytes_below (Below.refl _ _) (Nat.le_refl _) _ _) md⟩
def u2j.f:Option Int:=none
theorem u2j.index_at:∀ (w q:List UInt8) (c:UInt8),c ∉ w → Lib.indexByte (w ++ c :: q) c = (w.length:Int):=by
 intro w
 induction w with
 | nil => intro q c _;simp [Lib.indexByte]
 | cons x r ih =>
   intro q c h
   have h1:¬ x = c:=fun e => h (by simp [e])
   have h2:=ih q c (fun e => h (by simp [e]))
   simp only [List.cons_append,Lib.indexByte,h2,beq_iff_eq,h1,if_false]
   rw [if_neg (by omega)]
   simp
theorem u2j.index_no:∀ (w:List UInt8) (c:UInt8),c ∉ w → Lib.indexByte w c = -1:=by
 intro w
 induction w with
 | nil => intro c _;rfl
 | cons x r ih =>
   intro c h
   have h1:¬ x = c:=fun e => h (by simp [e])
   have h2:=ih c (fun e => h (by simp [e]))
   simp [Lib.indexByte,h2,h1]
theorem u2j.split (l:List UInt8):(∃ q,l = Tx.partL l ++ 10 :: q ∧ Tx.restL l = q ∧ Lib.indexByte l 10 = ((Tx.partL l).length:Int)) ∨ (Tx.partL l = l ∧ Tx.restL l = [] ∧ Lib.indexByte l 10 = -1):=by
 have hno:∀ p:List UInt8,(10:UInt8) ∉ p.takeWhile (· != 10):=fun p hm => by
  have:=List.all_eq_true.1 (List.all_takeWhile (p:=(· != 10)) (l:=p)) _ hm
  simp at this
 have happ:=List.takeWhile_append_dropWhile (p:=(· != 10)) (l:=l)
 cases hd:l.dropWhile (· != 10) with
 | nil =>
   rw [hd,List.append_nil] at happ
   refine Or.inr ⟨happ,by unfold Tx.restL;rw [hd];rfl,u2j.index_no l 10 ?_⟩
   rw [← happ]
   exact hno l
 | cons c q =>
   have hc:c = 10:=by
    have h:=List.head?_dropWhile_not (p:=(· != 10)) (l:=l)
    rw [hd] at h
    simpa using h
   subst hc
   rw [hd] at happ
   refine Or.inl ⟨q,happ.symm,by unfold Tx.restL;rw [hd];rfl,?_⟩
   conv => lhs;rw [← happ]
   exact u2j.index_at _ q 10 (hno l)
theorem u2j.cells {w:World} {A:Option Addr} {xs:List Int} (h:(Kd.int .u8).C w A xs.length xs) (hp:0 < xs.length):∃ a,A = some a ∧ ∀ i,i < xs.length → w.cell? (a.add i) = some (.int .u8 (xs.getD i 0)) :=
 (Kd.reads_of_C (enc:=Value.int .u8) (d:=(0:Int)) (h1:=fun _ => rfl) h).2.2 hp
set_option maxHeartbeats 2000000 in
set_option maxRecDepth 100000 in
theorem u2j.found (a:Addr) (c n d:Nat) (xs:List Int) (g:Nat) (w:World) (hcap:xs.length ≤ c) (hn:xs.length ≤ 4611686018427387904) (hlt:n < xs.length) (hidx:Calls Tryd.prog 40 #[.slice (some a) xs.length c,.slice (some ⟨g,0,none⟩) 1 d] w fun e w' => e = .returned (.int .i64 (n:Int)) ∧ w' = w) :
 Calls Tryd.prog 22 #[.slice (some a) xs.length c,.slice (some ⟨g,0,none⟩) 1 d] w fun e w' => e = .returned (.tuple #[.slice (some a) n c,.slice (if c = n + 1 then some a else (some a).map (·.add (n + 1))) (xs.length - (n + 1)) (c - (n + 1)),.bool true]) ∧ ∃ q,w' = w.drewN q:=by
 have mixed:Tryd.prog.follows .mixedOrders = true:=by kernel_rfl
 have HI:=Aside0.mk hidx
 clear hidx
 have hl:xs.length - n - 1 = xs.length - (n + 1):=by omega
 go_enter Tryd.func22,Tryd.ntmps22
 go_wp2_with (go_at_call 40;(with_reducible refine HI.out.mono ?_);rintro e w' ⟨rfl,rfl⟩)
 go_region_o
 all_goals go_wp2
 all_goals go_ret3
 all_goals exact ⟨by simp [*],_,rfl⟩
set_option maxHeartbeats 2000000 in
set_option maxRecDepth 100000 in
theorem u2j.missed (a:Addr) (c d:Nat) (xs:List Int) (g:Nat) (w:World) (hidx:Calls Tryd.prog 40 #[.slice (some a) xs.length c,.slice (some ⟨g,0,none⟩) 1 d] w fun e w' => e = .returned (.int .i64 (-1)) ∧ w' = w) :
 Calls Tryd.prog 22 #[.slice (some a) xs.length c,.slice (some ⟨g,0,none⟩) 1 d] w fun e w' => e = .returned (.tuple #[.slice (some a) xs.length c,.slice none 0 0,.bool false]) ∧ ∃ q,w' = w.drewN q:=by
 have HI:=Aside0.mk hidx
 clear hidx
 go_enter Tryd.func22,Tryd.ntmps22
 go_wp2_with (go_at_call 40;(with_reducible refine HI.out.mono ?_);rintro e w' ⟨rfl,rfl⟩)
 go_ret3
 exact ⟨rfl,0,rfl⟩
theorem u2j.cut (A:Option Addr) (c d:Nat) (xs:List Int) (g:Nat) (w:World) (hx:(Kd.int .u8).C w A xs.length xs) (hcap:xs.length ≤ c) (hp:0 < xs.length) (hn:xs.length ≤ 4611686018427387904) (hs:w.cell? ⟨g,0,none⟩ = some (.int .u8 10)) :
 Calls Tryd.prog 22 #[.slice A xs.length c,.slice (some ⟨g,0,none⟩) 1 d] w fun e w' => ∃ (A1 A2:Option Addr) (c1 c2:Nat) (p q:List Int) (f:Bool),e = .returned (.tuple #[.slice A1 p.length c1,.slice A2 q.length c2,.bool f]) ∧ (∀ W,(Kd.int .u8).C W A xs.length xs → (Kd.int .u8).C W A1 p.length p ∧ (Kd.int .u8).C W A2 q.length q) ∧ q.length ≤ c2 ∧ p.length ≤ xs.length ∧ q.length < xs.length ∧ Lib.bytesOf p = Tx.partL (Lib.bytesOf xs) ∧ Lib.bytesOf q = Tx.restL (Lib.bytesOf xs) ∧ Below w.heap.size w w':=by
 obtain ⟨a,rfl,hc⟩:=u2j.cells hx hp
 have hi:=Tryd.bytes_Index_one a xs.length c g 0 d xs 10 w rfl hc hs
 rw [show (10:Int).toNat.toUInt8 = 10 from rfl] at hi
 have hlen:(Lib.bytesOf xs).length = xs.length:=Lib.bytesOf_length xs
 rcases u2j.split (Lib.bytesOf xs) with ⟨q,h1,h2,h3⟩ | ⟨h1,h2,h3⟩
 · rw [h3] at hi
   have hl:(Tx.partL (Lib.bytesOf xs)).length + 1 + q.length = xs.length:=by
    have h4:=congrArg List.length h1
    rw [List.length_append,List.length_cons,hlen] at h4
    omega
   refine (u2j.found a c _ d xs g w hcap hn (by omega) hi).mono ?_
   rintro e w' ⟨rfl,m,rfl⟩
   have e1:(xs.take (Tx.partL (Lib.bytesOf xs)).length).length = (Tx.partL (Lib.bytesOf xs)).length:=by rw [List.length_take];omega
   have e2:(xs.drop ((Tx.partL (Lib.bytesOf xs)).length + 1)).length = xs.length - ((Tx.partL (Lib.bytesOf xs)).length + 1):=List.length_drop
   have kk:∀ W,(Kd.int .u8).C W (some a) xs.length xs → (Kd.int .u8).C W (some a) (xs.take (Tx.partL (Lib.bytesOf xs)).length).length (xs.take (Tx.partL (Lib.bytesOf xs)).length) ∧ (Kd.int .u8).C W (if c = (Tx.partL (Lib.bytesOf xs)).length + 1 then some a else (some a).map (·.add ((Tx.partL (Lib.bytesOf xs)).length + 1))) (xs.drop ((Tx.partL (Lib.bytesOf xs)).length + 1)).length (xs.drop ((Tx.partL (Lib.bytesOf xs)).length + 1)):=fun W hW => by
    have k2:=Kd.C_drop hW (m:=(Tx.partL (Lib.bytesOf xs)).length + 1) (c:=c) (by omega) hcap
    rw [show ((Tx.partL (Lib.bytesOf xs)).length + 1) * (Kd.int .u8).sz = (Tx.partL (Lib.bytesOf xs)).length + 1 from Nat.mul_one _] at k2
    exact ⟨Kd.C_take hW (by omega),k2⟩
   refine ⟨_,_,c,c - ((Tx.partL (Lib.bytesOf xs)).length + 1),xs.take (Tx.partL (Lib.bytesOf xs)).length,xs.drop ((Tx.partL (Lib.bytesOf xs)).length + 1),true,by rw [e1,e2],kk,by omega,by omega,by omega,?_,?_,ud (Below.refl _ _) m⟩
   · rw [Lib.bytesOf_take]
     conv => lhs;arg 2;rw [h1]
     rw [List.take_left]
   · have e3:Lib.bytesOf (xs.drop ((Tx.partL (Lib.bytesOf xs)).length + 1)) = (Lib.bytesOf xs).drop ((Tx.partL (Lib.bytesOf xs)).length + 1):=by simp [Lib.bytesOf,List.map_drop]
     rw [e3,h2]
     conv => lhs;arg 2;rw [h1]
     rw [List.drop_append,List.drop_eq_nil_of_le (by omega),List.nil_append,show (Tx.partL (Lib.bytesOf xs)).length + 1 - (Tx.partL (Lib.bytesOf xs)).length = 1 by omega]
     rfl
 · rw [h3] at hi
   refine (u2j.missed a c d xs g w hi).mono ?_
   rintro e w' ⟨rfl,m,rfl⟩
   exact ⟨some a,none,c,0,xs,[],false,rfl,fun W hW => ⟨hW,Kd.C_nil _ _⟩,Nat.le_refl _,Nat.le_refl _,hp,h1.symm,h2.symm,ud (Below.refl _ _) m⟩
theorem uq.fin_named:∀ n:Fin 256,text_named.f (n.val:Int) = some (Tx.wordC (UInt8.ofNat n.val)):=by decide +kernel
theorem uq.fin_blank:∀ n:Fin 256,text_blank.f (n.val:Int) = some (Tx.blankC (UInt8.ofNat n.val)):=by decide +kernel
theorem uq.is_named (c:UInt8):text_named.f (c.toNat:Int) = some (Tx.wordC c):=by
 have:=uq.fin_named ⟨c.toNat,c.toNat_lt⟩
 rwa [UInt8.ofNat_toNat] at this
theorem uq.is_blank (c:UInt8):text_blank.f (c.toNat:Int) = some (Tx.blankC c):=by
 have:=uq.fin_blank ⟨c.toNat,c.toNat_lt⟩
 rwa [UInt8.ofNat_toNat] at this
theorem uq.test_named (c:UInt8) (z:Int) (hz:(c.toNat:Int) = z) (W:World):Calls Tryd.prog 55 #[.int .u8 z] W fun e W' => e = .returned (.bool (Tx.wordC c)) ∧ u1c W W':=by
 subst hz
 exact text_named.calls _ _ _ (uq.is_named c)
theorem uq.test_blank (c:UInt8) (z:Int) (hz:(c.toNat:Int) = z) (W:World):Calls Tryd.prog 62 #[.int .u8 z] W fun e W' => e = .returned (.bool (Tx.blankC c)) ∧ u1c W W':=by
 subst hz
 exact text_blank.calls _ _ _ (uq.is_blank c)
set_option maxRecDepth 100000 in
theorem uq.test_dig (hxb:Bool) (hb:Nat) (c:UInt8) (z:Int) (hz:(c.toNat:Int) = z) (W:World) (hcb:W.heap[hb]? = some (.cells #[.bool hxb] 4 (0,0))):Calls Tryd.prog 109 #[.int .u8 z,.pointer (some ⟨hb,0,none⟩)] W fun e W' => e = .returned (.bool (Tx.digC hxb c)) ∧ u1c W W':=by
 subst hz
 have h0:=u1f hcb 0
 simp only [List.size_toArray,List.length_cons,List.length_nil,List.getElem?_toArray,List.getElem?_cons_zero] at h0
 clear hcb
 obtain ⟨n,hn⟩:∃ n:Nat,n = c.toNat:=⟨_,rfl⟩
 have HB:Aside0 (Tx.digC hxb c = if hxb = true then ((decide (48 ≤ n) && decide (n ≤ 57)) || (decide (97 ≤ n) && decide (n ≤ 102))) else (decide (48 ≤ n) && decide (n ≤ 57))):=⟨by rw [hn];rfl⟩
 rw [HB.out,← hn]
 clear hn HB
 by_cases h1:48 ≤ n
 · by_cases h2:n ≤ 57
   · have h3:¬ 97 ≤ n:=by omega
     cases hxb <;> (go_enter Tryd.func109,Tryd.ntmps109;go_wp2;go_ret;exact ⟨by first | (simp [h1,h2];done) | (simp [h1,h2];omega),0,rfl⟩)
   · by_cases h3:97 ≤ n
     · by_cases h4:n ≤ 102
       · cases hxb <;> (go_enter Tryd.func109,Tryd.ntmps109;go_wp2;go_ret;exact ⟨by first | (simp [h1,h2,h3,h4];done) | (simp [h1,h2,h3,h4];omega),0,rfl⟩)
       · cases hxb <;> (go_enter Tryd.func109,Tryd.ntmps109;go_wp2;go_ret;exact ⟨by first | (simp [h1,h2,h3,h4];done) | (simp [h1,h2,h3,h4];omega),0,rfl⟩)
     · cases hxb <;> (go_enter Tryd.func109,Tryd.ntmps109;go_wp2;go_ret;exact ⟨by first | (simp [h1,h2,h3];done) | (simp [h1,h2,h3];omega),0,rfl⟩)
 · have h3:¬ 97 ≤ n:=by omega
   cases hxb <;> (go_enter Tryd.func109,Tryd.ntmps109;go_wp2;go_ret;exact ⟨by first | (simp [h1,h3];done) | (simp [h1,h3];omega),0,rfl⟩)
theorem uq.fin (p:UInt8 → Bool) {w0 W:World} {g:Nat} {s:List UInt8} (h:ua.St w0 W g s) (x n:Nat) (hx:x = (s.takeWhile p).length):Ending.returned (.string ((Base.ofL s).extract 0 x)) = .returned (.string (Base.ofL (s.takeWhile p))) ∧
 ua.St w0 ((W.drewN n).setCell ⟨g,0,none⟩ (.string ((Base.ofL s).extract x s.length))) g (s.dropWhile p) ∧ uz W ((W.drewN n).setCell ⟨g,0,none⟩ (.string ((Base.ofL s).extract x s.length))) g none:=by
 have hle:=Tx.tw_le p s
 obtain ⟨c1,c2,c3⟩:=Tx.cut_ofL s x (by omega)
 obtain ⟨t1,t2⟩:=Tx.tw_take p s
 rw [← hx] at t1 t2
 rw [c3] at c2
 rw [c1,c2,t1,t2]
 exact ⟨rfl,(h.drew n).set _,(uz.of_below (ud (Below.refl _ _) n) g none).set_ 0 _⟩
set_option maxHeartbeats 1000000 in
set_option maxRecDepth 100000 in
theorem uq.calls_named (w0 W:World) (g:Nat) (s:List UInt8) (hl:s.length ≤ 4611686018427387904) (h:ua.St w0 W g s) :
 Calls Tryd.prog 61 #[.pointer (some ⟨g,0,none⟩),.func (.func 55) #[] #[]] W fun e W' => e = .returned (.string (Base.ofL (s.takeWhile Tx.wordC))) ∧ ua.St w0 W' g (s.dropWhile Tx.wordC) ∧ uz W W' g none:=by
 have HS:=Aside0.mk h
 obtain ⟨h0,f0⟩:=h.look
 clear h
 have hsz:(Base.ofL s).size = s.length:=(Tx.cut_ofL s 0 (by omega)).2.2
 go_enter Tryd.func61,Tryd.ntmps61
 go_wp2
 go_loopg [5] (s.length) (fun kq vn wr => ∃ (x:Nat),x ≤ (s.takeWhile Tx.wordC).length ∧ vn = .int .i64 x ∧ s.length ≤ kq + x ∧ u1c W wr)
 case atStart => exact ⟨0,by omega,rfl,by omega,u1c.refl _⟩
 case round =>
  obtain ⟨x,hx,rfl,hk,⟨m1,rfl⟩⟩:=hrel
  have hle:=Tx.tw_le Tx.wordC s
  by_cases hlt:x < s.length
  · have hst:=Tx.tw_step Tx.wordC s x hx hlt
    obtain ⟨z,HZ⟩:∃ z:Int,Aside0 ((s[x].toNat:Int) = z):=⟨_,⟨rfl⟩⟩
    have hbt:(((Base.ofL s)[x]'(by rw [hsz];exact hlt)).toNat:Int) = z:=HZ.out
    cases hp:Tx.wordC s[x] with
    | true =>
      have hx1:=hst.1 hp
      clear hst
      go_wp2_with (go_at_call 55;refine (uq.test_named _ _ HZ.out _).mono ?_;rintro e W1 ⟨rfl,⟨nd,rfl⟩⟩)
      obtain ⟨g1,rfl⟩:∃ g1,gk = g1 + 1:=⟨gk - 1,by omega⟩
      go_roundg g1
      case rel => exact ⟨x + 1,hx1,by go_num,by omega,⟨_,rfl⟩⟩
      case measure => omega
    | false =>
      have HX:=Aside0.mk (hst.2 hp)
      clear hst
      go_wp2_with (go_at_call 55;refine (uq.test_named _ _ HZ.out _).mono ?_;rintro e W1 ⟨rfl,⟨nd,rfl⟩⟩)
      go_ret
      exact uq.fin Tx.wordC HS.out x _ HX.out
  · have HX:Aside0 (x = (s.takeWhile Tx.wordC).length):=⟨by omega⟩
    go_wp2
    go_ret
    exact uq.fin Tx.wordC HS.out x _ HX.out
set_option maxHeartbeats 1000000 in
set_option maxRecDepth 100000 in
theorem uq.calls_blank (w0 W:World) (g:Nat) (s:List UInt8) (hl:s.length ≤ 4611686018427387904) (h:ua.St w0 W g s) :
 Calls Tryd.prog 61 #[.pointer (some ⟨g,0,none⟩),.func (.func 62) #[] #[]] W fun e W' => e = .returned (.string (Base.ofL (s.takeWhile Tx.blankC))) ∧ ua.St w0 W' g (s.dropWhile Tx.blankC) ∧ uz W W' g none:=by
 have HS:=Aside0.mk h
 obtain ⟨h0,f0⟩:=h.look
 clear h
 have hsz:(Base.ofL s).size = s.length:=(Tx.cut_ofL s 0 (by omega)).2.2
 go_enter Tryd.func61,Tryd.ntmps61
 go_wp2
 go_loopg [5] (s.length) (fun kq vn wr => ∃ (x:Nat),x ≤ (s.takeWhile Tx.blankC).length ∧ vn = .int .i64 x ∧ s.length ≤ kq + x ∧ u1c W wr)
 case atStart => exact ⟨0,by omega,rfl,by omega,u1c.refl _⟩
 case round =>
  obtain ⟨x,hx,rfl,hk,⟨m1,rfl⟩⟩:=hrel
  have hle:=Tx.tw_le Tx.blankC s
  by_cases hlt:x < s.length
  · have hst:=Tx.tw_step Tx.blankC s x hx hlt
    obtain ⟨z,HZ⟩:∃ z:Int,Aside0 ((s[x].toNat:Int) = z):=⟨_,⟨rfl⟩⟩
    have hbt:(((Base.ofL s)[x]'(by rw [hsz];exact hlt)).toNat:Int) = z:=HZ.out
    cases hp:Tx.blankC s[x] with
    | true =>
      have hx1:=hst.1 hp
      clear hst
      go_wp2_with (go_at_call 62;refine (uq.test_blank _ _ HZ.out _).mono ?_;rintro e W1 ⟨rfl,⟨nd,rfl⟩⟩)
      obtain ⟨g1,rfl⟩:∃ g1,gk = g1 + 1:=⟨gk - 1,by omega⟩
      go_roundg g1
      case rel => exact ⟨x + 1,hx1,by go_num,by omega,⟨_,rfl⟩⟩
      case measure => omega
    | false =>
      have HX:=Aside0.mk (hst.2 hp)
      clear hst
      go_wp2_with (go_at_call 62;refine (uq.test_blank _ _ HZ.out _).mono ?_;rintro e W1 ⟨rfl,⟨nd,rfl⟩⟩)
      go_ret
      exact uq.fin Tx.blankC HS.out x _ HX.out
  · have HX:Aside0 (x = (s.takeWhile Tx.blankC).length):=⟨by omega⟩
    go_wp2
    go_ret
    exact uq.fin Tx.blankC HS.out x _ HX.out
set_option maxHeartbeats 1000000 in
set_option maxRecDepth 100000 in
theorem uq.calls_dig (hxb:Bool) (hb:Nat) (w0 W:World) (g:Nat) (s:List UInt8) (hl:s.length ≤ 4611686018427387904) (hcb:W.heap[hb]? = some (.cells #[.bool hxb] 4 (0,0))) (hbg:hb ≠ g) (h:ua.St w0 W g s) :
 Calls Tryd.prog 61 #[.pointer (some ⟨g,0,none⟩),.func (.func 109) #[] #[.pointer (some ⟨hb,0,none⟩)]] W fun e W' => e = .returned (.string (Base.ofL (s.takeWhile (Tx.digC hxb)))) ∧ ua.St w0 W' g (s.dropWhile (Tx.digC hxb)) ∧ uz W W' g none:=by
 have HS:=Aside0.mk h
 have HB:=Aside0.mk hcb
 clear hcb
 obtain ⟨h0,f0⟩:=h.look
 clear h
 have hsz:(Base.ofL s).size = s.length:=(Tx.cut_ofL s 0 (by omega)).2.2
 go_enter Tryd.func61,Tryd.ntmps61
 go_wp2
 go_loopg [5] (s.length) (fun kq vn wr => ∃ (x:Nat),x ≤ (s.takeWhile (Tx.digC hxb)).length ∧ vn = .int .i64 x ∧ s.length ≤ kq + x ∧ u1c W wr)
 case atStart => exact ⟨0,by omega,rfl,by omega,u1c.refl _⟩
 case round =>
  obtain ⟨x,hx,rfl,hk,⟨m1,rfl⟩⟩:=hrel
  have hle:=Tx.tw_le (Tx.digC hxb) s
  by_cases hlt:x < s.length
  · have hst:=Tx.tw_step (Tx.digC hxb) s x hx hlt
    obtain ⟨z,HZ⟩:∃ z:Int,Aside0 ((s[x].toNat:Int) = z):=⟨_,⟨rfl⟩⟩
    have hbt:(((Base.ofL s)[x]'(by rw [hsz];exact hlt)).toNat:Int) = z:=HZ.out
    cases hp:(Tx.digC hxb) s[x] with
    | true =>
      have hx1:=hst.1 hp
      clear hst
      go_wp2_with (go_at_call 109;refine (uq.test_dig hxb hb _ _ HZ.out _ (by exact HB.out)).mono ?_;rintro e W1 ⟨rfl,⟨nd,rfl⟩⟩)
      obtain ⟨g1,rfl⟩:∃ g1,gk = g1 + 1:=⟨gk - 1,by omega⟩
      go_roundg g1
      case rel => exact ⟨x + 1,hx1,by go_num,by omega,⟨_,rfl⟩⟩
      case measure => omega
    | false =>
      have HX:=Aside0.mk (hst.2 hp)
      clear hst
      go_wp2_with (go_at_call 109;refine (uq.test_dig hxb hb _ _ HZ.out _ (by exact HB.out)).mono ?_;rintro e W1 ⟨rfl,⟨nd,rfl⟩⟩)
      go_ret
      exact uq.fin (Tx.digC hxb) HS.out x _ HX.out
  · have HX:Aside0 (x = (s.takeWhile (Tx.digC hxb)).length):=⟨by omega⟩
    go_wp2
    go_ret
    exact uq.fin (Tx.digC hxb) HS.out x _ HX.out
theorem u1p.calls_ok (w0 W:World) (g:Nat) (s:List UInt8) (hl:s.length ≤ 4611686018427387904) (n:ByteArray) (r:List UInt8) (hn:Tx.nameP s = some (n,r)) (h:ua.St w0 W g s) :
 Calls Tryd.prog 43 #[.pointer (some ⟨g,0,none⟩)] W fun e W' => e = .returned (.string n) ∧ ua.St w0 W' g r ∧ uz W W' g none:=by
 unfold Tx.nameP at hn
 split at hn
 · rename_i hN
   obtain ⟨rfl,rfl⟩:=Prod.mk.inj (Option.some.inj hn)
   have HS:=Aside0.mk h
   have HN:Aside0 (u1e.f (Base.ofL (s.takeWhile Tx.wordC)) = some true):=⟨congrArg some hN⟩
   clear h hN hn
   go_enter Tryd.func43,Tryd.ntmps43
   go_wp2_with (first
    | (go_at_call 61;(with_reducible refine (uq.calls_named w0 _ g s hl HS.out).mono ?_);rintro e W1 ⟨rfl,hs1,hk1⟩;have HS1:=Aside0.mk hs1;have HK1:=Aside0.mk hk1;clear hs1 hk1)
    | (go_at_call 77;(with_reducible refine (u1e.calls _ true _ HN.out).mono ?_);rintro e W2 ⟨rfl,hb⟩;have HB:=Aside0.mk hb;clear hb)
    | (go_at_call 45;(with_reducible refine (u1l.calls_ok _).mono ?_);rintro e W3 ⟨rfl,rfl⟩))
   go_ret
   exact ⟨rfl,HS1.out.more HB.out,HK1.out.trans (uz.of_below HB.out g none) (Or.inl rfl)⟩
 · cases hn
theorem u1p.calls_no (w0 W:World) (g:Nat) (s:List UInt8) (hl:s.length ≤ 4611686018427387904) (hn:Tx.nameP s = none) (h:ua.St w0 W g s) :
 Calls Tryd.prog 43 #[.pointer (some ⟨g,0,none⟩)] W fun e W' => e = .panicked (u1r.chain 280) ∧ Below w0.heap.size w0 W':=by
 unfold Tx.nameP at hn
 split at hn
 · cases hn
 · rename_i hN
   have HS:=Aside0.mk h
   have HN:Aside0 (u1e.f (Base.ofL (s.takeWhile Tx.wordC)) = some false):=⟨congrArg some (show Base.nameB (Base.ofL (s.takeWhile Tx.wordC)) = false by simpa using hN)⟩
   clear h hN hn
   go_enter Tryd.func43,Tryd.ntmps43
   go_wp2_with (first
    | (go_at_call 61;(with_reducible refine (uq.calls_named w0 _ g s hl HS.out).mono ?_);rintro e W1 ⟨rfl,hs1,hk1⟩;have HS1:=Aside0.mk hs1;clear hs1 hk1)
    | (go_at_call 77;(with_reducible refine (u1e.calls _ false _ HN.out).mono ?_);rintro e W2 ⟨rfl,hb⟩;have HB:=Aside0.mk hb;clear hb)
    | (go_at_call 45;(with_reducible refine (u1l.calls_no _).mono ?_);rintro e W3 ⟨rfl,rfl⟩))
   exact ⟨rfl,rfl,(HS1.out.more HB.out).below⟩
theorem ut.txt (d:List UInt8):(Base.ofL d).size = d.length ∧ (d ≠ [] → (Base.ofL d).toList.isEmpty = false ∧ ¬ (Base.ofL d).toList = []) ∧ (d = [] → (Base.ofL d).toList.isEmpty = true ∧ (Base.ofL d).toList = []):=by
 refine ⟨(Tx.cut_ofL d 0 (by omega)).2.2,fun h => ?_,fun h => ?_⟩
 · rw [ByteArray.toList_eq,Base.ofL_data]
   cases d with
   | nil => exact absurd rfl h
   | cons c r => exact ⟨rfl,fun e => by cases e⟩
 · rw [ByteArray.toList_eq,Base.ofL_data,h]
   exact ⟨rfl,rfl⟩
set_option maxRecDepth 100000 in
set_option maxHeartbeats 1000000 in
theorem ut.calls_ok (w0 W:World) (g:Nat) (hxb:Bool) (most:Nat) (s:List UInt8) (hl:s.length ≤ 1000) (hm:most ≤ 1000) (d r:List UInt8) (hd:Tx.digitsP hxb most s = some (d,r)) (h:ua.St w0 W g s) :
 Calls Tryd.prog 90 #[.pointer (some ⟨g,0,none⟩),.int .i64 (most:Int),.bool hxb] W fun e W' => e = .returned (.string (Base.ofL d)) ∧ ua.St w0 W' g r ∧ uz W W' g none:=by
 have hmf:∀ (fn:Fn) (first cap:Array Value) (w:World),(Instr.makeFunc fn first cap).run Tryd.prog w = .ok (.func fn first cap) w:=fun _ _ _ _ => rfl
 unfold Tx.digitsP at hd
 split at hd
 · rename_i hc
   obtain ⟨rfl,rfl⟩:=Prod.mk.inj (Option.some.inj hd)
   have HS:=Aside0.mk h
   have HG:=Aside0.mk h.lt
   obtain ⟨t1,t2,_⟩:=ut.txt (s.takeWhile (Tx.digC hxb))
   obtain ⟨t3,t4⟩:=t2 hc.1
   have t5:decide (((s.takeWhile (Tx.digC hxb)).length:Int) ≤ (most:Int)) = true:=decide_eq_true (by have:=hc.2;omega)
   have t6:decide ((s.takeWhile (Tx.digC hxb)).length ≤ most) = true:=decide_eq_true hc.2
   clear h hd t2 hc
   go_enter Tryd.func90,Tryd.ntmps90
   go_wp2_with (first
    | (go_at_call 61;(with_reducible refine (uq.calls_dig hxb W.heap.size w0 _ g s (by omega) (by exact ua.new_at W _) (by have:=HG.out;omega) (by exact HS.out.one_more _)).mono ?_);rintro e W1 ⟨rfl,hs1,hk1⟩;have HS1:=Aside0.mk hs1;have HK1:=Aside0.mk hk1;clear hs1 hk1)
    | (go_at_call 45;(with_reducible refine (u1l.calls_ok _).mono ?_);rintro e W3 ⟨rfl,rfl⟩))
   go_ret
   exact ⟨rfl,HS1.out,ua.keep_from HK1.out⟩
 · cases hd
set_option maxRecDepth 100000 in
set_option maxHeartbeats 1000000 in
theorem ut.calls_no (w0 W:World) (g:Nat) (hxb:Bool) (most:Nat) (s:List UInt8) (hl:s.length ≤ 1000) (hm:most ≤ 1000) (hd:Tx.digitsP hxb most s = none) (h:ua.St w0 W g s) :
 Calls Tryd.prog 90 #[.pointer (some ⟨g,0,none⟩),.int .i64 (most:Int),.bool hxb] W fun e W' => e = .panicked (u1r.chain 280) ∧ Below w0.heap.size w0 W':=by
 have hmf:∀ (fn:Fn) (first cap:Array Value) (w:World),(Instr.makeFunc fn first cap).run Tryd.prog w = .ok (.func fn first cap) w:=fun _ _ _ _ => rfl
 unfold Tx.digitsP at hd
 split at hd
 · cases hd
 · rename_i hc
   have HS:=Aside0.mk h
   have HG:=Aside0.mk h.lt
   clear h hd
   by_cases he:s.takeWhile (Tx.digC hxb) = []
   · obtain ⟨t1,_,t2⟩:=ut.txt (s.takeWhile (Tx.digC hxb))
     obtain ⟨t3,t4⟩:=t2 he
     clear t2 t1 hc he
     go_enter Tryd.func90,Tryd.ntmps90
     go_wp2_with (first
      | (go_at_call 61;(with_reducible refine (uq.calls_dig hxb W.heap.size w0 _ g s (by omega) (by exact ua.new_at W _) (by have:=HG.out;omega) (by exact HS.out.one_more _)).mono ?_);rintro e W1 ⟨rfl,hs1,hk1⟩;have HS1:=Aside0.mk hs1;clear hs1 hk1)
      | (go_at_call 45;(with_reducible refine (u1l.calls_no _).mono ?_);rintro e W3 ⟨rfl,rfl⟩))
     exact ⟨rfl,rfl,HS1.out.below⟩
   · obtain ⟨t1,t2,_⟩:=ut.txt (s.takeWhile (Tx.digC hxb))
     obtain ⟨t3,t4⟩:=t2 he
     have hgt:¬ (s.takeWhile (Tx.digC hxb)).length ≤ most:=fun h9 => hc ⟨he,h9⟩
     have t5:decide (((s.takeWhile (Tx.digC hxb)).length:Int) ≤ (most:Int)) = false:=decide_eq_false (by omega)
     have t6:decide ((s.takeWhile (Tx.digC hxb)).length ≤ most) = false:=decide_eq_false hgt
     clear t2 hc he
     go_enter Tryd.func90,Tryd.ntmps90
     go_wp2_with (first
      | (go_at_call 61;(with_reducible refine (uq.calls_dig hxb W.heap.size w0 _ g s (by omega) (by exact ua.new_at W _) (by have:=HG.out;omega) (by exact HS.out.one_more _)).mono ?_);rintro e W1 ⟨rfl,hs1,hk1⟩;have HS1:=Aside0.mk hs1;clear hs1 hk1)
      | (go_at_call 45;(with_reducible refine (u1l.calls_no _).mono ?_);rintro e W3 ⟨rfl,rfl⟩))
     exact ⟨rfl,rfl,HS1.out.below⟩
theorem ut.ok_at (most:Nat) (mi:Int) (hmi:(most:Int) = mi) (w0 W:World) (g:Nat) (hxb:Bool) (s:List UInt8) (hl:s.length ≤ 1000) (hm:most ≤ 1000) (d r:List UInt8) (hd:Tx.digitsP hxb most s = some (d,r)) (h:ua.St w0 W g s) :
 Calls Tryd.prog 90 #[.pointer (some ⟨g,0,none⟩),.int .i64 mi,.bool hxb] W fun e W' => e = .returned (.string (Base.ofL d)) ∧ ua.St w0 W' g r ∧ uz W W' g none:=by
 subst hmi
 exact ut.calls_ok w0 W g hxb most s hl hm d r hd h
theorem ut.no_at (most:Nat) (mi:Int) (hmi:(most:Int) = mi) (w0 W:World) (g:Nat) (hxb:Bool) (s:List UInt8) (hl:s.length ≤ 1000) (hm:most ≤ 1000) (hd:Tx.digitsP hxb most s = none) (h:ua.St w0 W g s) :
 Calls Tryd.prog 90 #[.pointer (some ⟨g,0,none⟩),.int .i64 mi,.bool hxb] W fun e W' => e = .panicked (u1r.chain 280) ∧ Below w0.heap.size w0 W':=by
 subst hmi
 exact ut.calls_no w0 W g hxb most s hl hm hd h
def um.dig (z:Int):Int:=if 97 ≤ z then z - 87 else z - 48
def um.num (base:Int):List Int → Int → Option Int
 | [],n => some n
 | c :: r,n => if n ≤ (18446744073709551615 - um.dig c) / base then um.num base r (n * base + um.dig c) else none
theorem um.u64_id (x:Int) (h0:0 ≤ x) (h1:x ≤ 18446744073709551615):IntKind.u64.wrap x = x:=by
 unfold IntKind.wrap
 simp only [IntKind.signed,IntKind.bits,Bool.false_and,Bool.false_eq_true,if_false]
 omega
theorem um.quo {base d:Int} (hb:base = 10 ∨ base = 16) (h0:0 ≤ d) (h1:d ≤ 15):IntKind.u64.wrap ((18446744073709551615 - d).tdiv base) = (18446744073709551615 - d) / base:=by
 rw [Int.tdiv_eq_ediv_of_nonneg (by omega)]
 rcases hb with rfl | rfl <;> exact um.u64_id _ (by omega) (by omega)
theorem um.fits {base d m:Int} (hb:base = 10 ∨ base = 16) (h0:0 ≤ d) (h1:d ≤ 15) (hm:0 ≤ m) (h:m ≤ (18446744073709551615 - d) / base):0 ≤ m * base + d ∧ m * base + d ≤ 18446744073709551615 ∧ IntKind.u64.wrap (m * base) = m * base ∧ IntKind.u64.wrap (m * base + d) = m * base + d:=by
 rcases hb with rfl | rfl <;> exact ⟨by omega,by omega,um.u64_id _ (by omega) (by omega),um.u64_id _ (by omega) (by omega)⟩
theorem um.rd_at (l:List Int) (x:Nat) (h:x < l.length):rd l (x:Int) ∈ l ∧ l.drop x = rd l (x:Int) :: l.drop (x + 1):=by
 have e:rd l (x:Int) = l[x]:=by simp [rd,List.getD_eq_getElem?_getD,h]
 rw [e]
 exact ⟨List.getElem_mem h,List.drop_eq_getElem_cons h⟩
theorem um.add_at (b x:Nat):(⟨b,0,none⟩:Addr).add ((x:Int).toNat) = ⟨b,x,none⟩:=by
 rw [show (x:Int).toNat = x from rfl]
 unfold Addr.add
 split
 · rename_i h
   rw [h]
 · simp
set_option maxRecDepth 100000 in
set_option maxHeartbeats 1000000 in
theorem um.calls_ok (s:ByteArray) (base:Int) (hb:base = 10 ∨ base = 16) (hs:s.size ≤ 1000) (hd:∀ c ∈ bytesOf s,(48 ≤ c ∧ c ≤ 57) ∨ (97 ≤ c ∧ c ≤ 102)) (n:Int) (hn:um.num base (bytesOf s) 0 = some n) (w:World) :
 Calls Tryd.prog 89 #[.string s,.int .u64 base] w fun e w' => e = .returned (.int .u64 n) ∧ Below w.heap.size w w':=by
 have kb:=fun W => print_bytes (P:=Tryd.prog) 9 42 5 Tryd.underlying9 Tryd.underlying42 Tryd.underlying5 s W
 have HD:=Aside0.mk hd
 have HN:=Aside0.mk hn
 have HBs:=Aside0.mk hb
 have hlen:=bytesOf_length s
 have HR:=Aside0.mk (bytes_reads w 5 s (by omega))
 have h0b:(base == 0) = false:=beq_eq_false_iff_ne.2 (by omega)
 have h0c:¬ base = 0:=by omega
 clear hd hn hb
 go_enter Tryd.func89,Tryd.ntmps89
 go_wp2
 go_loopg [5,12] (s.size) (fun kq v5 v12 wr => ∃ (x:Nat) (m:Int),x ≤ s.size ∧ v12 = .int .i64 x ∧ v5 = .int .u64 m ∧ Aside0 (um.num base ((bytesOf s).drop x) m = some n) ∧ Aside0 (0 ≤ m ∧ m ≤ 18446744073709551615) ∧ s.size ≤ kq + x ∧ u1c (Lib.bytesWorld w 5 s) wr)
 case atStart => exact ⟨0,0,by omega,rfl,rfl,⟨by simpa using HN.out⟩,⟨by omega⟩,by omega,u1c.refl _⟩
 case round =>
  clear HN
  obtain ⟨x,m,hx,rfl,rfl,HN,HM,hk,⟨m1,rfl⟩⟩:=hrel
  by_cases hlt:x < s.size
  · obtain ⟨ad,e,hc⟩:=Kd.at_int (Kd.C_of_reads (d:=(0:Int)) (h1:=fun _ => rfl) HR.out) (x:Int) (by omega) (by omega)
    obtain rfl:ad = ⟨w.heap.size,0,none⟩:=by injection e with e;exact e.symm
    clear e
    obtain ⟨hmem,hdrop⟩:=um.rd_at (bytesOf s) x (by omega)
    obtain ⟨z,HZ⟩:∃ z:Int,Aside0 (rd (bytesOf s) (x:Int) = z):=⟨_,⟨rfl⟩⟩
    rw [HZ.out] at hc hdrop hmem
    rw [um.add_at] at hc
    have hz:=HD.out z hmem
    rw [hdrop] at HN
    clear hdrop hmem
    by_cases h97:97 ≤ z
    · have h102:z ≤ 102:=by omega
      have h48:48 ≤ z:=by omega
      have hdz:um.dig z = (z - 97 + 10):=by unfold um.dig;rw [if_pos h97];omega
      have hq:=um.quo (d:=(z - 97 + 10)) HBs.out (by omega) (by omega)
      unfold um.num at HN
      rw [hdz] at HN
      have HQ:=Aside0.mk hq
      clear hz hdz hq
      by_cases hle:m ≤ (18446744073709551615 - (z - 97 + 10)) / base
      · have HF:=Aside0.mk (um.fits (d:=(z - 97 + 10)) HBs.out (by omega) (by omega) HM.out.1 hle)
        have HT:Aside0 (decide (m ≤ IntKind.u64.wrap ((18446744073709551615 - (z - 97 + 10)).tdiv base)) = true):=⟨by rw [HQ.out];exact decide_eq_true hle⟩
        rw [if_pos hle] at HN
        clear hle
        go_wp2_with (go_at_call 45;(with_reducible refine (u1l.calls_yes _ HT.out _).mono ?_);rintro e W3 ⟨rfl,rfl⟩)
        obtain ⟨g1,rfl⟩:∃ g1,gk = g1 + 1:=⟨gk - 1,by omega⟩
        go_roundg g1
        case rel =>
         obtain ⟨f1,f2,f3,f4⟩:=HF.out
         exact ⟨x + 1,m * base + (z - 97 + 10),by omega,by go_num,by first | (rw [f3,f4];done) | (rw [f4];done) | (simp only [f3,f4];done),HN,⟨⟨f1,f2⟩⟩,by omega,⟨_,rfl⟩⟩
        case measure => omega
      · have HT:Aside0 (decide (m ≤ IntKind.u64.wrap ((18446744073709551615 - (z - 97 + 10)).tdiv base)) = false):=⟨by rw [HQ.out];exact decide_eq_false hle⟩
        rw [if_neg hle] at HN
        clear hle
        cases HN.out
    · have h102:z ≤ 57:=by omega
      have h48:48 ≤ z:=by omega
      have hdz:um.dig z = (z - 48):=by unfold um.dig;rw [if_neg h97]
      have hq:=um.quo (d:=(z - 48)) HBs.out (by omega) (by omega)
      unfold um.num at HN
      rw [hdz] at HN
      have HQ:=Aside0.mk hq
      clear hz hdz hq
      by_cases hle:m ≤ (18446744073709551615 - (z - 48)) / base
      · have HF:=Aside0.mk (um.fits (d:=(z - 48)) HBs.out (by omega) (by omega) HM.out.1 hle)
        have HT:Aside0 (decide (m ≤ IntKind.u64.wrap ((18446744073709551615 - (z - 48)).tdiv base)) = true):=⟨by rw [HQ.out];exact decide_eq_true hle⟩
        rw [if_pos hle] at HN
        clear hle
        go_wp2_with (go_at_call 45;(with_reducible refine (u1l.calls_yes _ HT.out _).mono ?_);rintro e W3 ⟨rfl,rfl⟩)
        obtain ⟨g1,rfl⟩:∃ g1,gk = g1 + 1:=⟨gk - 1,by omega⟩
        go_roundg g1
        case rel =>
         obtain ⟨f1,f2,f3,f4⟩:=HF.out
         exact ⟨x + 1,m * base + (z - 48),by omega,by go_num,by first | (rw [f3,f4];done) | (rw [f4];done) | (simp only [f3,f4];done),HN,⟨⟨f1,f2⟩⟩,by omega,⟨_,rfl⟩⟩
        case measure => omega
      · have HT:Aside0 (decide (m ≤ IntKind.u64.wrap ((18446744073709551615 - (z - 48)).tdiv base)) = false):=⟨by rw [HQ.out];exact decide_eq_false hle⟩
        rw [if_neg hle] at HN
        clear hle
        cases HN.out
  · have HE:Aside0 (m = n):=⟨by
     have h1:=HN.out
     rw [List.drop_eq_nil_of_le (by omega)] at h1
     exact Option.some.inj h1⟩
    go_wp2
    go_ret
    exact ⟨by rw [HE.out];rfl,ud (bytes_below (Below.refl _ _) (Nat.le_refl _) _ _) m1⟩
set_option maxRecDepth 100000 in
set_option maxHeartbeats 1000000 in
theorem um.calls_no (s:ByteArray) (base:Int) (hb:base = 10 ∨ base = 16) (hs:s.size ≤ 1000) (hd:∀ c ∈ bytesOf s,(48 ≤ c ∧ c ≤ 57) ∨ (97 ≤ c ∧ c ≤ 102)) (hn:um.num base (bytesOf s) 0 = none) (w:World) :
 Calls Tryd.prog 89 #[.string s,.int .u64 base] w fun e w' => e = .panicked (u1r.chain 280) ∧ Below w.heap.size w w':=by
 have kb:=fun W => print_bytes (P:=Tryd.prog) 9 42 5 Tryd.underlying9 Tryd.underlying42 Tryd.underlying5 s W
 have HD:=Aside0.mk hd
 have HN:=Aside0.mk hn
 have HBs:=Aside0.mk hb
 have hlen:=bytesOf_length s
 have HR:=Aside0.mk (bytes_reads w 5 s (by omega))
 have h0b:(base == 0) = false:=beq_eq_false_iff_ne.2 (by omega)
 have h0c:¬ base = 0:=by omega
 clear hd hn hb
 go_enter Tryd.func89,Tryd.ntmps89
 go_wp2
 go_loopg [5,12] (s.size) (fun kq v5 v12 wr => ∃ (x:Nat) (m:Int),x ≤ s.size ∧ v12 = .int .i64 x ∧ v5 = .int .u64 m ∧ Aside0 (um.num base ((bytesOf s).drop x) m = none) ∧ Aside0 (0 ≤ m ∧ m ≤ 18446744073709551615) ∧ s.size ≤ kq + x ∧ u1c (Lib.bytesWorld w 5 s) wr)
 case atStart => exact ⟨0,0,by omega,rfl,rfl,⟨by simpa using HN.out⟩,⟨by omega⟩,by omega,u1c.refl _⟩
 case round =>
  clear HN
  obtain ⟨x,m,hx,rfl,rfl,HN,HM,hk,⟨m1,rfl⟩⟩:=hrel
  by_cases hlt:x < s.size
  · obtain ⟨ad,e,hc⟩:=Kd.at_int (Kd.C_of_reads (d:=(0:Int)) (h1:=fun _ => rfl) HR.out) (x:Int) (by omega) (by omega)
    obtain rfl:ad = ⟨w.heap.size,0,none⟩:=by injection e with e;exact e.symm
    clear e
    obtain ⟨hmem,hdrop⟩:=um.rd_at (bytesOf s) x (by omega)
    obtain ⟨z,HZ⟩:∃ z:Int,Aside0 (rd (bytesOf s) (x:Int) = z):=⟨_,⟨rfl⟩⟩
    rw [HZ.out] at hc hdrop hmem
    rw [um.add_at] at hc
    have hz:=HD.out z hmem
    rw [hdrop] at HN
    clear hdrop hmem
    by_cases h97:97 ≤ z
    · have h102:z ≤ 102:=by omega
      have h48:48 ≤ z:=by omega
      have hdz:um.dig z = (z - 97 + 10):=by unfold um.dig;rw [if_pos h97];omega
      have hq:=um.quo (d:=(z - 97 + 10)) HBs.out (by omega) (by omega)
      unfold um.num at HN
      rw [hdz] at HN
      have HQ:=Aside0.mk hq
      clear hz hdz hq
      by_cases hle:m ≤ (18446744073709551615 - (z - 97 + 10)) / base
      · have HF:=Aside0.mk (um.fits (d:=(z - 97 + 10)) HBs.out (by omega) (by omega) HM.out.1 hle)
        have HT:Aside0 (decide (m ≤ IntKind.u64.wrap ((18446744073709551615 - (z - 97 + 10)).tdiv base)) = true):=⟨by rw [HQ.out];exact decide_eq_true hle⟩
        rw [if_pos hle] at HN
        clear hle
        go_wp2_with (go_at_call 45;(with_reducible refine (u1l.calls_yes _ HT.out _).mono ?_);rintro e W3 ⟨rfl,rfl⟩)
        obtain ⟨g1,rfl⟩:∃ g1,gk = g1 + 1:=⟨gk - 1,by omega⟩
        go_roundg g1
        case rel =>
         obtain ⟨f1,f2,f3,f4⟩:=HF.out
         exact ⟨x + 1,m * base + (z - 97 + 10),by omega,by go_num,by first | (rw [f3,f4];done) | (rw [f4];done) | (simp only [f3,f4];done),HN,⟨⟨f1,f2⟩⟩,by omega,⟨_,rfl⟩⟩
        case measure => omega
      · have HT:Aside0 (decide (m ≤ IntKind.u64.wrap ((18446744073709551615 - (z - 97 + 10)).tdiv base)) = false):=⟨by rw [HQ.out];exact decide_eq_false hle⟩
        rw [if_neg hle] at HN
        clear hle
        go_wp2_with (go_at_call 45;(with_reducible refine (u1l.calls_not _ HT.out _).mono ?_);rintro e W3 ⟨rfl,rfl⟩)
        exact ⟨rfl,rfl,ud (bytes_below (Below.refl _ _) (Nat.le_refl _) _ _) m1⟩
    · have h102:z ≤ 57:=by omega
      have h48:48 ≤ z:=by omega
      have hdz:um.dig z = (z - 48):=by unfold um.dig;rw [if_neg h97]
      have hq:=um.quo (d:=(z - 48)) HBs.out (by omega) (by omega)
      unfold um.num at HN
      rw [hdz] at HN
      have HQ:=Aside0.mk hq
      clear hz hdz hq
      by_cases hle:m ≤ (18446744073709551615 - (z - 48)) / base
      · have HF:=Aside0.mk (um.fits (d:=(z - 48)) HBs.out (by omega) (by omega) HM.out.1 hle)
        have HT:Aside0 (decide (m ≤ IntKind.u64.wrap ((18446744073709551615 - (z - 48)).tdiv base)) = true):=⟨by rw [HQ.out];exact decide_eq_true hle⟩
        rw [if_pos hle] at HN
        clear hle
        go_wp2_with (go_at_call 45;(with_reducible refine (u1l.calls_yes _ HT.out _).mono ?_);rintro e W3 ⟨rfl,rfl⟩)
        obtain ⟨g1,rfl⟩:∃ g1,gk = g1 + 1:=⟨gk - 1,by omega⟩
        go_roundg g1
        case rel =>
         obtain ⟨f1,f2,f3,f4⟩:=HF.out
         exact ⟨x + 1,m * base + (z - 48),by omega,by go_num,by first | (rw [f3,f4];done) | (rw [f4];done) | (simp only [f3,f4];done),HN,⟨⟨f1,f2⟩⟩,by omega,⟨_,rfl⟩⟩
        case measure => omega
      · have HT:Aside0 (decide (m ≤ IntKind.u64.wrap ((18446744073709551615 - (z - 48)).tdiv base)) = false):=⟨by rw [HQ.out];exact decide_eq_false hle⟩
        rw [if_neg hle] at HN
        clear hle
        go_wp2_with (go_at_call 45;(with_reducible refine (u1l.calls_not _ HT.out _).mono ?_);rintro e W3 ⟨rfl,rfl⟩)
        exact ⟨rfl,rfl,ud (bytes_below (Below.refl _ _) (Nat.le_refl _) _ _) m1⟩
  · have h1:=HN.out
    rw [List.drop_eq_nil_of_le (by omega)] at h1
    cases h1
theorem um.num_is (base:Int):∀ (d:List UInt8) (n:Int),um.num base (d.map fun c => (c.toNat:Int)) n = Tx.numL base d n
 | [],n => rfl
 | c :: d,n => by
   have e:um.dig (c.toNat:Int) = Tx.digV c:=by
    unfold um.dig Tx.digV
    by_cases h:97 ≤ c.toNat
    · rw [if_pos h,if_pos (by omega)]
    · rw [if_neg h,if_neg (by omega)]
   rw [List.map_cons]
   unfold um.num Tx.numL
   rw [e,um.num_is base d]
theorem um.bytes_ofL (d:List UInt8):bytesOf (Base.ofL d) = d.map fun c => (c.toNat:Int):=by
 unfold bytesOf
 rw [Base.ofL_data]
theorem um.bytes_hex {d:List UInt8} (hd:∀ c ∈ d,Tx.hexC c = true):∀ c ∈ bytesOf (Base.ofL d),(48 ≤ c ∧ c ≤ 57) ∨ (97 ≤ c ∧ c ≤ 102):=by
 rw [um.bytes_ofL]
 intro z hz
 obtain ⟨c,hc,rfl⟩:=List.mem_map.1 hz
 have h:=hd c hc
 unfold Tx.hexC Tx.decC at h
 simp only [Bool.or_eq_true,Bool.and_eq_true,decide_eq_true_eq] at h
 omega
theorem um.says (d:List UInt8) (base:Int) (hb:base = 10 ∨ base = 16) (hs:d.length ≤ 1000) (hd:∀ c ∈ d,Tx.hexC c = true) (n:Int) (hn:Tx.numL base d 0 = some n) (w:World) :
 Calls Tryd.prog 89 #[.string (Base.ofL d),.int .u64 base] w fun e w' => e = .returned (.int .u64 n) ∧ Below w.heap.size w w' :=
 um.calls_ok (Base.ofL d) base hb (by rw [(Tx.cut_ofL d 0 (by omega)).2.2];exact hs) (um.bytes_hex hd) n (by rw [um.bytes_ofL,um.num_is];exact hn) w
theorem um.says_no (d:List UInt8) (base:Int) (hb:base = 10 ∨ base = 16) (hs:d.length ≤ 1000) (hd:∀ c ∈ d,Tx.hexC c = true) (hn:Tx.numL base d 0 = none) (w:World) :
 Calls Tryd.prog 89 #[.string (Base.ofL d),.int .u64 base] w fun e w' => e = .panicked (u1r.chain 280) ∧ Below w.heap.size w w' :=
 um.calls_no (Base.ofL d) base hb (by rw [(Tx.cut_ofL d 0 (by omega)).2.2];exact hs) (um.bytes_hex hd) (by rw [um.bytes_ofL,um.num_is];exact hn) w
theorem ur.cut_pre (p s:List UInt8):uy.f (Base.ofL s) (Base.ofL p) = if p.isPrefixOf s = true then some (Base.ofL (s.drop p.length),true) else some (Base.ofL s,false):=by
 have hs:(Base.ofL s).size = s.length:=(Tx.cut_ofL s 0 (by omega)).2.2
 have hp:(Base.ofL p).size = p.length:=(Tx.cut_ofL p 0 (by omega)).2.2
 unfold uy.f u1o.f u1b.f
 rw [hs,hp]
 by_cases h:p.length ≤ s.length
 · have e1:((Base.ofL s).extract 0 ((p.length:Int)).toNat).toList = s.take p.length:=by
    rw [ByteArray.toList_eq,Base.extract_list,Base.ofL_data]
    simp
   have e2:(Base.ofL p).toList = p:=by rw [ByteArray.toList_eq,Base.ofL_data]
   have e3:(Base.ofL s).extract ((p.length:Int)).toNat s.length = Base.ofL (s.drop p.length):=by
    have:=(Tx.cut_ofL s p.length h).2.1
    rw [hs] at this
    simpa using this
   have e4:(s.take p.length == p) = p.isPrefixOf s:=by
    rw [Bool.eq_iff_iff,beq_iff_eq,List.isPrefixOf_iff_prefix]
    constructor
    · intro e
      rw [← e]
      exact List.take_prefix _ _
    · intro e
      exact (List.prefix_iff_eq_take.1 e).symm
   rw [if_pos (by omega),if_pos (by omega),if_pos (by omega),e1,e2,e4,e3]
   cases p.isPrefixOf s <;> simp [h]
 · have e5:p.isPrefixOf s = false:=by
    cases e:p.isPrefixOf s with
    | false => rfl
    | true => exact absurd (List.IsPrefix.length_le (List.isPrefixOf_iff_prefix.1 e)) h
   rw [if_neg (by omega),e5]
   rfl
theorem ur.dig_all {h:Bool} {s:List UInt8}:∀ c ∈ s.takeWhile (Tx.digC h),Tx.hexC c = true:=by
 intro c hc
 have h1:Tx.digC h c = true:=by
  have:=List.all_takeWhile (p:=Tx.digC h) (l:=s)
  exact List.all_eq_true.1 this c hc
 unfold Tx.digC at h1
 cases h with
 | true => simpa using h1
 | false =>
   have h2:Tx.decC c = true:=by simpa using h1
   unfold Tx.hexC
   rw [h2]
   rfl
theorem ur.dig_is {h:Bool} {most:Nat} {s d r:List UInt8} (hd:Tx.digitsP h most s = some (d,r)):(∀ c ∈ d,Tx.hexC c = true) ∧ d.length ≤ most ∧ r.length ≤ s.length:=by
 unfold Tx.digitsP at hd
 split at hd
 · rename_i hc
   obtain ⟨rfl,rfl⟩:=Prod.mk.inj (Option.some.inj hd)
   refine ⟨ur.dig_all,hc.2,?_⟩
   have h1:=congrArg List.length (List.takeWhile_append_dropWhile (p:=Tx.digC h) (l:=s))
   rw [List.length_append] at h1
   omega
 · cases hd
set_option maxRecDepth 100000 in
set_option maxHeartbeats 1000000 in
theorem ur.hex_ok (w0 W:World) (g:Nat) (s:List UInt8) (hl:s.length ≤ 1000) (q:List UInt8) (hs:s = 48 :: 120 :: q) (n:Int) (r:List UInt8) (hv:Tx.valueD true 16 16 q = some (n,r)) (h:ua.St w0 W g s) :
 Calls Tryd.prog 63 #[.pointer (some ⟨g,0,none⟩)] W fun e W' => e = .returned (.int .u64 n) ∧ ua.St w0 W' g r ∧ uz W W' g none:=by
 unfold Tx.valueD at hv
 obtain ⟨⟨d,r'⟩,hd,hv⟩:=Option.bind_eq_some_iff.1 hv
 obtain ⟨n',hn,hv⟩:=Option.map_eq_some_iff.1 hv
 obtain ⟨rfl,rfl⟩:=Prod.mk.inj hv
 simp only at hn
 obtain ⟨ha,hdl,hrl⟩:=ur.dig_is hd
 have HA:=Aside0.mk ha
 have HD:=Aside0.mk hd
 have HN:=Aside0.mk hn
 have hq:q.length ≤ 1000:=by rw [hs,List.length_cons,List.length_cons] at hl;omega
 have HC:Aside0 (uy.f (Base.ofL (48 :: 120 :: q)) (⟨#[48,120]⟩:ByteArray) = some (Base.ofL q,true)):=⟨by
  have e:=ur.cut_pre [48,120] s
  rw [hs,if_pos (by simp [List.isPrefixOf])] at e
  exact e⟩
 subst hs
 have HS:=Aside0.mk h
 obtain ⟨h0,f0⟩:=h.look
 clear h
 clear ha hd hn hv
 go_enter Tryd.func63,Tryd.ntmps63
 go_wp2_with (first
  | (go_at_call 78;(with_reducible refine (uy.calls _ _ _ _ _ HC.out).mono ?_);rintro e W1 ⟨rfl,⟨nd,rfl⟩⟩)
  | (go_at_call 90;(with_reducible refine (ut.ok_at 16 16 rfl w0 _ g true q (by omega) (by omega) d r' HD.out (by exact (HS.out.drew nd).set q)).mono ?_);rintro e W2 ⟨rfl,hs2,hk2⟩;have HS2:=Aside0.mk hs2;have HK2:=Aside0.mk hk2;clear hs2 hk2)
  | (go_at_call 89;(with_reducible refine (um.says d 16 (by omega) (by omega) HA.out n' HN.out _).mono ?_);rintro e W3 ⟨rfl,hb3⟩;have HB3:=Aside0.mk hb3;clear hb3))
 go_ret
 exact ⟨rfl,HS2.out.more HB3.out,ua.keep_then ((uz.of_below (ud (Below.refl _ _) nd) g none).set_ 0 _) (ua.keep_then HK2.out (uz.of_below HB3.out g none))⟩
set_option maxRecDepth 100000 in
set_option maxHeartbeats 1000000 in
theorem ur.hex_no (w0 W:World) (g:Nat) (s:List UInt8) (hl:s.length ≤ 1000) (q:List UInt8) (hs:s = 48 :: 120 :: q) (hv:Tx.valueD true 16 16 q = none) (h:ua.St w0 W g s) :
 Calls Tryd.prog 63 #[.pointer (some ⟨g,0,none⟩)] W fun e W' => e = .panicked (u1r.chain 280) ∧ Below w0.heap.size w0 W':=by
 unfold Tx.valueD at hv
 have hq:q.length ≤ 1000:=by rw [hs,List.length_cons,List.length_cons] at hl;omega
 have HC:Aside0 (uy.f (Base.ofL (48 :: 120 :: q)) (⟨#[48,120]⟩:ByteArray) = some (Base.ofL q,true)):=⟨by
  have e:=ur.cut_pre [48,120] s
  rw [hs,if_pos (by simp [List.isPrefixOf])] at e
  exact e⟩
 subst hs
 have HS:=Aside0.mk h
 obtain ⟨h0,f0⟩:=h.look
 clear h
 cases hd:Tx.digitsP true 16 q with
 | none =>
   have HD:=Aside0.mk hd
   clear hd hv
   go_enter Tryd.func63,Tryd.ntmps63
   go_wp2_with (first
    | (go_at_call 78;(with_reducible refine (uy.calls _ _ _ _ _ HC.out).mono ?_);rintro e W1 ⟨rfl,⟨nd,rfl⟩⟩)
    | (go_at_call 90;(with_reducible refine (ut.no_at 16 16 rfl w0 _ g true q (by omega) (by omega) HD.out (by exact (HS.out.drew nd).set q)).mono ?_);rintro e W2 ⟨rfl,hb2⟩))
   exact ⟨rfl,rfl,hb2⟩
 | some p =>
   obtain ⟨d,r⟩:=p
   rw [hd] at hv
   have hn:Tx.numL 16 d 0 = none:=by simpa using hv
   obtain ⟨ha,hdl,hrl⟩:=ur.dig_is hd
   have HA:=Aside0.mk ha
   have HD:=Aside0.mk hd
   have HN:=Aside0.mk hn
   clear ha hd hn hv
   go_enter Tryd.func63,Tryd.ntmps63
   go_wp2_with (first
    | (go_at_call 78;(with_reducible refine (uy.calls _ _ _ _ _ HC.out).mono ?_);rintro e W1 ⟨rfl,⟨nd,rfl⟩⟩)
    | (go_at_call 90;(with_reducible refine (ut.ok_at 16 16 rfl w0 _ g true q (by omega) (by omega) d r HD.out (by exact (HS.out.drew nd).set q)).mono ?_);rintro e W2 ⟨rfl,hs2,hk2⟩;have HS2:=Aside0.mk hs2;have HK2:=Aside0.mk hk2;clear hs2 hk2)
    | (go_at_call 89;(with_reducible refine (um.says_no d 16 (by omega) (by omega) HA.out HN.out _).mono ?_);rintro e W3 ⟨rfl,hb3⟩))
   exact ⟨rfl,rfl,(HS2.out.more hb3).below⟩
set_option maxRecDepth 100000 in
set_option maxHeartbeats 1000000 in
theorem ur.dec_ok (w0 W:World) (g:Nat) (s:List UInt8) (hl:s.length ≤ 1000) (hs:([48,120]:List UInt8).isPrefixOf s = false) (n:Int) (r:List UInt8) (hv:Tx.valueD false 20 10 s = some (n,r)) (h:ua.St w0 W g s) :
 Calls Tryd.prog 63 #[.pointer (some ⟨g,0,none⟩)] W fun e W' => e = .returned (.int .u64 n) ∧ ua.St w0 W' g r ∧ uz W W' g none:=by
 unfold Tx.valueD at hv
 obtain ⟨⟨d,r'⟩,hd,hv⟩:=Option.bind_eq_some_iff.1 hv
 obtain ⟨n',hn,hv⟩:=Option.map_eq_some_iff.1 hv
 obtain ⟨rfl,rfl⟩:=Prod.mk.inj hv
 simp only at hn
 obtain ⟨ha,hdl,hrl⟩:=ur.dig_is hd
 have HA:=Aside0.mk ha
 have HD:=Aside0.mk hd
 have HN:=Aside0.mk hn
 have HC:Aside0 (uy.f (Base.ofL s) (⟨#[48,120]⟩:ByteArray) = some (Base.ofL s,false)):=⟨by
  have e:=ur.cut_pre [48,120] s
  rw [if_neg (by rw [hs];decide)] at e
  exact e⟩
 clear hs
 have HS:=Aside0.mk h
 obtain ⟨h0,f0⟩:=h.look
 clear h
 clear ha hd hn hv
 go_enter Tryd.func63,Tryd.ntmps63
 go_wp2_with (first
  | (go_at_call 78;(with_reducible refine (uy.calls _ _ _ _ _ HC.out).mono ?_);rintro e W1 ⟨rfl,⟨nd,rfl⟩⟩)
  | (go_at_call 90;(with_reducible refine (ut.ok_at 20 20 rfl w0 _ g false s (by omega) (by omega) d r' HD.out (by exact HS.out.drew nd)).mono ?_);rintro e W2 ⟨rfl,hs2,hk2⟩;have HS2:=Aside0.mk hs2;have HK2:=Aside0.mk hk2;clear hs2 hk2)
  | (go_at_call 89;(with_reducible refine (um.says d 10 (by omega) (by omega) HA.out n' HN.out _).mono ?_);rintro e W3 ⟨rfl,hb3⟩;have HB3:=Aside0.mk hb3;clear hb3))
 go_ret
 exact ⟨rfl,HS2.out.more HB3.out,ua.keep_then (uz.of_below (ud (Below.refl _ _) nd) g none) (ua.keep_then HK2.out (uz.of_below HB3.out g none))⟩
set_option maxRecDepth 100000 in
set_option maxHeartbeats 1000000 in
theorem ur.dec_no (w0 W:World) (g:Nat) (s:List UInt8) (hl:s.length ≤ 1000) (hs:([48,120]:List UInt8).isPrefixOf s = false) (hv:Tx.valueD false 20 10 s = none) (h:ua.St w0 W g s) :
 Calls Tryd.prog 63 #[.pointer (some ⟨g,0,none⟩)] W fun e W' => e = .panicked (u1r.chain 280) ∧ Below w0.heap.size w0 W':=by
 unfold Tx.valueD at hv
 have HC:Aside0 (uy.f (Base.ofL s) (⟨#[48,120]⟩:ByteArray) = some (Base.ofL s,false)):=⟨by
  have e:=ur.cut_pre [48,120] s
  rw [if_neg (by rw [hs];decide)] at e
  exact e⟩
 clear hs
 have HS:=Aside0.mk h
 obtain ⟨h0,f0⟩:=h.look
 clear h
 cases hd:Tx.digitsP false 20 s with
 | none =>
   have HD:=Aside0.mk hd
   clear hd hv
   go_enter Tryd.func63,Tryd.ntmps63
   go_wp2_with (first
    | (go_at_call 78;(with_reducible refine (uy.calls _ _ _ _ _ HC.out).mono ?_);rintro e W1 ⟨rfl,⟨nd,rfl⟩⟩)
    | (go_at_call 90;(with_reducible refine (ut.no_at 20 20 rfl w0 _ g false s (by omega) (by omega) HD.out (by exact HS.out.drew nd)).mono ?_);rintro e W2 ⟨rfl,hb2⟩))
   exact ⟨rfl,rfl,hb2⟩
 | some p =>
   obtain ⟨d,r⟩:=p
   rw [hd] at hv
   have hn:Tx.numL 10 d 0 = none:=by simpa using hv
   obtain ⟨ha,hdl,hrl⟩:=ur.dig_is hd
   have HA:=Aside0.mk ha
   have HD:=Aside0.mk hd
   have HN:=Aside0.mk hn
   clear ha hd hn hv
   go_enter Tryd.func63,Tryd.ntmps63
   go_wp2_with (first
    | (go_at_call 78;(with_reducible refine (uy.calls _ _ _ _ _ HC.out).mono ?_);rintro e W1 ⟨rfl,⟨nd,rfl⟩⟩)
    | (go_at_call 90;(with_reducible refine (ut.ok_at 20 20 rfl w0 _ g false s (by omega) (by omega) d r HD.out (by exact HS.out.drew nd)).mono ?_);rintro e W2 ⟨rfl,hs2,hk2⟩;have HS2:=Aside0.mk hs2;have HK2:=Aside0.mk hk2;clear hs2 hk2)
    | (go_at_call 89;(with_reducible refine (um.says_no d 10 (by omega) (by omega) HA.out HN.out _).mono ?_);rintro e W3 ⟨rfl,hb3⟩))
   exact ⟨rfl,rfl,(HS2.out.more hb3).below⟩
theorem ur.value_is (s:List UInt8):(∃ q,s = 48 :: 120 :: q ∧ Tx.valueP s = Tx.valueD true 16 16 q) ∨ (([48,120]:List UInt8).isPrefixOf s = false ∧ Tx.valueP s = Tx.valueD false 20 10 s):=by
 by_cases h:∃ q,s = 48 :: 120 :: q
 · obtain ⟨q,rfl⟩:=h
   exact Or.inl ⟨q,rfl,rfl⟩
 · refine Or.inr ⟨?_,?_⟩
   · cases e:([48,120]:List UInt8).isPrefixOf s with
     | false => rfl
     | true =>
       obtain ⟨t,ht⟩:=List.isPrefixOf_iff_prefix.1 e
       exact absurd ⟨t,ht.symm⟩ h
   · unfold Tx.valueP
     split
     · exact absurd ⟨_,rfl⟩ h
     · rfl
theorem ur.calls_ok (w0 W:World) (g:Nat) (s:List UInt8) (hl:s.length ≤ 1000) (n:Int) (r:List UInt8) (hv:Tx.valueP s = some (n,r)) (h:ua.St w0 W g s) :
 Calls Tryd.prog 63 #[.pointer (some ⟨g,0,none⟩)] W fun e W' => e = .returned (.int .u64 n) ∧ ua.St w0 W' g r ∧ uz W W' g none:=by
 rcases ur.value_is s with ⟨q,hq,e⟩ | ⟨hq,e⟩
 · exact ur.hex_ok w0 W g s hl q hq n r (e ▸ hv) h
 · exact ur.dec_ok w0 W g s hl hq n r (e ▸ hv) h
theorem ur.calls_no (w0 W:World) (g:Nat) (s:List UInt8) (hl:s.length ≤ 1000) (hv:Tx.valueP s = none) (h:ua.St w0 W g s) :
 Calls Tryd.prog 63 #[.pointer (some ⟨g,0,none⟩)] W fun e W' => e = .panicked (u1r.chain 280) ∧ Below w0.heap.size w0 W':=by
 rcases ur.value_is s with ⟨q,hq,e⟩ | ⟨hq,e⟩
 · exact ur.hex_no w0 W g s hl q hq (e ▸ hv) h
 · exact ur.dec_no w0 W g s hl hq (e ▸ hv) h
def uj.f (a0:ByteArray):Option (ByteArray × ByteArray × Int):=if a0.size ≤ 140737488355328 then some (Base.unq a0) else none
theorem uj.cut_yes (c:UInt8) (s:ByteArray) (r:List UInt8) (h:s.data.toList = c :: r):uy.f s (⟨#[c]⟩:ByteArray) = some (s.extract 1 s.size,true):=by
 have hs:s.size = r.length + 1:=by rw [← u1q,h];rfl
 have h1:(s.extract 0 1).toList = [c]:=by
  rw [ByteArray.toList_eq,Base.extract_list,h]
  rfl
 have h2:((s.size:Int) ≥ 1):=by omega
 have h3:((1:Int) ≤ (s.size:Int)):=by omega
 simp [uy.f,u1o.f,u1b.f,Base.size1,h1,h2,h3,ByteArray.toList_eq]
theorem uj.cut_no (c:UInt8) (s:ByteArray) (h:∀ r,s.data.toList ≠ c :: r):uy.f s (⟨#[c]⟩:ByteArray) = some (s,false):=by
 by_cases h2:((s.size:Int) ≥ 1)
 · have h3:((1:Int) ≤ (s.size:Int)):=by omega
   have h1:¬ List.take 1 s.data.toList = [c]:=by
    cases hl:s.data.toList with
    | nil => simp
    | cons x q =>
      intro e
      have:x = c:=by simpa using e
      subst this
      exact h q hl
   simp [uy.f,u1o.f,u1b.f,Base.size1,h1,h2,h3,ByteArray.toList_eq]
 · have h3:¬ ((1:Int) ≤ (s.size:Int)):=by omega
   simp [uy.f,u1o.f,u1b.f,Base.size1,h3]
theorem uj.head (x:ByteArray) (c:UInt8) (r:List UInt8) (h:x.data.toList = c :: r):∃ hp:0 < x.size,((x[0]'hp).toNat:Int) = c.toNat ∧ (x.extract 1 x.size).data.toList = r ∧ x.size = r.length + 1 ∧ x.toList.isEmpty = false:=by
 have hs:x.size = r.length + 1:=by rw [← u1q,h];rfl
 have hp:0 < x.size:=by omega
 refine ⟨hp,?_,?_,hs,?_⟩
 · have h1:x.data.toList[0]? = some c:=by rw [h];rfl
   have h2:x.data.toList[0]'(by rw [u1q];exact hp) = c:=by
    rw [List.getElem?_eq_getElem (by rw [u1q];exact hp)] at h1
    exact Option.some.inj h1
   have h3:x[0]'hp = x.data.toList[0]'(by rw [u1q];exact hp):=rfl
   rw [h3,h2]
 · rw [Base.extract_rest,h]
   rfl
 · rw [ByteArray.toList_eq,h]
   rfl
theorem uj.byte_is (c:UInt8):((c.toNat:Int) = 34 ↔ c = 34) ∧ ((c.toNat:Int) = 92 ↔ c = 92):=by
 refine ⟨⟨fun e => UInt8.toNat_inj.1 (by simpa using (by omega:c.toNat = 34)),fun e => by rw [e];rfl⟩,⟨fun e => UInt8.toNat_inj.1 (by simpa using (by omega:c.toNat = 92)),fun e => by rw [e];rfl⟩⟩
theorem uj.info:(Tryd.prog.info? 5).map (fun i => (i.zero,i.size,i.bytes)) = some (some (.int .u8 0),1,1):=by kernel_rfl
def uj.nats (l:List UInt8):List Int:=l.map fun c => (c.toNat:Int)
theorem uj.str_of (l:List UInt8):strOfNums (uj.nats l) = Base.ofL l:=by
 refine Base.ext_data ?_
 rw [strOfNums_data,Base.ofL_data,uj.nats,List.map_map]
 conv => rhs;rw [← List.map_id l]
 refine List.map_congr_left (fun c _ => ?_)
 simp
def uj.out (o:Option (List UInt8 × List UInt8)):ByteArray × ByteArray × Int:=match o with
 | some (a,q) => (Base.ofL a,Base.ofL q,0)
 | none => (⟨#[]⟩,⟨#[]⟩,5)
set_option maxHeartbeats 4000000 in
set_option maxRecDepth 100000 in
theorem uj.calls (a0:ByteArray) (r1:ByteArray) (r2:ByteArray) (r3:Int) (w:World) (h:uj.f a0 = some (r1,r2,r3)) :
 Calls Tryd.prog 105 #[.string a0] w fun e w' => e = .returned (.tuple #[.string r1,.string r2,.int .i64 r3]) ∧ Below w.heap.size w w':=by
 unfold uj.f at h
 by_cases hlim:a0.size ≤ 140737488355328
 · rw [if_pos hlim] at h
   have hu:=Option.some.inj h
   clear h
   by_cases hq:∃ r,a0.data.toList = 34 :: r
   · obtain ⟨r,hr⟩:=hq
     have hu2:uj.out (Base.unqL r []) = (r1,r2,r3):=by
      rw [← hu]
      unfold Base.unq
      rw [hr]
      simp only [uj.out,if_true]
      cases Base.unqL r [] with
      | none => rfl
      | some y => rfl
     have HU:=Aside0.mk hu2
     have HC:=Aside0.mk (uj.cut_yes 34 a0 r hr)
     have hrl:Aside0 ((a0.extract 1 a0.size).data.toList = r):=⟨by rw [Base.extract_rest,hr];rfl⟩
     have hrn:r.length ≤ a0.size:=by rw [← u1q,hr];simp
     clear hu hu2 hr
     go_enter Tryd.func105,Tryd.ntmps105
     go_wp2_with (go_at_call 78;refine (uy.calls _ _ _ _ _ HC.out).mono ?_;rintro e W1 ⟨rfl,⟨nd,rfl⟩⟩)
     go_loopg [5,7] (r.length) (fun kq v5 v7 wr => ∃ (x:ByteArray) (l acc:List UInt8),v5 = .string x ∧ Aside0 (x.data.toList = l ∧ uj.out (Base.unqL l acc) = (r1,r2,r3) ∧ Kd.R (Kd.int .u8) 5 wr w.heap.size (fun _ => True) v7 (uj.nats acc)) ∧ l.length ≤ kq ∧ acc.length + l.length ≤ r.length ∧ Aside0 (Below w.heap.size w wr))
     case atStart => exact ⟨_,r,[],rfl,⟨hrl.out,HU.out,Kd.R_nil _ _ _ _ _⟩,Nat.le_refl _,by simp,⟨ud (Below.refl _ _) nd⟩⟩
     case round =>
      obtain ⟨x,l,acc,rfl,HR,hk,hal,HB⟩:=hrel
      cases l with
      | nil =>
        have he:x.toList.isEmpty = true:=by rw [ByteArray.toList_eq,HR.out.1];rfl
        have hfin:Aside0 (r1 = ⟨#[]⟩ ∧ r2 = ⟨#[]⟩ ∧ r3 = 5):=⟨by
         have h5:=HR.out.2.1
         rw [Base.unqL_nil] at h5
         obtain ⟨h6,h7⟩:=Prod.mk.inj h5
         obtain ⟨h8,h9⟩:=Prod.mk.inj h7
         exact ⟨h6.symm,h8.symm,h9.symm⟩⟩
        go_wp2
        go_ret3
        exact ⟨by rw [hfin.out.1,hfin.out.2.1,hfin.out.2.2];rfl,HB.out⟩
      | cons c q =>
        obtain ⟨hp,hc,hx2,hxs,he⟩:=uj.head x c q HR.out.1
        have HX2:=Aside0.mk hx2
        have HXS:=Aside0.mk hxs
        have hx1:1 ≤ x.size:=by omega
        clear hx2 hxs
        have hcz:=uj.byte_is c
        obtain ⟨z,hzc⟩:∃ z:Int,Aside0 ((c.toNat:Int) = z):=⟨_,⟨rfl⟩⟩
        rw [hzc.out] at hc hcz
        by_cases h34:c = 34
        · have hz:(z == 34) = true:=by simpa using hcz.1.2 h34
          have hcv:=own_string (P:=Tryd.prog) (src:=42) (dst:=9) (e:=5) (xs:=uj.nats acc) Tryd.underlying42 Tryd.underlying5 Tryd.underlying9 (Kd.own_of_R HR.out.2.2)
          rw [uj.str_of] at hcv
          have hfin:Aside0 (r1 = Base.ofL acc ∧ r2 = Base.ofL q ∧ r3 = 0):=⟨by
           have h5:=HR.out.2.1
           rw [h34,Base.unqL_end] at h5
           obtain ⟨h6,h7⟩:=Prod.mk.inj h5
           obtain ⟨h8,h9⟩:=Prod.mk.inj h7
           exact ⟨h6.symm,h8.symm,h9.symm⟩⟩
          have hrest:Aside0 (x.extract 1 x.size = Base.ofL q):=⟨Base.ext_data (by rw [HX2.out,Base.ofL_data])⟩
          go_wp2
          go_ret3
          exact ⟨by rw [hfin.out.1,hfin.out.2.1,hfin.out.2.2,← hrest.out];rfl,HB.out⟩
        · have hb34:(z == 34) = false:=by
           have:¬ z = 34:=fun e => h34 (hcz.1.1 e)
           simpa using this
          obtain ⟨g1,rfl⟩:∃ g1,gk = g1 + 1:=⟨gk - 1,by simp at hk;omega⟩
          by_cases h92:c = 92
          · have hz:(z == 92) = true:=by simpa using hcz.2.2 h92
            cases q with
            | nil =>
              have he2:(x.extract 1 x.size).toList.isEmpty = true:=by rw [ByteArray.toList_eq,HX2.out];rfl
              have hfin:Aside0 (r1 = ⟨#[]⟩ ∧ r2 = ⟨#[]⟩ ∧ r3 = 5):=⟨by
               have h5:=HR.out.2.1
               rw [h92,Base.unqL_open] at h5
               obtain ⟨h6,h7⟩:=Prod.mk.inj h5
               obtain ⟨h8,h9⟩:=Prod.mk.inj h7
               exact ⟨h6.symm,h8.symm,h9.symm⟩⟩
              go_wp2
              go_ret3
              exact ⟨by rw [hfin.out.1,hfin.out.2.1,hfin.out.2.2];rfl,HB.out⟩
            | cons d q2 =>
              obtain ⟨hp2,hc2,hx22,hxs2,he2⟩:=uj.head (x.extract 1 x.size) d q2 HX2.out
              have HX22:=Aside0.mk hx22
              have HXS2:=Aside0.mk hxs2
              have hx12:1 ≤ (x.extract 1 x.size).size:=by omega
              have hx2s:2 ≤ x.size:=by
               have:=HXS.out
               simp at this
               omega
              have HX23:Aside0 (((x.extract 1 x.size).extract 1 (x.size - 1)).data.toList = q2):=⟨by
               have e1:(x.extract 1 x.size).size = x.size - 1:=by
                have h1:=HXS.out
                have h2:=HXS2.out
                simp at h1
                omega
               have h3:=HX22.out
               rw [e1] at h3
               exact h3⟩
              clear hx22 hxs2
              have hcz2:=uj.byte_is d
              obtain ⟨z2,hzd⟩:∃ z2:Int,Aside0 ((d.toNat:Int) = z2):=⟨_,⟨rfl⟩⟩
              rw [hzd.out] at hc2 hcz2
              by_cases hd:d = 34 ∨ d = 92
              · have hfin:Aside0 (uj.out (Base.unqL q2 (acc ++ [d])) = (r1,r2,r3)):=⟨by
                 have h5:=HR.out.2.1
                 rw [h92,Base.unqL_esc d q2 acc hd] at h5
                 exact h5⟩
                by_cases hd34:d = 34
                · have hz2:(z2 == 34) = true:=by simpa using hcz2.1.2 hd34
                  have hz2b:(z2 != 34) = false:=by simpa using hcz2.1.2 hd34
                  go_wp2_with fail
                  go_quiet (fail)
                  go_wp2_with (at_builtin;refine u1y (w0:=w) w.heap.size rfl (.tmp 47) (.tmp 49) 42 5 .u8 1 rfl Tryd.underlying42 uj.info (by decide) _ (uj.nats acc) z2 rfl rfl (by exact pw_own_below (Kd.own_of_R HR.out.2.2) (ud (Below.refl _ _) _)) (by exact ud HB.out _) ?_ ?_ ?_)
                  · have:=HB.out.size;simpa using this
                  · have h8:(uj.nats acc).length = acc.length:=by simp [uj.nats]
                    rw [h8];simp at hal;omega
                  · intro v1 w1 hown hB hg hat
                    have hR1:Kd.R (Kd.int .u8) 5 w1 w.heap.size (fun _ => True) v1 (uj.nats (acc ++ [d])):=by
                     have h9:uj.nats (acc ++ [d]) = uj.nats acc ++ [z2]:=by simp [uj.nats,hzd.out]
                     rw [h9]
                     have e9:∀ y:Int,(uj.nats acc ++ [y]).length = (uj.nats acc).length + 1:=fun y => by simp
                     refine Kd.R_of_own ?_ (fun _ _ => trivial)
                     rw [e9]
                     exact hown
                    have HR1:=Aside0.mk hR1
                    have HB1:=Aside0.mk hB
                    clear hown hg hat hB hR1
                    go_wp2
                    go_roundg g1
                    case rel => exact ⟨_,q2,acc ++ [d],rfl,⟨HX23.out,hfin.out,HR1.out⟩,by simp at hk;omega,by simp at hal ⊢;omega,HB1⟩
                    case measure => omega
                · have hz2:(z2 == 34) = false:=by
                   have:¬ z2 = 34:=fun e => hd34 (hcz2.1.1 e)
                   simpa using this
                  have hz3:(z2 == 92) = true:=by
                   have:d = 92:=by rcases hd with h | h;exact absurd h hd34;exact h
                   simpa using hcz2.2.2 this
                  have hz2b:(z2 != 34) = true:=by
                   have:¬ z2 = 34:=fun e => hd34 (hcz2.1.1 e)
                   simpa using this
                  have hz3b:(z2 != 92) = false:=by
                   have:d = 92:=by rcases hd with h | h;exact absurd h hd34;exact h
                   simpa using hcz2.2.2 this
                  go_wp2_with fail
                  go_quiet (fail)
                  go_wp2_with (at_builtin;refine u1y (w0:=w) w.heap.size rfl (.tmp 47) (.tmp 49) 42 5 .u8 1 rfl Tryd.underlying42 uj.info (by decide) _ (uj.nats acc) z2 rfl rfl (by exact pw_own_below (Kd.own_of_R HR.out.2.2) (ud (Below.refl _ _) _)) (by exact ud HB.out _) ?_ ?_ ?_)
                  · have:=HB.out.size;simpa using this
                  · have h8:(uj.nats acc).length = acc.length:=by simp [uj.nats]
                    rw [h8];simp at hal;omega
                  · intro v1 w1 hown hB hg hat
                    have hR1:Kd.R (Kd.int .u8) 5 w1 w.heap.size (fun _ => True) v1 (uj.nats (acc ++ [d])):=by
                     have h9:uj.nats (acc ++ [d]) = uj.nats acc ++ [z2]:=by simp [uj.nats,hzd.out]
                     rw [h9]
                     have e9:∀ y:Int,(uj.nats acc ++ [y]).length = (uj.nats acc).length + 1:=fun y => by simp
                     refine Kd.R_of_own ?_ (fun _ _ => trivial)
                     rw [e9]
                     exact hown
                    have HR1:=Aside0.mk hR1
                    have HB1:=Aside0.mk hB
                    clear hown hg hat hB hR1
                    go_wp2
                    go_roundg g1
                    case rel => exact ⟨_,q2,acc ++ [d],rfl,⟨HX23.out,hfin.out,HR1.out⟩,by simp at hk;omega,by simp at hal ⊢;omega,HB1⟩
                    case measure => omega
              · have hfin:Aside0 (r1 = ⟨#[]⟩ ∧ r2 = ⟨#[]⟩ ∧ r3 = 5):=⟨by
                 have h5:=HR.out.2.1
                 rw [h92,Base.unqL_bad d q2 acc hd] at h5
                 obtain ⟨h6,h7⟩:=Prod.mk.inj h5
                 obtain ⟨h8,h9⟩:=Prod.mk.inj h7
                 exact ⟨h6.symm,h8.symm,h9.symm⟩⟩
                have hz2:(z2 == 34) = false:=by
                 have:¬ z2 = 34:=fun e => hd (.inl (hcz2.1.1 e))
                 simpa using this
                have hz3:(z2 == 92) = false:=by
                 have:¬ z2 = 92:=fun e => hd (.inr (hcz2.2.1 e))
                 simpa using this
                have hz2b:(z2 != 34) = true:=by simpa using hz2
                have hz3b:(z2 != 92) = true:=by simpa using hz3
                go_wp2
                go_ret3
                exact ⟨by rw [hfin.out.1,hfin.out.2.1,hfin.out.2.2];rfl,HB.out⟩
          · have hb92:(z == 92) = false:=by
             have:¬ z = 92:=fun e => h92 (hcz.2.1 e)
             simpa using this
            have hfin:Aside0 (uj.out (Base.unqL q (acc ++ [c])) = (r1,r2,r3)):=⟨by
             have h5:=HR.out.2.1
             rw [Base.unqL_plain c q acc h34 h92] at h5
             exact h5⟩
            go_wp2_with (at_builtin;refine u1y (w0:=w) w.heap.size rfl (.tmp 47) (.tmp 49) 42 5 .u8 1 rfl Tryd.underlying42 uj.info (by decide) _ (uj.nats acc) z rfl rfl (by exact Kd.own_of_R HR.out.2.2) (by exact HB.out) ?_ ?_ ?_)
            · have:=HB.out.size;simpa using this
            · have h8:(uj.nats acc).length = acc.length:=by simp [uj.nats]
              rw [h8];simp at hal;omega
            · intro v1 w1 hown hB hg hat
              have hR1:Kd.R (Kd.int .u8) 5 w1 w.heap.size (fun _ => True) v1 (uj.nats (acc ++ [c])):=by
               have h9:uj.nats (acc ++ [c]) = uj.nats acc ++ [z]:=by simp [uj.nats,hzc.out]
               rw [h9]
               have e9:∀ y:Int,(uj.nats acc ++ [y]).length = (uj.nats acc).length + 1:=fun y => by simp
               refine Kd.R_of_own ?_ (fun _ _ => trivial)
               rw [e9]
               exact hown
              have HR1:=Aside0.mk hR1
              have HB1:=Aside0.mk hB
              clear hown hg hat hB hR1
              go_wp2
              go_roundg g1
              case rel => exact ⟨_,q,acc ++ [c],rfl,⟨HX2.out,hfin.out,HR1.out⟩,by simp at hk;omega,by simp at hal ⊢;omega,HB1⟩
              case measure => omega
   · have hcut:=uj.cut_no 34 a0 (fun r hr => hq ⟨r,hr⟩)
     have HC:=Aside0.mk hcut
     have hu2:Aside0 (r1 = ⟨#[]⟩ ∧ r2 = ⟨#[]⟩ ∧ r3 = 5):=⟨by
      unfold Base.unq at hu
      cases hl:a0.data.toList with
      | nil =>
        rw [hl] at hu
        obtain ⟨h6,h7⟩:=Prod.mk.inj hu
        obtain ⟨h8,h9⟩:=Prod.mk.inj h7
        exact ⟨h6.symm,h8.symm,h9.symm⟩
      | cons c q =>
        rw [hl] at hu
        have hc:¬ c = 34:=fun e => hq ⟨q,by rw [hl,e]⟩
        simp only [hc,if_false] at hu
        obtain ⟨h6,h7⟩:=Prod.mk.inj hu
        obtain ⟨h8,h9⟩:=Prod.mk.inj h7
        exact ⟨h6.symm,h8.symm,h9.symm⟩⟩
     clear hcut hu
     go_enter Tryd.func105,Tryd.ntmps105
     go_wp2_with (go_at_call 78;refine (uy.calls _ _ _ _ _ HC.out).mono ?_;rintro e W1 ⟨rfl,⟨nd,rfl⟩⟩)
     refine wp_loop_rounds 1 ?_
     rw [rounds_succ]
     go_wp2
     go_ret3
     exact ⟨by rw [hu2.out.1,hu2.out.2.1,hu2.out.2.2];rfl,ud (Below.refl _ _) nd⟩
 · rw [if_neg hlim] at h
   exact absurd h (by simp)
set_option maxRecDepth 100000 in
set_option maxHeartbeats 1000000 in
theorem us.walk (w0 W:World) (g:Nat) (s:List UInt8) (hl:s.length ≤ 1000) (n:ByteArray) (r:List UInt8) (hn:Tx.nameP s = some (n,r)) (q:List UInt8) (hq:r = 61 :: q) (v:ByteArray) (t:List UInt8) (hv:Base.unq (Base.ofL q) = (v,Base.ofL t,0)) (hql:q.length ≤ 1000)
 (h:ua.St w0 W g s) :
 Calls Tryd.prog 85 #[.pointer (some ⟨g,0,none⟩)] W fun e W' => e = .returned (.agg #[.string n,.string v]) ∧ ua.St w0 W' g t ∧ uz W W' g none:=by
 have HS:=Aside0.mk h
 have HN:=Aside0.mk hn
 have HG:=Aside0.mk h.lt
 have HU:Aside0 (uj.f (Base.ofL q) = some (v,Base.ofL t,0)):=⟨by
  unfold uj.f
  rw [if_pos (by rw [(Tx.cut_ofL q 0 (by omega)).2.2];omega),hv]⟩
 subst hq
 clear h hn hv
 go_enter Tryd.func85,Tryd.ntmps85
 go_wp2_with (first
  | (go_at_call 43;(with_reducible refine (u1p.calls_ok w0 _ g s (by omega) n (61 :: q) HN.out (by exact HS.out.one_more _)).mono ?_);rintro e W1 ⟨rfl,hs1,hk1⟩;have HS1:=Aside0.mk hs1;have HK1:=Aside0.mk hk1;have HL1:Aside0 (W.heap.size < W1.heap.size):=⟨by have:=hk1.1;simp at this;omega⟩;have B1:=Aside0.mk (ua.kept_at hk1 (by have:=HG.out;omega) (ua.new_at W _));clear hs1 hk1)
  | (go_at_call 44;(with_reducible refine (ux.calls_ok w0 _ g 61 q (by exact HS1.out.one_more _)).mono ?_);rintro e W2 ⟨rfl,hs2,hk2⟩;have HS2:=Aside0.mk hs2;have HK2:=Aside0.mk hk2;have B2:=Aside0.mk (ua.kept_at hk2 (by have:=HG.out;omega) (ua.new_old B1.out _));have B3:=Aside0.mk (ua.kept_at hk2 (by have:=HG.out;have:=HL1.out;omega) (ua.new_at W1 _));obtain ⟨h0,f0⟩:=hs2.look;clear hs2 hk2)
  | (go_at_call 105;(with_reducible refine (uj.calls _ _ _ _ _ HU.out).mono ?_);rintro e W3 ⟨rfl,hb⟩;clear h0 f0;obtain ⟨h0,f0⟩:=(HS2.out.more hb).look;obtain ⟨a0,a1,a2,a3⟩:=ua.look2 (ua.below_at hb B2.out);obtain ⟨b0,b1,b2,b3⟩:=ua.look2 (ua.below_at hb B3.out);have HB:=Aside0.mk hb;clear hb;have n1:¬ W1.heap.size = g:=(by have:=HG.out;have:=HL1.out;omega);have n2:¬ W.heap.size = g:=(by have:=HG.out;omega);have n3:¬ W.heap.size = W1.heap.size:=(by have:=HL1.out;omega);have n4:¬ g = W1.heap.size:=fun e => n1 e.symm;have n5:¬ g = W.heap.size:=fun e => n2 e.symm;have n6:¬ W1.heap.size = W.heap.size:=fun e => n3 e.symm)
  | (go_at_call 45;(with_reducible refine (u1l.calls_ok _).mono ?_);rintro e W4 ⟨rfl,rfl⟩))
 refine bodyPost_ret (v:=.agg #[.string n,.string v]) (by simp [results,Tryd.results85,go_sem,n1,n2,n3,n4,n5,n6,a0,a1,a2,a3]) rfl ⟨rfl,?_,?_⟩
 · have hw:w0.heap.size ≤ W.heap.size:=HS.out.below.size
   have hw1:w0.heap.size ≤ W1.heap.size:=HS1.out.below.size
   exact ((((HS2.out.more HB.out).far hw1 n4 _).set t).far hw n5 _).far hw n5 _
 · have k4:uz W W4 g none:=ua.keep_then (ua.keep_from HK1.out) (ua.keep_then (ua.keep_from HK2.out) (uz.of_below HB.out g none))
   exact ua.keep_new (ua.keep_new ((ua.keep_new k4 (by have:=HL1.out;show W.heap.size ≤ W1.heap.size;omega) _).set_ 0 _) (Nat.le_refl _) _) (Nat.le_refl _) _
theorem us.quoted (q:List UInt8):(∀ v t,Tx.quotedP q = some (v,t) → Base.unq (Base.ofL q) = (v,Base.ofL t,0)) ∧ (Tx.quotedP q = none → Base.unq (Base.ofL q) = (⟨#[]⟩,⟨#[]⟩,5)):=by
 unfold Tx.quotedP Base.unq
 rw [Base.ofL_data]
 cases q with
 | nil => exact ⟨fun v t h => (by cases h),fun _ => rfl⟩
 | cons c r =>
   simp only
   by_cases hc:c = 34
   · rw [if_pos hc,if_pos hc]
     cases Base.unqL r [] with
     | none => exact ⟨fun v t h => (by cases h),fun _ => rfl⟩
     | some p =>
       refine ⟨fun v t h => ?_,fun h => by cases h⟩
       obtain ⟨rfl,rfl⟩:=Prod.mk.inj (Option.some.inj h)
       rfl
   · rw [if_neg hc,if_neg hc]
     exact ⟨fun v t h => (by cases h),fun _ => rfl⟩
theorem us.name_rest {s r:List UInt8} {n:ByteArray} (h:Tx.nameP s = some (n,r)):r.length ≤ s.length:=by
 unfold Tx.nameP at h
 split at h
 · obtain ⟨_,rfl⟩:=Prod.mk.inj (Option.some.inj h)
   have h1:=congrArg List.length (List.takeWhile_append_dropWhile (p:=Tx.wordC) (l:=s))
   rw [List.length_append] at h1
   omega
 · cases h
theorem us.expect_is (c:UInt8) (s:List UInt8):(∀ q,Tx.expectP [c] s = some q → s = c :: q) ∧ (Tx.expectP [c] s = none → ∀ r,s ≠ c :: r):=by
 unfold Tx.expectP
 cases s with
 | nil => exact ⟨fun q h => by simp [List.isPrefixOf] at h,fun _ r h => by cases h⟩
 | cons d t =>
   by_cases hc:c = d
   · subst hc
     exact ⟨fun q h => by simp [List.isPrefixOf] at h;rw [h],fun h => by simp [List.isPrefixOf] at h⟩
   · exact ⟨fun q h => by simp [List.isPrefixOf,hc] at h,fun _ r h => hc (List.cons.inj h).1.symm⟩
theorem us.calls_ok (w0 W:World) (g:Nat) (s:List UInt8) (hl:s.length ≤ 1000) (x:Tx.Lb) (t:List UInt8) (hx:Tx.labelP s = some (x,t)) (h:ua.St w0 W g s) :
 Calls Tryd.prog 85 #[.pointer (some ⟨g,0,none⟩)] W fun e W' => e = .returned (.agg #[.string x.f0,.string x.f1]) ∧ ua.St w0 W' g t ∧ uz W W' g none:=by
 unfold Tx.labelP at hx
 obtain ⟨⟨n,r⟩,hn,hx⟩:=Option.bind_eq_some_iff.1 hx
 obtain ⟨⟨v,t'⟩,hv,hx⟩:=Option.map_eq_some_iff.1 hx
 obtain ⟨rfl,rfl⟩:=Prod.mk.inj hx
 obtain ⟨q,hq,hv⟩:=Option.bind_eq_some_iff.1 hv
 have hr:=us.name_rest hn
 have hq2:=(us.expect_is 61 r).1 q hq
 subst hq2
 rw [List.length_cons] at hr
 exact us.walk w0 W g s hl n _ hn q rfl v t' ((us.quoted q).1 v t' hv) (by omega) h
set_option maxRecDepth 100000 in
set_option maxHeartbeats 1000000 in
theorem us.calls_no (w0 W:World) (g:Nat) (s:List UInt8) (hl:s.length ≤ 1000) (hx:Tx.labelP s = none) (h:ua.St w0 W g s) :
 Calls Tryd.prog 85 #[.pointer (some ⟨g,0,none⟩)] W fun e W' => e = .panicked (u1r.chain 280) ∧ Below w0.heap.size w0 W':=by
 have HS:=Aside0.mk h
 have HG:=Aside0.mk h.lt
 have HX:=Aside0.mk hx
 clear h hx
 cases hn:Tx.nameP s with
 | none =>
   have HN:=Aside0.mk hn
   clear hn
   go_enter Tryd.func85,Tryd.ntmps85
   go_wp2_with (go_at_call 43;(with_reducible refine (u1p.calls_no w0 _ g s (by omega) HN.out (by exact HS.out.one_more _)).mono ?_);rintro e W1 ⟨rfl,hb1⟩)
   exact ⟨rfl,rfl,hb1⟩
 | some p =>
   obtain ⟨n,r⟩:=p
   have hr:=us.name_rest hn
   have HN:=Aside0.mk hn
   cases hq:Tx.expectP [61] r with
   | none =>
     have HQ:=Aside0.mk ((us.expect_is 61 r).2 hq)
     clear hn hq
     go_enter Tryd.func85,Tryd.ntmps85
     go_wp2_with (first
      | (go_at_call 43;(with_reducible refine (u1p.calls_ok w0 _ g s (by omega) n r HN.out (by exact HS.out.one_more _)).mono ?_);rintro e W1 ⟨rfl,hs1,hk1⟩;have HS1:=Aside0.mk hs1;clear hs1 hk1)
      | (go_at_call 44;(with_reducible refine (ux.calls_no w0 _ g 61 r HQ.out (by exact HS1.out.one_more _)).mono ?_);rintro e W2 ⟨rfl,hb2⟩))
     exact ⟨rfl,rfl,hb2⟩
   | some q =>
     have hq2:=(us.expect_is 61 r).1 q hq
     subst hq2
     have hv:Tx.quotedP q = none:=by
      have h1:=HX.out
      unfold Tx.labelP Tx.valP at h1
      rw [hn] at h1
      simp only [Option.bind_some] at h1
      rw [hq] at h1
      simpa using h1
     rw [List.length_cons] at hr
     have HU:Aside0 (uj.f (Base.ofL q) = some (⟨#[]⟩,⟨#[]⟩,5)):=⟨by
      unfold uj.f
      rw [if_pos (by rw [(Tx.cut_ofL q 0 (by omega)).2.2];omega),(us.quoted q).2 hv]⟩
     clear hn hq hv
     go_enter Tryd.func85,Tryd.ntmps85
     go_wp2_with (first
      | (go_at_call 43;(with_reducible refine (u1p.calls_ok w0 _ g s (by omega) n (61 :: q) HN.out (by exact HS.out.one_more _)).mono ?_);rintro e W1 ⟨rfl,hs1,hk1⟩;have HS1:=Aside0.mk hs1;clear hs1 hk1)
      | (go_at_call 44;(with_reducible refine (ux.calls_ok w0 _ g 61 q (by exact HS1.out.one_more _)).mono ?_);rintro e W2 ⟨rfl,hs2,hk2⟩;have HS2:=Aside0.mk hs2;obtain ⟨h0,f0⟩:=hs2.look;clear hs2 hk2)
      | (go_at_call 105;(with_reducible refine (uj.calls _ _ _ _ _ HU.out).mono ?_);rintro e W3 ⟨rfl,hb⟩;have HB:=Aside0.mk hb;clear hb)
      | (go_at_call 45;(with_reducible refine (u1l.calls_no _).mono ?_);rintro e W4 ⟨rfl,rfl⟩))
     exact ⟨rfl,rfl,(HS2.out.more HB.out).below⟩
theorem uk.neg_is {n:Int} (h0:0 ≤ n) (h:n ≤ 9223372036854775808):wrap64 (IntKind.u64.wrap (-n)) = -n:=by
 unfold wrap64 IntKind.wrap
 simp only [IntKind.signed,IntKind.bits,Bool.false_and,Bool.false_eq_true,if_false]
 omega
theorem uk.pos_is {n:Int} (h0:0 ≤ n) (h:n < 9223372036854775808):wrap64 n = n:=by
 unfold wrap64
 omega
theorem uk.num_ge (base:Int) (hb:base = 10 ∨ base = 16):∀ (d:List UInt8) (m n:Int),(∀ c ∈ d,Tx.hexC c = true) → 0 ≤ m → Tx.numL base d m = some n → 0 ≤ n
 | [],m,n,_,hm,h => by
   cases Option.some.inj h
   exact hm
 | c :: d,m,n,hd,hm,h => by
   unfold Tx.numL at h
   split at h
   · refine uk.num_ge base hb d _ n (fun x hx => hd x (List.mem_cons_of_mem _ hx)) ?_ h
     have h1:=hd c (List.mem_cons_self ..)
     unfold Tx.hexC Tx.decC at h1
     simp only [Bool.or_eq_true,Bool.and_eq_true,decide_eq_true_eq] at h1
     have h2:0 ≤ Tx.digV c:=by
      unfold Tx.digV
      split <;> omega
     rcases hb with rfl | rfl <;> omega
   · cases h
theorem uk.peek_at (w0 W:World) (g:Nat) (s:List UInt8) (z:Int) (hz:ua.pk s = z) (h:ua.St w0 W g s):Calls Tryd.prog 31 #[.pointer (some ⟨g,0,none⟩)] W fun e W' => e = .returned (.int .u8 z) ∧ u1c W W':=by
 subst hz
 exact ua.calls w0 W g s h
set_option maxRecDepth 100000 in
set_option maxHeartbeats 1000000 in
theorem uk.minus_ok (w0 W:World) (g:Nat) (s:List UInt8) (hl:s.length ≤ 1000) (q:List UInt8) (hs:s = 45 :: q) (n:Int) (r:List UInt8) (hv:Tx.valueD false 19 10 q = some (n,r)) (hle:n ≤ 9223372036854775808) (h:ua.St w0 W g s) :
 Calls Tryd.prog 64 #[.pointer (some ⟨g,0,none⟩)] W fun e W' => e = .returned (.int .i64 (-n)) ∧ ua.St w0 W' g r ∧ uz W W' g none:=by
 subst hs
 have hql:q.length ≤ 1000:=by rw [List.length_cons] at hl;omega
 have HP:Aside0 (ua.pk (45 :: q) = 45):=⟨rfl⟩
 have HS:=Aside0.mk h
 clear h
 unfold Tx.valueD at hv
 obtain ⟨⟨d,r'⟩,hd,hv⟩:=Option.bind_eq_some_iff.1 hv
 obtain ⟨n',hn,hv⟩:=Option.map_eq_some_iff.1 hv
 obtain ⟨rfl,rfl⟩:=Prod.mk.inj hv
 simp only at hn
 obtain ⟨ha,hdl,hrl⟩:=ur.dig_is hd
 have h0:=uk.num_ge 10 (Or.inl rfl) d 0 n' ha (Int.le_refl 0) hn
 have HA:=Aside0.mk ha
 have HD:=Aside0.mk hd
 have HN:=Aside0.mk hn
 have HT:Aside0 (decide (n' ≤ 9223372036854775808) = true):=⟨decide_eq_true hle⟩
 have HW:=Aside0.mk (uk.neg_is h0 hle)
 clear ha hd hn hv hle h0
 go_enter Tryd.func64,Tryd.ntmps64
 go_wp2_with (first
  | (go_at_call 31;(with_reducible refine (uk.peek_at w0 _ g (45 :: q) 45 HP.out (by exact HS.out)).mono ?_);rintro e W0 ⟨rfl,⟨nd,rfl⟩⟩)
  | (go_at_call 44;(with_reducible refine (ux.calls_ok w0 _ g 45 q (by exact HS.out.drew nd)).mono ?_);rintro e W1 ⟨rfl,hs1,hk1⟩;have HS1:=Aside0.mk hs1;have HK1:=Aside0.mk hk1;clear hs1 hk1)
  | (go_at_call 90;(with_reducible refine (ut.ok_at 19 19 rfl w0 _ g false q (by omega) (by omega) d r' HD.out (by exact HS1.out)).mono ?_);rintro e W2 ⟨rfl,hs2,hk2⟩;have HS2:=Aside0.mk hs2;have HK2:=Aside0.mk hk2;clear hs2 hk2)
  | (go_at_call 89;(with_reducible refine (um.says d 10 (by omega) (by omega) HA.out n' HN.out _).mono ?_);rintro e W3 ⟨rfl,hb3⟩;have HB3:=Aside0.mk hb3;clear hb3)
  | (go_at_call 45;(with_reducible refine (u1l.calls_yes _ HT.out _).mono ?_);rintro e W4 ⟨rfl,rfl⟩))
 go_ret
 exact ⟨by first | rfl | (rw [HW.out];rfl),HS2.out.more HB3.out,ua.keep_then (ua.keep_then (uz.of_below (ud (Below.refl _ _) nd) g none) HK1.out) (ua.keep_then HK2.out (uz.of_below HB3.out g none))⟩
set_option maxRecDepth 100000 in
set_option maxHeartbeats 1000000 in
theorem uk.minus_big (w0 W:World) (g:Nat) (s:List UInt8) (hl:s.length ≤ 1000) (q:List UInt8) (hs:s = 45 :: q) (n:Int) (r:List UInt8) (hv:Tx.valueD false 19 10 q = some (n,r)) (hle:¬ n ≤ 9223372036854775808) (h:ua.St w0 W g s) :
 Calls Tryd.prog 64 #[.pointer (some ⟨g,0,none⟩)] W fun e W' => e = .panicked (u1r.chain 280) ∧ Below w0.heap.size w0 W':=by
 subst hs
 have hql:q.length ≤ 1000:=by rw [List.length_cons] at hl;omega
 have HP:Aside0 (ua.pk (45 :: q) = 45):=⟨rfl⟩
 have HS:=Aside0.mk h
 clear h
 unfold Tx.valueD at hv
 obtain ⟨⟨d,r'⟩,hd,hv⟩:=Option.bind_eq_some_iff.1 hv
 obtain ⟨n',hn,hv⟩:=Option.map_eq_some_iff.1 hv
 obtain ⟨rfl,rfl⟩:=Prod.mk.inj hv
 simp only at hn
 obtain ⟨ha,hdl,hrl⟩:=ur.dig_is hd
 have HA:=Aside0.mk ha
 have HD:=Aside0.mk hd
 have HN:=Aside0.mk hn
 have HT:Aside0 (decide (n' ≤ 9223372036854775808) = false):=⟨decide_eq_false hle⟩
 clear ha hd hn hv hle
 go_enter Tryd.func64,Tryd.ntmps64
 go_wp2_with (first
  | (go_at_call 31;(with_reducible refine (uk.peek_at w0 _ g (45 :: q) 45 HP.out (by exact HS.out)).mono ?_);rintro e W0 ⟨rfl,⟨nd,rfl⟩⟩)
  | (go_at_call 44;(with_reducible refine (ux.calls_ok w0 _ g 45 q (by exact HS.out.drew nd)).mono ?_);rintro e W1 ⟨rfl,hs1,hk1⟩;have HS1:=Aside0.mk hs1;have HK1:=Aside0.mk hk1;clear hs1 hk1)
  | (go_at_call 90;(with_reducible refine (ut.ok_at 19 19 rfl w0 _ g false q (by omega) (by omega) d r' HD.out (by exact HS1.out)).mono ?_);rintro e W2 ⟨rfl,hs2,hk2⟩;have HS2:=Aside0.mk hs2;have HK2:=Aside0.mk hk2;clear hs2 hk2)
  | (go_at_call 89;(with_reducible refine (um.says d 10 (by omega) (by omega) HA.out n' HN.out _).mono ?_);rintro e W3 ⟨rfl,hb3⟩;have HB3:=Aside0.mk hb3;clear hb3)
  | (go_at_call 45;(with_reducible refine (u1l.calls_not _ HT.out _).mono ?_);rintro e W4 ⟨rfl,rfl⟩))
 exact ⟨rfl,rfl,(HS2.out.more HB3.out).below⟩
set_option maxRecDepth 100000 in
set_option maxHeartbeats 1000000 in
theorem uk.minus_no (w0 W:World) (g:Nat) (s:List UInt8) (hl:s.length ≤ 1000) (q:List UInt8) (hs:s = 45 :: q) (hv:Tx.valueD false 19 10 q = none) (h:ua.St w0 W g s) :
 Calls Tryd.prog 64 #[.pointer (some ⟨g,0,none⟩)] W fun e W' => e = .panicked (u1r.chain 280) ∧ Below w0.heap.size w0 W':=by
 subst hs
 have hql:q.length ≤ 1000:=by rw [List.length_cons] at hl;omega
 have HP:Aside0 (ua.pk (45 :: q) = 45):=⟨rfl⟩
 have HS:=Aside0.mk h
 clear h
 unfold Tx.valueD at hv
 cases hd:Tx.digitsP false 19 q with
 | none =>
   have HD:=Aside0.mk hd
   clear hd hv
   go_enter Tryd.func64,Tryd.ntmps64
   go_wp2_with (first
   | (go_at_call 31;(with_reducible refine (uk.peek_at w0 _ g (45 :: q) 45 HP.out (by exact HS.out)).mono ?_);rintro e W0 ⟨rfl,⟨nd,rfl⟩⟩)
   | (go_at_call 44;(with_reducible refine (ux.calls_ok w0 _ g 45 q (by exact HS.out.drew nd)).mono ?_);rintro e W1 ⟨rfl,hs1,hk1⟩;have HS1:=Aside0.mk hs1;have HK1:=Aside0.mk hk1;clear hs1 hk1)
   | (go_at_call 90;(with_reducible refine (ut.no_at 19 19 rfl w0 _ g false q (by omega) (by omega) HD.out (by exact HS1.out)).mono ?_);rintro e W2 ⟨rfl,hb2⟩))
   exact ⟨rfl,rfl,hb2⟩
 | some p =>
   obtain ⟨d,r⟩:=p
   rw [hd] at hv
   have hn:Tx.numL 10 d 0 = none:=by simpa using hv
   obtain ⟨ha,hdl,hrl⟩:=ur.dig_is hd
   have HA:=Aside0.mk ha
   have HD:=Aside0.mk hd
   have HN:=Aside0.mk hn
   clear ha hd hn hv
   go_enter Tryd.func64,Tryd.ntmps64
   go_wp2_with (first
   | (go_at_call 31;(with_reducible refine (uk.peek_at w0 _ g (45 :: q) 45 HP.out (by exact HS.out)).mono ?_);rintro e W0 ⟨rfl,⟨nd,rfl⟩⟩)
   | (go_at_call 44;(with_reducible refine (ux.calls_ok w0 _ g 45 q (by exact HS.out.drew nd)).mono ?_);rintro e W1 ⟨rfl,hs1,hk1⟩;have HS1:=Aside0.mk hs1;have HK1:=Aside0.mk hk1;clear hs1 hk1)
   | (go_at_call 90;(with_reducible refine (ut.ok_at 19 19 rfl w0 _ g false q (by omega) (by omega) d r HD.out (by exact HS1.out)).mono ?_);rintro e W2 ⟨rfl,hs2,hk2⟩;have HS2:=Aside0.mk hs2;have HK2:=Aside0.mk hk2;clear hs2 hk2)
   | (go_at_call 89;(with_reducible refine (um.says_no d 10 (by omega) (by omega) HA.out HN.out _).mono ?_);rintro e W3 ⟨rfl,hb3⟩))
   exact ⟨rfl,rfl,(HS2.out.more hb3).below⟩
set_option maxRecDepth 100000 in
set_option maxHeartbeats 1000000 in
theorem uk.plus_ok (w0 W:World) (g:Nat) (s:List UInt8) (hl:s.length ≤ 1000) (hs:∀ q,s ≠ 45 :: q) (n:Int) (r:List UInt8) (hv:Tx.valueD false 19 10 s = some (n,r)) (hle:n < 9223372036854775808) (h:ua.St w0 W g s) :
 Calls Tryd.prog 64 #[.pointer (some ⟨g,0,none⟩)] W fun e W' => e = .returned (.int .i64 (n)) ∧ ua.St w0 W' g r ∧ uz W W' g none:=by
 obtain ⟨z,hz⟩:∃ z,ua.pk s = z:=⟨_,rfl⟩
 have hz45:¬ z = 45:=by
  intro e
  cases s with
  | nil => rw [← hz] at e;exact absurd e (by decide)
  | cons c q =>
    have e2:(c.toNat:Int) = 45:=hz.trans e
    exact hs q (by rw [show c = 45 from UInt8.toNat_inj.1 (by simpa using (by omega:c.toNat = 45))])
 have HP:=Aside0.mk hz
 have hzb:(z == 45) = false:=beq_eq_false_iff_ne.2 hz45
 clear hz hs
 have HS:=Aside0.mk h
 clear h
 unfold Tx.valueD at hv
 obtain ⟨⟨d,r'⟩,hd,hv⟩:=Option.bind_eq_some_iff.1 hv
 obtain ⟨n',hn,hv⟩:=Option.map_eq_some_iff.1 hv
 obtain ⟨rfl,rfl⟩:=Prod.mk.inj hv
 simp only at hn
 obtain ⟨ha,hdl,hrl⟩:=ur.dig_is hd
 have h0:=uk.num_ge 10 (Or.inl rfl) d 0 n' ha (Int.le_refl 0) hn
 have HA:=Aside0.mk ha
 have HD:=Aside0.mk hd
 have HN:=Aside0.mk hn
 have HT:Aside0 (decide (n' < 9223372036854775808) = true):=⟨decide_eq_true hle⟩
 have HW:=Aside0.mk (uk.pos_is h0 hle)
 clear ha hd hn hv hle h0
 go_enter Tryd.func64,Tryd.ntmps64
 go_wp2_with (first
  | (go_at_call 31;(with_reducible refine (uk.peek_at w0 _ g s z HP.out (by exact HS.out)).mono ?_);rintro e W0 ⟨rfl,⟨nd,rfl⟩⟩)
  | (go_at_call 90;(with_reducible refine (ut.ok_at 19 19 rfl w0 _ g false s (by omega) (by omega) d r' HD.out (by exact HS.out.drew nd)).mono ?_);rintro e W2 ⟨rfl,hs2,hk2⟩;have HS2:=Aside0.mk hs2;have HK2:=Aside0.mk hk2;clear hs2 hk2)
  | (go_at_call 89;(with_reducible refine (um.says d 10 (by omega) (by omega) HA.out n' HN.out _).mono ?_);rintro e W3 ⟨rfl,hb3⟩;have HB3:=Aside0.mk hb3;clear hb3)
  | (go_at_call 45;(with_reducible refine (u1l.calls_yes _ HT.out _).mono ?_);rintro e W4 ⟨rfl,rfl⟩))
 go_ret
 exact ⟨by first | rfl | (rw [HW.out];rfl),HS2.out.more HB3.out,ua.keep_then (uz.of_below (ud (Below.refl _ _) nd) g none) (ua.keep_then HK2.out (uz.of_below HB3.out g none))⟩
set_option maxRecDepth 100000 in
set_option maxHeartbeats 1000000 in
theorem uk.plus_big (w0 W:World) (g:Nat) (s:List UInt8) (hl:s.length ≤ 1000) (hs:∀ q,s ≠ 45 :: q) (n:Int) (r:List UInt8) (hv:Tx.valueD false 19 10 s = some (n,r)) (hle:¬ n < 9223372036854775808) (h:ua.St w0 W g s) :
 Calls Tryd.prog 64 #[.pointer (some ⟨g,0,none⟩)] W fun e W' => e = .panicked (u1r.chain 280) ∧ Below w0.heap.size w0 W':=by
 obtain ⟨z,hz⟩:∃ z,ua.pk s = z:=⟨_,rfl⟩
 have hz45:¬ z = 45:=by
  intro e
  cases s with
  | nil => rw [← hz] at e;exact absurd e (by decide)
  | cons c q =>
    have e2:(c.toNat:Int) = 45:=hz.trans e
    exact hs q (by rw [show c = 45 from UInt8.toNat_inj.1 (by simpa using (by omega:c.toNat = 45))])
 have HP:=Aside0.mk hz
 have hzb:(z == 45) = false:=beq_eq_false_iff_ne.2 hz45
 clear hz hs
 have HS:=Aside0.mk h
 clear h
 unfold Tx.valueD at hv
 obtain ⟨⟨d,r'⟩,hd,hv⟩:=Option.bind_eq_some_iff.1 hv
 obtain ⟨n',hn,hv⟩:=Option.map_eq_some_iff.1 hv
 obtain ⟨rfl,rfl⟩:=Prod.mk.inj hv
 simp only at hn
 obtain ⟨ha,hdl,hrl⟩:=ur.dig_is hd
 have HA:=Aside0.mk ha
 have HD:=Aside0.mk hd
 have HN:=Aside0.mk hn
 have HT:Aside0 (decide (n' < 9223372036854775808) = false):=⟨decide_eq_false hle⟩
 clear ha hd hn hv hle
 go_enter Tryd.func64,Tryd.ntmps64
 go_wp2_with (first
  | (go_at_call 31;(with_reducible refine (uk.peek_at w0 _ g s z HP.out (by exact HS.out)).mono ?_);rintro e W0 ⟨rfl,⟨nd,rfl⟩⟩)
  | (go_at_call 90;(with_reducible refine (ut.ok_at 19 19 rfl w0 _ g false s (by omega) (by omega) d r' HD.out (by exact HS.out.drew nd)).mono ?_);rintro e W2 ⟨rfl,hs2,hk2⟩;have HS2:=Aside0.mk hs2;have HK2:=Aside0.mk hk2;clear hs2 hk2)
  | (go_at_call 89;(with_reducible refine (um.says d 10 (by omega) (by omega) HA.out n' HN.out _).mono ?_);rintro e W3 ⟨rfl,hb3⟩;have HB3:=Aside0.mk hb3;clear hb3)
  | (go_at_call 45;(with_reducible refine (u1l.calls_not _ HT.out _).mono ?_);rintro e W4 ⟨rfl,rfl⟩))
 exact ⟨rfl,rfl,(HS2.out.more HB3.out).below⟩
set_option maxRecDepth 100000 in
set_option maxHeartbeats 1000000 in
theorem uk.plus_no (w0 W:World) (g:Nat) (s:List UInt8) (hl:s.length ≤ 1000) (hs:∀ q,s ≠ 45 :: q) (hv:Tx.valueD false 19 10 s = none) (h:ua.St w0 W g s) :
 Calls Tryd.prog 64 #[.pointer (some ⟨g,0,none⟩)] W fun e W' => e = .panicked (u1r.chain 280) ∧ Below w0.heap.size w0 W':=by
 obtain ⟨z,hz⟩:∃ z,ua.pk s = z:=⟨_,rfl⟩
 have hz45:¬ z = 45:=by
  intro e
  cases s with
  | nil => rw [← hz] at e;exact absurd e (by decide)
  | cons c q =>
    have e2:(c.toNat:Int) = 45:=hz.trans e
    exact hs q (by rw [show c = 45 from UInt8.toNat_inj.1 (by simpa using (by omega:c.toNat = 45))])
 have HP:=Aside0.mk hz
 have hzb:(z == 45) = false:=beq_eq_false_iff_ne.2 hz45
 clear hz hs
 have HS:=Aside0.mk h
 clear h
 unfold Tx.valueD at hv
 cases hd:Tx.digitsP false 19 s with
 | none =>
   have HD:=Aside0.mk hd
   clear hd hv
   go_enter Tryd.func64,Tryd.ntmps64
   go_wp2_with (first
   | (go_at_call 31;(with_reducible refine (uk.peek_at w0 _ g s z HP.out (by exact HS.out)).mono ?_);rintro e W0 ⟨rfl,⟨nd,rfl⟩⟩)
   | (go_at_call 90;(with_reducible refine (ut.no_at 19 19 rfl w0 _ g false s (by omega) (by omega) HD.out (by exact HS.out.drew nd)).mono ?_);rintro e W2 ⟨rfl,hb2⟩))
   exact ⟨rfl,rfl,hb2⟩
 | some p =>
   obtain ⟨d,r⟩:=p
   rw [hd] at hv
   have hn:Tx.numL 10 d 0 = none:=by simpa using hv
   obtain ⟨ha,hdl,hrl⟩:=ur.dig_is hd
   have HA:=Aside0.mk ha
   have HD:=Aside0.mk hd
   have HN:=Aside0.mk hn
   clear ha hd hn hv
   go_enter Tryd.func64,Tryd.ntmps64
   go_wp2_with (first
   | (go_at_call 31;(with_reducible refine (uk.peek_at w0 _ g s z HP.out (by exact HS.out)).mono ?_);rintro e W0 ⟨rfl,⟨nd,rfl⟩⟩)
   | (go_at_call 90;(with_reducible refine (ut.ok_at 19 19 rfl w0 _ g false s (by omega) (by omega) d r HD.out (by exact HS.out.drew nd)).mono ?_);rintro e W2 ⟨rfl,hs2,hk2⟩;have HS2:=Aside0.mk hs2;have HK2:=Aside0.mk hk2;clear hs2 hk2)
   | (go_at_call 89;(with_reducible refine (um.says_no d 10 (by omega) (by omega) HA.out HN.out _).mono ?_);rintro e W3 ⟨rfl,hb3⟩))
   exact ⟨rfl,rfl,(HS2.out.more hb3).below⟩
theorem uk.time_is (s:List UInt8):(∃ q,s = 45 :: q ∧ Tx.timeP s = (Tx.valueD false 19 10 q).bind fun p => if p.1 ≤ 9223372036854775808 then some (-p.1,p.2) else none) ∨ ((∀ q,s ≠ 45 :: q) ∧ Tx.timeP s = (Tx.valueD false 19 10 s).bind fun p => if p.1 < 9223372036854775808 then some p else none):=by
 by_cases h:∃ q,s = 45 :: q
 · obtain ⟨q,rfl⟩:=h
   exact Or.inl ⟨q,rfl,rfl⟩
 · refine Or.inr ⟨fun q e => h ⟨q,e⟩,?_⟩
   unfold Tx.timeP
   split
   · exact absurd ⟨_,rfl⟩ h
   · rfl
theorem uk.calls_ok (w0 W:World) (g:Nat) (s:List UInt8) (hl:s.length ≤ 1000) (t:Int) (r:List UInt8) (hv:Tx.timeP s = some (t,r)) (h:ua.St w0 W g s) :
 Calls Tryd.prog 64 #[.pointer (some ⟨g,0,none⟩)] W fun e W' => e = .returned (.int .i64 t) ∧ ua.St w0 W' g r ∧ uz W W' g none:=by
 rcases uk.time_is s with ⟨q,hq,e⟩ | ⟨hq,e⟩
 · rw [e] at hv
   obtain ⟨⟨n,r'⟩,hd,hv⟩:=Option.bind_eq_some_iff.1 hv
   simp only at hv
   split at hv
   · rename_i hle
     obtain ⟨rfl,rfl⟩:=Prod.mk.inj (Option.some.inj hv)
     exact uk.minus_ok w0 W g s hl q hq n _ hd hle h
   · cases hv
 · rw [e] at hv
   obtain ⟨⟨n,r'⟩,hd,hv⟩:=Option.bind_eq_some_iff.1 hv
   simp only at hv
   split at hv
   · rename_i hle
     obtain ⟨rfl,rfl⟩:=Prod.mk.inj (Option.some.inj hv)
     exact uk.plus_ok w0 W g s hl hq _ _ hd hle h
   · cases hv
theorem uk.calls_no (w0 W:World) (g:Nat) (s:List UInt8) (hl:s.length ≤ 1000) (hv:Tx.timeP s = none) (h:ua.St w0 W g s) :
 Calls Tryd.prog 64 #[.pointer (some ⟨g,0,none⟩)] W fun e W' => e = .panicked (u1r.chain 280) ∧ Below w0.heap.size w0 W':=by
 rcases uk.time_is s with ⟨q,hq,e⟩ | ⟨hq,e⟩
 · rw [e] at hv
   cases hd:Tx.valueD false 19 10 q with
   | none => exact uk.minus_no w0 W g s hl q hq hd h
   | some p =>
     rw [hd] at hv
     exact uk.minus_big w0 W g s hl q hq p.1 p.2 hd (by simpa using hv) h
 · rw [e] at hv
   cases hd:Tx.valueD false 19 10 s with
   | none => exact uk.plus_no w0 W g s hl hq hd h
   | some p =>
     rw [hd] at hv
     exact uk.plus_big w0 W g s hl hq p.1 p.2 hd (by simpa using hv) h
theorem ug.infoL:(Tryd.prog.info? 37).map (fun i => (i.zero,i.size,i.bytes)) = some (some (.agg #[(.string ⟨#[]⟩),(.string ⟨#[]⟩)]),2,32):=by kernel_rfl
def ug.Out (w0 W:World) (g:Nat) (o:Option (List Tx.Lb × List UInt8)) (e:Ending) (W':World):Prop:=match o with
 | some (l,r) => ∃ v:Value,e = .returned v ∧ Kd.R k37 37 W' W.heap.size (fun k => k ≠ g) v l ∧ ua.St w0 W' g r ∧ uz W W' g none
 | none => e = .panicked (u1r.chain 280) ∧ Below w0.heap.size w0 W'
theorem ug.out_some {w0 W:World} {g:Nat} {o:Option (List Tx.Lb × List UInt8)} {l:List Tx.Lb} {r:List UInt8} (ho:o = some (l,r)) {v:Value} {W':World} (h1:Kd.R k37 37 W' W.heap.size (fun k => k ≠ g) v l) (h2:ua.St w0 W' g r) (h3:uz W W' g none):ug.Out w0 W g o (.returned v) W':=by
 subst ho
 exact ⟨v,rfl,h1,h2,h3⟩
theorem ug.out_none {w0 W:World} {g:Nat} {o:Option (List Tx.Lb × List UInt8)} (ho:o = none) {W':World} (h1:Below w0.heap.size w0 W'):ug.Out w0 W g o (.panicked (u1r.chain 280)) W':=by
 subst ho
 exact ⟨rfl,h1⟩
theorem ug.unq_rest:∀ (n:Nat) (l acc a q:List UInt8),l.length ≤ n → Base.unqL l acc = some (a,q) → q.length < l.length
 | 0,l,acc,a,q,hn,h => by
   cases l with
   | nil => rw [Base.unqL_nil] at h;cases h
   | cons c r => simp at hn
 | n + 1,l,acc,a,q,hn,h => by
   cases l with
   | nil => rw [Base.unqL_nil] at h;cases h
   | cons c r =>
     rw [List.length_cons] at hn ⊢
     by_cases h1:c = 34
     · subst h1
       rw [Base.unqL_end] at h
       obtain ⟨_,rfl⟩:=Prod.mk.inj (Option.some.inj h)
       omega
     · by_cases h2:c = 92
       · subst h2
         cases r with
         | nil => rw [Base.unqL_open] at h;cases h
         | cons d z =>
           by_cases h3:d = 34 ∨ d = 92
           · rw [Base.unqL_esc _ _ _ h3] at h
             have:=ug.unq_rest n z _ a q (by simp at hn;omega) h
             rw [List.length_cons]
             omega
           · rw [Base.unqL_bad _ _ _ h3] at h
             cases h
       · rw [Base.unqL_plain _ _ _ h1 h2] at h
         have:=ug.unq_rest n r _ a q (by omega) h
         omega
theorem ug.quoted_rest {q t:List UInt8} {v:ByteArray} (h:Tx.quotedP q = some (v,t)):t.length < q.length:=by
 unfold Tx.quotedP at h
 cases q with
 | nil => cases h
 | cons c r =>
   simp only at h
   split at h
   · obtain ⟨⟨a,z⟩,h1,h2⟩:=Option.map_eq_some_iff.1 h
     obtain ⟨_,rfl⟩:=Prod.mk.inj h2
     have:=ug.unq_rest _ r [] a z (Nat.le_refl _) h1
     rw [List.length_cons]
     simp only
     omega
   · cases h
theorem ug.label_rest {s r:List UInt8} {x:Tx.Lb} (h:Tx.labelP s = some (x,r)):r.length < s.length:=by
 unfold Tx.labelP at h
 obtain ⟨⟨n,q⟩,hn,h⟩:=Option.bind_eq_some_iff.1 h
 obtain ⟨⟨v,t⟩,hv,h⟩:=Option.map_eq_some_iff.1 h
 obtain ⟨_,rfl⟩:=Prod.mk.inj h
 obtain ⟨z,hz,hv⟩:=Option.bind_eq_some_iff.1 hv
 have h1:=us.name_rest hn
 have h2:=(us.expect_is 61 q).1 z hz
 rw [h2,List.length_cons] at h1
 have h3:=ug.quoted_rest hv
 show t.length < s.length
 omega
def ug.rest (k:Nat) (acc:List Tx.Lb) (s:List UInt8):Option (List Tx.Lb × List UInt8):=(Tx.labelsP k acc s).bind fun q => (Tx.expectP [125] q.2).map fun t => (q.1,t)
theorem ug.rest_comma (k:Nat) (acc:List Tx.Lb) (t:List UInt8):ug.rest (k + 1) acc (44 :: t) = if acc.length ≤ 8 then (Tx.labelP t).bind fun p => ug.rest k (acc ++ [p.1]) p.2 else none:=by
 unfold ug.rest
 conv => lhs;unfold Tx.labelsP
 simp only
 split
 · cases Tx.labelP t <;> rfl
 · rfl
theorem ug.rest_other (k:Nat) (acc:List Tx.Lb) (s:List UInt8) (h:∀ t,s ≠ 44 :: t):ug.rest (k + 1) acc s = (Tx.expectP [125] s).map fun t => (acc,t):=by
 unfold ug.rest
 conv => lhs;unfold Tx.labelsP
 split
 · exact absurd rfl (h _)
 · rfl
theorem ug.pk_ne (s:List UInt8) (c:UInt8) (hc:c.toNat ≠ 0) (h:∀ t,s ≠ c :: t):¬ ua.pk s = (c.toNat:Int):=by
 intro e
 cases s with
 | nil =>
   have e2:(0:Int) = c.toNat:=e
   omega
 | cons d t =>
   have e2:(d.toNat:Int) = c.toNat:=e
   exact h t (by rw [show d = c from UInt8.toNat_inj.1 (by omega)])
theorem ug.grown_keep {W W3 w1:World} {g:Nat} {v:Value} (hk:uz W W3 g none) (hv:∀ b,v.ownBlock = some b → W.heap.size ≤ b) (hg:W3.grownBy w1 v.ownBlock):uz W w1 g none :=
 ⟨Nat.le_trans hk.1 hg.size,fun i hi hne hr => (hg.block i (Nat.lt_of_lt_of_le hi hk.1) (fun e => by have:=hv i e.symm;omega)).trans (hk.2 i hi hne hr)⟩
theorem ug.grown_st {w0 W3 w1:World} {g:Nat} {s:List UInt8} {v:Value} (hs:ua.St w0 W3 g s) (hv:∀ b,v.ownBlock = some b → b ≠ g ∧ w0.heap.size ≤ b) (hg:W3.grownBy w1 v.ownBlock):ua.St w0 w1 g s :=
 hs.keep (hs.below.grown hg hs.below.size (fun k hk => (hv k hk).2)) (hg.block g hs.lt (fun e => (hv g e.symm).1 rfl))
structure ug.Own (W w0:World) (g:Nat) (v:Value):Prop where
 base:∀ b,v.ownBlock = some b → W.heap.size ≤ b
 far:∀ b,v.ownBlock = some b → b ≠ g ∧ w0.heap.size ≤ b
theorem ug.own_facts {w0 W W7:World} {g:Nat} {v:Value} {l:List Tx.Lb} (h:Kd.R k37 37 W7 W.heap.size (fun k => k ≠ g) v l) (hw:w0.heap.size ≤ W.heap.size):ug.Own W w0 g v :=
 ⟨fun b hb => Kd.R_base h b hb,fun b hb => ⟨h.1 b hb,Nat.le_trans hw (Kd.R_base h b hb)⟩⟩
set_option maxRecDepth 100000 in
set_option maxHeartbeats 2000000 in
theorem ug.calls (w0 W:World) (g:Nat) (s:List UInt8) (hl:s.length ≤ 1000) (h:ua.St w0 W g s) :
 Calls Tryd.prog 56 #[.pointer (some ⟨g,0,none⟩)] W fun e W' => ug.Out w0 W g (Tx.bracesP s) e W':=by
 have HS:=Aside0.mk h
 have HG:=Aside0.mk h.lt
 clear h
 cases hq:Tx.expectP [123] s with
 | none =>
   have HQ:=Aside0.mk ((us.expect_is 123 s).2 hq)
   have HO:Aside0 (Tx.bracesP s = none):=⟨by unfold Tx.bracesP;rw [hq];rfl⟩
   clear hq
   go_enter Tryd.func56,Tryd.ntmps56
   go_wp2_with (go_at_call 44;(with_reducible refine (ux.calls_no w0 _ g 123 s HQ.out (by exact HS.out)).mono ?_);rintro e W1 ⟨rfl,hb1⟩)
   exact ⟨rfl,ug.out_none HO.out hb1⟩
 | some q =>
   have hs:=(us.expect_is 123 s).1 q hq
   cases hx:Tx.labelP q with
   | none =>
     have HO:Aside0 (Tx.bracesP s = none):=⟨by unfold Tx.bracesP;rw [hq];simp [hx]⟩
     subst hs
     have hql:q.length ≤ 1000:=by rw [List.length_cons] at hl;omega
     have HX:=Aside0.mk hx
     clear hq hx
     go_enter Tryd.func56,Tryd.ntmps56
     go_wp2_with (first
      | (go_at_call 44;(with_reducible refine (ux.calls_ok w0 _ g 123 q (by exact HS.out)).mono ?_);rintro e W1 ⟨rfl,hs1,hk1⟩;have HS1:=Aside0.mk hs1;clear hs1 hk1)
      | (go_at_call 85;(with_reducible refine (us.calls_no w0 _ g q (by omega) HX.out (by exact HS1.out)).mono ?_);rintro e W2 ⟨rfl,hb2⟩))
     exact ⟨rfl,ug.out_none HO.out hb2⟩
   | some p =>
     obtain ⟨x,t⟩:=p
     have HO:Aside0 (Tx.bracesP s = ug.rest s.length [x] t):=⟨by unfold Tx.bracesP;rw [hq];simp [hx,ug.rest]⟩
     have htl:=ug.label_rest hx
     subst hs
     have hql:q.length + 1 ≤ 1000:=by rw [List.length_cons] at hl;omega
     have HX:=Aside0.mk hx
     clear hq hx hl
     rw [HO.out,List.length_cons]
     clear HO
     generalize HZ:ug.rest (q.length + 1) [x] t = o
     have HO:=Aside0.mk HZ
     clear HZ
     go_enter Tryd.func56,Tryd.ntmps56
     go_wp2_with (first
      | (go_at_call 44;(with_reducible refine (ux.calls_ok w0 _ g 123 q (by exact HS.out)).mono ?_);rintro e W1 ⟨rfl,hs1,hk1⟩;have HS1:=Aside0.mk hs1;have HK1:=Aside0.mk hk1;clear hs1 hk1)
      | (go_at_call 85;(with_reducible refine (us.calls_ok w0 _ g q (by omega) x t HX.out (by exact HS1.out)).mono ?_);rintro e W2 ⟨rfl,hs2,hk2⟩;have HS2:=Aside0.mk hs2;have HK2:=Aside0.mk (ua.keep_then HK1.out hk2);clear hs2 hk2)
      | ((with_reducible refine gate_dst (N:=8) rfl ?_);refine Kd.R_lit k37 (w0:=W2) W.heap.size 37 ?hg (N:=8) ?hd (xs:=([x]:List Tx.Lb)) (inner:=[.string x.f0,.string x.f1]) (ok:=fun k => k ≠ g) (okp:=fun _ => False) ?hr ?hp (fun _ hk => hk.elim) ?hf (Below.refl _ _) HK2.out.1 (by simp) ?_;(case hd => rfl);(case hg => rfl);(case hr => first | (go_simp;done) | (go_simp;rfl));(case hp => exact (Reps.c2 (show Kd.M k37 _ _ _ x [.string x.f0,.string x.f1] from (k37_mkM _ _ _ x)) (Reps.none _ _)));(case hf => have h1:=HK2.out.1;have h2:=HG.out;omega);intro v3 w3 ho hb hg_ hnew_;have HR3:=Aside0.mk ho;have HK3:=Aside0.mk (ua.keep_then HK2.out (uz.of_grown hg_ g));have HS3:=Aside0.mk (HS2.out.more ⟨hg_.os,hg_.tape,hg_.output,hg_.size,fun i hi => hg_.block i hi (by simp)⟩);clear ho hb hg_ hnew_))
     go_loopg [3] (q.length + 1) (fun kq v3 wr => ∃ (acc:List Tx.Lb) (s2:List UInt8),s2.length < kq ∧ s2.length ≤ 1000 ∧ Aside0 (ug.rest kq acc s2 = o) ∧ Aside0 (Kd.R k37 37 wr W.heap.size (fun k => k ≠ g) v3 acc) ∧ Aside0 (ua.St w0 wr g s2) ∧ Aside0 (uz W wr g none))
     case atStart => exact ⟨[x],t,by omega,by omega,HO,HR3,HS3,HK3⟩
     case round =>
      clear HO HR3 HS3 HK3 HS1 HK1 HS2 HK2
      have HS0:=HS
      clear HS
      obtain ⟨acc,s2,hlk,hl2,HO,HR,HS,HK⟩:=hrel
      obtain ⟨A,c,e⟩:=Kd.R_slice HR.out
      subst e
      obtain ⟨k1,rfl⟩:∃ k1,gk = k1 + 1:=⟨gk - 1,by omega⟩
      by_cases hcm:∃ u,s2 = 44 :: u
      · obtain ⟨u,rfl⟩:=hcm
        rw [List.length_cons] at hlk hl2
        have HP:Aside0 (ua.pk (44 :: u) = 44):=⟨rfl⟩
        rw [ug.rest_comma] at HO
        by_cases h8:acc.length ≤ 8
        · have HT:Aside0 (decide ((acc.length:Int) ≤ 8) = true):=⟨decide_eq_true (by omega)⟩
          have HA8:=Aside0.mk h8
          rw [if_pos h8] at HO
          clear h8
          cases hy:Tx.labelP u with
          | none =>
            rw [hy] at HO
            have HY:=Aside0.mk hy
            clear hy
            go_wp2_with (first
             | (go_at_call 31;(with_reducible refine (uk.peek_at w0 _ g (44 :: u) 44 HP.out (by exact HS.out)).mono ?_);rintro e W4 ⟨rfl,⟨nd,rfl⟩⟩)
             | (go_at_call 44;(with_reducible refine (ux.calls_ok w0 _ g 44 u (by exact HS.out.drew nd)).mono ?_);rintro e W5 ⟨rfl,hs5,hk5⟩;have HS5:=Aside0.mk hs5;have HK5:=Aside0.mk (ua.keep_then HK.out (ua.keep_then (uz.of_below (ud (Below.refl _ _) nd) g none) hk5));have HR5:=Aside0.mk (Kd.R_keep (Kd.R_drewN HR.out nd) hk5 (fun _ hk => hk));clear hs5 hk5)
             | (go_at_call 45;(with_reducible refine (u1l.calls_yes _ HT.out _).mono ?_);rintro e W6 ⟨rfl,rfl⟩)
             | (go_at_call 85;(with_reducible refine (us.calls_no w0 _ g u (by omega) HY.out (by exact HS5.out)).mono ?_);rintro e W7 ⟨rfl,hb7⟩))
            exact ⟨rfl,ug.out_none HO.out.symm hb7⟩
          | some p =>
            obtain ⟨y,t2⟩:=p
            rw [hy] at HO
            have hyl:=ug.label_rest hy
            have HY:=Aside0.mk hy
            have HWB:Aside0 (w0.heap.size ≤ W.heap.size):=⟨HS0.out.below.size⟩
            clear hy
            go_wp2_with (first
             | (go_at_call 31;(with_reducible refine (uk.peek_at w0 _ g (44 :: u) 44 HP.out (by exact HS.out)).mono ?_);rintro e W4 ⟨rfl,⟨nd,rfl⟩⟩)
             | (go_at_call 44;(with_reducible refine (ux.calls_ok w0 _ g 44 u (by exact HS.out.drew nd)).mono ?_);rintro e W5 ⟨rfl,hs5,hk5⟩;have HS5:=Aside0.mk hs5;have HK5:=Aside0.mk (ua.keep_then HK.out (ua.keep_then (uz.of_below (ud (Below.refl _ _) nd) g none) hk5));have HR5:=Aside0.mk (Kd.R_keep (Kd.R_drewN HR.out nd) hk5 (fun _ hk => hk));clear hs5 hk5)
             | (go_at_call 45;(with_reducible refine (u1l.calls_yes _ HT.out _).mono ?_);rintro e W6 ⟨rfl,rfl⟩)
             | (go_at_call 85;(with_reducible refine (us.calls_ok w0 _ g u (by omega) y t2 HY.out (by exact HS5.out)).mono ?_);rintro e W7 ⟨rfl,hs7,hk7⟩;have HS7:=Aside0.mk hs7;have HK7:=Aside0.mk (ua.keep_then HK5.out hk7);have HR7:=Aside0.mk (Kd.R_keep HR5.out hk7 (fun _ hk => hk));clear hs7 hk7)
             | (at_builtin;refine Kd.R_append k37 (w0:=W7) (W:=W7) W.heap.size rfl (.tmp 18) (.tmp 21) 22 37 (.agg #[(.string ⟨#[]⟩),(.string ⟨#[]⟩)]) 32 rfl Tryd.underlying22 ug.infoL rfl (by decide) (by decide) _ acc y [.string y.f0,.string y.f1] (fun k => k ≠ g) (fun _ => False) rfl rfl (k37_mkM _ _ _ y) (fun _ hk => hk.elim) ?hfr HR7.out (Below.refl _ _) HK7.out.1 ?hbig ?_;(case hfr => have h1:=HS7.out.lt;intro k hk;omega);(case hbig => have:=HA8.out;omega);intro v8 w8 ho hb hg8 hat;have HOW:=Aside0.mk (ug.own_facts HR7.out HWB.out);have HR8:=Aside0.mk ho;have HS8:=Aside0.mk (ug.grown_st HS7.out HOW.out.far hg8);have HK8:=Aside0.mk (ug.grown_keep HK7.out HOW.out.base hg8);clear ho hb hg8 hat))
            go_roundg k1
            case rel => exact ⟨acc ++ [y],t2,by omega,by omega,⟨HO.out⟩,HR8,HS8,HK8⟩
            case measure => omega
        · have HT:Aside0 (decide ((acc.length:Int) ≤ 8) = false):=⟨decide_eq_false (by omega)⟩
          rw [if_neg h8] at HO
          clear h8
          go_wp2_with (first
           | (go_at_call 31;(with_reducible refine (uk.peek_at w0 _ g (44 :: u) 44 HP.out (by exact HS.out)).mono ?_);rintro e W4 ⟨rfl,⟨nd,rfl⟩⟩)
           | (go_at_call 44;(with_reducible refine (ux.calls_ok w0 _ g 44 u (by exact HS.out.drew nd)).mono ?_);rintro e W5 ⟨rfl,hs5,hk5⟩;have HS5:=Aside0.mk hs5;have HK5:=Aside0.mk (ua.keep_then HK.out (ua.keep_then (uz.of_below (ud (Below.refl _ _) nd) g none) hk5));have HR5:=Aside0.mk (Kd.R_keep (Kd.R_drewN HR.out nd) hk5 (fun _ hk => hk));clear hs5 hk5)
           | (go_at_call 45;(with_reducible refine (u1l.calls_not _ HT.out _).mono ?_);rintro e W6 ⟨rfl,rfl⟩))
          exact ⟨rfl,ug.out_none HO.out.symm HS5.out.below⟩
      · obtain ⟨z,hz⟩:∃ z,ua.pk s2 = z:=⟨_,rfl⟩
        have hz44:¬ z = 44:=by
         rw [← hz]
         exact ug.pk_ne s2 44 (by decide) (fun u e => hcm ⟨u,e⟩)
        have HP:=Aside0.mk hz
        have hzb:(z == 44) = false:=beq_eq_false_iff_ne.2 hz44
        rw [ug.rest_other _ _ _ (fun u e => hcm ⟨u,e⟩)] at HO
        clear hz hcm
        cases he:Tx.expectP [125] s2 with
        | none =>
          rw [he] at HO
          have HE:=Aside0.mk ((us.expect_is 125 s2).2 he)
          clear he
          go_wp2_with (first
           | (go_at_call 31;(with_reducible refine (uk.peek_at w0 _ g s2 z HP.out (by exact HS.out)).mono ?_);rintro e W4 ⟨rfl,⟨nd,rfl⟩⟩)
           | (go_at_call 44;(with_reducible refine (ux.calls_no w0 _ g 125 s2 HE.out (by exact HS.out.drew nd)).mono ?_);rintro e W5 ⟨rfl,hb5⟩))
          exact ⟨rfl,ug.out_none HO.out.symm hb5⟩
        | some r =>
          rw [he] at HO
          have he2:=(us.expect_is 125 s2).1 r he
          subst he2
          clear he
          go_wp2_with (first
           | (go_at_call 31;(with_reducible refine (uk.peek_at w0 _ g (125 :: r) z HP.out (by exact HS.out)).mono ?_);rintro e W4 ⟨rfl,⟨nd,rfl⟩⟩)
           | (go_at_call 44;(with_reducible refine (ux.calls_ok w0 _ g 125 r (by exact HS.out.drew nd)).mono ?_);rintro e W5 ⟨rfl,hs5,hk5⟩;have HS5:=Aside0.mk hs5;have HK5:=Aside0.mk (ua.keep_then HK.out (ua.keep_then (uz.of_below (ud (Below.refl _ _) nd) g none) hk5));have HR5:=Aside0.mk (Kd.R_keep (Kd.R_drewN HR.out nd) hk5 (fun _ hk => hk));clear hs5 hk5))
          go_ret
          exact ug.out_some HO.out.symm HR5.out HS5.out HK5.out
theorem uu.nan (s:ByteArray) (w:World):Calls Tryd.prog 87 #[.string s] w fun e w' => e = .returned (.bool false) ∧ w' = w:=by
 go_enter Tryd.func87,Tryd.ntmps87
 go_wp2
 go_ret
 exact ⟨by simp,rfl⟩
def uu.cmpB (a b:ByteArray):Int:=if Tx.less a b = true then -1 else if Tx.less b a = true then 1 else 0
theorem uu.cmp_less (a b:ByteArray):decide (uu.cmpB a b < 0) = Tx.less a b:=by
 unfold uu.cmpB
 split
 · rename_i h
   rw [h]
   decide
 · rename_i h
   have h2:Tx.less a b = false:=by simpa using h
   rw [h2]
   split <;> decide
theorem uu.less_is (a b:ByteArray):Tx.less a b = Op.bytesLess a.toList b.toList:=by
 unfold Tx.less
 rw [ByteArray.toList_eq,ByteArray.toList_eq]
theorem uu.cmp (a b:ByteArray) (w:World):Calls Tryd.prog 59 #[.string a,.string b] w fun e w' => e = .returned (.int .i64 (uu.cmpB a b)) ∧ w' = w:=by
 have HE:Aside0 (uu.cmpB a b = if Op.bytesLess a.toList b.toList = true then -1 else if Op.bytesLess b.toList a.toList = true then 1 else 0):=⟨by unfold uu.cmpB;rw [uu.less_is,uu.less_is]⟩
 rw [HE.out]
 clear HE
 cases h1:Op.bytesLess a.toList b.toList with
 | true =>
   go_enter Tryd.func59,Tryd.ntmps59
   go_wp2_with (go_at_call 87;refine (uu.nan _ _).mono ?_;rintro e W1 ⟨rfl,rfl⟩)
   go_ret
   exact ⟨rfl,rfl⟩
 | false =>
   cases h2:Op.bytesLess b.toList a.toList with
   | true =>
     go_enter Tryd.func59,Tryd.ntmps59
     go_wp2_with (go_at_call 87;refine (uu.nan _ _).mono ?_;rintro e W1 ⟨rfl,rfl⟩)
     go_ret
     exact ⟨rfl,rfl⟩
   | false =>
     go_enter Tryd.func59,Tryd.ntmps59
     go_wp2_with (go_at_call 87;refine (uu.nan _ _).mono ?_;rintro e W1 ⟨rfl,rfl⟩)
     go_ret
     exact ⟨rfl,rfl⟩
theorem uu.by_name (x y:Tx.Lb) (w:World):Calls Tryd.prog 58 #[.agg #[.string x.f0,.string x.f1],.agg #[.string y.f0,.string y.f1]] w fun e w' => e = .returned (.int .i64 (uu.cmpB x.f0 y.f0)) ∧ ∃ q os',w' = Go.Sort.grow (w.drewN q) os':=by
 go_enter Tryd.func58,Tryd.ntmps58
 go_wp2_with (go_at_call 59;(with_reducible refine (uu.cmp _ _ _).mono ?_);rintro e W1 ⟨rfl,rfl⟩)
 go_ret
 exact ⟨rfl,0,#[.cells #[.string x.f0,.string x.f1] 37,.cells #[.string y.f0,.string y.f1] 37],by rw [Go.Sort.alloc_eq_grow,Go.Sort.alloc_eq_grow,Go.Sort.grow_grow];rfl⟩
theorem uu.cell_at {W:World} {gb c:Nat} {l:List Tx.Lb} {base:Nat} {ok:Nat → Prop} (h:Kd.R k37 37 W base ok (.slice (some ⟨gb,0,none⟩) l.length c) l) (i:Nat) (hi:i < l.length):W.cell? ⟨gb,i * 2,none⟩ = some (.string l[i].f0) ∧ W.cell? ⟨gb,i * 2 + 1,none⟩ = some (.string l[i].f1) ∧ gb < W.heap.size:=by
 obtain ⟨ad,ea,q0,q1⟩:=at_T37 (Kd.R_reads' h).2.2 (i:Int) (by omega) (by omega)
 obtain rfl:ad = ⟨gb,0,none⟩:=by injection ea with ea;exact ea.symm
 have hadd:(⟨gb,0,none⟩:Addr).add ((i:Int).toNat * 2) = ⟨gb,i * 2,none⟩:=by
  rw [show (i:Int).toNat = i from rfl]
  unfold Addr.add
  split
  · rename_i h0
    rw [h0]
  · simp
 rw [hadd] at q0 q1
 have hr:u1m l (i:Int) = l[i]:=by simp [u1m,List.getD_eq_getElem?_getD,hi]
 rw [hr] at q0 q1
 exact ⟨q0,q1,Kd.R_lt h gb (by simp [Value.ownBlock])⟩
theorem uu.below_grow (W:World) (os:Array Obj):Below W.heap.size W (Go.Sort.grow W os):=⟨rfl,rfl,rfl,by simp,fun i hi => Go.Sort.heap_grow_old W os hi⟩
theorem uu.thawed {W:World} {gb n c:Nat} {l:List Tx.Lb} {base:Nat} {ok:Nat → Prop} (h:Kd.R k37 37 W base ok (.slice (some ⟨gb,0,none⟩) n c) l):(∀ o,W.frozen? ⟨gb,o,none⟩ = false) ∧ True:=by
 obtain ⟨_,inner,hown,_⟩:=h
 rcases hown.2 with ⟨hv,_⟩ | ⟨g',cap',cur,hv,hb,hh,_⟩
 · cases hv
 injection hv with ha _ _
 injection ha with ha
 injection ha with hg'
 subst hg'
 exact ⟨fun o => u1a hh o,trivial⟩
theorem uu.set_elem {W:World} {gb c n:Nat} {l:List Tx.Lb} {base:Nat} {ok:Nat → Prop} (h:Kd.R k37 37 W base ok (.slice (some ⟨gb,0,none⟩) n c) l) (hn:l.length = n) (i:Nat) (hi:i < n) (x:Tx.Lb) :
 Kd.R k37 37 (W.setCells gb (i * 2) [.string x.f0,.string x.f1]) base ok (.slice (some ⟨gb,0,none⟩) n c) (l.set i x) ∧ W.grownBy (W.setCells gb (i * 2) [.string x.f0,.string x.f1]) (some gb):=by
 subst hn
 obtain ⟨q0,q1,_⟩:=uu.cell_at h i hi
 have hs:=Kd.R_seg (okp:=fun k => ok k ∧ k ≠ gb) (x':=x) (seg:=[.string x.f0,.string x.f1]) (c:=[.string l[i].f0,.string l[i].f1]) (j:=0) h (i:Int) (by omega) (by omega) rfl (by
  intro j' u hu
  have e2:(i:Int).toNat * k37.sz = i * 2:=rfl
  rw [e2]
  match j',hu with
  | 0,hu => simp at hu;subst hu;exact q0
  | 1,hu => simp at hu;subst hu;exact q1) (by show 0 + 2 ≤ 2;omega) (k37_mkM _ _ _ _) (fun k hk => hk)
 exact hs
set_option maxRecDepth 100000 in
set_option maxHeartbeats 4000000 in
theorem uu.insertion (W:World) (base:Nat) (ok:Nat → Prop) (gb c:Nat) (l:List Tx.Lb) (hn:l.length ≤ 19) (hR:Kd.R k37 37 W base ok (.slice (some ⟨gb,0,none⟩) l.length c) l) :
 Calls Tryd.prog 106 #[.slice (some ⟨gb,0,none⟩) l.length c,.int .i64 0,.int .i64 (l.length:Int),.func (.func 58) #[] #[]] W fun e W' => e = .returned (.tuple #[]) ∧ Kd.R k37 37 W' base ok (.slice (some ⟨gb,0,none⟩) l.length c) (Tx.sortP l) ∧ W.grownBy W' (some gb):=by
 have HR:=Aside0.mk hR
 have mixed:Tryd.prog.follows .mixedOrders = true:=by kernel_rfl
 clear hR
 go_enter Tryd.func106,Tryd.ntmps106
 go_wp2
 go_loopg [8] (l.length) (fun kq vi wr => ∃ (i:Nat) (cur:List Tx.Lb),vi = .int .i64 i ∧ 1 ≤ i ∧ i ≤ l.length + 1 ∧ l.length ≤ kq + i ∧ Aside0 (cur.length = l.length ∧ cur = Tx.sortedTo l i ++ l.drop i) ∧ Aside0 (Kd.R k37 37 wr base ok (.slice (some ⟨gb,0,none⟩) l.length c) cur) ∧ Aside0 (W.grownBy wr (some gb)))
 case atStart => exact ⟨1,l,by go_num,by omega,by omega,by omega,⟨rfl,by rcases l with _ | ⟨x,l⟩ <;> rfl⟩,HR,⟨World.grownBy.refl _ _⟩⟩
 case round =>
  clear HR
  obtain ⟨i,cur,rfl,hi1,hi2,hkk,HC,HR,HG⟩:=hrel
  by_cases hlt:i < l.length
  · go_wp2
    go_loopg [9] i (fun kj vj wq => ∃ (pa pb:List Tx.Lb) (cur2:List Tx.Lb),vj = .int .i64 (pa.length:Int) ∧ pa.length ≤ kj ∧ pa.length ≤ i ∧ cur2.length = l.length ∧ Aside0 (Tx.sortedTo l i = pa ++ pb ∧ (∀ y ∈ pb,Tx.less l[i].f0 y.f0 = true) ∧ cur2 = pa ++ l[i] :: (pb ++ l.drop (i + 1))) ∧ Aside0 (Kd.R k37 37 wq base ok (.slice (some ⟨gb,0,none⟩) l.length c) cur2) ∧ Aside0 (W.grownBy wq (some gb)))
    case atStart => exact ⟨Tx.sortedTo l i,[],cur,by rw [Tx.sortedTo_len l i (by omega)],by rw [Tx.sortedTo_len l i (by omega)];exact Nat.le_refl _,by rw [Tx.sortedTo_len l i (by omega)];exact Nat.le_refl _,HC.out.1,⟨(List.append_nil _).symm,fun y hy => (by cases hy),by rw [HC.out.2,List.nil_append,List.drop_eq_getElem_cons hlt]⟩,HR,HG⟩
    case round =>
     clear HC HR HG
     obtain ⟨pa,pb,cur2,rfl,hj1,hj2,hcl,HC,HR,HG⟩:=hrel
     cases hpa:pa.reverse with
     | nil =>
       obtain rfl:pa = []:=by simpa using hpa
       have OUT:Aside0 (Tx.sortedTo l (i + 1) ++ l.drop (i + 1) = cur2):=⟨by rw [Tx.sortedTo_next l i hlt [] pb HC.out.1 HC.out.2.1 (fun y hy => (by cases hy)),HC.out.2.2];simp⟩
       have HHC:=Aside0.mk hcl
       clear hpa HC hcl hj1 hj2
       have hjaz:decide (((([]:List Tx.Lb).length:Nat):Int) > 0) = false:=rfl
       have HRd:=Aside0.mk (Kd.R_drew HR.out)
       have HGd:=Aside0.mk (HG.out.trans (grown_of_below (ul (Below.refl _ _)) _))
       rw [List.length_nil]
       go_wp2_with fail
       go_big_region_o
       all_goals go_wp2
       go_roundg (l.length - (i + 1))
       case measure => omega
       case rel => exact ⟨i + 1,cur2,by go_num,by omega,by omega,by omega,⟨HHC.out,OUT.out.symm⟩,HRd,HGd⟩
     | cons y pr =>
       obtain ⟨pq,rfl⟩:∃ pq,pa = pq ++ [y]:=⟨pr.reverse,by rw [← List.reverse_reverse pa,hpa,List.reverse_cons]⟩
       clear hpa
       rw [List.length_append,List.length_singleton] at hj1 hj2
       obtain ⟨jp,hjp⟩:∃ jp,jp = pq.length:=⟨_,rfl⟩
       have hrow:=HC.out.2.2
       have e1:cur2[jp + 1]? = some l[i]:=by rw [hrow];simp [hjp]
       have e2:cur2[jp]? = some y:=by rw [hrow];simp [hjp]
       have b1:jp + 1 < cur2.length:=(List.getElem?_eq_some_iff.1 e1).1
       have b2:jp < cur2.length:=(List.getElem?_eq_some_iff.1 e2).1
       have e3:cur2[jp + 1] = l[i]:=(List.getElem?_eq_some_iff.1 e1).2
       have e4:cur2[jp] = y:=(List.getElem?_eq_some_iff.1 e2).2
       rw [← hcl] at HR
       obtain ⟨x0,x1,hgb⟩:=uu.cell_at HR.out (jp + 1) b1
       obtain ⟨y0,y1,_⟩:=uu.cell_at HR.out jp b2
       rw [e3] at x0 x1
       rw [e4] at y0 y1
       rw [hcl] at HR b1 b2
       clear hrow e1 e2 e3 e4
       rw [List.length_append,List.length_singleton,← hjp]
       generalize hxi:l[i] = xi at *
       have HJ:=Aside0.mk hjp
       have HXI:=Aside0.mk hxi
       clear hjp hxi
       have lx0:=fun n os => Go.cell_grown (n:=n) (os:=os) hgb x0
       have lx1:=fun n os => Go.cell_grown (n:=n) (os:=os) hgb x1
       have ly0:=fun n os => Go.cell_grown (n:=n) (os:=os) hgb y0
       have ly1:=fun n os => Go.cell_grown (n:=n) (os:=os) hgb y1
       have hwp:IntKind.i64.wrap (jp:Int) = (jp:Int):=by rw [IntKind.wrap_i64];omega
       have jz:(jp:Int) + 1 < (l.length:Int):=by omega
       have jz1:(jp:Int) < (l.length:Int):=by omega
       have p0:(0:Int) ≤ (jp:Int) + 1:=by omega
       have e0:((jp:Int) + 1).toNat = jp + 1:=by omega
       have hcg:∀ n' os',Calls Tryd.prog 58 #[.agg #[.string xi.f0,.string xi.f1],.agg #[.string y.f0,.string y.f1]] (Go.Sort.grow (wr.drewN n') os') fun e w' => e = .returned (.int .i64 (uu.cmpB xi.f0 y.f0)) ∧ ∃ q os'',w' = Go.Sort.grow ((Go.Sort.grow (wr.drewN n') os').drewN q) os'':=fun n' os' => uu.by_name xi y _
       have HHC:=Aside0.mk hcl
       have HJ2:=Aside0.mk hj2
       have HGB:=Aside0.mk hgb
       clear hcl hj2
       have cl:=uu.cmp_less xi.f0 y.f0
       cases hlv:Tx.less xi.f0 y.f0 with
       | true =>
         rw [hlv] at cl
         go_wp2_with fail
         go_quiet_grown (first | (go_at_call 58;refine Calls.grown_of (hcg _ _)))
         go_wp2_with fail
         have x0':=lx0 nq osq
         have x1':=lx1 nq osq
         have y0':=ly0 nq osq
         have y1':=ly1 nq osq
         have HR2:Aside0 (Kd.R k37 37 (Go.Sort.grow (wr.drewN nq) osq) base ok (.slice (some ⟨gb,0,none⟩) l.length c) cur2):=⟨Kd.R_below (Kd.R_drewN HR.out nq) (uu.below_grow _ _)⟩
         have HG2:Aside0 (W.grownBy (Go.Sort.grow (wr.drewN nq) osq) (some gb)):=⟨HG.out.trans (grown_of_below (u1i (ud (Below.refl _ _) nq) (uu.below_grow _ _)) _)⟩
         clear lx0 lx1 ly0 ly1 hcg x0 x1 y0 y1 HR HG
         generalize Go.Sort.grow (wr.drewN nq) osq = wq2 at *
         obtain ⟨fz,_⟩:=uu.thawed HR2.out
         have n1:¬ jp * 2 = (jp + 1) * 2:=by omega
         have n2:¬ jp * 2 = (jp + 1) * 2 + 1:=by omega
         have n3:¬ jp * 2 + 1 = (jp + 1) * 2:=by omega
         have n4:¬ jp * 2 + 1 = (jp + 1) * 2 + 1:=by omega
         go_big_region_o
         all_goals go_wp2
         obtain ⟨r1,g1⟩:=uu.set_elem HR2.out HHC.out (jp + 1) (by omega) y
         obtain ⟨r2,g2⟩:=uu.set_elem r1 (by rw [List.length_set];exact HHC.out) jp (by omega) xi
         have HR3:Aside0 (Kd.R k37 37 ((((wq2.setCell ⟨gb,(jp + 1) * 2,none⟩ (.string y.f0)).setCell ⟨gb,(jp + 1) * 2 + 1,none⟩ (.string y.f1)).setCell ⟨gb,jp * 2,none⟩ (.string xi.f0)).setCell ⟨gb,jp * 2 + 1,none⟩ (.string xi.f1)).drew base ok (.slice (some ⟨gb,0,none⟩) l.length c) ((cur2.set (jp + 1) y).set jp xi)):=⟨Kd.R_drew r2⟩
         have HG3:Aside0 (W.grownBy ((((wq2.setCell ⟨gb,(jp + 1) * 2,none⟩ (.string y.f0)).setCell ⟨gb,(jp + 1) * 2 + 1,none⟩ (.string y.f1)).setCell ⟨gb,jp * 2,none⟩ (.string xi.f0)).setCell ⟨gb,jp * 2 + 1,none⟩ (.string xi.f1)).drew (some gb)):=⟨((HG2.out.trans g1).trans g2).trans (grown_of_below (ul (Below.refl _ _)) _)⟩
         clear r1 g1 r2 g2 HR2 HG2
         go_roundg jp
         case measure => have:=HJ.out;omega
         case rel =>
          refine ⟨pq,y :: pb,(cur2.set (jp + 1) y).set jp xi,by rw [HJ.out],by rw [HJ.out];exact Nat.le_refl _,by have:=HJ.out;have:=HJ2.out;omega,by rw [List.length_set,List.length_set];exact HHC.out,⟨?_,?_,?_⟩,HR3,HG3⟩
          · rw [HC.out.1,List.append_assoc,List.singleton_append]
          · intro z hz
            rcases List.mem_cons.1 hz with rfl | hz
            · exact hlv
            · exact HC.out.2.1 z hz
          · rw [HC.out.2.2,HJ.out]
            simp
       | false =>
         rw [hlv] at cl
         go_wp2_with fail
         go_quiet_grown (first | (go_at_call 58;refine Calls.grown_of (hcg _ _)))
         go_wp2
         have HR2:Aside0 (Kd.R k37 37 (Go.Sort.grow (wr.drewN nq) osq) base ok (.slice (some ⟨gb,0,none⟩) l.length c) cur2):=⟨Kd.R_below (Kd.R_drewN HR.out nq) (uu.below_grow _ _)⟩
         have HG2:Aside0 (W.grownBy (Go.Sort.grow (wr.drewN nq) osq) (some gb)):=⟨HG.out.trans (grown_of_below (u1i (ud (Below.refl _ _) nq) (uu.below_grow _ _)) _)⟩
         have OUT:Aside0 (Tx.sortedTo l (i + 1) ++ l.drop (i + 1) = cur2):=⟨by
          rw [Tx.sortedTo_next l i hlt (pq ++ [y]) pb HC.out.1 (fun z hz => by rw [HXI.out];exact HC.out.2.1 z hz) (fun z hz => by
           obtain rfl:y = z:=by simpa using hz
           rw [HXI.out,hlv]
           decide),HC.out.2.2,HXI.out]
          simp⟩
         go_roundg (l.length - (i + 1))
         case measure => omega
         case rel => exact ⟨i + 1,cur2,by go_num,by omega,by omega,by omega,⟨HHC.out,OUT.out.symm⟩,HR2,HG2⟩
  · have hin:i = l.length ∨ i = l.length + 1:=by omega
    have HF:Aside0 (cur = Tx.sortP l):=⟨by
     rw [HC.out.2,List.drop_eq_nil_of_le (by omega),List.append_nil]
     rcases hin with h9 | h9
     · rw [h9,Tx.sortedTo_all]
     · unfold Tx.sortedTo Tx.sortP
       rw [List.take_of_length_le (by omega)]⟩
    clear hin
    go_wp2
    go_end0
    exact ⟨rfl,HF.out ▸ HR.out,HG.out⟩
theorem uu.insertion_few (W:World) (A:Option Addr) (c:Nat) (l:List Tx.Lb) (hn:l.length ≤ 1) :
 Calls Tryd.prog 106 #[.slice A l.length c,.int .i64 0,.int .i64 (l.length:Int),.func (.func 58) #[] #[]] W fun e W' => e = .returned (.tuple #[]) ∧ W' = W:=by
 have hd:decide ((1:Int) < (l.length:Int)) = false:=decide_eq_false (by omega)
 have hlt:¬ (1:Int) < (l.length:Int):=by omega
 go_enter Tryd.func106,Tryd.ntmps106
 go_wp2
 go_loopg [8] (1) (fun kq vi wr => vi = .int .i64 1 ∧ 0 < kq ∧ wr = W)
 case atStart => exact ⟨by rfl,by omega,rfl⟩
 case round =>
  obtain ⟨rfl,hk,rfl⟩:=hrel
  go_wp2
  go_end0
  exact ⟨rfl,rfl⟩
theorem uu.sortP_few (l:List Tx.Lb) (hn:l.length ≤ 1):Tx.sortP l = l:=by
 rcases l with _ | ⟨x,_ | ⟨y,l⟩⟩
 · rfl
 · rfl
 · simp at hn
theorem uu.form {W:World} {base n c:Nat} {ok:Nat → Prop} {A:Option Addr} {xs:List Tx.Lb} (h:Kd.R k37 37 W base ok (.slice A n c) xs) (hn:0 < n):∃ g,A = some ⟨g,0,none⟩:=by
 obtain ⟨_,_,ho,_⟩:=h
 rcases ho.2 with ⟨hv,h0⟩ | ⟨g,cap,cur,hv,_⟩
 · injection hv with _ h1
   omega
 · injection hv with h1
   exact ⟨g,h1⟩
theorem uu.ins (W:World) (base:Nat) (ok:Nat → Prop) (A:Option Addr) (c:Nat) (l:List Tx.Lb) (hn:l.length ≤ 19) (hR:Kd.R k37 37 W base ok (.slice A l.length c) l) :
 Calls Tryd.prog 106 #[.slice A l.length c,.int .i64 0,.int .i64 (l.length:Int),.func (.func 58) #[] #[]] W fun e W' => e = .returned (.tuple #[]) ∧ Kd.R k37 37 W' base ok (.slice A l.length c) (Tx.sortP l) ∧ W.grownBy W' (Value.slice A l.length c).ownBlock:=by
 by_cases h1:l.length ≤ 1
 · refine (uu.insertion_few W A c l h1).mono ?_
   rintro e W' ⟨rfl,rfl⟩
   exact ⟨rfl,by rw [uu.sortP_few l h1];exact hR,World.grownBy.refl _ _⟩
 · obtain ⟨gb,rfl⟩:=uu.form hR (by omega)
   exact uu.insertion W base ok gb c l hn hR
set_option maxRecDepth 100000 in
set_option maxHeartbeats 1000000 in
theorem uu.stable (W:World) (base:Nat) (ok:Nat → Prop) (A:Option Addr) (c:Nat) (l:List Tx.Lb) (hn:l.length ≤ 19) (hR:Kd.R k37 37 W base ok (.slice A l.length c) l) :
 Calls Tryd.prog 86 #[.slice A l.length c,.int .i64 (l.length:Int),.func (.func 58) #[] #[]] W fun e W' => e = .returned (.tuple #[]) ∧ Kd.R k37 37 W' base ok (.slice A l.length c) (Tx.sortP l) ∧ W.grownBy W' (Value.slice A l.length c).ownBlock:=by
 have HR:=Aside0.mk hR
 clear hR
 have h20:¬ (20:Int) ≤ (l.length:Int):=by omega
 have h20b:¬ (20:Int) < (l.length:Int):=by omega
 go_enter Tryd.func86,Tryd.ntmps86
 go_wp2
 go_loopg [7,8] (1) (fun kq v7 v8 wr => v7 = .int .i64 0 ∧ v8 = .int .i64 20 ∧ 0 < kq ∧ wr = W)
 case atStart => exact ⟨by rfl,by rfl,by omega,rfl⟩
 case round =>
  obtain ⟨rfl,rfl,hk,rfl⟩:=hrel
  go_wp2_with (go_at_call 106;(with_reducible refine (uu.ins _ base ok A c l hn HR.out).mono ?_);rintro e W1 ⟨rfl,hr1,hg1⟩;have HR1:=Aside0.mk hr1;have HG1:=Aside0.mk hg1;clear hr1 hg1)
  go_loopg [6] (1) (fun kq v6 wr => v6 = .int .i64 20 ∧ 0 < kq ∧ wr = W1)
  case atStart => exact ⟨by rfl,by omega,rfl⟩
  case round =>
   obtain ⟨rfl,hk,rfl⟩:=hrel
   go_wp2
   go_end0
   exact ⟨rfl,HR1.out,HG1.out⟩
theorem uu.calls (W:World) (base:Nat) (ok:Nat → Prop) (A:Option Addr) (c:Nat) (l:List Tx.Lb) (hn:l.length ≤ 19) (hR:Kd.R k37 37 W base ok (.slice A l.length c) l) :
 Calls Tryd.prog 57 #[.slice A l.length c,.func (.func 58) #[] #[]] W fun e W' => e = .returned (.tuple #[]) ∧ Kd.R k37 37 W' base ok (.slice A l.length c) (Tx.sortP l) ∧ W.grownBy W' (Value.slice A l.length c).ownBlock:=by
 have HR:=Aside0.mk hR
 clear hR
 go_enter Tryd.func57,Tryd.ntmps57
 go_wp2_with (go_at_call 86;(with_reducible refine (uu.stable _ base ok A c l hn HR.out).mono ?_);rintro e W1 ⟨rfl,hr1,hg1⟩;have HR1:=Aside0.mk hr1;have HG1:=Aside0.mk hg1;clear hr1 hg1)
 go_end0
 exact ⟨rfl,HR1.out,HG1.out⟩
mutual
def u1g.j0:Nat → List (S37) → Bool → Option (Bool)
 | 0,_,_ => none
 | k + 1,x0,x13 => if x13 = true then (some false) else (u1g.l0 k (⟨#[]⟩:ByteArray) x0 (x0.length:Int) 0)
def u1g.l0:Nat → ByteArray → List (S37) → Int → Int → Option (Bool)
 | 0,_,_,_,_ => none
 | k + 1,x3,x14,x15,x16 => if x16 < x15 then (if 0 ≤ x16 then (if x16 < (x14.length:Int) then ((u1e.f ((u1m x14 x16).f0)).bind fun t107 => (if t107 = true then ((u2b.f ((u1m x14 x16).f1)).bind fun t108 => (if t108 = true then (if ((Op.bytesLess x3.toList (((u1m x14 x16).f0).toList)) = true) then (u1g.l0 k ((u1m x14 x16).f0) x14 x15 (wrap64 (x16 + 1))) else (some false)) else (some false))) else (some false))) else (none)) else (none)) else (some true)
end
def u1g.f (k:Nat) (l0:List (S37)):Option (Bool):=if (l0.length:Int) = 0 then (u1g.j0 k l0 true) else (u1g.j0 k l0 (decide ((l0.length:Int) > 8)))
set_option maxHeartbeats 8000000 in
set_option maxRecDepth 100000 in
theorem u1g.calls (k:Nat) (A0:Option Addr) (c0:Nat) (l0:List (S37)) (r:Bool) (w:World) (hr0:Kd.C k37 w A0 l0.length l0) (hc0:l0.length ≤ c0) (h:u1g.f k l0 = some r) :
 Calls Tryd.prog 60 #[.slice A0 l0.length c0] w fun e w' => e = .returned (.bool r) ∧ Below w.heap.size w w':=by
 have hu37:=Tryd.underlying37
 have HR0:=Aside0.mk hr0
 have HC0:=Aside0.mk hc0
 clear hr0 hc0
 have HB:=Aside0.mk (Below.refl w.heap.size w)
 have H:(if (l0.length:Int) = 0 then (u1g.j0 k l0 true) else (u1g.j0 k l0 (decide ((l0.length:Int) > 8)))) = some r:=h
 clear h
 have HC2:=Aside0.mk H
 clear H
 go_enter Tryd.func60,Tryd.ntmps60
 go_upto_region 1 with (fail)
 go_cut [13] (fun v13 wc => ∃ (kq:Nat) (x13_1:Bool),v13 = .bool x13_1 ∧ Aside0 (u1g.j0 kq l0 x13_1 = some r) ∧ Aside0 (kq ≤ k) ∧ Aside0 (Below w.heap.size w wc))
 case first =>
  have H:=HC2.out
  clear HC2
  by_cases c3:(l0.length:Int) = 0
  · rw [if_pos c3] at H
    have c3b0:((l0.length:Int) == 0) = true:=beq_iff_eq.mpr c3
    have c3b1:((l0.length:Int) != 0) = false:=bne_eq_false_iff_eq.mpr c3
    clear c3
    (first | rw [c3b0] | (simp only [i64_w,i32_w];rw [c3b0]) | skip)
    have H':=Aside0.mk H
    clear H
    go_wp2
    go_meet
    case rel => exact ⟨_,(true),(by first | rfl | (simp;done) | (simp [*];done)),H',⟨by first | omega | exact Nat.le_refl _⟩,⟨by repeat (first | (with_reducible first | exact HB.out | apply uf | apply ud | apply ul) | exact HB.out)⟩⟩
  · rw [if_neg c3] at H
    have c3b0:((l0.length:Int) == 0) = false:=beq_eq_false_iff_ne.mpr c3
    have c3b1:((l0.length:Int) != 0) = true:=bne_iff_ne.mpr c3
    have c3b2:¬ (l0 = []):=fun h_ => c3 (by rw [h_];rfl)
    (first | rw [c3b0] | (simp only [i64_w,i32_w];rw [c3b0]) | skip)
    have H':=Aside0.mk H
    clear H
    go_wp2
    go_meet
    case rel => exact ⟨_,(decide ((l0.length:Int) > 8)),(by first | rfl | (simp;done) | (simp [*];done)),H',⟨by first | omega | exact Nat.le_refl _⟩,⟨by repeat (first | (with_reducible first | exact HB.out | apply uf | apply ud | apply ul) | exact HB.out)⟩⟩
 case rest =>
  clear HC2
  try clear p2
  try clear c3
  try clear c3b0
  try clear c3b1
  try clear c3b2
  obtain ⟨kq,x13_1,rfl,HA,HJ1,HB⟩:=hcut
  cases kq with
  | zero => exact absurd HA.out (by simp [u1g.j0])
  | succ kj1 =>
    have H:=HA.out
    clear HA
    simp only [u1g.j0] at H
    by_cases c4:x13_1 = true
    · subst c4
      have H1:(some false) = some r:=by rw [if_pos rfl] at H;exact H
      clear H
      have H:=H1
      clear H1
      obtain rfl:=Option.some.inj H
      go_wp2
      go_ret
      exact ⟨by first | rfl | (simp [u2f,u2e] <;> rfl) | (simp [*,u2f,u2e] <;> rfl),by repeat (first | (with_reducible first | exact HB.out | apply uf | apply ud | apply ul) | exact HB.out)⟩
    · replace c4:=Bool.eq_false_iff.mpr c4
      subst c4
      have H1:(u1g.l0 kj1 (⟨#[]⟩:ByteArray) l0 (l0.length:Int) 0) = some r:=by rw [if_neg (show ¬ (false = true) by decide)] at H;exact H
      clear H
      have H:=H1
      clear H1
      have H':=Aside0.mk H
      clear H
      go_wp2
      go_loopg [3,16] kj1 (fun kq v3 v16 w' => ∃ (x3_2:ByteArray) (x16_2:Int),v3 = .string x3_2 ∧ v16 = .int .i64 x16_2 ∧ Aside0 (u1g.l0 kq x3_2 l0 (l0.length:Int) x16_2 = some r) ∧ Aside0 (kq ≤ kj1) ∧ Aside0 (Below w.heap.size w w'))
      case atStart => exact ⟨((⟨#[]⟩:ByteArray)),(0),(by first | rfl | (simp;done) | (simp [*];done)),(by first | rfl | (simp;done) | (simp [*];done)),H',⟨Nat.le_refl _⟩,⟨by repeat (first | (with_reducible first | exact HB.out | apply uf | apply ud | apply ul) | exact HB.out)⟩⟩
      case round =>
       clear H'
       try clear p2
       try clear c3
       try clear c3b0
       try clear c3b1
       try clear c3b2
       try clear c4
       try clear p2
       obtain ⟨x3_2,x16_2,rfl,rfl,HA,HK2,HB⟩:=hrel
       cases gk with
       | zero => exact absurd HA.out (by simp [u1g.l0])
       | succ k2 =>
         have H:=HA.out
         clear HA
         simp only [u1g.l0] at H
         by_cases c5:x16_2 < (l0.length:Int)
         · rw [if_pos c5] at H
           have c5b0:decide (x16_2 < (l0.length:Int)) = true:=decide_eq_true c5
           clear c5
           by_cases c6:0 ≤ x16_2
           · rw [if_pos c6] at H
             have c6b0:decide (0 ≤ x16_2) = true:=decide_eq_true c6
             clear c6
             by_cases c7:x16_2 < (l0.length:Int)
             · rw [if_pos c7] at H
               have c7b0:decide (x16_2 < (l0.length:Int)) = true:=decide_eq_true c7
               clear c7
               replace H:=Option.bind_eq_some_iff.mp H
               obtain ⟨t107,A80,H⟩:=H
               replace H:(if t107 = true then ((u2b.f ((u1m l0 x16_2).f1)).bind fun t108 => (if t108 = true then (if ((Op.bytesLess x3_2.toList (((u1m l0 x16_2).f0).toList)) = true) then (u1g.l0 k2 ((u1m l0 x16_2).f0) l0 (l0.length:Int) (wrap64 (x16_2 + 1))) else (some false)) else (some false))) else (some false)) = some r:=H
               have A8:=Aside0.mk A80
               clear A80
               by_cases c9:t107 = true
               · subst c9
                 have H1:((u2b.f ((u1m l0 x16_2).f1)).bind fun t108 => (if t108 = true then (if ((Op.bytesLess x3_2.toList (((u1m l0 x16_2).f0).toList)) = true) then (u1g.l0 k2 ((u1m l0 x16_2).f0) l0 (l0.length:Int) (wrap64 (x16_2 + 1))) else (some false)) else (some false))) = some r:=by rw [if_pos rfl] at H;exact H
                 clear H
                 have H:=H1
                 clear H1
                 replace H:=Option.bind_eq_some_iff.mp H
                 obtain ⟨t108,A100,H⟩:=H
                 replace H:(if t108 = true then (if ((Op.bytesLess x3_2.toList (((u1m l0 x16_2).f0).toList)) = true) then (u1g.l0 k2 ((u1m l0 x16_2).f0) l0 (l0.length:Int) (wrap64 (x16_2 + 1))) else (some false)) else (some false)) = some r:=H
                 have A10:=Aside0.mk A100
                 clear A100
                 by_cases c11:t108 = true
                 · subst c11
                   have H1:(if ((Op.bytesLess x3_2.toList (((u1m l0 x16_2).f0).toList)) = true) then (u1g.l0 k2 ((u1m l0 x16_2).f0) l0 (l0.length:Int) (wrap64 (x16_2 + 1))) else (some false)) = some r:=by rw [if_pos rfl] at H;exact H
                   clear H
                   have H:=H1
                   clear H1
                   by_cases c12:((Op.bytesLess x3_2.toList (((u1m l0 x16_2).f0).toList)) = true)
                   · rw [if_pos c12] at H
                     have c12b0:(Op.bytesLess x3_2.toList (((u1m l0 x16_2).f0).toList)) = true:=c12
                     clear c12
                     have H':=Aside0.mk H
                     clear H
                     have p105:0 ≤ (x16_2:Int):=of_decide_eq_true (by first | (with_reducible assumption) | assumption)
                     have q105:x16_2 < (l0.length:Int):=of_decide_eq_true (by first | (with_reducible assumption) | assumption)
                     obtain ⟨ad105,e105,hx105_0,hx105_1⟩:=at_T37 HR0.out x16_2 p105 q105
                     cases e105
                     replace hx105_0:=(HB.out.cell (World.block_lt_of_cell? w _ hx105_0)).trans hx105_0
                     replace hx105_1:=(HB.out.cell (World.block_lt_of_cell? w _ hx105_1)).trans hx105_1
                     replace p105:=eq_true p105
                     replace q105:=eq_true q105
                     go_wp2_with (first | ((with_reducible refine gate_dst (N:=5) rfl ?_);(try (refine u2k (by rfl) ?_;dsimp only));refine box_event ?hg (N:=5) ?hd (cs:=#[.string (⟨#[]⟩:ByteArray),.string (⟨#[]⟩:ByteArray)]) (t:=37) ?hr ?_;(case hd => rfl);(case hg => rfl);(case hr => first | (go_simp;done) | (go_simp;rfl));intro gb106 hg w13 hbox hb;have n0_:=Aside0.mk (u1i (by repeat (first | (with_reducible first | exact HB.out | apply uf | apply ud | apply ul) | exact HB.out)) hb);have n1_:=Aside0.mk (hbox);have n2_:=Aside0.mk ((by rw [hg];exact (u1n (by repeat (first | (with_reducible first | exact HB.out | apply uf | apply ud | apply ul) | exact HB.out))):w.heap.size ≤ gb106));have n3_:=Aside0.mk ((by rw [hg];exact (u1n (by repeat (first | (with_reducible first | exact HB.out | apply uf | apply ud | apply ul) | exact HB.out))):w.heap.size ≤ gb106));clear HB;have HB:=n0_;have BK106:=n1_;have GW106:=n2_;have GE106:=n3_;clear n0_ n1_ n2_ n3_;clear hb hbox hg;have hcz14_0:w13.cell? ⟨gb106,0,none⟩ = some (.string (⟨#[]⟩:ByteArray)):=(u1f BK106.out 0).trans rfl;have hcz14_1:w13.cell? ⟨gb106,1,none⟩ = some (.string (⟨#[]⟩:ByteArray)):=(u1f BK106.out 1).trans rfl;have hfz14_0:=u1a BK106.out 0;have hfz14_1:=u1a BK106.out 1) | ((with_reducible refine u2g (f:=77) rfl ?_);refine goesL_ (some 22) rfl rfl Tryd.func77 (by kernel_rfl) rfl #[.string ((u1m l0 x16_2).f0)] rfl (by (try simp only [List.map_toArray,List.map_cons,List.map_nil]);first | done | rfl | (simp only [List.length_drop,List.length_take];rfl)) ?_;(with_reducible refine (u1e.calls ((u1m l0 x16_2).f0) true _ A8.out).mono ?_);rintro e w15 ⟨rfl,hb⟩;refine ⟨_,rfl,?_⟩;have n0_:=Aside0.mk (blk_below (g:=gb106) (o:=.cells #[.string ((u1m l0 x16_2).f0),.string ((u1m l0 x16_2).f1)] 37 (0,0)) (by (with_reducible repeat (first | refine u1u ?_ _ | refine u1z ?_ | refine u1v ?_ _));refine blk_put (cs:=#[.string ((u1m l0 x16_2).f0),.string (⟨#[]⟩:ByteArray)]) ?_ 1 _ rfl;(with_reducible repeat (first | refine u1u ?_ _ | refine u1z ?_ | refine u1v ?_ _));refine blk_put (cs:=#[.string (⟨#[]⟩:ByteArray),.string (⟨#[]⟩:ByteArray)]) ?_ 0 _ rfl;(with_reducible repeat (first | refine u1u ?_ _ | refine u1z ?_ | refine u1v ?_ _));exact BK106.out) hb);have n1_:=Aside0.mk (u1i (by repeat (first | (with_reducible first | exact HB.out | apply uf | apply ud | apply ul | refine u1s ?_ GE106.out) | exact HB.out)) hb);clear BK106;clear HB;have BK106:=n0_;have HB:=n1_;clear n0_ n1_;(try clear hb);(try clear hb2);(try clear hk);(try clear hi);have hcz16_0:w15.cell? ⟨gb106,0,none⟩ = some (.string ((u1m l0 x16_2).f0)):=(u1f BK106.out 0).trans rfl;have hcz16_1:w15.cell? ⟨gb106,1,none⟩ = some (.string ((u1m l0 x16_2).f1)):=(u1f BK106.out 1).trans rfl;have hfz16_0:=u1a BK106.out 0;have hfz16_1:=u1a BK106.out 1) | (go_at_call 88;(with_reducible refine (u2b.calls ((u1m l0 x16_2).f1) true _ A10.out).mono ?_);rintro e w17 ⟨rfl,hb⟩;have n0_:=Aside0.mk (blk_below (g:=gb106) (o:=.cells #[.string ((u1m l0 x16_2).f0),.string ((u1m l0 x16_2).f1)] 37 (0,0)) (by (with_reducible repeat (first | refine u1u ?_ _ | refine u1z ?_ | refine u1v ?_ _));exact BK106.out) hb);have n1_:=Aside0.mk (u1i (by repeat (first | (with_reducible first | exact HB.out | apply uf | apply ud | apply ul | refine u1s ?_ GE106.out) | exact HB.out)) hb);clear BK106;clear HB;have BK106:=n0_;have HB:=n1_;clear n0_ n1_;(try clear hb);(try clear hb2);(try clear hk);(try clear hi);have hcz18_0:w17.cell? ⟨gb106,0,none⟩ = some (.string ((u1m l0 x16_2).f0)):=(u1f BK106.out 0).trans rfl;have hcz18_1:w17.cell? ⟨gb106,1,none⟩ = some (.string ((u1m l0 x16_2).f1)):=(u1f BK106.out 1).trans rfl;have hfz18_0:=u1a BK106.out 0;have hfz18_1:=u1a BK106.out 1))
                     go_roundg k2
                     case measure => have:=HJ1.out;have:=HK2.out;omega
                     case rel => exact ⟨((u1m l0 x16_2).f0),(wrap64 (x16_2 + 1)),(by first | rfl | (simp;done) | (simp [*];done)),(by first | rfl | (simp;done) | (simp [*];done)),H',⟨by have:=HJ1.out;have:=HK2.out;omega⟩,⟨by repeat (first | (with_reducible first | exact HB.out | apply uf | apply ud | apply ul | refine u1s ?_ GE106.out) | exact HB.out)⟩⟩
                   · rw [if_neg c12] at H
                     have c12b0:(Op.bytesLess x3_2.toList (((u1m l0 x16_2).f0).toList)) = false:=by simpa using c12
                     clear c12
                     obtain rfl:=Option.some.inj H
                     have p105:0 ≤ (x16_2:Int):=of_decide_eq_true (by first | (with_reducible assumption) | assumption)
                     have q105:x16_2 < (l0.length:Int):=of_decide_eq_true (by first | (with_reducible assumption) | assumption)
                     obtain ⟨ad105,e105,hx105_0,hx105_1⟩:=at_T37 HR0.out x16_2 p105 q105
                     cases e105
                     replace hx105_0:=(HB.out.cell (World.block_lt_of_cell? w _ hx105_0)).trans hx105_0
                     replace hx105_1:=(HB.out.cell (World.block_lt_of_cell? w _ hx105_1)).trans hx105_1
                     replace p105:=eq_true p105
                     replace q105:=eq_true q105
                     go_wp2_with (first | ((with_reducible refine gate_dst (N:=5) rfl ?_);(try (refine u2k (by rfl) ?_;dsimp only));refine box_event ?hg (N:=5) ?hd (cs:=#[.string (⟨#[]⟩:ByteArray),.string (⟨#[]⟩:ByteArray)]) (t:=37) ?hr ?_;(case hd => rfl);(case hg => rfl);(case hr => first | (go_simp;done) | (go_simp;rfl));intro gb106 hg w19 hbox hb;have n0_:=Aside0.mk (u1i (by repeat (first | (with_reducible first | exact HB.out | apply uf | apply ud | apply ul) | exact HB.out)) hb);have n1_:=Aside0.mk (hbox);have n2_:=Aside0.mk ((by rw [hg];exact (u1n (by repeat (first | (with_reducible first | exact HB.out | apply uf | apply ud | apply ul) | exact HB.out))):w.heap.size ≤ gb106));have n3_:=Aside0.mk ((by rw [hg];exact (u1n (by repeat (first | (with_reducible first | exact HB.out | apply uf | apply ud | apply ul) | exact HB.out))):w.heap.size ≤ gb106));clear HB;have HB:=n0_;have BK106:=n1_;have GW106:=n2_;have GE106:=n3_;clear n0_ n1_ n2_ n3_;clear hb hbox hg;have hcz20_0:w19.cell? ⟨gb106,0,none⟩ = some (.string (⟨#[]⟩:ByteArray)):=(u1f BK106.out 0).trans rfl;have hcz20_1:w19.cell? ⟨gb106,1,none⟩ = some (.string (⟨#[]⟩:ByteArray)):=(u1f BK106.out 1).trans rfl;have hfz20_0:=u1a BK106.out 0;have hfz20_1:=u1a BK106.out 1) | ((with_reducible refine u2g (f:=77) rfl ?_);refine goesL_ (some 22) rfl rfl Tryd.func77 (by kernel_rfl) rfl #[.string ((u1m l0 x16_2).f0)] rfl (by (try simp only [List.map_toArray,List.map_cons,List.map_nil]);first | done | rfl | (simp only [List.length_drop,List.length_take];rfl)) ?_;(with_reducible refine (u1e.calls ((u1m l0 x16_2).f0) true _ A8.out).mono ?_);rintro e w21 ⟨rfl,hb⟩;refine ⟨_,rfl,?_⟩;have n0_:=Aside0.mk (blk_below (g:=gb106) (o:=.cells #[.string ((u1m l0 x16_2).f0),.string ((u1m l0 x16_2).f1)] 37 (0,0)) (by (with_reducible repeat (first | refine u1u ?_ _ | refine u1z ?_ | refine u1v ?_ _));refine blk_put (cs:=#[.string ((u1m l0 x16_2).f0),.string (⟨#[]⟩:ByteArray)]) ?_ 1 _ rfl;(with_reducible repeat (first | refine u1u ?_ _ | refine u1z ?_ | refine u1v ?_ _));refine blk_put (cs:=#[.string (⟨#[]⟩:ByteArray),.string (⟨#[]⟩:ByteArray)]) ?_ 0 _ rfl;(with_reducible repeat (first | refine u1u ?_ _ | refine u1z ?_ | refine u1v ?_ _));exact BK106.out) hb);have n1_:=Aside0.mk (u1i (by repeat (first | (with_reducible first | exact HB.out | apply uf | apply ud | apply ul | refine u1s ?_ GE106.out) | exact HB.out)) hb);clear BK106;clear HB;have BK106:=n0_;have HB:=n1_;clear n0_ n1_;(try clear hb);(try clear hb2);(try clear hk);(try clear hi);have hcz22_0:w21.cell? ⟨gb106,0,none⟩ = some (.string ((u1m l0 x16_2).f0)):=(u1f BK106.out 0).trans rfl;have hcz22_1:w21.cell? ⟨gb106,1,none⟩ = some (.string ((u1m l0 x16_2).f1)):=(u1f BK106.out 1).trans rfl;have hfz22_0:=u1a BK106.out 0;have hfz22_1:=u1a BK106.out 1) | (go_at_call 88;(with_reducible refine (u2b.calls ((u1m l0 x16_2).f1) true _ A10.out).mono ?_);rintro e w23 ⟨rfl,hb⟩;have n0_:=Aside0.mk (blk_below (g:=gb106) (o:=.cells #[.string ((u1m l0 x16_2).f0),.string ((u1m l0 x16_2).f1)] 37 (0,0)) (by (with_reducible repeat (first | refine u1u ?_ _ | refine u1z ?_ | refine u1v ?_ _));exact BK106.out) hb);have n1_:=Aside0.mk (u1i (by repeat (first | (with_reducible first | exact HB.out | apply uf | apply ud | apply ul | refine u1s ?_ GE106.out) | exact HB.out)) hb);clear BK106;clear HB;have BK106:=n0_;have HB:=n1_;clear n0_ n1_;(try clear hb);(try clear hb2);(try clear hk);(try clear hi);have hcz24_0:w23.cell? ⟨gb106,0,none⟩ = some (.string ((u1m l0 x16_2).f0)):=(u1f BK106.out 0).trans rfl;have hcz24_1:w23.cell? ⟨gb106,1,none⟩ = some (.string ((u1m l0 x16_2).f1)):=(u1f BK106.out 1).trans rfl;have hfz24_0:=u1a BK106.out 0;have hfz24_1:=u1a BK106.out 1))
                     go_ret
                     exact ⟨by first | rfl | (simp [u2f,u2e] <;> rfl) | (simp [*,u2f,u2e] <;> rfl),by repeat (first | (with_reducible first | exact HB.out | apply uf | apply ud | apply ul | refine u1s ?_ GE106.out) | exact HB.out)⟩
                 · replace c11:=Bool.eq_false_iff.mpr c11
                   subst c11
                   have H1:(some false) = some r:=by rw [if_neg (show ¬ (false = true) by decide)] at H;exact H
                   clear H
                   have H:=H1
                   clear H1
                   obtain rfl:=Option.some.inj H
                   have p105:0 ≤ (x16_2:Int):=of_decide_eq_true (by first | (with_reducible assumption) | assumption)
                   have q105:x16_2 < (l0.length:Int):=of_decide_eq_true (by first | (with_reducible assumption) | assumption)
                   obtain ⟨ad105,e105,hx105_0,hx105_1⟩:=at_T37 HR0.out x16_2 p105 q105
                   cases e105
                   replace hx105_0:=(HB.out.cell (World.block_lt_of_cell? w _ hx105_0)).trans hx105_0
                   replace hx105_1:=(HB.out.cell (World.block_lt_of_cell? w _ hx105_1)).trans hx105_1
                   replace p105:=eq_true p105
                   replace q105:=eq_true q105
                   go_wp2_with (first | ((with_reducible refine gate_dst (N:=5) rfl ?_);(try (refine u2k (by rfl) ?_;dsimp only));refine box_event ?hg (N:=5) ?hd (cs:=#[.string (⟨#[]⟩:ByteArray),.string (⟨#[]⟩:ByteArray)]) (t:=37) ?hr ?_;(case hd => rfl);(case hg => rfl);(case hr => first | (go_simp;done) | (go_simp;rfl));intro gb106 hg w25 hbox hb;have n0_:=Aside0.mk (u1i (by repeat (first | (with_reducible first | exact HB.out | apply uf | apply ud | apply ul) | exact HB.out)) hb);have n1_:=Aside0.mk (hbox);have n2_:=Aside0.mk ((by rw [hg];exact (u1n (by repeat (first | (with_reducible first | exact HB.out | apply uf | apply ud | apply ul) | exact HB.out))):w.heap.size ≤ gb106));have n3_:=Aside0.mk ((by rw [hg];exact (u1n (by repeat (first | (with_reducible first | exact HB.out | apply uf | apply ud | apply ul) | exact HB.out))):w.heap.size ≤ gb106));clear HB;have HB:=n0_;have BK106:=n1_;have GW106:=n2_;have GE106:=n3_;clear n0_ n1_ n2_ n3_;clear hb hbox hg;have hcz26_0:w25.cell? ⟨gb106,0,none⟩ = some (.string (⟨#[]⟩:ByteArray)):=(u1f BK106.out 0).trans rfl;have hcz26_1:w25.cell? ⟨gb106,1,none⟩ = some (.string (⟨#[]⟩:ByteArray)):=(u1f BK106.out 1).trans rfl;have hfz26_0:=u1a BK106.out 0;have hfz26_1:=u1a BK106.out 1) | ((with_reducible refine u2g (f:=77) rfl ?_);refine goesL_ (some 22) rfl rfl Tryd.func77 (by kernel_rfl) rfl #[.string ((u1m l0 x16_2).f0)] rfl (by (try simp only [List.map_toArray,List.map_cons,List.map_nil]);first | done | rfl | (simp only [List.length_drop,List.length_take];rfl)) ?_;(with_reducible refine (u1e.calls ((u1m l0 x16_2).f0) true _ A8.out).mono ?_);rintro e w27 ⟨rfl,hb⟩;refine ⟨_,rfl,?_⟩;have n0_:=Aside0.mk (blk_below (g:=gb106) (o:=.cells #[.string ((u1m l0 x16_2).f0),.string ((u1m l0 x16_2).f1)] 37 (0,0)) (by (with_reducible repeat (first | refine u1u ?_ _ | refine u1z ?_ | refine u1v ?_ _));refine blk_put (cs:=#[.string ((u1m l0 x16_2).f0),.string (⟨#[]⟩:ByteArray)]) ?_ 1 _ rfl;(with_reducible repeat (first | refine u1u ?_ _ | refine u1z ?_ | refine u1v ?_ _));refine blk_put (cs:=#[.string (⟨#[]⟩:ByteArray),.string (⟨#[]⟩:ByteArray)]) ?_ 0 _ rfl;(with_reducible repeat (first | refine u1u ?_ _ | refine u1z ?_ | refine u1v ?_ _));exact BK106.out) hb);have n1_:=Aside0.mk (u1i (by repeat (first | (with_reducible first | exact HB.out | apply uf | apply ud | apply ul | refine u1s ?_ GE106.out) | exact HB.out)) hb);clear BK106;clear HB;have BK106:=n0_;have HB:=n1_;clear n0_ n1_;(try clear hb);(try clear hb2);(try clear hk);(try clear hi);have hcz28_0:w27.cell? ⟨gb106,0,none⟩ = some (.string ((u1m l0 x16_2).f0)):=(u1f BK106.out 0).trans rfl;have hcz28_1:w27.cell? ⟨gb106,1,none⟩ = some (.string ((u1m l0 x16_2).f1)):=(u1f BK106.out 1).trans rfl;have hfz28_0:=u1a BK106.out 0;have hfz28_1:=u1a BK106.out 1) | (go_at_call 88;(with_reducible refine (u2b.calls ((u1m l0 x16_2).f1) false _ A10.out).mono ?_);rintro e w29 ⟨rfl,hb⟩;have n0_:=Aside0.mk (blk_below (g:=gb106) (o:=.cells #[.string ((u1m l0 x16_2).f0),.string ((u1m l0 x16_2).f1)] 37 (0,0)) (by (with_reducible repeat (first | refine u1u ?_ _ | refine u1z ?_ | refine u1v ?_ _));exact BK106.out) hb);have n1_:=Aside0.mk (u1i (by repeat (first | (with_reducible first | exact HB.out | apply uf | apply ud | apply ul | refine u1s ?_ GE106.out) | exact HB.out)) hb);clear BK106;clear HB;have BK106:=n0_;have HB:=n1_;clear n0_ n1_;(try clear hb);(try clear hb2);(try clear hk);(try clear hi)))
                   go_ret
                   exact ⟨by first | rfl | (simp [u2f,u2e] <;> rfl) | (simp [*,u2f,u2e] <;> rfl),by repeat (first | (with_reducible first | exact HB.out | apply uf | apply ud | apply ul | refine u1s ?_ GE106.out) | exact HB.out)⟩
               · replace c9:=Bool.eq_false_iff.mpr c9
                 subst c9
                 have H1:(some false) = some r:=by rw [if_neg (show ¬ (false = true) by decide)] at H;exact H
                 clear H
                 have H:=H1
                 clear H1
                 obtain rfl:=Option.some.inj H
                 have p105:0 ≤ (x16_2:Int):=of_decide_eq_true (by first | (with_reducible assumption) | assumption)
                 have q105:x16_2 < (l0.length:Int):=of_decide_eq_true (by first | (with_reducible assumption) | assumption)
                 obtain ⟨ad105,e105,hx105_0,hx105_1⟩:=at_T37 HR0.out x16_2 p105 q105
                 cases e105
                 replace hx105_0:=(HB.out.cell (World.block_lt_of_cell? w _ hx105_0)).trans hx105_0
                 replace hx105_1:=(HB.out.cell (World.block_lt_of_cell? w _ hx105_1)).trans hx105_1
                 replace p105:=eq_true p105
                 replace q105:=eq_true q105
                 go_wp2_with (first | ((with_reducible refine gate_dst (N:=5) rfl ?_);(try (refine u2k (by rfl) ?_;dsimp only));refine box_event ?hg (N:=5) ?hd (cs:=#[.string (⟨#[]⟩:ByteArray),.string (⟨#[]⟩:ByteArray)]) (t:=37) ?hr ?_;(case hd => rfl);(case hg => rfl);(case hr => first | (go_simp;done) | (go_simp;rfl));intro gb106 hg w30 hbox hb;have n0_:=Aside0.mk (u1i (by repeat (first | (with_reducible first | exact HB.out | apply uf | apply ud | apply ul) | exact HB.out)) hb);have n1_:=Aside0.mk (hbox);have n2_:=Aside0.mk ((by rw [hg];exact (u1n (by repeat (first | (with_reducible first | exact HB.out | apply uf | apply ud | apply ul) | exact HB.out))):w.heap.size ≤ gb106));have n3_:=Aside0.mk ((by rw [hg];exact (u1n (by repeat (first | (with_reducible first | exact HB.out | apply uf | apply ud | apply ul) | exact HB.out))):w.heap.size ≤ gb106));clear HB;have HB:=n0_;have BK106:=n1_;have GW106:=n2_;have GE106:=n3_;clear n0_ n1_ n2_ n3_;clear hb hbox hg;have hcz31_0:w30.cell? ⟨gb106,0,none⟩ = some (.string (⟨#[]⟩:ByteArray)):=(u1f BK106.out 0).trans rfl;have hcz31_1:w30.cell? ⟨gb106,1,none⟩ = some (.string (⟨#[]⟩:ByteArray)):=(u1f BK106.out 1).trans rfl;have hfz31_0:=u1a BK106.out 0;have hfz31_1:=u1a BK106.out 1) | ((with_reducible refine u2g (f:=77) rfl ?_);refine goesL_ (some 22) rfl rfl Tryd.func77 (by kernel_rfl) rfl #[.string ((u1m l0 x16_2).f0)] rfl (by (try simp only [List.map_toArray,List.map_cons,List.map_nil]);first | done | rfl | (simp only [List.length_drop,List.length_take];rfl)) ?_;(with_reducible refine (u1e.calls ((u1m l0 x16_2).f0) false _ A8.out).mono ?_);rintro e w32 ⟨rfl,hb⟩;refine ⟨_,rfl,?_⟩;have n0_:=Aside0.mk (blk_below (g:=gb106) (o:=.cells #[.string ((u1m l0 x16_2).f0),.string ((u1m l0 x16_2).f1)] 37 (0,0)) (by (with_reducible repeat (first | refine u1u ?_ _ | refine u1z ?_ | refine u1v ?_ _));refine blk_put (cs:=#[.string ((u1m l0 x16_2).f0),.string (⟨#[]⟩:ByteArray)]) ?_ 1 _ rfl;(with_reducible repeat (first | refine u1u ?_ _ | refine u1z ?_ | refine u1v ?_ _));refine blk_put (cs:=#[.string (⟨#[]⟩:ByteArray),.string (⟨#[]⟩:ByteArray)]) ?_ 0 _ rfl;(with_reducible repeat (first | refine u1u ?_ _ | refine u1z ?_ | refine u1v ?_ _));exact BK106.out) hb);have n1_:=Aside0.mk (u1i (by repeat (first | (with_reducible first | exact HB.out | apply uf | apply ud | apply ul | refine u1s ?_ GE106.out) | exact HB.out)) hb);clear BK106;clear HB;have BK106:=n0_;have HB:=n1_;clear n0_ n1_;(try clear hb);(try clear hb2);(try clear hk);(try clear hi)))
                 go_ret
                 exact ⟨by first | rfl | (simp [u2f,u2e] <;> rfl) | (simp [*,u2f,u2e] <;> rfl),by repeat (first | (with_reducible first | exact HB.out | apply uf | apply ud | apply ul | refine u1s ?_ GE106.out) | exact HB.out)⟩
             · rw [if_neg c7] at H
               exact absurd H (by simp)
           · rw [if_neg c6] at H
             exact absurd H (by simp)
         · rw [if_neg c5] at H
           have c5b0:decide (x16_2 < (l0.length:Int)) = false:=decide_eq_false c5
           clear c5
           obtain rfl:=Option.some.inj H
           go_wp2
           go_ret
           exact ⟨by first | rfl | (simp [u2f,u2e] <;> rfl) | (simp [*,u2f,u2e] <;> rfl),by repeat (first | (with_reducible first | exact HB.out | apply uf | apply ud | apply ul) | exact HB.out)⟩
end Go.Proofs.YtmcpeifhapekoaaDoor.PAll
namespace Go.Proofs.YtmcpeifhapekoaaDoor.Laws
open Go.RowKit Go.Proofs.YtmcpeifhapekoaaDoor.PAll Go.Proofs.YtmcpeifhapekoaaDoorW.PrintWords Go.Proofs.YtmcpeifhapekoaaDoorW.PrintLast
set_option linter.unusedVariables false
set_option linter.unusedSimpArgs false
def okFrom:List UInt8 → List S37 → Bool
 | _,[] => true
 | last,x :: r => Base.nameB x.f0 && Base.valueB x.f1 && Op.bytesLess last x.f0.data.toList && okFrom x.f0.data.toList r
def canB (l:List S37):Bool:=decide (1 ≤ l.length) && decide (l.length ≤ 8) && okFrom [] l
theorem rd_drop (l:List S37) (i:Nat) (x:S37) (r:List S37) (h:l.drop i = x :: r):u1m l (i:Int) = x ∧ i < l.length ∧ l.drop (i + 1) = r:=by
 have hlt:i < l.length:=by
  rcases Nat.lt_or_ge i l.length with h1 | h1
  · exact h1
  · rw [List.drop_eq_nil_of_le h1] at h
    cases h
 rw [List.drop_eq_getElem_cons hlt] at h
 obtain ⟨h1,h2⟩:=List.cons.inj h
 refine ⟨?_,hlt,h2⟩
 rw [← h1]
 simp [u1m,List.getD_eq_getElem?_getD,hlt]
theorem can_l0 (l:List S37) (hl:l.length ≤ 8):∀ (r:List S37) (i:Nat) (last:ByteArray),l.drop i = r →
 Ev (fun k => u1g.l0 k last l (l.length:Int) (i:Int)) (okFrom last.data.toList r):=by
 intro r
 induction r with
 | nil =>
   intro i last h
   have hi:l.length ≤ i:=by
    rcases Nat.lt_or_ge i l.length with h1 | h1
    · rw [List.drop_eq_getElem_cons h1] at h
      cases h
    · exact h1
   refine Ev.step (f:=fun _ => some true) (fun k => ?_) (Ev.now _)
   simp only [u1g.l0]
   rw [if_neg (by omega)]
 | cons x r ih =>
   intro i last h
   obtain ⟨hx,hi,hr⟩:=rd_drop l i x r h
   have hw:wrap64 ((i:Int) + 1) = ((i + 1:Nat):Int):=Base.wrap_nat i (by omega)
   have h1:((i:Int) < (l.length:Int)):=by omega
   have h0:((0:Int) ≤ (i:Int)):=by omega
   cases hn:Base.nameB x.f0 with
   | false =>
     refine Ev.step (f:=fun _ => some false) (fun k => ?_) ?_
     · simp only [u1g.l0]
       rw [if_pos h1,if_pos h0,if_pos h1,hx]
       simp [u1e.f,hn]
     · have:okFrom last.data.toList (x :: r) = false:=by simp [okFrom,hn]
       rw [this]
       exact Ev.now _
   | true =>
     cases hv:Base.valueB x.f1 with
     | false =>
       refine Ev.step (f:=fun _ => some false) (fun k => ?_) ?_
       · simp only [u1g.l0]
         rw [if_pos h1,if_pos h0,if_pos h1,hx]
         simp [u1e.f,u2b.f,hn,hv]
       · have:okFrom last.data.toList (x :: r) = false:=by simp [okFrom,hn,hv]
         rw [this]
         exact Ev.now _
     | true =>
       cases hb:Op.bytesLess last.data.toList x.f0.data.toList with
       | false =>
         refine Ev.step (f:=fun _ => some false) (fun k => ?_) ?_
         · simp only [u1g.l0]
           rw [if_pos h1,if_pos h0,if_pos h1,hx]
           simp [u1e.f,u2b.f,hn,hv,ByteArray.toList_eq,hb]
         · have:okFrom last.data.toList (x :: r) = false:=by simp [okFrom,hn,hv,hb]
           rw [this]
           exact Ev.now _
       | true =>
         have ih2:=ih (i + 1) x.f0 hr
         refine Ev.step (f:=fun k => u1g.l0 k x.f0 l (l.length:Int) ((i + 1:Nat):Int)) (fun k => ?_) ?_
         · simp only [u1g.l0]
           rw [if_pos h1,if_pos h0,if_pos h1,hx,hw]
           simp [u1e.f,u2b.f,hn,hv,ByteArray.toList_eq,hb]
         · have:okFrom last.data.toList (x :: r) = okFrom x.f0.data.toList r:=by simp [okFrom,hn,hv,hb]
           rw [this]
           exact ih2
theorem can_ev (l:List S37):Ev (fun k => u1g.f k l) (canB l):=by
 by_cases h0:l.length = 0
 · have hc:canB l = false:=by simp [canB,h0]
   rw [hc]
   refine Ev.congr (f:=fun k => u1g.j0 k l true) (fun k => ?_) ?_
   · simp only [u1g.f]
     rw [if_pos (by omega)]
   · refine Ev.step (f:=fun _ => some false) (fun k => ?_) (Ev.now _)
     simp only [u1g.j0]
     simp
 · refine Ev.congr (f:=fun k => u1g.j0 k l (decide ((l.length:Int) > 8))) (fun k => ?_) ?_
   · simp only [u1g.f]
     rw [if_neg (by omega)]
   · by_cases h8:l.length ≤ 8
     · have hc:canB l = okFrom [] l:=by
        have h1:1 ≤ l.length:=by omega
        simp [canB,h1,h8]
       rw [hc]
       refine Ev.step (f:=fun k => u1g.l0 k (⟨#[]⟩:ByteArray) l (l.length:Int) 0) (fun k => ?_) (can_l0 l h8 l 0 ⟨#[]⟩ rfl)
       simp only [u1g.j0]
       rw [if_neg (by simp;omega)]
     · have hc:canB l = false:=by simp [canB,h8]
       rw [hc]
       refine Ev.step (f:=fun _ => some false) (fun k => ?_) (Ev.now _)
       simp only [u1g.j0]
       rw [if_pos (by simp;omega)]
theorem byte_is (c:UInt8):((c.toNat:Int) = 34 ↔ c = 34) ∧ ((c.toNat:Int) = 92 ↔ c = 92):=by
 refine ⟨⟨fun e => UInt8.toNat_inj.1 (by simpa using (by omega:c.toNat = 34)),fun e => by rw [e];rfl⟩,⟨fun e => UInt8.toNat_inj.1 (by simpa using (by omega:c.toNat = 92)),fun e => by rw [e];rfl⟩⟩
end Go.Proofs.YtmcpeifhapekoaaDoor.Laws
namespace Go.Proofs.YtmcpeifhapekoaaDoor.Tx
open Go.RowKit Go.Proofs.YtmcpeifhapekoaaDoor.PAll Go.Proofs.YtmcpeifhapekoaaDoorW.PrintWords Go.Proofs.YtmcpeifhapekoaaDoorW.PrintLast
open Go.Proofs.YtmcpeifhapekoaaDoor.Laws (okFrom canB)
set_option linter.unusedVariables false
set_option linter.unusedSimpArgs false
def okN (l:List Lb):Bool:=l.all fun x => Base.nameB x.f0
theorem less_iff (a b:List UInt8):Op.bytesLess a b = true ↔ a < b:=by rw [Go.Proofs.bytesLess_eq];exact decide_eq_true_iff
theorem less_tr {a b c:List UInt8} (h1:Op.bytesLess a b = true) (h2:Op.bytesLess b c = true):Op.bytesLess a c = true:=by
 rw [less_iff] at *
 exact List.lt_trans h1 h2
theorem ok_above:∀ (l:List Lb) (last:List UInt8),okFrom last l = true → ∀ x ∈ l,Op.bytesLess last x.f0.data.toList = true
 | y :: l,last,h,x,hx => by
   unfold okFrom at h
   rw [Bool.and_eq_true,Bool.and_eq_true] at h
   rcases List.mem_cons.1 hx with rfl | hx
   · exact h.1.2
   · exact less_tr h.1.2 (ok_above l _ h.2 x hx)
theorem ok_nodup:∀ (l:List Lb) (last:List UInt8),okFrom last l = true → (l.map (·.f0)).Nodup
 | [],last,h => List.nodup_nil
 | y :: l,last,h => by
   unfold okFrom at h
   rw [Bool.and_eq_true] at h
   rw [List.map_cons,List.nodup_cons]
   refine ⟨fun hm => ?_,ok_nodup l _ h.2⟩
   obtain ⟨x,hx,e⟩:=List.mem_map.1 hm
   have:=ok_above l _ h.2 x hx
   rw [e,Base.less_irrefl] at this
   cases this
theorem can_names {l:List Lb} (h:canB l = true):l.length ≤ 8 ∧ okN l = true ∧ (l.map (·.f0)).Nodup:=by
 unfold canB at h
 rw [Bool.and_eq_true,Bool.and_eq_true] at h
 refine ⟨of_decide_eq_true h.1.2,?_,ok_nodup _ _ h.2⟩
 have:∀ (l:List Lb) (last:List UInt8),okFrom last l = true → okN l = true:=fun l => by
  induction l with
  | nil => exact fun _ _ => rfl
  | cons y l ih =>
    intro last h
    unfold okFrom at h
    rw [Bool.and_eq_true,Bool.and_eq_true,Bool.and_eq_true] at h
    unfold okN
    rw [List.all_cons,h.1.1.1,Bool.true_and]
    exact ih _ h.2
 exact this _ _ h.2
end Go.Proofs.YtmcpeifhapekoaaDoor.Tx
namespace Go.Proofs.YtmcpeifhapekoaaDoor.Tx
open Go.RowKit Go.Proofs.YtmcpeifhapekoaaDoor.PAll Go.Proofs.YtmcpeifhapekoaaDoorW.PrintWords Go.Proofs.YtmcpeifhapekoaaDoorW.PrintLast
open Go.Proofs.YtmcpeifhapekoaaDoor.Laws (okFrom canB)
theorem awake_read:readP canB [117,112,123,106,111,98,61,34,120,34,125,32,48,120,49,102,32,55] 0 = (some ⟨[⟨metric,Base.ofL [117,112]⟩,⟨Base.ofL [106,111,98],Base.ofL [120]⟩],7,31⟩,me0,0):=by kernel_rfl
end Go.Proofs.YtmcpeifhapekoaaDoor.Tx
namespace Go.Proofs.YtmcpeifhapekoaaDoor.Tx
open Go.RowKit Go.Proofs.YtmcpeifhapekoaaDoor.PAll Go.Proofs.YtmcpeifhapekoaaDoorW.PrintWords Go.Proofs.YtmcpeifhapekoaaDoorW.PrintLast
open Go.Proofs.YtmcpeifhapekoaaDoor.Laws (okFrom canB)
set_option linter.unusedVariables false
set_option linter.unusedSimpArgs false
def pieceQ (x:Lb):B8:=x.f0.data.toList ++ 61 :: Base.quoteL x.f1.data.toList
theorem less_or {a b:ByteArray} (h:¬ less a b = true) (hne:b ≠ a):less b a = true:=by
 have h0:Op.bytesLess a.data.toList b.data.toList = false:=by simpa [less] using h
 have h1:=Base.less_or a.data.toList b.data.toList
 rw [h0,Bool.false_or] at h1
 cases h2:Op.bytesLess b.data.toList a.data.toList with
 | true => exact h2
 | false =>
   rw [h2] at h1
   simp at h1
   exact absurd (Base.ext_data (by rw [h1])).symm hne
def bracesL:List Lb → B8
 | [] => []
 | x :: l => 123 :: (pieceQ x ++ l.flatMap (fun x => 44 :: pieceQ x)) ++ [125]
theorem quote_len (b:B8):(Base.quoteL b).length ≤ 2 * b.length + 2:=by
 unfold Base.quoteL
 have:(b.flatMap Base.quoteByte).length ≤ 2 * b.length:=by
  induction b with
  | nil => simp
  | cons x b ih =>
    rw [List.flatMap_cons,List.length_append,List.length_cons,show Base.quoteByte x = if x = 34 ∨ x = 92 then [92,x] else [x] from rfl]
    split
    · simp only [List.length_cons,List.length_nil]
      omega
    · simp only [List.length_cons,List.length_nil]
      omega
 simp only [List.length_cons,List.length_append,List.length_nil]
 omega
theorem name_len {s:ByteArray} (h:Base.nameB s = true):1 ≤ s.data.toList.length ∧ s.data.toList.length ≤ 24:=by
 unfold Base.nameB at h
 simp only [Bool.and_eq_true,decide_eq_true_eq] at h
 rw [u1q]
 exact ⟨h.1.1.1,h.1.1.2⟩
theorem value_len {s:ByteArray} (h:Base.valueB s = true):s.data.toList.length ≤ 40:=by
 unfold Base.valueB at h
 simp only [Bool.and_eq_true,decide_eq_true_eq] at h
 rw [u1q]
 exact h.2
theorem piece_len {x:Lb} (h0:Base.nameB x.f0 = true) (h1:Base.valueB x.f1 = true):(pieceQ x).length ≤ 107:=by
 have a:=(name_len h0).2
 have b:=value_len h1
 have c:=quote_len x.f1.data.toList
 unfold pieceQ
 rw [List.length_append,List.length_cons]
 omega
theorem braces_len (l:List Lb) (h:∀ x ∈ l,Base.nameB x.f0 = true ∧ Base.valueB x.f1 = true):(bracesL l).length ≤ 108 * l.length + 1:=by
 cases l with
 | nil => simp [bracesL]
 | cons x l =>
   have hx:=h x (List.mem_cons_self ..)
   have h1:=piece_len hx.1 hx.2
   have h2:(l.flatMap fun x => 44 :: pieceQ x).length ≤ 108 * l.length:=by
    have hl:∀ y ∈ l,Base.nameB y.f0 = true ∧ Base.valueB y.f1 = true:=fun y hy => h y (List.mem_cons_of_mem _ hy)
    clear h hx h1
    induction l with
    | nil => simp
    | cons y l ih =>
      have hy:=hl y (List.mem_cons_self ..)
      have:=piece_len hy.1 hy.2
      have:=ih (fun z hz => hl z (List.mem_cons_of_mem _ hz))
      rw [List.flatMap_cons,List.length_append,List.length_cons,List.length_cons]
      omega
   simp only [bracesL,List.length_append,List.length_cons,List.length_nil]
   omega
theorem part_cut (s t:B8) (h:s.contains 10 = false):partL (s ++ 10 :: t) = s ∧ restL (s ++ 10 :: t) = t:=by
 unfold partL restL
 induction s with
 | nil => simp
 | cons c s ih =>
   rw [List.contains_cons,Bool.or_eq_false_iff] at h
   obtain ⟨h1,h2⟩:=ih h.2
   have hc:(c != 10) = true:=by
    have:=h.1
    simp at this
    simpa using fun e:c = 10 => this e.symm
   simp only [List.cons_append,List.takeWhile_cons,List.dropWhile_cons,hc,if_true,h1,h2,and_self]
def stepsP (can:List Lb → Bool) (now:Int):Int → List Rw → List Me → List B8 → List Rw × List Me × Int × Int
 | _,rows,book,[] => (rows,book,0,0)
 | line,rows,book,s :: ls =>
   let x:=readP can s now
   let e:=if x.1.isSome = true ∧ rows.length = 10000 then 4 else x.2.2
   if e ≠ 0 then ([],[],e,line) else stepsP can now (line + 1) (rows ++ x.1.toList) (if x.2.1.1 = Base.ofL [] then book else noteP x.2.1 (helpW.isPrefixOf s) book) ls
theorem parse_lines (can:List Lb → Bool) (now:Int):∀ (ls:List B8) (n:Nat) (line:Int) (rows:List Rw) (book:List Me),(∀ s ∈ ls,s.contains 10 = false) → ls.length < n →
 parseP can now n line rows book (ls.flatMap fun s => s ++ [10]) = stepsP can now line rows book ls
 | [],n + 1,line,rows,book,_,_ => by simp [parseP,stepsP]
 | [],0,line,rows,book,_,h => by simp at h
 | s :: ls,0,line,rows,book,_,h => by simp at h
 | s :: ls,n + 1,line,rows,book,hs,hn => by
   have e:(s :: ls).flatMap (fun s => s ++ [10]) = s ++ 10 :: ls.flatMap (fun s => s ++ [10]):=by simp
   obtain ⟨h1,h2⟩:=part_cut s (ls.flatMap fun s => s ++ [10]) (hs s (List.mem_cons_self ..))
   have ih:=fun line rows book => parse_lines can now ls n line rows book (fun t ht => hs t (List.mem_cons_of_mem _ ht)) (by rw [List.length_cons] at hn;omega)
   rw [e]
   unfold parseP stepsP
   rw [if_neg (by simp),h1,h2]
   simp only [ih]
def badP (can:List Lb → Bool) (now:Int):Int → List B8 → Int
 | _,[] => 0
 | i,s :: ls => if (readP can s now).2.2 ≠ 0 then i else badP can now (i + 1) ls
def wantP (can:List Lb → Bool) (now:Int) (ls:List B8):List Rw:=ls.flatMap fun s => (readP can s now).1.toList
theorem bad_ge (can:List Lb → Bool) (now:Int):∀ (ls:List B8) (i:Int),1 ≤ i → badP can now i ls = 0 ∨ i ≤ badP can now i ls
 | [],i,_ => Or.inl rfl
 | s :: ls,i,h => by
   unfold badP
   split
   · exact Or.inr (Int.le_refl _)
   · rcases bad_ge can now ls (i + 1) (by omega) with h1 | h1
     · exact Or.inl h1
     · exact Or.inr (by omega)
theorem steps_parts (can:List Lb → Bool) (now:Int):∀ (ls:List B8) (i:Int) (rows:List Rw) (book:List Me),1 ≤ i → rows.length + ls.length ≤ 10000 →
 (badP can now i ls = 0 → ∃ book',stepsP can now i rows book ls = (rows ++ wantP can now ls,book',0,0)) ∧ (badP can now i ls ≠ 0 → ∃ e,e ≠ 0 ∧ stepsP can now i rows book ls = ([],[],e,badP can now i ls))
 | [],i,rows,book,_,_ => ⟨fun _ => ⟨book,by simp [stepsP,wantP]⟩,fun h => absurd rfl h⟩
 | s :: ls,i,rows,book,hi,hn => by
   rw [List.length_cons] at hn
   unfold badP stepsP
   simp only
   rw [if_neg (show ¬ ((readP can s now).1.isSome = true ∧ rows.length = 10000) from fun h => by omega)]
   by_cases hb:(readP can s now).2.2 ≠ 0
   · rw [if_pos hb,if_pos hb]
     exact ⟨fun h => absurd h (by omega),fun _ => ⟨_,hb,rfl⟩⟩
   · rw [if_neg hb,if_neg hb]
     have hl:(rows ++ (readP can s now).1.toList).length + ls.length ≤ 10000:=by
      rw [List.length_append]
      cases (readP can s now).1 <;> simp <;> omega
     obtain ⟨g1,g2⟩:=steps_parts can now ls (i + 1) (rows ++ (readP can s now).1.toList) (if (readP can s now).2.1.1 = Base.ofL [] then book else noteP (readP can s now).2.1 (helpW.isPrefixOf s) book) (by omega) hl
     refine ⟨fun h => ?_,g2⟩
     obtain ⟨book',e⟩:=g1 h
     refine ⟨book',e.trans ?_⟩
     simp [wantP]
end Go.Proofs.YtmcpeifhapekoaaDoor.Tx
namespace Go.Proofs.YtmcpeifhapekoaaDoor.Laws
open Go.RowKit Go.Proofs.YtmcpeifhapekoaaDoor.PAll Go.Proofs.YtmcpeifhapekoaaDoorW.PrintWords Go.Proofs.YtmcpeifhapekoaaDoorW.PrintLast
set_option linter.unusedVariables false
set_option linter.unusedSimpArgs false
theorem wrap_up (i:Nat) (h:i < 9223372036854775807):wrap64 ((i:Int) + 1) = ((i + 1:Nat):Int):=by
 unfold wrap64
 omega
theorem at_byte (s:ByteArray) (i:Nat) (c:UInt8) (r:List UInt8) (h:s.data.toList.drop i = c :: r):i < s.size ∧ bt s (i:Int) = (c.toNat:Int) ∧ s.data.toList.drop (i + 1) = r:=by
 have hlt:i < s.data.toList.length:=by
  rcases Nat.lt_or_ge i s.data.toList.length with h1 | h1
  · exact h1
  · rw [List.drop_eq_nil_of_le h1] at h
    cases h
 have hs:s.size = s.data.toList.length:=Base.size_list s
 rw [List.drop_eq_getElem_cons hlt] at h
 obtain ⟨h1,h2⟩:=List.cons.inj h
 refine ⟨by omega,?_,h2⟩
 rw [Base.bt_list s i (by omega),List.getD_eq_getElem?_getD,List.getElem?_eq_getElem hlt,h1]
 rfl
theorem no_byte (s:ByteArray) (i:Nat) (h:s.data.toList.drop i = []):s.size ≤ i:=by
 have hs:s.size = s.data.toList.length:=Base.size_list s
 have:=List.drop_eq_nil_iff.1 h
 omega
def letterI (c:Int):Bool:=(decide (97 ≤ c) && decide (c ≤ 122)) || (decide (65 ≤ c) && decide (c ≤ 90)) || decide (c = 95)
theorem letter_fin:∀ n:Fin 256,Base.letterB (n.val:Int) = letterI (n.val:Int):=by decide +kernel
theorem letter_is (c:UInt8):Base.letterB (c.toNat:Int) = letterI (c.toNat:Int):=letter_fin ⟨c.toNat,c.toNat_lt⟩
theorem name_step (k:Nat) (s:ByteArray) (i:Nat) (hi:i < s.size) (hs:s.size ≤ 9223372036854775807) :
 u1h.l0 (k + 1) s (i:Int) = if letterI (bt s i) = true then u1h.l0 k s ((i + 1:Nat):Int) else if i = 0 then some false else
  if Base.digitB (bt s i) = true then u1h.l0 k s ((i + 1:Nat):Int) else some false:=by
 have hw:=wrap_up i (by omega)
 simp only [u1h.l0]
 rw [if_pos (by omega),if_pos (by omega),hw]
 generalize bt s (i:Int) = c
 have e0:((i:Int) = 0) = (i = 0):=by simp
 simp only [e0]
 unfold letterI Base.digitB
 by_cases h1:97 ≤ c <;> by_cases h2:c ≤ 122 <;> by_cases h3:65 ≤ c <;> by_cases h4:c ≤ 90 <;> by_cases h5:c = 95 <;> first | (exfalso;omega) | skip
 all_goals by_cases h6:48 ≤ c <;> by_cases h7:c ≤ 57 <;> first | (exfalso;omega) | skip
 all_goals simp [h1,h2,h3,h4,h5,h6,h7]
 all_goals rw [if_neg (show ¬ c < 48 by omega),if_neg (show ¬ 57 < c by omega)]
theorem name_l0 (s:ByteArray) (hs:s.size ≤ 9223372036854775807):∀ (r:List UInt8) (i:Nat),1 ≤ i → s.data.toList.drop i = r →
 Ev (fun k => u1h.l0 k s (i:Int)) (r.all (fun c => Base.letterB (c.toNat:Int) || Base.digitB (c.toNat:Int)) && (decide (1 ≤ s.size) && decide (s.size ≤ 24))):=by
 intro r
 induction r with
 | nil =>
   intro i hi h
   have h1:=no_byte s i h
   refine Ev.step (f:=fun _ => some (decide (1 ≤ s.size) && decide (s.size ≤ 24))) (fun k => ?_) (by simpa using Ev.now _)
   simp only [u1h.l0]
   rw [if_neg (by omega)]
   by_cases h2:1 ≤ s.size
   · rw [if_pos (by omega)]
     simp [h2]
     omega
   · rw [if_neg (by omega)]
     simp [h2]
 | cons c r ih =>
   intro i hi h
   obtain ⟨hlt,hbt,hr⟩:=at_byte s i c r h
   have ih2:=ih (i + 1) (by omega) hr
   cases hl:Base.letterB (c.toNat:Int) with
   | true =>
     have e:(c :: r).all (fun c => Base.letterB (c.toNat:Int) || Base.digitB (c.toNat:Int)) = r.all (fun c => Base.letterB (c.toNat:Int) || Base.digitB (c.toNat:Int)):=by rw [List.all_cons,hl];rfl
     rw [e]
     refine Ev.step (fun k => ?_) ih2
     rw [name_step k s i hlt hs,hbt,← letter_is,if_pos hl]
   | false =>
     cases hd:Base.digitB (c.toNat:Int) with
     | true =>
       have e:(c :: r).all (fun c => Base.letterB (c.toNat:Int) || Base.digitB (c.toNat:Int)) = r.all (fun c => Base.letterB (c.toNat:Int) || Base.digitB (c.toNat:Int)):=by rw [List.all_cons,hl,hd];rfl
       rw [e]
       refine Ev.step (fun k => ?_) ih2
       rw [name_step k s i hlt hs,hbt,← letter_is,if_neg (by rw [hl];simp),if_neg (by omega),if_pos hd]
     | false =>
       have e:(c :: r).all (fun c => Base.letterB (c.toNat:Int) || Base.digitB (c.toNat:Int)) = false:=by rw [List.all_cons,hl,hd];rfl
       rw [e]
       refine Ev.step (f:=fun _ => some false) (fun k => ?_) (Ev.now _)
       rw [name_step k s i hlt hs,hbt,← letter_is,if_neg (by rw [hl];simp),if_neg (by omega),if_neg (by rw [hd];simp)]
theorem all_bytes (s:ByteArray) (p:Int → Bool):(bytesOf s).all p = s.data.toList.all (fun c => p (c.toNat:Int)):=by
 rw [bytesOf,List.all_map]
 rfl
theorem rname_ev (s:ByteArray) (hs:s.size ≤ 9223372036854775807):Ev (fun k => u1h.f k s) (Base.nameB s):=by
 refine Ev.congr (f:=fun k => u1h.l0 k s ((0:Nat):Int)) (fun k => rfl) ?_
 have hz:=Base.size_list s
 cases hd:s.data.toList with
 | nil =>
   have h0:s.size = 0:=by rw [hz,hd];rfl
   have e:Base.nameB s = false:=by simp [Base.nameB,h0]
   rw [e]
   refine Ev.step (f:=fun _ => some false) (fun k => ?_) (Ev.now _)
   simp only [u1h.l0]
   rw [if_neg (by omega),if_neg (by omega)]
 | cons c r =>
   obtain ⟨hlt,hbt,hr⟩:=at_byte s 0 c r (by rw [hd];rfl)
   have ih:=name_l0 s hs r 1 (Nat.le_refl _) (by rw [hd];rfl)
   have hb:(bytesOf s).headD 0 = (c.toNat:Int):=by rw [bytesOf,hd];rfl
   have e:Base.nameB s = (Base.letterB (c.toNat:Int) && (r.all (fun c => Base.letterB (c.toNat:Int) || Base.digitB (c.toNat:Int)) && (decide (1 ≤ s.size) && decide (s.size ≤ 24)))):=by
    rw [Base.nameB,all_bytes,hb,hd,List.all_cons]
    have h1:decide (0 < s.size) = decide (1 ≤ s.size):=rfl
    rw [h1]
    cases Base.letterB (c.toNat:Int) <;> cases decide (1 ≤ s.size) <;> cases decide (s.size ≤ 24) <;> simp
   rw [e]
   cases hl:Base.letterB (c.toNat:Int) with
   | true =>
     rw [Bool.true_and]
     refine Ev.step (fun k => ?_) ih
     rw [name_step k s 0 hlt hs,hbt,← letter_is,if_pos hl]
   | false =>
     rw [Bool.false_and]
     refine Ev.step (f:=fun _ => some false) (fun k => ?_) (Ev.now _)
     rw [name_step k s 0 hlt hs,hbt,← letter_is,if_neg (by rw [hl];simp),if_pos rfl]
theorem plain_is (r:Int):(!(decide (r < 32) || decide (r = 127) || decide (r = 65533))) = Base.plainB r:=by
 unfold Base.plainB
 by_cases h:r < 32
 · have:¬ 32 ≤ r:=by omega
   simp [h,this]
 · have:32 ≤ r:=by omega
   simp [h,this]
def nb (c:UInt8):Bool:=Base.letterB (c.toNat:Int) || Base.digitB (c.toNat:Int)
theorem name_of (c:UInt8) (x:ByteArray) (h:x.data.toList = [97,c]):Base.nameB x = nb c:=by
 have hz:=Base.size_list x
 rw [h] at hz
 have h2:x.size = 2:=hz
 have h3:bytesOf x = [97,(c.toNat:Int)]:=by rw [bytesOf,h];rfl
 have h4:Base.letterB 97 = true:=by decide +kernel
 simp [Base.nameB,h2,h3,h4,nb]
theorem take_tw (p:UInt8 → Bool):∀ l:List UInt8,l.take (l.takeWhile p).length = l.takeWhile p:=by
 intro l
 induction l with
 | nil => rfl
 | cons x r ih =>
   rw [List.takeWhile_cons]
   split
   · simp [ih]
   · rfl
theorem word_l0 (s:ByteArray) (hs:s.size ≤ 140737488351232):∀ (r:List UInt8) (i:Nat),s.data.toList.drop i = r → i ≤ s.size →
 Ev (fun k => u2d.l0 k s (i:Int)) (Base.ofL (s.data.toList.take (i + (r.takeWhile nb).length)),Base.ofL (r.dropWhile nb)):=by
 intro r
 induction r with
 | nil =>
   intro i h hi
   have h1:=no_byte s i h
   have h2:i = s.size:=by omega
   have e1:s.extract 0 ((i:Nat):Int).toNat = Base.ofL (s.data.toList.take (i + (([]:List UInt8).takeWhile nb).length)):=Base.ext_data (by rw [Base.extract_list,Base.ofL_data];simp)
   have e2:s.extract ((i:Nat):Int).toNat s.size = Base.ofL (([]:List UInt8).dropWhile nb):=Base.ext_data (by rw [Base.extract_rest,Base.ofL_data];exact h)
   rw [← e1,← e2]
   refine Ev.step (f:=fun _ => some (s.extract 0 ((i:Nat):Int).toNat,s.extract ((i:Nat):Int).toNat s.size)) (fun k => ?_) (Ev.now _)
   simp only [u2d.l0]
   rw [if_neg (by omega),if_pos (by omega),if_pos (by omega)]
 | cons c r ih =>
   intro i h hi
   obtain ⟨hlt,hbt,hr⟩:=at_byte s i c r h
   have hw:=wrap_up i (by omega)
   have hx:(⟨#[97]⟩:ByteArray) ++ s.extract ((i:Nat):Int).toNat ((i + 1:Nat):Int).toNat = Base.ofL [97,c]:=Base.ext_data (by
    rw [Base.append_data,Base.extract_list,Base.ofL_data]
    have:((i + 1:Nat):Int).toNat - ((i:Nat):Int).toNat = 1:=by omega
    rw [this,show ((i:Nat):Int).toNat = i by omega,h]
    rfl)
   have hxs:(s.extract ((i:Nat):Int).toNat ((i + 1:Nat):Int).toNat).size ≤ 1:=by
    rw [ByteArray.size_extract]
    omega
   have hn:=rname_ev (Base.ofL [97,c]) (by rw [Base.size_list,Base.ofL_data];simp)
   rw [name_of c (Base.ofL [97,c]) (Base.ofL_data _)] at hn
   have hstep:∀ k,u2d.l0 (k + 1) s (i:Int) = ((u1h.f k (Base.ofL [97,c])).bind fun t255 => (if t255 = true then (u2d.l0 k s ((i + 1:Nat):Int)) else (some (s.extract 0 (i:Int).toNat,s.extract (i:Int).toNat s.size)))):=by
    intro k
    simp only [u2d.l0]
    rw [hw,if_pos (by omega),if_pos (by omega),if_pos (by omega),if_pos (by omega),if_pos (by omega),hx]
    have:((i:Int) ≤ (s.size:Int)):=by omega
    simp only [this,if_true]
   refine Ev.step hstep (Ev.bind hn ?_)
   cases hb:nb c with
   | true =>
     have ih2:=ih (i + 1) hr (by omega)
     have e1:(c :: r).takeWhile nb = c :: r.takeWhile nb:=by rw [List.takeWhile_cons,if_pos hb]
     have e2:(c :: r).dropWhile nb = r.dropWhile nb:=by rw [List.dropWhile_cons,if_pos hb]
     rw [e1,e2,show i + (c :: r.takeWhile nb).length = i + 1 + (r.takeWhile nb).length by simp;omega]
     exact Ev.congr (fun k => by simp) ih2
   | false =>
     have e1:(c :: r).takeWhile nb = []:=by rw [List.takeWhile_cons,if_neg (by simp [hb])]
     have e2:(c :: r).dropWhile nb = c :: r:=by rw [List.dropWhile_cons,if_neg (by simp [hb])]
     rw [e1,e2]
     have e3:s.extract 0 ((i:Nat):Int).toNat = Base.ofL (s.data.toList.take (i + ([]:List UInt8).length)):=Base.ext_data (by rw [Base.extract_list,Base.ofL_data];simp)
     have e4:s.extract ((i:Nat):Int).toNat s.size = Base.ofL (c :: r):=Base.ext_data (by rw [Base.extract_rest,Base.ofL_data];exact h)
     rw [← e3,← e4]
     exact Ev.congr (fun k => by simp) (Ev.now _)
theorem word_ev (s:ByteArray) (hs:s.size ≤ 140737488351232):Ev (fun k => u2d.f k s) (Base.ofL (s.data.toList.takeWhile nb),Base.ofL (s.data.toList.dropWhile nb)):=by
 have h:=word_l0 s hs s.data.toList 0 rfl (by omega)
 have e:s.data.toList.take (0 + (s.data.toList.takeWhile nb).length) = s.data.toList.takeWhile nb:=by
  rw [Nat.zero_add]
  exact take_tw nb _
 rw [e] at h
 exact h
end Go.Proofs.YtmcpeifhapekoaaDoor.Laws
namespace Go.Proofs.YtmcpeifhapekoaaDoor.Tx
open Go.RowKit Go.Proofs.YtmcpeifhapekoaaDoor.PAll Go.Proofs.YtmcpeifhapekoaaDoorW.PrintWords Go.Proofs.YtmcpeifhapekoaaDoorW.PrintLast
open Go.Proofs.YtmcpeifhapekoaaDoor.Laws (okFrom canB wrap_up at_byte no_byte word_ev)
set_option linter.unusedVariables false
set_option linter.unusedSimpArgs false
theorem sz (s:B8):(Base.ofL s).size = s.length:=(cut_ofL s 0 (by omega)).2.2
def bs (h:Bool):Int:=if h = true then 16 else 10
theorem u64_id (x:Int) (h0:0 ≤ x) (h1:x ≤ 18446744073709551615):IntKind.u64.wrap x = x:=by
 unfold IntKind.wrap
 simp only [IntKind.signed,IntKind.bits,Bool.false_and,Bool.false_eq_true,if_false]
 omega
theorem quo {base d:Int} (hb:base = 10 ∨ base = 16) (h0:0 ≤ d) (h1:d ≤ 15):IntKind.u64.wrap (Int.tdiv (IntKind.u64.wrap (18446744073709551615 - IntKind.u64.wrap d)) base) = (18446744073709551615 - d) / base:=by
 rw [u64_id d h0 (by omega),u64_id (18446744073709551615 - d) (by omega) (by omega),Int.tdiv_eq_ediv_of_nonneg (by omega)]
 rcases hb with rfl | rfl <;> exact u64_id _ (by omega) (by omega)
theorem fits {base d m:Int} (hb:base = 10 ∨ base = 16) (h0:0 ≤ d) (h1:d ≤ 15) (hm:0 ≤ m) (h:m ≤ (18446744073709551615 - d) / base):0 ≤ m * base + d ∧ m * base + d ≤ 18446744073709551615 ∧ IntKind.u64.wrap (IntKind.u64.wrap (m * base) + IntKind.u64.wrap d) = m * base + d:=by
 have e:IntKind.u64.wrap d = d:=u64_id d h0 (by omega)
 rcases hb with rfl | rfl
 · have e2:IntKind.u64.wrap (m * 10) = m * 10:=u64_id _ (by omega) (by omega)
   rw [e,e2]
   exact ⟨by omega,by omega,u64_id _ (by omega) (by omega)⟩
 · have e2:IntKind.u64.wrap (m * 16) = m * 16:=u64_id _ (by omega) (by omega)
   rw [e,e2]
   exact ⟨by omega,by omega,u64_id _ (by omega) (by omega)⟩
theorem dw_len (p:UInt8 → Bool) (s:B8):(s.dropWhile p).length ≤ s.length:=by
 have h1:=congrArg List.length (List.takeWhile_append_dropWhile (p:=p) (l:=s))
 rw [List.length_append] at h1
 omega
def Says (g:Nat → Option (Int × ByteArray × Bool)) (o:Option (Int × B8)):Prop:=match o with
 | some (n,r) => Ev g (n,Base.ofL r,true)
 | none => ∃ (x:Int) (y:B8),y.length ≤ 1000 ∧ Ev g (x,Base.ofL y,false)
theorem Says.congr {g f:Nat → Option (Int × ByteArray × Bool)} {o:Option (Int × B8)} (h:∀ k,g k = f k) (hf:Says f o):Says g o:=by
 have e:g = f:=funext h
 rw [e]
 exact hf
theorem neg_is {n:Int} (h0:0 ≤ n) (h:n ≤ 9223372036854775808):wrap64 (IntKind.u64.wrap (-n)) = -n:=by
 unfold wrap64 IntKind.wrap
 simp only [IntKind.signed,IntKind.bits,Bool.false_and,Bool.false_eq_true,if_false]
 omega
theorem unq_rest:∀ (n:Nat) (l acc a q:B8),l.length ≤ n → Base.unqL l acc = some (a,q) → a.length ≤ acc.length + l.length ∧ q.length < l.length:=by
 intro n
 induction n with
 | zero =>
   intro l acc a q hn h
   cases l with
   | nil => simp [Base.unqL] at h
   | cons x r => simp at hn
 | succ n ih =>
   intro l acc a q hn h
   cases l with
   | nil => simp [Base.unqL] at h
   | cons c r =>
     unfold Base.unqL at h
     by_cases h1:c = 34
     · rw [if_pos h1] at h
       obtain ⟨rfl,rfl⟩:=Prod.mk.inj (Option.some.inj h)
       simp
     · rw [if_neg h1] at h
       by_cases h2:c = 92
       · rw [if_pos h2] at h
         cases r with
         | nil => simp at h
         | cons d q2 =>
           simp only at h
           by_cases h3:d = 34 ∨ d = 92
           · rw [if_pos h3] at h
             have:=ih q2 _ _ _ (by simp at hn;omega) h
             simp at this ⊢
             omega
           · rw [if_neg h3] at h
             cases h
       · rw [if_neg h2] at h
         have:=ih r _ _ _ (by simp at hn;omega) h
         simp at this ⊢
         omega
theorem valueD_rest {h:Bool} {most:Nat} {base:Int} {s:B8} {n:Int} {r:B8} (e:valueD h most base s = some (n,r)):r.length ≤ s.length:=by
 unfold valueD digitsP at e
 split at e
 · simp only [Option.bind_some] at e
   cases hn:numL base (s.takeWhile (digC h)) 0 with
   | none => rw [hn] at e;cases e
   | some m =>
     rw [hn] at e
     obtain ⟨_,rfl⟩:=Prod.mk.inj (Option.some.inj e)
     exact dw_len _ _
 · cases e
def small (y:Lb):Prop:=y.f0.size ≤ 1000 ∧ y.f1.size ≤ 1000
def SaysR (g:Nat → Option (List Lb × Int × Int × Bool)) (o:Option Rw):Prop:=match o with
 | some r => Ev g (r.f0,r.f1,r.f2,true)
 | none => ∃ (a:List Lb) (b c:Int),Ev g (a,b,c,false)
theorem SaysR.congr {g f:Nat → Option (List Lb × Int × Int × Bool)} {o:Option Rw} (h:∀ k,g k = f k) (hf:SaysR f o):SaysR g o:=by
 rw [show g = f from funext h]
 exact hf
theorem SaysR.no {g:Nat → Option (List Lb × Int × Int × Bool)} (h:∀ k,g (k + 1) = some ([],0,0,false)):SaysR g none:=⟨[],0,0,Ev.step (f:=fun _ => some ([],0,0,false)) h (Ev.now _)⟩
theorem SaysR.step {g f:Nat → Option (List Lb × Int × Int × Bool)} {o:Option Rw} (h:∀ k,g (k + 1) = f k) (hf:SaysR f o):SaysR g o:=by
 cases o with
 | some r => exact Ev.step h hf
 | none =>
   obtain ⟨a,b,c,hf⟩:=hf
   exact ⟨a,b,c,Ev.step h hf⟩
theorem SaysR.bind {α:Type} {g:Nat → Option α} {f:Nat → α → Option (List Lb × Int × Int × Bool)} {x:α} {o:Option Rw} (hg:Ev g x) (hf:SaysR (fun k => f k x) o):SaysR (fun k => (g k).bind (f k)) o:=by
 cases o with
 | some r => exact Ev.bind hg hf
 | none =>
   obtain ⟨a,b,c,hf⟩:=hf
   exact ⟨a,b,c,Ev.bind hg hf⟩
def SaysM (g:Nat → Option (ByteArray × ByteArray × ByteArray × Bool)) (o:Option Me):Prop:=match o with
 | some m => Ev g (m.1,m.2.1,m.2.2,true)
 | none => ∃ (a b c:ByteArray),Ev g (a,b,c,false)
theorem SaysM.congr {g f:Nat → Option (ByteArray × ByteArray × ByteArray × Bool)} {o:Option Me} (h:∀ k,g k = f k) (hf:SaysM f o):SaysM g o:=by
 rw [show g = f from funext h]
 exact hf
theorem SaysM.step {g f:Nat → Option (ByteArray × ByteArray × ByteArray × Bool)} {o:Option Me} (h:∀ k,g (k + 1) = f k) (hf:SaysM f o):SaysM g o:=by
 cases o with
 | some r => exact Ev.step h hf
 | none =>
   obtain ⟨a,b,c,hf⟩:=hf
   exact ⟨a,b,c,Ev.step h hf⟩
theorem SaysM.bind {α:Type} {g:Nat → Option α} {f:Nat → α → Option (ByteArray × ByteArray × ByteArray × Bool)} {x:α} {o:Option Me} (hg:Ev g x) (hf:SaysM (fun k => f k x) o):SaysM (fun k => (g k).bind (f k)) o:=by
 cases o with
 | some r => exact Ev.bind hg hf
 | none =>
   obtain ⟨a,b,c,hf⟩:=hf
   exact ⟨a,b,c,Ev.bind hg hf⟩
theorem pre_len {p s:B8} (h:p.isPrefixOf s = true):p.length ≤ s.length:=List.IsPrefix.length_le (List.isPrefixOf_iff_prefix.1 h)
def labO (o:Option Rw):List Lb:=match o with | none => [] | some r => r.f0
def timO (o:Option Rw):Int:=match o with | none => 0 | some r => r.f1
def valO (o:Option Rw):Int:=match o with | none => 0 | some r => r.f2
end Go.Proofs.YtmcpeifhapekoaaDoor.Tx
