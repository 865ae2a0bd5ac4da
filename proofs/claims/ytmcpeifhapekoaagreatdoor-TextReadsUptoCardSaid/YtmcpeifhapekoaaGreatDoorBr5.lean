/- Texts of this seat, joined in the order in which they build. -/
import Derived.Test.YtmcpeifhapekoaaGreatDoorBr3
import Derived.Test.YtmcpeifhapekoaaGreatDoorBr2
import Derived.Test.YtmcpeifhapekoaaGreatDoorBr1
import Derived.Test.YtmcpeifhapekoaaGreatDoorBr4
namespace Go.Proofs.YtmcpeifhapekoaaGreatDoor.PAll
open Go.RowKit Go.Proofs.YtmcpeifhapekoaaGreatDoorW.PrintWords Go.Proofs.YtmcpeifhapekoaaGreatDoorW.PrintLast Go.Proofs.YtmcpeifhapekoaaGreatDoorW.PrintMore
attribute [local go_sem] u3q u3r max_two min_two u3l u3k u3s u3p
set_option linter.unusedVariables false
set_option linter.unusedSimpArgs false
set_option maxRecDepth 100000 in
set_option maxHeartbeats 2000000 in
theorem ux.lite (a0 a1:ByteArray) (r:Bool) (w:World) (h:u2b.f a0 a1 = some r):Calls Tryz.prog 51 #[.string a0,.string a1] w fun e w' => e = .returned (.bool r) ∧ w' = w:=by
 unfold u2b.f at h
 by_cases c3:(a0.size:Int) ≥ (a1.size:Int)
 · rw [if_pos c3,if_pos (by omega),if_pos (by omega)] at h
   have c3b0:decide ((a1.size:Int) ≤ (a0.size:Int)) = true:=decide_eq_true c3
   have c3b1:decide (a1.size ≤ a0.size) = true:=decide_eq_true (Int.ofNat_le.mp c3)
   have c4b0:(0 ≤ (a1.size:Int)) = True:=eq_true (by omega)
   have c5b0:((a1.size:Int) ≤ (a0.size:Int)) = True:=eq_true c3
   obtain rfl:=Option.some.inj h
   clear c3
   go_enter Tryz.func51,Tryz.ntmps51
   go_wp2
   go_ret
   exact ⟨by first | rfl | (simp;done) | (simp [*];done),rfl⟩
 · rw [if_neg c3] at h
   have c3b0:decide ((a1.size:Int) ≤ (a0.size:Int)) = false:=decide_eq_false c3
   have c3b1:decide (a1.size ≤ a0.size) = false:=decide_eq_false (fun h => c3 (Int.ofNat_le.mpr h))
   clear c3
   obtain rfl:=Option.some.inj h
   go_enter Tryz.func51,Tryz.ntmps51
   go_wp2
   go_ret
   exact ⟨by first | rfl | (simp;done) | (simp [*];done),rfl⟩
theorem ux.help_same (s:List UInt8) (w:World):Calls Tryz.prog 20 #[.string (Base.ofL s),.string ⟨#[35,32,72,69,76,80,32]⟩] w fun e w' => e = .returned (.bool (Tx.helpW.isPrefixOf s)) ∧ w' = w:=by
 have h:u1x.f (Base.ofL s) ⟨#[35,32,72,69,76,80,32]⟩ = some (Tx.helpW.isPrefixOf s):=uw.pre_is Tx.helpW s
 unfold u1x.f at h
 have h1:u2b.f (Base.ofL s) ⟨#[35,32,72,69,76,80,32]⟩ = some (Tx.helpW.isPrefixOf s):=by
  cases hh:u2b.f (Base.ofL s) ⟨#[35,32,72,69,76,80,32]⟩ with
  | none => rw [hh] at h;cases h
  | some b => rw [hh] at h;exact h
 have HL:=Aside0.mk (ux.lite _ _ _ w h1)
 clear h h1
 generalize Tx.helpW.isPrefixOf s = r at *
 go_enter Tryz.func20,Tryz.ntmps20
 go_wp2_with (go_at_call 51;(with_reducible refine HL.out.mono ?_);rintro e w' ⟨rfl,rfl⟩)
 go_ret
 exact ⟨rfl,rfl⟩
def ux.me (x:S34):Tx.Me:=(x.f0,x.f1,x.f2)
def ux.un (m:Tx.Me):S34:=⟨m.1,m.2.1,m.2.2⟩
theorem ux.un_me (l:List S34):(l.map ux.me).map ux.un = l:=by
 rw [List.map_map]
 exact List.map_id l
theorem ux.note_is (m:S34) (help:Bool):∀ l:List S34,(ut.noteS m help l).map ux.me = Tx.noteP (ux.me m) help (l.map ux.me)
 | [] => rfl
 | x :: l => by
   unfold ut.noteS
   rw [List.map_cons]
   unfold Tx.noteP
   by_cases h:x.f0 = m.f0
   · rw [if_pos h,if_pos (show (ux.me x).1 = (ux.me m).1 from h),List.map_cons]
     unfold ut.set
     cases help <;> rfl
   · rw [if_neg h,if_neg (show ¬ (ux.me x).1 = (ux.me m).1 from h),List.map_cons,ux.note_is m help l]
theorem ux.note_len (m:S34) (help:Bool):∀ l:List S34,(ut.noteS m help l).length ≤ l.length + 1
 | [] => Nat.le_refl _
 | x :: l => by
   unfold ut.noteS
   have:=ux.note_len m help l
   split
   · simp
   · simp only [List.length_cons]
     omega
theorem ux.read_cases (can:List Tx.Lb → Bool) (s:List UInt8) (now:Int):(∃ c,Tx.readP can s now = (none,Tx.me0,c) ∧ c ≠ 0) ∨ (∃ r,Tx.readP can s now = (some r,Tx.me0,0)) ∨ ∃ m:Tx.Me,Tx.readP can s now = (none,m,0) ∧ m.1.size ≤ 1000:=by
 unfold Tx.readP
 by_cases h1:s.length > 1000
 · rw [if_pos h1]
   exact Or.inl ⟨4,rfl,by decide⟩
 · rw [if_neg h1]
   split
   · exact Or.inl ⟨280,rfl,by decide⟩
   · split
     · rename_i t hx
       cases hm:Tx.remarkP (35 :: t) with
       | none => exact Or.inl ⟨280,rfl,by decide⟩
       | some m =>
         refine Or.inr (Or.inr ⟨m,rfl,?_⟩)
         unfold Tx.remarkP at hm
         split at hm
         · unfold Tx.nameP at hm
           split at hm
           · simp only [Option.bind_some] at hm
             have hsz:(Base.ofL (((35 :: t).drop 7).takeWhile Tx.wordC)).size ≤ 1000:=by
              have a1:=(Tx.cut_ofL (((35 :: t).drop 7).takeWhile Tx.wordC) 0 (by omega)).2.2
              have a2:=Tx.tw_le Tx.wordC ((35 :: t).drop 7)
              rw [List.length_drop] at a2
              omega
             cases he:Tx.expectP [32] (((35 :: t).drop 7).dropWhile Tx.wordC) with
             | none => rw [he] at hm;cases hm
             | some r =>
               rw [he] at hm
               simp only [Option.bind_some] at hm
               split at hm
               · split at hm
                 · cases Option.some.inj hm
                   exact hsz
                 · cases hm
               · split at hm
                 · cases Option.some.inj hm
                   exact hsz
                 · cases hm
           · cases hm
         · cases Option.some.inj hm
           decide
     · split
       · exact Or.inr (Or.inr ⟨Tx.me0,rfl,by decide⟩)
       · cases Tx.sampleP can s now with
         | none => exact Or.inl ⟨280,rfl,by decide⟩
         | some r => exact Or.inr (Or.inl ⟨r,rfl⟩)
structure ux.In (w0 W:World) (gf gb:Nat) (vr:Value) (rows:List S53) (L:List S34):Prop where
 below:Below w0.heap.size w0 W
 fb:w0.heap.size ≤ gf
 fault:W.heap[gf]? = some (.cells #[.int .i64 0,.int .i64 0] 28 (0,0))
 rows:Kd.R k53 53 W w0.heap.size (fun _ => True) vr rows
 book:ut.Bk w0 W gb L
theorem ux.own_below {W W':World} {P:Program} {k:TypeId} {R:Value → Option (DataW Unit × List MemPlace)} {b n:Nat} {D:DataW Unit} (h:W.ownsMap P k R b n D) (hb:Below W.heap.size W W'):W'.ownsMap P k R b n D:=by
 have hlt:=h.lt
 obtain ⟨es,clock,h1,F,hs,hD⟩:=h
 exact ⟨es,clock,(hb.block b hlt).trans h1,F,hs,hD⟩
theorem ux.bk_more {w0 W W':World} {gb:Nat} {L:List S34} (h:ut.Bk w0 W gb L) (hb:Below W.heap.size W W'):ut.Bk w0 W' gb L:=by
 obtain ⟨h0,v,bm,D,h1,h2,h3,h4,h5⟩:=h
 exact ⟨h0,v,bm,D,ua.below_at hb h1,ux.own_below h2 hb,h3,Kd.R_below h4 hb,h5⟩
theorem ux.In.more {w0 W W':World} {gf gb:Nat} {vr:Value} {rows:List S53} {L:List S34} (h:ux.In w0 W gf gb vr rows L) (hb:Below W.heap.size W W'):ux.In w0 W' gf gb vr rows L :=
 ⟨u3n h.below h.below.size hb,h.fb,ua.below_at hb h.fault,Kd.R_below h.rows hb,ux.bk_more h.book hb⟩
def ux.Out (w0:World) (X:List Tx.Rw × List Tx.Me × Int × Int) (e:Ending) (W':World):Prop:=∃ v1 v2:Value,e = .returned (.tuple #[v1,v2,.agg #[.int .i64 X.2.2.1,.int .i64 X.2.2.2]]) ∧ Kd.R k53 53 W' w0.heap.size (fun _ => True) v1 X.1 ∧ Kd.R k34 34 W' w0.heap.size (fun _ => True) v2 (X.2.1.map ux.un) ∧ Below w0.heap.size w0 W'
theorem ux.noted {w0 W W':World} {gf gb:Nat} {vr:Value} {rows:List S53} {L L':List S34} (h:ux.In w0 W gf gb vr rows L) (hbk:ut.Bk w0 W' gb L') (hbl:Below w0.heap.size w0 W') (hst:ut.Stay W W'):ux.In w0 W' gf gb vr rows L' :=
 ⟨hbl,h.fb,(hst gf _ _ h.fault (by decide) (by decide)).trans h.fault,Kd.R_mono (Kd.R_step (Kd.R_bound h.rows) (fun k hk _ => by
   obtain ⟨_,_,_,q,hq,cells,hc⟩:=hk
   have hall:∀ q ∈ (53 :: k53.E:List Nat),q ≠ 47 ∧ q ≠ 34:=by decide
   exact hst k q cells hc (hall q hq).1 (hall q hq).2)) (fun _ _ => trivial),hbk⟩
theorem ux.bad (w0 W:World) (gf:Nat) (C line:Int) (X:List Tx.Rw × List Tx.Me × Int × Int) (hX:X = ([],[],C,line)) (hb:Below w0.heap.size w0 W) (hf:w0.heap.size ≤ gf):ux.Out w0 X (.returned (.tuple #[.slice none 0 0,.slice none 0 0,.agg #[.int .i64 C,.int .i64 line]])) ((W.setCell ⟨gf,0,none⟩ (.int .i64 C)).setCell ⟨gf,1,none⟩ (.int .i64 line)):=by
 subst hX
 exact ⟨_,_,rfl,Kd.R_nil _ _ _ _ _,Kd.R_nil _ _ _ _ _,(hb.setCell hf _).setCell hf _⟩
theorem ux.good (w0 W:World) (gf gb:Nat) (rows:List S53) (L:List S34) (X:List Tx.Rw × List Tx.Me × Int × Int) (hX:X = (rows,L.map ux.me,0,0)) (v1 v2:Value) (h:ux.In w0 W gf gb v1 rows L) (h2:Kd.R k34 34 W w0.heap.size (fun _ => True) v2 L):ux.Out w0 X (.returned (.tuple #[v1,v2,.agg #[.int .i64 0,.int .i64 0]])) (((W.setCell ⟨gf,0,none⟩ (.int .i64 0)).setCell ⟨gf,1,none⟩ (.int .i64 0)).drew):=by
 subst hX
 have f1:=blk_set h.fault 0 (.int .i64 0)
 refine ⟨v1,v2,rfl,Kd.R_drew (Kd.R_set (Kd.R_set h.rows h.fault (by decide) 0 _) f1 (by decide) 1 _),?_,below_drew (((h.below.setCell h.fb _).setCell h.fb _))⟩
 show Kd.R k34 34 _ w0.heap.size (fun _ => True) v2 ((L.map ux.me).map ux.un)
 rw [ux.un_me]
 exact Kd.R_drew (Kd.R_set (Kd.R_set h2 h.fault (by decide) 0 _) f1 (by decide) 1 _)
theorem ux.infoR:(Tryz.prog.info? 53).map (fun i => (i.zero,i.size,i.bytes)) = some (some (.agg #[.slice none 0 0,.int .i64 0,.int .u64 0]),3,40):=by kernel_rfl
theorem ux.bk_grown {w0 W W':World} {gb:Nat} {L:List S34} {v:Value} (h:ut.Bk w0 W gb L) (hg:W.grownBy W' v.ownBlock) (hv:∀ k,v.ownBlock = some k → ∃ cells,W.heap[k]? = some (.cells cells 53 (0,0))):ut.Bk w0 W' gb L:=by
 obtain ⟨h0,v2,bm,D,h1,h2,h3,h4,h5⟩:=h
 have far:∀ (k t:Nat) (cells:Array Value),W.heap[k]? = some (.cells cells t (0,0)) → t ≠ 53 → some k ≠ v.ownBlock:=fun k t cells hk ht e => by
  obtain ⟨c,hc⟩:=hv k e.symm
  rw [hk] at hc
  injection hc with hc
  injection hc with _ hc
  exact ht hc
 refine ⟨h0,v2,bm,D,u3b h1 hg (far _ _ _ h1 (by decide)),h2.kept hg (fun e => ?_),h3,Kd.R_over' h4 hv (by decide) hg,h5⟩
 obtain ⟨c,hc⟩:=hv bm e.symm
 obtain ⟨es,clock,hb1,_⟩:=h2
 rw [hb1] at hc
 cases hc
theorem ux.made (w0 W:World) (hb:Below w0.heap.size w0 W):ut.Bk w0 ((W.alloc (.map #[] 0)).alloc (.cells #[.slice none 0 0,.map (some W.heap.size)] 47)) (W.heap.size + 1) []:=by
 refine ⟨by have:=hb.size;omega,.slice none 0 0,W.heap.size,.map [],?_,?_,⟨Maps.isMap_empty,fun i h => absurd h (Nat.not_lt_zero _),fun key _ => rfl⟩,Kd.R_nil _ _ _ _ _,hb.size⟩
 · have:=ua.new_at (W.alloc (.map #[] 0)) (.cells #[.slice none 0 0,.map (some W.heap.size)] 47)
   rw [World.size_alloc] at this
   exact this
 · exact (World.ownsMap_made W _ _ _).alloc _
set_option maxRecDepth 100000 in
set_option maxHeartbeats 4000000 in
theorem ux.walk (can:List Tx.Lb → Bool) (hcan:∀ l:List Tx.Lb,l.length ≤ 10 → ∃ k,u2i.f k l = some (can l)) (w0:World) (A0:Option Addr) (c0:Nat) (xs0:List Int) (now:Int) (hx0:(Kd.int .u8).C w0 A0 xs0.length xs0) (hc0:xs0.length ≤ c0) (hn:xs0.length ≤ 1000000000000) :
 Calls Tryz.prog 7 #[.slice A0 xs0.length c0,.int .i64 now] w0 fun e W' => ux.Out w0 (Tx.parseP can now (xs0.length + 1) 1 [] [] (Lib.bytesOf xs0)) e W':=by
 generalize hX:Tx.parseP can now (xs0.length + 1) 1 [] [] (Lib.bytesOf xs0) = X
 have HX:=Aside0.mk hX
 have HC0:=Aside0.mk hx0
 have HI0:Aside0 (ux.In w0 (((w0.alloc (.cells #[.int .i64 0,.int .i64 0] 28)).alloc (.map #[] 0)).alloc (.cells #[.slice none 0 0,.map (some (w0.heap.size + 1))] 47)) w0.heap.size (w0.heap.size + 1 + 1) (.slice none 0 0) [] []):=by
  have hb:=uc (Below.refl w0.heap.size w0) (.cells #[.int .i64 0,.int .i64 0] 28)
  have hm:=ux.made w0 _ hb
  rw [World.size_alloc] at hm
  exact ⟨⟨uc (uc hb _) _,Nat.le_refl _,ua.new_old (ua.new_old (ua.new_at _ _) _) _,Kd.R_nil _ _ _ _ _,hm⟩⟩
 have hmk:=fun w => run_makeMap (P:=Tryz.prog) 45 w
 clear hX hx0
 go_enter Tryz.func7,Tryz.ntmps7
 go_wp2
 go_loopg [0,7,9] (xs0.length + 1) (fun kq v0 v7 v9 wr => ∃ (A:Option Addr) (c:Nat) (xs:List Int) (rows:List S53) (L:List S34) (line:Nat),v0 = .slice A xs.length c ∧ v9 = .int .i64 (line:Int) ∧ xs.length < kq ∧ xs.length ≤ c ∧ line + xs.length ≤ xs0.length + 1 ∧ L.length ≤ line ∧ rows.length ≤ 10000 ∧ Aside0 ((Kd.int .u8).C w0 A xs.length xs) ∧ Aside0 (Tx.parseP can now kq (line:Int) rows (L.map ux.me) (Lib.bytesOf xs) = X) ∧ Aside0 (ux.In w0 wr w0.heap.size (w0.heap.size + 1 + 1) v7 rows L))
 case atStart => exact ⟨A0,c0,xs0,[],[],1,rfl,rfl,by omega,hc0,by omega,by simp,by simp,HC0,HX,HI0⟩
 case round =>
  clear HX HI0 HC0
  obtain ⟨A,c,xs,rows,L,line,rfl,rfl,hlk,hlc,hln,hL1,hrw,HC,HX,HI⟩:=hrel
  obtain ⟨Ar,cr,er⟩:=Kd.R_slice HI.out.rows
  subst er
  obtain ⟨k1,rfl⟩:∃ k1,gk = k1 + 1:=⟨gk - 1,by omega⟩
  by_cases hxs:xs.length = 0
  · obtain rfl:xs = []:=List.eq_nil_of_length_eq_zero hxs
    have hXe:X = (rows,L.map ux.me,0,0):=by
     rw [← HX.out]
     unfold Tx.parseP
     exact if_pos rfl
    obtain ⟨_,vm,bm,D,hg,_,_,hRm,_⟩:=HI.out.book
    obtain ⟨Am,cm,em⟩:=Kd.R_slice hRm
    subst em
    have HRM:=Aside0.mk hRm
    obtain ⟨g0,g1,g2,g3⟩:=ua.look2 hg
    obtain ⟨z0,z1,z2,z3⟩:=ua.look2 HI.out.fault
    have mixed:Tryz.prog.follows .mixedOrders = true:=by kernel_rfl
    clear hRm hg HX hlk hlc
    go_wp2
    go_region_o
    all_goals go_wp2
    refine bodyPost_ret (v:=.tuple #[.slice Ar rows.length cr,.slice Am L.length cm,.agg #[.int .i64 0,.int .i64 0]]) (by simp [results,Tryz.results7,go_sem,z0,z1]) rfl ?_
    exact ux.good w0 wr _ _ rows L X hXe _ _ HI.out HRM.out
  · have hp:0 < xs.length:=by omega
    have hgt:(xs.length:Int) > 0:=by omega
    have HP:=Aside0.mk hp
    have HLC:=Aside0.mk hlc
    have HN:Aside0 (xs.length ≤ 4611686018427387904):=⟨by omega⟩
    obtain ⟨S,hS⟩:∃ S,Tx.partL (Lib.bytesOf xs) = S:=⟨_,rfl⟩
    have hSl:S.length ≤ xs.length:=by
     have h1:=Tx.tw_le (· != 10) (Lib.bytesOf xs)
     rw [Lib.bytesOf_length] at h1
     rw [← hS]
     exact h1
    have HSS:=Aside0.mk hS
    have HX2:Aside0 ((let x:=Tx.readP can S now;let e:=if x.1.isSome = true ∧ rows.length = 10000 then 4 else x.2.2;if e ≠ 0 then ([],[],e,(line:Int)) else Tx.parseP can now k1 ((line:Int) + 1) (rows ++ x.1.toList) (if x.2.1.1 = Base.ofL [] then L.map ux.me else Tx.noteP x.2.1 (Tx.helpW.isPrefixOf S) (L.map ux.me)) (Tx.restL (Lib.bytesOf xs))) = X):=⟨by
     have h1:=HX.out
     unfold Tx.parseP at h1
     rw [if_neg (fun e => by
      have h2:=congrArg List.length e
      rw [Lib.bytesOf_length] at h2
      exact hxs h2),hS] at h1
     exact h1⟩
    clear HX hS
    have hemp:(Base.ofL []).toList.isEmpty = true:=by rw [ByteArray.toList_eq,Base.ofL_data];rfl
    rcases ux.read_cases can S now with ⟨C,hr,hC⟩ | ⟨r,hr⟩ | ⟨m,hr,hm⟩
    · have HRD:Aside0 (∀ W,Calls Tryz.prog 18 #[.string (Base.ofL S),.int .i64 now] W fun e W' => ∃ v:Value,e = .returned (.tuple #[.agg #[v,.int .i64 0,.int .u64 0,.bool false,.string (Base.ofL []),.string (Base.ofL []),.string (Base.ofL [])],.int .i64 C]) ∧ Kd.R k66 66 W' W.heap.size (fun _ => True) v [] ∧ Below W.heap.size W W'):=⟨fun W => u2t.read_at can hcan W S now (by omega) [] 0 0 C false (Base.ofL []) (Base.ofL []) (Base.ofL []) (by rw [hr];rfl) (by rw [hr];rfl) (by rw [hr];rfl) (by rw [hr];rfl) (by rw [hr];rfl) (by rw [hr])⟩
      have hXe:X = ([],[],C,(line:Int)):=by rw [← HX2.out,hr];simp [hC]
      have hCb:(C == 0) = false:=beq_eq_false_iff_ne.2 hC
      have hCn:(C != 0) = true:=bne_iff_ne.2 hC
      clear HX2 hr
      go_wp2_with (first
       | (go_at_call 17;(with_reducible refine (u3m.cut A c 1 xs _ _ (Kd.C_alloc (Kd.C_below HC.out HI.out.below) _) HLC.out HP.out HN.out ?hs).mono ?_);(case hs => exact (uj (ua.new_at _ _) 0).trans rfl);rintro e W1 ⟨A1,A2,c1,c2,p,q,f,rfl,hpq,hqc,hpl,hql,ep,eq,hb1⟩;have HI1:=Aside0.mk (HI.out.more (u1h (uc (Below.refl _ _) _) hb1));have HQ:=Aside0.mk (hpq _ HC.out).2;have hcv:=Kd.C_string Tryz.underlying22 Tryz.underlying5 Tryz.underlying9 (hpq _ (Kd.C_below HC.out HI1.out.below)).1 (c:=c1);rw [show strOfNums p = Base.ofL S from (by rw [← HSS.out,← ep];rfl)] at hcv;clear hpq hb1 ep)
       | (go_at_call 18;(with_reducible refine (HRD.out _).mono ?_);rintro e W2 ⟨v,rfl,hr2,hb2⟩;have HI2:=Aside0.mk (HI1.out.more hb2);obtain ⟨Al,cl,el⟩:=Kd.R_slice hr2;subst el;have HR2:=Aside0.mk hr2;clear hr2 hb2;obtain ⟨z0,z1,z2,z3⟩:=ua.look2 (ua.new_old HI2.out.fault (.cells #[.slice Al 0 cl,.int .i64 0,.int .u64 0,.bool false,.string (Base.ofL []),.string (Base.ofL []),.string (Base.ofL [])] 55))))
      refine bodyPost_ret (v:=.tuple #[.slice none 0 0,.slice none 0 0,.agg #[.int .i64 C,.int .i64 (line:Int)]]) (by simp [results,Tryz.results7,go_sem,z0,z1]) rfl ?_
      exact ux.bad w0 _ _ C line X hXe (uc HI2.out.below _) (Nat.le_refl _)
    · have HRD:Aside0 (∀ W,Calls Tryz.prog 18 #[.string (Base.ofL S),.int .i64 now] W fun e W' => ∃ v:Value,e = .returned (.tuple #[.agg #[v,.int .i64 r.f1,.int .u64 r.f2,.bool true,.string (Base.ofL []),.string (Base.ofL []),.string (Base.ofL [])],.int .i64 0]) ∧ Kd.R k66 66 W' W.heap.size (fun _ => True) v r.f0 ∧ Below W.heap.size W W'):=⟨fun W => u2t.read_at can hcan W S now (by omega) r.f0 r.f1 r.f2 0 true (Base.ofL []) (Base.ofL []) (Base.ofL []) (by rw [hr];rfl) (by rw [hr];rfl) (by rw [hr];rfl) (by rw [hr];rfl) (by rw [hr];rfl) (by rw [hr])⟩
      by_cases h10:rows.length = 10000
      · have hXe:X = ([],[],4,(line:Int)):=by rw [← HX2.out,hr];simp [h10]
        have hf:((rows.length:Int) == 10000) = true:=beq_iff_eq.2 (by omega)
        clear HX2 hr
        go_wp2_with (first
         | (go_at_call 17;(with_reducible refine (u3m.cut A c 1 xs _ _ (Kd.C_alloc (Kd.C_below HC.out HI.out.below) _) HLC.out HP.out HN.out ?hs).mono ?_);(case hs => exact (uj (ua.new_at _ _) 0).trans rfl);rintro e W1 ⟨A1,A2,c1,c2,p,q,f,rfl,hpq,hqc,hpl,hql,ep,eq,hb1⟩;have HI1:=Aside0.mk (HI.out.more (u1h (uc (Below.refl _ _) _) hb1));have HQ:=Aside0.mk (hpq _ HC.out).2;have hcv:=Kd.C_string Tryz.underlying22 Tryz.underlying5 Tryz.underlying9 (hpq _ (Kd.C_below HC.out HI1.out.below)).1 (c:=c1);rw [show strOfNums p = Base.ofL S from (by rw [← HSS.out,← ep];rfl)] at hcv;clear hpq hb1 ep)
         | (go_at_call 18;(with_reducible refine (HRD.out _).mono ?_);rintro e W2 ⟨v,rfl,hr2,hb2⟩;have HI2:=Aside0.mk (HI1.out.more hb2);obtain ⟨Al,cl,el⟩:=Kd.R_slice hr2;subst el;have HR2:=Aside0.mk hr2;clear hr2 hb2;obtain ⟨z0,z1,z2,z3⟩:=ua.look2 (ua.new_old HI2.out.fault (.cells #[.slice Al r.f0.length cl,.int .i64 r.f1,.int .u64 r.f2,.bool true,.string (Base.ofL []),.string (Base.ofL []),.string (Base.ofL [])] 55))))
        refine bodyPost_ret (v:=.tuple #[.slice none 0 0,.slice none 0 0,.agg #[.int .i64 4,.int .i64 (line:Int)]]) (by simp [results,Tryz.results7,go_sem,z0,z1]) rfl ?_
        exact ux.bad w0 _ _ 4 line X hXe (uc HI2.out.below _) (Nat.le_refl _)
      · have hXe:Aside0 (Tx.parseP can now k1 ((line:Int) + 1) (rows ++ [r]) (L.map ux.me) (Tx.restL (Lib.bytesOf xs)) = X):=⟨by rw [← HX2.out,hr];simp [h10,Tx.me0]⟩
        have hf:((rows.length:Int) == 10000) = false:=beq_eq_false_iff_ne.2 (by omega)
        clear HX2 hr
        go_wp2_with (first
         | (go_at_call 17;(with_reducible refine (u3m.cut A c 1 xs _ _ (Kd.C_alloc (Kd.C_below HC.out HI.out.below) _) HLC.out HP.out HN.out ?hs).mono ?_);(case hs => exact (uj (ua.new_at _ _) 0).trans rfl);rintro e W1 ⟨A1,A2,c1,c2,p,q,f,rfl,hpq,hqc,hpl,hql,ep,eq,hb1⟩;have HI1:=Aside0.mk (HI.out.more (u1h (uc (Below.refl _ _) _) hb1));have HQ:=Aside0.mk (hpq _ HC.out).2;have hcv:=Kd.C_string Tryz.underlying22 Tryz.underlying5 Tryz.underlying9 (hpq _ (Kd.C_below HC.out HI1.out.below)).1 (c:=c1);rw [show strOfNums p = Base.ofL S from (by rw [← HSS.out,← ep];rfl)] at hcv;clear hpq hb1 ep)
         | (go_at_call 18;(with_reducible refine (HRD.out _).mono ?_);rintro e W2 ⟨v,rfl,hr2,hb2⟩;have HI2:=Aside0.mk (HI1.out.more hb2);obtain ⟨Al,cl,el⟩:=Kd.R_slice hr2;subst el;have HR2:=Aside0.mk hr2;clear hr2 hb2;obtain ⟨z0,z1,z2,z3⟩:=ua.look2 (ua.new_old HI2.out.fault (.cells #[.slice Al r.f0.length cl,.int .i64 r.f1,.int .u64 r.f2,.bool true,.string (Base.ofL []),.string (Base.ofL []),.string (Base.ofL [])] 55)))
         | ((with_reducible refine gate_builtin (b:=.append) (xs:=#[.tmp 54,.tmp 57]) rfl ?_);at_builtin;go_loud (refine Kd.R_append k53 (w0:=w0) (W:=W2.alloc (.cells #[.slice Al r.f0.length cl,.int .i64 r.f1,.int .u64 r.f2,.bool true,.string (Base.ofL []),.string (Base.ofL []),.string (Base.ofL [])] 55)) w0.heap.size rfl (.tmp 54) (.tmp 57) 24 53 (.agg #[.slice none 0 0,.int .i64 0,.int .u64 0]) 40 rfl Tryz.underlying24 ux.infoR rfl (by decide) (by decide) _ rows r [.slice Al r.f0.length cl,.int .i64 r.f1,.int .u64 r.f2] (fun _ => True) (fun k => W1.heap.size ≤ k) rfl (by rw [World.size_alloc];rfl) ?hM ?hok (fun _ _ => trivial) (Kd.R_alloc HI2.out.rows _) (uc HI2.out.below _) ?hbs ?hbig ?_;(case hM => exact k53_mkM _ _ _ r (Kd.R_lower (Kd.R_mono (Kd.R_bound (Kd.R_alloc HR2.out _)) (fun k hk => hk.2.1)) HI1.out.below.size));(case hok => intro k hk;refine ⟨trivial,fun e => ?_⟩;have h1:=Kd.R_lt HI1.out.rows k e.symm;omega);(case hbs => have h1:=HI2.out.below.size;rw [World.size_alloc];omega);(case hbig => omega);intro v8 w8 ho hb hg8 hat;have HR8:=Aside0.mk ho;have HB8:=Aside0.mk hb;have HG8:=Aside0.mk hg8;obtain ⟨⟨q0,q1,q2,q3,q4,q5,q6⟩,fq⟩:=ul.look7 (u3b (ua.new_at W2 (.cells #[.slice Al r.f0.length cl,.int .i64 r.f1,.int .u64 r.f2,.bool true,.string (Base.ofL []),.string (Base.ofL []),.string (Base.ofL [])] 55)) hg8 (Kd.R_ne (Kd.R_alloc HI2.out.rows (.cells #[.slice Al r.f0.length cl,.int .i64 r.f1,.int .u64 r.f2,.bool true,.string (Base.ofL []),.string (Base.ofL []),.string (Base.ofL [])] 55)) (ua.new_at W2 (.cells #[.slice Al r.f0.length cl,.int .i64 r.f1,.int .u64 r.f2,.bool true,.string (Base.ofL []),.string (Base.ofL []),.string (Base.ofL [])] 55)) (show (53:Nat) ≠ 55 by decide)));clear ho hb hg8 hat)))
        have HI8:Aside0 (ux.In w0 w8 w0.heap.size (w0.heap.size + 1 + 1) v8 (rows ++ [r]) L):=⟨by
         have hA:=HI2.out.more (uc (Below.refl W2.heap.size W2) (.cells #[.slice Al r.f0.length cl,.int .i64 r.f1,.int .u64 r.f2,.bool true,.string (Base.ofL []),.string (Base.ofL []),.string (Base.ofL [])] 55))
         exact ⟨HB8.out,Nat.le_refl _,u3b hA.fault HG8.out (Kd.R_ne hA.rows hA.fault (by decide)),HR8.out,ux.bk_grown hA.book HG8.out (Kd.R_typed hA.rows)⟩⟩
        have hll:rows.length < 10000:=by omega
        go_roundg k1
        case rel => exact ⟨A2,c2,q,rows ++ [r],L,line + 1,rfl,by go_num,by omega,hqc,by omega,by omega,by simp;omega,HQ,⟨by rw [eq];exact hXe.out⟩,HI8⟩
        case measure => omega
    · have HRD:Aside0 (∀ W,Calls Tryz.prog 18 #[.string (Base.ofL S),.int .i64 now] W fun e W' => ∃ v:Value,e = .returned (.tuple #[.agg #[v,.int .i64 0,.int .u64 0,.bool false,.string m.1,.string m.2.1,.string m.2.2],.int .i64 0]) ∧ Kd.R k66 66 W' W.heap.size (fun _ => True) v [] ∧ Below W.heap.size W W'):=⟨fun W => u2t.read_at can hcan W S now (by omega) [] 0 0 0 false m.1 m.2.1 m.2.2 (by rw [hr];rfl) (by rw [hr];rfl) (by rw [hr];rfl) (by rw [hr];rfl) (by rw [hr]) (by rw [hr])⟩
      by_cases hm1:m.1 = Base.ofL []
      · have hXe:Aside0 (Tx.parseP can now k1 ((line:Int) + 1) rows (L.map ux.me) (Tx.restL (Lib.bytesOf xs)) = X):=⟨by rw [← HX2.out,hr];simp [hm1]⟩
        have hme:m.1.toList.isEmpty = true:=by rw [hm1];exact hemp
        clear HX2 hr
        go_wp2_with (first
         | (go_at_call 17;(with_reducible refine (u3m.cut A c 1 xs _ _ (Kd.C_alloc (Kd.C_below HC.out HI.out.below) _) HLC.out HP.out HN.out ?hs).mono ?_);(case hs => exact (uj (ua.new_at _ _) 0).trans rfl);rintro e W1 ⟨A1,A2,c1,c2,p,q,f,rfl,hpq,hqc,hpl,hql,ep,eq,hb1⟩;have HI1:=Aside0.mk (HI.out.more (u1h (uc (Below.refl _ _) _) hb1));have HQ:=Aside0.mk (hpq _ HC.out).2;have hcv:=Kd.C_string Tryz.underlying22 Tryz.underlying5 Tryz.underlying9 (hpq _ (Kd.C_below HC.out HI1.out.below)).1 (c:=c1);rw [show strOfNums p = Base.ofL S from (by rw [← HSS.out,← ep];rfl)] at hcv;clear hpq hb1 ep)
         | (go_at_call 18;(with_reducible refine (HRD.out _).mono ?_);rintro e W2 ⟨v,rfl,hr2,hb2⟩;have HI2:=Aside0.mk (HI1.out.more hb2);obtain ⟨Al,cl,el⟩:=Kd.R_slice hr2;subst el;have HR2:=Aside0.mk hr2;clear hr2 hb2;obtain ⟨z0,z1,z2,z3⟩:=ua.look2 (ua.new_old HI2.out.fault (.cells #[.slice Al 0 cl,.int .i64 0,.int .u64 0,.bool false,.string m.1,.string m.2.1,.string m.2.2] 55))))
        go_roundg k1
        case rel => exact ⟨A2,c2,q,rows,L,line + 1,rfl,by go_num,by omega,hqc,by omega,by omega,hrw,HQ,⟨by rw [eq];exact hXe.out⟩,⟨HI2.out.more (uc (Below.refl _ _) _)⟩⟩
        case measure => omega
      · have hXe:Aside0 (Tx.parseP can now k1 ((line:Int) + 1) rows (Tx.noteP m (Tx.helpW.isPrefixOf S) (L.map ux.me)) (Tx.restL (Lib.bytesOf xs)) = X):=⟨by rw [← HX2.out,hr];simp [hm1]⟩
        have hme:m.1.toList.isEmpty = false:=by
         cases h:m.1.toList with
         | nil => exact absurd (Base.ext_data (by rw [Base.ofL_data,← ByteArray.toList_eq];exact h)) hm1
         | cons _ _ => rfl
        clear HX2 hr
        go_wp2_with (first
         | (go_at_call 17;(with_reducible refine (u3m.cut A c 1 xs _ _ (Kd.C_alloc (Kd.C_below HC.out HI.out.below) _) HLC.out HP.out HN.out ?hs).mono ?_);(case hs => exact (uj (ua.new_at _ _) 0).trans rfl);rintro e W1 ⟨A1,A2,c1,c2,p,q,f,rfl,hpq,hqc,hpl,hql,ep,eq,hb1⟩;have HI1:=Aside0.mk (HI.out.more (u1h (uc (Below.refl _ _) _) hb1));have HQ:=Aside0.mk (hpq _ HC.out).2;have hcv:=Kd.C_string Tryz.underlying22 Tryz.underlying5 Tryz.underlying9 (hpq _ (Kd.C_below HC.out HI1.out.below)).1 (c:=c1);rw [show strOfNums p = Base.ofL S from (by rw [← HSS.out,← ep];rfl)] at hcv;clear hpq hb1 ep)
         | (go_at_call 18;(with_reducible refine (HRD.out _).mono ?_);rintro e W2 ⟨v,rfl,hr2,hb2⟩;have HI2:=Aside0.mk (HI1.out.more hb2);obtain ⟨Al,cl,el⟩:=Kd.R_slice hr2;subst el;have HR2:=Aside0.mk hr2;clear hr2 hb2;obtain ⟨z0,z1,z2,z3⟩:=ua.look2 (ua.new_old HI2.out.fault (.cells #[.slice Al 0 cl,.int .i64 0,.int .u64 0,.bool false,.string m.1,.string m.2.1,.string m.2.2] 55))))
        have HI3:=Aside0.mk (HI2.out.more (uc (Below.refl W2.heap.size W2) (.cells #[.slice Al 0 cl,.int .i64 0,.int .u64 0,.bool false,.string m.1,.string m.2.1,.string m.2.2] 55)))
        have HS3:=Aside0.mk (ua.new_at W2 (.cells #[.slice Al 0 cl,.int .i64 0,.int .u64 0,.bool false,.string m.1,.string m.2.1,.string m.2.2] 55))
        obtain ⟨⟨q0,q1,q2,q3,q4,q5,q6⟩,fq⟩:=ul.look7 HS3.out
        clear z0 z1 z2 z3
        generalize W2.alloc (.cells #[.slice Al 0 cl,.int .i64 0,.int .u64 0,.bool false,.string m.1,.string m.2.1,.string m.2.2] 55) = W3 at *
        generalize W2.heap.size = zz at *
        go_still_tail 5,(by kernel_rfl)
        still_call (ux.help_same S _)
        refine wpStill_nil ?_
        change wpList _ _ _ _ _ W3.drew
        have HI4:=Aside0.mk (HI3.out.more (below_drew (Below.refl W3.heap.size W3)))
        have HM:Aside0 ((ux.un m).f0.size ≤ maxLen ∧ L.length ≤ 1000000000000):=⟨by show m.1.size ≤ _;unfold maxLen;omega,by omega⟩
        clear HI3 HS3 q0 q1 q2 q3 q4 q5 q6 fq
        generalize W3.drew = W4 at *
        have HNT:Aside0 (Calls Tryz.prog 19 #[.pointer (some ⟨w0.heap.size + 1 + 1,0,none⟩),.agg #[.string m.1,.string m.2.1,.string m.2.2],.bool (Tx.helpW.isPrefixOf S)] W4 fun e W' => e = .returned (.tuple #[]) ∧ ut.Bk w0 W' (w0.heap.size + 1 + 1) (ut.noteS (ux.un m) (Tx.helpW.isPrefixOf S) L) ∧ Below w0.heap.size w0 W' ∧ ut.Stay W4 W' ∧ W4.heap.size ≤ W'.heap.size):=⟨ut.calls w0 _ (w0.heap.size + 1 + 1) L (ux.un m) (Tx.helpW.isPrefixOf S) HI4.out.book HI4.out.below HM.out.1 HM.out.2⟩
        go_wp2_with (first
         | (go_at_call 19;(with_reducible refine HNT.out.mono ?_);rintro e W5 ⟨rfl,hbk,hbl,hst,hsz⟩;have HI5:=Aside0.mk (ux.noted HI4.out hbk hbl hst);clear hbk hbl hst hsz))
        go_roundg k1
        case rel => exact ⟨A2,c2,q,rows,ut.noteS (ux.un m) (Tx.helpW.isPrefixOf S) L,line + 1,rfl,by go_num,by omega,hqc,by omega,Nat.le_trans (ux.note_len _ _ _) (by omega),hrw,HQ,⟨by rw [eq,ux.note_is];exact hXe.out⟩,HI5⟩
        case measure => omega
def ux.f (a0:List Int) (a1:Int):Option (List S53 × List S34 × Int × Int):=if a0.length ≤ 1000000000000 then some ((Tx.parseP Laws.canB a1 (a0.length + 1) 1 [] [] (Lib.bytesOf a0)).1,(Tx.parseP Laws.canB a1 (a0.length + 1) 1 [] [] (Lib.bytesOf a0)).2.1.map ux.un,(Tx.parseP Laws.canB a1 (a0.length + 1) 1 [] [] (Lib.bytesOf a0)).2.2.1,(Tx.parseP Laws.canB a1 (a0.length + 1) 1 [] [] (Lib.bytesOf a0)).2.2.2) else none
theorem ux.calls (A0:Option Addr) (c0:Nat) (l0:List Int) (a1:Int) (r1:List S53) (r2:List S34) (r3 r4:Int) (w:World) (hr0:Kd.C (Kd.int .u8) w A0 l0.length l0) (hc0:l0.length ≤ c0) (h:ux.f l0 a1 = some (r1,r2,r3,r4)) :
 Calls Tryz.prog 7 #[.slice A0 l0.length c0,.int .i64 a1] w fun e w' => ∃ v0_ v1_:Value,e = .returned (.tuple #[v0_,v1_,.agg #[.int .i64 r3,.int .i64 r4]]) ∧ Kd.R k53 53 w' w.heap.size (fun _ => True) v0_ r1 ∧ Kd.R k34 34 w' w.heap.size (fun _ => True) v1_ r2 ∧ Below w.heap.size w w':=by
 unfold ux.f at h
 split at h
 · rename_i hm
   cases Option.some.inj h
   exact ux.walk Laws.canB (fun l _ => (Laws.can_ev l).rounds) w A0 c0 l0 a1 hr0 hc0 hm
 · cases h
def u2r.f  : Option (Bool):=(u2t.f (⟨#[117,112,123,106,111,98,61,34,120,34,125,32,48,120,49,102,32,55]⟩:ByteArray) 0).bind fun bt255 => (if bt255.2.2.2.1 = true then (if bt255.2.2.2.2.1 = 0 then (if bt255.2.2.1 = 31 then (if bt255.2.1 = 7 then (some ((bt255.1.length:Int) == 2)) else (some false)) else (some false)) else (some false)) else (some false))
set_option maxHeartbeats 8000000 in
set_option maxRecDepth 100000 in
theorem u2r.calls  (r:Bool) (w:World) (h:u2r.f  = some r) :
 Calls Tryz.prog 12 #[] w fun e w' => e = .returned (.bool r) ∧ Below w.heap.size w w':=by
 have hu53:=Tryz.underlying53
 have hu28:=Tryz.underlying28
 have HB:=Aside0.mk (Below.refl w.heap.size w)
 have H:((u2t.f (⟨#[117,112,123,106,111,98,61,34,120,34,125,32,48,120,49,102,32,55]⟩:ByteArray) 0).bind fun bt255 => (if bt255.2.2.2.1 = true then (if bt255.2.2.2.2.1 = 0 then (if bt255.2.2.1 = 31 then (if bt255.2.1 = 7 then (some ((bt255.1.length:Int) == 2)) else (some false)) else (some false)) else (some false)) else (some false))) = some r:=h
 clear h
 replace H:=Option.bind_eq_some_iff.mp H
 obtain ⟨⟨t255,t258,t259,t260,t261,t262⟩,A10,H⟩:=H
 replace H:(if t260 = true then (if t261 = 0 then (if t259 = 31 then (if t258 = 7 then (some ((t255.length:Int) == 2)) else (some false)) else (some false)) else (some false)) else (some false)) = some r:=H
 have A1:=Aside0.mk A10
 clear A10
 by_cases c2:t260 = true
 · subst c2
   have H1:(if t261 = 0 then (if t259 = 31 then (if t258 = 7 then (some ((t255.length:Int) == 2)) else (some false)) else (some false)) else (some false)) = some r:=by rw [if_pos rfl] at H;exact H
   clear H
   have H:=H1
   clear H1
   by_cases c3:t261 = 0
   · rw [if_pos c3] at H
     have c3b0:(t261 == 0) = true:=beq_iff_eq.mpr c3
     have c3b1:(t261 != 0) = false:=bne_eq_false_iff_eq.mpr c3
     clear c3
     by_cases c4:t259 = 31
     · rw [if_pos c4] at H
       have c4b0:(t259 == 31) = true:=beq_iff_eq.mpr c4
       have c4b1:(t259 != 31) = false:=bne_eq_false_iff_eq.mpr c4
       clear c4
       by_cases c5:t258 = 7
       · rw [if_pos c5] at H
         have c5b0:(t258 == 7) = true:=beq_iff_eq.mpr c5
         have c5b1:(t258 != 7) = false:=bne_eq_false_iff_eq.mpr c5
         clear c5
         obtain rfl:=Option.some.inj H
         go_enter Tryz.func12,Tryz.ntmps12
         go_wp2_with (first | ((with_reducible refine u1u (f:=27) rfl ?_);refine u3e (some 5) rfl rfl Tryz.func27 (by kernel_rfl) rfl #[.string (⟨#[117,112,123,106,111,98,61,34,120,34,125,32,48,120,49,102,32,55]⟩:ByteArray),.int .i64 0] rfl (by (try simp only [List.map_toArray,List.map_cons,List.map_nil]);first | done | rfl | (simp only [List.length_drop,List.length_take];rfl)) ?_;(with_reducible refine (u2t.calls (⟨#[117,112,123,106,111,98,61,34,120,34,125,32,48,120,49,102,32,55]⟩:ByteArray) 0 t255 t258 t259 true t261 t262 _ A1.out).mono ?_);rintro e w6 ⟨v256,rfl,ho0,hb⟩;refine ⟨_,rfl,?_⟩;have n0_:=Aside0.mk (Kd.R_lower ho0 (u1c (by repeat (first | (with_reducible first | exact HB.out | apply uc | apply ub | apply ud) | exact HB.out))));have n1_:=Aside0.mk (u1h (by repeat (first | (with_reducible first | exact HB.out | apply uc | apply ub | apply ud) | exact HB.out)) hb);clear HB;have HO257:=n0_;have HB:=n1_;clear n0_ n1_;(try clear hb);(try clear hb2);(try clear hk);(try clear hi);(try clear ho0)) | ((with_reducible refine u3f (N:=1) rfl ?_);(try (refine u3t (by rfl) ?_;dsimp only));refine u3c ?hg (N:=1) ?hd (cs:=#[.slice none 0 0,.int .i64 0,.int .u64 0]) (t:=53) ?hr ?_;(case hd => rfl);(case hg => rfl);(case hr => first | (go_simp;done) | (go_simp;rfl));intro gb263 hg w7 hbox hb;have n0_:=Aside0.mk (Kd.R_below (by (with_reducible repeat (first | apply Kd.R_alloc | apply Kd.R_drewN | apply Kd.R_drew));exact HO257.out) hb);have n1_:=Aside0.mk (u1h (by repeat (first | (with_reducible first | exact HB.out | apply uc | apply ub | apply ud) | exact HB.out)) hb);have n2_:=Aside0.mk (hbox);have n3_:=Aside0.mk ((by rw [hg];exact (u1c (by repeat (first | (with_reducible first | exact HB.out | apply uc | apply ub | apply ud) | exact HB.out))):w.heap.size ≤ gb263));have n4_:=Aside0.mk ((by rw [hg];exact (u1c (by repeat (first | (with_reducible first | exact HB.out | apply uc | apply ub | apply ud) | exact HB.out))):w.heap.size ≤ gb263));clear HO257;clear HB;have HO257:=n0_;have HB:=n1_;have BK263:=n2_;have GW263:=n3_;have GE263:=n4_;clear n0_ n1_ n2_ n3_ n4_;clear hb hbox hg) | ((with_reducible refine u3f (N:=3) rfl ?_);(try (refine u3t (by rfl) ?_;dsimp only));refine u3c ?hg (N:=3) ?hd (cs:=#[.int .i64 0,.int .i64 0]) (t:=28) ?hr ?_;(case hd => rfl);(case hg => rfl);(case hr => first | (go_simp;done) | (go_simp;rfl));intro gb264 hg w8 hbox hb;have n0_:=Aside0.mk (Kd.R_below (by (with_reducible repeat (first | apply Kd.R_alloc | apply Kd.R_drewN | apply Kd.R_drew));exact HO257.out) hb);have n1_:=Aside0.mk (u2c (g:=gb263) (o:=.cells #[.slice none 0 0,.int .i64 0,.int .u64 0] 53 (0,0)) (by (with_reducible repeat (first | refine ue ?_ _ | refine ug ?_ | refine uf ?_ _));exact BK263.out) hb);have n2_:=Aside0.mk (u1h (by repeat (first | (with_reducible first | exact HB.out | apply uc | apply ub | apply ud | refine ui ?_ GE263.out) | exact HB.out)) hb);have n3_:=Aside0.mk (hbox);have n4_:=Aside0.mk ((by rw [hg];exact (u1c (by repeat (first | (with_reducible first | exact HB.out | apply uc | apply ub | apply ud | refine ui ?_ GE263.out) | exact HB.out))):w.heap.size ≤ gb264));have n5_:=Aside0.mk ((by rw [hg];exact (u1c (by repeat (first | (with_reducible first | exact HB.out | apply uc | apply ub | apply ud | refine ui ?_ GE263.out) | exact HB.out))):w.heap.size ≤ gb264));have n6_:=Aside0.mk ((by rw [hg];exact Nat.ne_of_lt (u3g (g:=gb263) (o:=.cells #[.slice none 0 0,.int .i64 0,.int .u64 0] 53 (0,0)) (by (with_reducible repeat (first | refine ue ?_ _ | refine ug ?_ | refine uf ?_ _));exact BK263.out)):gb263 ≠ gb264));have n7_:=Aside0.mk ((by rw [hg];exact Nat.ne_of_gt (u3g (g:=gb263) (o:=.cells #[.slice none 0 0,.int .i64 0,.int .u64 0] 53 (0,0)) (by (with_reducible repeat (first | refine ue ?_ _ | refine ug ?_ | refine uf ?_ _));exact BK263.out)):gb264 ≠ gb263));clear HO257;clear BK263;clear HB;have HO257:=n0_;have BK263:=n1_;have HB:=n2_;have BK264:=n3_;have GW264:=n4_;have GE264:=n5_;have NB263_264:=n6_;have NB264_263:=n7_;clear n0_ n1_ n2_ n3_ n4_ n5_ n6_ n7_;clear hb hbox hg;obtain ⟨Ao9,co9,eo9⟩:=Kd.R_slice HO257.out;subst eo9;have hnb10:=NB263_264.out;have hnc10:=NB264_263.out;have hcz11_0:w8.cell? ⟨gb263,0,none⟩ = some (.slice none 0 0):=(uj BK263.out 0).trans rfl;have hcz11_1:w8.cell? ⟨gb263,1,none⟩ = some (.int .i64 0):=(uj BK263.out 1).trans rfl;have hcz11_2:w8.cell? ⟨gb263,2,none⟩ = some (.int .u64 0):=(uj BK263.out 2).trans rfl;have hfz11_0:=uk BK263.out 0;have hfz11_1:=uk BK263.out 1;have hfz11_2:=uk BK263.out 2;have hcz12_0:w8.cell? ⟨gb264,0,none⟩ = some (.int .i64 0):=(uj BK264.out 0).trans rfl;have hcz12_1:w8.cell? ⟨gb264,1,none⟩ = some (.int .i64 0):=(uj BK264.out 1).trans rfl;have hfz12_0:=uk BK264.out 0;have hfz12_1:=uk BK264.out 1))
         go_ret
         exact ⟨by first | rfl | (simp [u1k,u1l] <;> rfl) | (simp [*,u1k,u1l] <;> rfl),by repeat (first | (with_reducible first | exact HB.out | apply uc | apply ub | apply ud | refine ui ?_ GE263.out | refine ui ?_ GE264.out) | exact HB.out)⟩
       · rw [if_neg c5] at H
         have c5b0:(t258 == 7) = false:=beq_eq_false_iff_ne.mpr c5
         have c5b1:(t258 != 7) = true:=bne_iff_ne.mpr c5
         obtain rfl:=Option.some.inj H
         go_enter Tryz.func12,Tryz.ntmps12
         go_wp2_with (first | ((with_reducible refine u1u (f:=27) rfl ?_);refine u3e (some 5) rfl rfl Tryz.func27 (by kernel_rfl) rfl #[.string (⟨#[117,112,123,106,111,98,61,34,120,34,125,32,48,120,49,102,32,55]⟩:ByteArray),.int .i64 0] rfl (by (try simp only [List.map_toArray,List.map_cons,List.map_nil]);first | done | rfl | (simp only [List.length_drop,List.length_take];rfl)) ?_;(with_reducible refine (u2t.calls (⟨#[117,112,123,106,111,98,61,34,120,34,125,32,48,120,49,102,32,55]⟩:ByteArray) 0 t255 t258 t259 true t261 t262 _ A1.out).mono ?_);rintro e w13 ⟨v256,rfl,ho0,hb⟩;refine ⟨_,rfl,?_⟩;have n0_:=Aside0.mk (Kd.R_lower ho0 (u1c (by repeat (first | (with_reducible first | exact HB.out | apply uc | apply ub | apply ud) | exact HB.out))));have n1_:=Aside0.mk (u1h (by repeat (first | (with_reducible first | exact HB.out | apply uc | apply ub | apply ud) | exact HB.out)) hb);clear HB;have HO257:=n0_;have HB:=n1_;clear n0_ n1_;(try clear hb);(try clear hb2);(try clear hk);(try clear hi);(try clear ho0)) | ((with_reducible refine u3f (N:=1) rfl ?_);(try (refine u3t (by rfl) ?_;dsimp only));refine u3c ?hg (N:=1) ?hd (cs:=#[.slice none 0 0,.int .i64 0,.int .u64 0]) (t:=53) ?hr ?_;(case hd => rfl);(case hg => rfl);(case hr => first | (go_simp;done) | (go_simp;rfl));intro gb263 hg w14 hbox hb;have n0_:=Aside0.mk (Kd.R_below (by (with_reducible repeat (first | apply Kd.R_alloc | apply Kd.R_drewN | apply Kd.R_drew));exact HO257.out) hb);have n1_:=Aside0.mk (u1h (by repeat (first | (with_reducible first | exact HB.out | apply uc | apply ub | apply ud) | exact HB.out)) hb);have n2_:=Aside0.mk (hbox);have n3_:=Aside0.mk ((by rw [hg];exact (u1c (by repeat (first | (with_reducible first | exact HB.out | apply uc | apply ub | apply ud) | exact HB.out))):w.heap.size ≤ gb263));have n4_:=Aside0.mk ((by rw [hg];exact (u1c (by repeat (first | (with_reducible first | exact HB.out | apply uc | apply ub | apply ud) | exact HB.out))):w.heap.size ≤ gb263));clear HO257;clear HB;have HO257:=n0_;have HB:=n1_;have BK263:=n2_;have GW263:=n3_;have GE263:=n4_;clear n0_ n1_ n2_ n3_ n4_;clear hb hbox hg) | ((with_reducible refine u3f (N:=3) rfl ?_);(try (refine u3t (by rfl) ?_;dsimp only));refine u3c ?hg (N:=3) ?hd (cs:=#[.int .i64 0,.int .i64 0]) (t:=28) ?hr ?_;(case hd => rfl);(case hg => rfl);(case hr => first | (go_simp;done) | (go_simp;rfl));intro gb264 hg w15 hbox hb;have n0_:=Aside0.mk (Kd.R_below (by (with_reducible repeat (first | apply Kd.R_alloc | apply Kd.R_drewN | apply Kd.R_drew));exact HO257.out) hb);have n1_:=Aside0.mk (u2c (g:=gb263) (o:=.cells #[.slice none 0 0,.int .i64 0,.int .u64 0] 53 (0,0)) (by (with_reducible repeat (first | refine ue ?_ _ | refine ug ?_ | refine uf ?_ _));exact BK263.out) hb);have n2_:=Aside0.mk (u1h (by repeat (first | (with_reducible first | exact HB.out | apply uc | apply ub | apply ud | refine ui ?_ GE263.out) | exact HB.out)) hb);have n3_:=Aside0.mk (hbox);have n4_:=Aside0.mk ((by rw [hg];exact (u1c (by repeat (first | (with_reducible first | exact HB.out | apply uc | apply ub | apply ud | refine ui ?_ GE263.out) | exact HB.out))):w.heap.size ≤ gb264));have n5_:=Aside0.mk ((by rw [hg];exact (u1c (by repeat (first | (with_reducible first | exact HB.out | apply uc | apply ub | apply ud | refine ui ?_ GE263.out) | exact HB.out))):w.heap.size ≤ gb264));have n6_:=Aside0.mk ((by rw [hg];exact Nat.ne_of_lt (u3g (g:=gb263) (o:=.cells #[.slice none 0 0,.int .i64 0,.int .u64 0] 53 (0,0)) (by (with_reducible repeat (first | refine ue ?_ _ | refine ug ?_ | refine uf ?_ _));exact BK263.out)):gb263 ≠ gb264));have n7_:=Aside0.mk ((by rw [hg];exact Nat.ne_of_gt (u3g (g:=gb263) (o:=.cells #[.slice none 0 0,.int .i64 0,.int .u64 0] 53 (0,0)) (by (with_reducible repeat (first | refine ue ?_ _ | refine ug ?_ | refine uf ?_ _));exact BK263.out)):gb264 ≠ gb263));clear HO257;clear BK263;clear HB;have HO257:=n0_;have BK263:=n1_;have HB:=n2_;have BK264:=n3_;have GW264:=n4_;have GE264:=n5_;have NB263_264:=n6_;have NB264_263:=n7_;clear n0_ n1_ n2_ n3_ n4_ n5_ n6_ n7_;clear hb hbox hg;obtain ⟨Ao16,co16,eo16⟩:=Kd.R_slice HO257.out;subst eo16;have hnb17:=NB263_264.out;have hnc17:=NB264_263.out;have hcz18_0:w15.cell? ⟨gb263,0,none⟩ = some (.slice none 0 0):=(uj BK263.out 0).trans rfl;have hcz18_1:w15.cell? ⟨gb263,1,none⟩ = some (.int .i64 0):=(uj BK263.out 1).trans rfl;have hcz18_2:w15.cell? ⟨gb263,2,none⟩ = some (.int .u64 0):=(uj BK263.out 2).trans rfl;have hfz18_0:=uk BK263.out 0;have hfz18_1:=uk BK263.out 1;have hfz18_2:=uk BK263.out 2;have hcz19_0:w15.cell? ⟨gb264,0,none⟩ = some (.int .i64 0):=(uj BK264.out 0).trans rfl;have hcz19_1:w15.cell? ⟨gb264,1,none⟩ = some (.int .i64 0):=(uj BK264.out 1).trans rfl;have hfz19_0:=uk BK264.out 0;have hfz19_1:=uk BK264.out 1))
         go_ret
         exact ⟨by first | rfl | (simp [u1k,u1l] <;> rfl) | (simp [*,u1k,u1l] <;> rfl),by repeat (first | (with_reducible first | exact HB.out | apply uc | apply ub | apply ud | refine ui ?_ GE263.out | refine ui ?_ GE264.out) | exact HB.out)⟩
     · rw [if_neg c4] at H
       have c4b0:(t259 == 31) = false:=beq_eq_false_iff_ne.mpr c4
       have c4b1:(t259 != 31) = true:=bne_iff_ne.mpr c4
       obtain rfl:=Option.some.inj H
       go_enter Tryz.func12,Tryz.ntmps12
       go_wp2_with (first | ((with_reducible refine u1u (f:=27) rfl ?_);refine u3e (some 5) rfl rfl Tryz.func27 (by kernel_rfl) rfl #[.string (⟨#[117,112,123,106,111,98,61,34,120,34,125,32,48,120,49,102,32,55]⟩:ByteArray),.int .i64 0] rfl (by (try simp only [List.map_toArray,List.map_cons,List.map_nil]);first | done | rfl | (simp only [List.length_drop,List.length_take];rfl)) ?_;(with_reducible refine (u2t.calls (⟨#[117,112,123,106,111,98,61,34,120,34,125,32,48,120,49,102,32,55]⟩:ByteArray) 0 t255 t258 t259 true t261 t262 _ A1.out).mono ?_);rintro e w20 ⟨v256,rfl,ho0,hb⟩;refine ⟨_,rfl,?_⟩;have n0_:=Aside0.mk (Kd.R_lower ho0 (u1c (by repeat (first | (with_reducible first | exact HB.out | apply uc | apply ub | apply ud) | exact HB.out))));have n1_:=Aside0.mk (u1h (by repeat (first | (with_reducible first | exact HB.out | apply uc | apply ub | apply ud) | exact HB.out)) hb);clear HB;have HO257:=n0_;have HB:=n1_;clear n0_ n1_;(try clear hb);(try clear hb2);(try clear hk);(try clear hi);(try clear ho0)) | ((with_reducible refine u3f (N:=1) rfl ?_);(try (refine u3t (by rfl) ?_;dsimp only));refine u3c ?hg (N:=1) ?hd (cs:=#[.slice none 0 0,.int .i64 0,.int .u64 0]) (t:=53) ?hr ?_;(case hd => rfl);(case hg => rfl);(case hr => first | (go_simp;done) | (go_simp;rfl));intro gb263 hg w21 hbox hb;have n0_:=Aside0.mk (Kd.R_below (by (with_reducible repeat (first | apply Kd.R_alloc | apply Kd.R_drewN | apply Kd.R_drew));exact HO257.out) hb);have n1_:=Aside0.mk (u1h (by repeat (first | (with_reducible first | exact HB.out | apply uc | apply ub | apply ud) | exact HB.out)) hb);have n2_:=Aside0.mk (hbox);have n3_:=Aside0.mk ((by rw [hg];exact (u1c (by repeat (first | (with_reducible first | exact HB.out | apply uc | apply ub | apply ud) | exact HB.out))):w.heap.size ≤ gb263));have n4_:=Aside0.mk ((by rw [hg];exact (u1c (by repeat (first | (with_reducible first | exact HB.out | apply uc | apply ub | apply ud) | exact HB.out))):w.heap.size ≤ gb263));clear HO257;clear HB;have HO257:=n0_;have HB:=n1_;have BK263:=n2_;have GW263:=n3_;have GE263:=n4_;clear n0_ n1_ n2_ n3_ n4_;clear hb hbox hg) | ((with_reducible refine u3f (N:=3) rfl ?_);(try (refine u3t (by rfl) ?_;dsimp only));refine u3c ?hg (N:=3) ?hd (cs:=#[.int .i64 0,.int .i64 0]) (t:=28) ?hr ?_;(case hd => rfl);(case hg => rfl);(case hr => first | (go_simp;done) | (go_simp;rfl));intro gb264 hg w22 hbox hb;have n0_:=Aside0.mk (Kd.R_below (by (with_reducible repeat (first | apply Kd.R_alloc | apply Kd.R_drewN | apply Kd.R_drew));exact HO257.out) hb);have n1_:=Aside0.mk (u2c (g:=gb263) (o:=.cells #[.slice none 0 0,.int .i64 0,.int .u64 0] 53 (0,0)) (by (with_reducible repeat (first | refine ue ?_ _ | refine ug ?_ | refine uf ?_ _));exact BK263.out) hb);have n2_:=Aside0.mk (u1h (by repeat (first | (with_reducible first | exact HB.out | apply uc | apply ub | apply ud | refine ui ?_ GE263.out) | exact HB.out)) hb);have n3_:=Aside0.mk (hbox);have n4_:=Aside0.mk ((by rw [hg];exact (u1c (by repeat (first | (with_reducible first | exact HB.out | apply uc | apply ub | apply ud | refine ui ?_ GE263.out) | exact HB.out))):w.heap.size ≤ gb264));have n5_:=Aside0.mk ((by rw [hg];exact (u1c (by repeat (first | (with_reducible first | exact HB.out | apply uc | apply ub | apply ud | refine ui ?_ GE263.out) | exact HB.out))):w.heap.size ≤ gb264));have n6_:=Aside0.mk ((by rw [hg];exact Nat.ne_of_lt (u3g (g:=gb263) (o:=.cells #[.slice none 0 0,.int .i64 0,.int .u64 0] 53 (0,0)) (by (with_reducible repeat (first | refine ue ?_ _ | refine ug ?_ | refine uf ?_ _));exact BK263.out)):gb263 ≠ gb264));have n7_:=Aside0.mk ((by rw [hg];exact Nat.ne_of_gt (u3g (g:=gb263) (o:=.cells #[.slice none 0 0,.int .i64 0,.int .u64 0] 53 (0,0)) (by (with_reducible repeat (first | refine ue ?_ _ | refine ug ?_ | refine uf ?_ _));exact BK263.out)):gb264 ≠ gb263));clear HO257;clear BK263;clear HB;have HO257:=n0_;have BK263:=n1_;have HB:=n2_;have BK264:=n3_;have GW264:=n4_;have GE264:=n5_;have NB263_264:=n6_;have NB264_263:=n7_;clear n0_ n1_ n2_ n3_ n4_ n5_ n6_ n7_;clear hb hbox hg;obtain ⟨Ao23,co23,eo23⟩:=Kd.R_slice HO257.out;subst eo23;have hnb24:=NB263_264.out;have hnc24:=NB264_263.out;have hcz25_0:w22.cell? ⟨gb263,0,none⟩ = some (.slice none 0 0):=(uj BK263.out 0).trans rfl;have hcz25_1:w22.cell? ⟨gb263,1,none⟩ = some (.int .i64 0):=(uj BK263.out 1).trans rfl;have hcz25_2:w22.cell? ⟨gb263,2,none⟩ = some (.int .u64 0):=(uj BK263.out 2).trans rfl;have hfz25_0:=uk BK263.out 0;have hfz25_1:=uk BK263.out 1;have hfz25_2:=uk BK263.out 2;have hcz26_0:w22.cell? ⟨gb264,0,none⟩ = some (.int .i64 0):=(uj BK264.out 0).trans rfl;have hcz26_1:w22.cell? ⟨gb264,1,none⟩ = some (.int .i64 0):=(uj BK264.out 1).trans rfl;have hfz26_0:=uk BK264.out 0;have hfz26_1:=uk BK264.out 1))
       go_ret
       exact ⟨by first | rfl | (simp [u1k,u1l] <;> rfl) | (simp [*,u1k,u1l] <;> rfl),by repeat (first | (with_reducible first | exact HB.out | apply uc | apply ub | apply ud | refine ui ?_ GE263.out | refine ui ?_ GE264.out) | exact HB.out)⟩
   · rw [if_neg c3] at H
     have c3b0:(t261 == 0) = false:=beq_eq_false_iff_ne.mpr c3
     have c3b1:(t261 != 0) = true:=bne_iff_ne.mpr c3
     obtain rfl:=Option.some.inj H
     go_enter Tryz.func12,Tryz.ntmps12
     go_wp2_with (first | ((with_reducible refine u1u (f:=27) rfl ?_);refine u3e (some 5) rfl rfl Tryz.func27 (by kernel_rfl) rfl #[.string (⟨#[117,112,123,106,111,98,61,34,120,34,125,32,48,120,49,102,32,55]⟩:ByteArray),.int .i64 0] rfl (by (try simp only [List.map_toArray,List.map_cons,List.map_nil]);first | done | rfl | (simp only [List.length_drop,List.length_take];rfl)) ?_;(with_reducible refine (u2t.calls (⟨#[117,112,123,106,111,98,61,34,120,34,125,32,48,120,49,102,32,55]⟩:ByteArray) 0 t255 t258 t259 true t261 t262 _ A1.out).mono ?_);rintro e w27 ⟨v256,rfl,ho0,hb⟩;refine ⟨_,rfl,?_⟩;have n0_:=Aside0.mk (Kd.R_lower ho0 (u1c (by repeat (first | (with_reducible first | exact HB.out | apply uc | apply ub | apply ud) | exact HB.out))));have n1_:=Aside0.mk (u1h (by repeat (first | (with_reducible first | exact HB.out | apply uc | apply ub | apply ud) | exact HB.out)) hb);clear HB;have HO257:=n0_;have HB:=n1_;clear n0_ n1_;(try clear hb);(try clear hb2);(try clear hk);(try clear hi);(try clear ho0)) | ((with_reducible refine u3f (N:=1) rfl ?_);(try (refine u3t (by rfl) ?_;dsimp only));refine u3c ?hg (N:=1) ?hd (cs:=#[.slice none 0 0,.int .i64 0,.int .u64 0]) (t:=53) ?hr ?_;(case hd => rfl);(case hg => rfl);(case hr => first | (go_simp;done) | (go_simp;rfl));intro gb263 hg w28 hbox hb;have n0_:=Aside0.mk (Kd.R_below (by (with_reducible repeat (first | apply Kd.R_alloc | apply Kd.R_drewN | apply Kd.R_drew));exact HO257.out) hb);have n1_:=Aside0.mk (u1h (by repeat (first | (with_reducible first | exact HB.out | apply uc | apply ub | apply ud) | exact HB.out)) hb);have n2_:=Aside0.mk (hbox);have n3_:=Aside0.mk ((by rw [hg];exact (u1c (by repeat (first | (with_reducible first | exact HB.out | apply uc | apply ub | apply ud) | exact HB.out))):w.heap.size ≤ gb263));have n4_:=Aside0.mk ((by rw [hg];exact (u1c (by repeat (first | (with_reducible first | exact HB.out | apply uc | apply ub | apply ud) | exact HB.out))):w.heap.size ≤ gb263));clear HO257;clear HB;have HO257:=n0_;have HB:=n1_;have BK263:=n2_;have GW263:=n3_;have GE263:=n4_;clear n0_ n1_ n2_ n3_ n4_;clear hb hbox hg) | ((with_reducible refine u3f (N:=3) rfl ?_);(try (refine u3t (by rfl) ?_;dsimp only));refine u3c ?hg (N:=3) ?hd (cs:=#[.int .i64 0,.int .i64 0]) (t:=28) ?hr ?_;(case hd => rfl);(case hg => rfl);(case hr => first | (go_simp;done) | (go_simp;rfl));intro gb264 hg w29 hbox hb;have n0_:=Aside0.mk (Kd.R_below (by (with_reducible repeat (first | apply Kd.R_alloc | apply Kd.R_drewN | apply Kd.R_drew));exact HO257.out) hb);have n1_:=Aside0.mk (u2c (g:=gb263) (o:=.cells #[.slice none 0 0,.int .i64 0,.int .u64 0] 53 (0,0)) (by (with_reducible repeat (first | refine ue ?_ _ | refine ug ?_ | refine uf ?_ _));exact BK263.out) hb);have n2_:=Aside0.mk (u1h (by repeat (first | (with_reducible first | exact HB.out | apply uc | apply ub | apply ud | refine ui ?_ GE263.out) | exact HB.out)) hb);have n3_:=Aside0.mk (hbox);have n4_:=Aside0.mk ((by rw [hg];exact (u1c (by repeat (first | (with_reducible first | exact HB.out | apply uc | apply ub | apply ud | refine ui ?_ GE263.out) | exact HB.out))):w.heap.size ≤ gb264));have n5_:=Aside0.mk ((by rw [hg];exact (u1c (by repeat (first | (with_reducible first | exact HB.out | apply uc | apply ub | apply ud | refine ui ?_ GE263.out) | exact HB.out))):w.heap.size ≤ gb264));have n6_:=Aside0.mk ((by rw [hg];exact Nat.ne_of_lt (u3g (g:=gb263) (o:=.cells #[.slice none 0 0,.int .i64 0,.int .u64 0] 53 (0,0)) (by (with_reducible repeat (first | refine ue ?_ _ | refine ug ?_ | refine uf ?_ _));exact BK263.out)):gb263 ≠ gb264));have n7_:=Aside0.mk ((by rw [hg];exact Nat.ne_of_gt (u3g (g:=gb263) (o:=.cells #[.slice none 0 0,.int .i64 0,.int .u64 0] 53 (0,0)) (by (with_reducible repeat (first | refine ue ?_ _ | refine ug ?_ | refine uf ?_ _));exact BK263.out)):gb264 ≠ gb263));clear HO257;clear BK263;clear HB;have HO257:=n0_;have BK263:=n1_;have HB:=n2_;have BK264:=n3_;have GW264:=n4_;have GE264:=n5_;have NB263_264:=n6_;have NB264_263:=n7_;clear n0_ n1_ n2_ n3_ n4_ n5_ n6_ n7_;clear hb hbox hg;obtain ⟨Ao30,co30,eo30⟩:=Kd.R_slice HO257.out;subst eo30;have hnb31:=NB263_264.out;have hnc31:=NB264_263.out;have hcz32_0:w29.cell? ⟨gb263,0,none⟩ = some (.slice none 0 0):=(uj BK263.out 0).trans rfl;have hcz32_1:w29.cell? ⟨gb263,1,none⟩ = some (.int .i64 0):=(uj BK263.out 1).trans rfl;have hcz32_2:w29.cell? ⟨gb263,2,none⟩ = some (.int .u64 0):=(uj BK263.out 2).trans rfl;have hfz32_0:=uk BK263.out 0;have hfz32_1:=uk BK263.out 1;have hfz32_2:=uk BK263.out 2;have hcz33_0:w29.cell? ⟨gb264,0,none⟩ = some (.int .i64 0):=(uj BK264.out 0).trans rfl;have hcz33_1:w29.cell? ⟨gb264,1,none⟩ = some (.int .i64 0):=(uj BK264.out 1).trans rfl;have hfz33_0:=uk BK264.out 0;have hfz33_1:=uk BK264.out 1))
     go_ret
     exact ⟨by first | rfl | (simp [u1k,u1l] <;> rfl) | (simp [*,u1k,u1l] <;> rfl),by repeat (first | (with_reducible first | exact HB.out | apply uc | apply ub | apply ud | refine ui ?_ GE263.out | refine ui ?_ GE264.out) | exact HB.out)⟩
 · replace c2:=Bool.eq_false_iff.mpr c2
   subst c2
   have H1:(some false) = some r:=by rw [if_neg (show ¬ (false = true) by decide)] at H;exact H
   clear H
   have H:=H1
   clear H1
   obtain rfl:=Option.some.inj H
   go_enter Tryz.func12,Tryz.ntmps12
   go_wp2_with (first | ((with_reducible refine u1u (f:=27) rfl ?_);refine u3e (some 5) rfl rfl Tryz.func27 (by kernel_rfl) rfl #[.string (⟨#[117,112,123,106,111,98,61,34,120,34,125,32,48,120,49,102,32,55]⟩:ByteArray),.int .i64 0] rfl (by (try simp only [List.map_toArray,List.map_cons,List.map_nil]);first | done | rfl | (simp only [List.length_drop,List.length_take];rfl)) ?_;(with_reducible refine (u2t.calls (⟨#[117,112,123,106,111,98,61,34,120,34,125,32,48,120,49,102,32,55]⟩:ByteArray) 0 t255 t258 t259 false t261 t262 _ A1.out).mono ?_);rintro e w34 ⟨v256,rfl,ho0,hb⟩;refine ⟨_,rfl,?_⟩;have n0_:=Aside0.mk (Kd.R_lower ho0 (u1c (by repeat (first | (with_reducible first | exact HB.out | apply uc | apply ub | apply ud) | exact HB.out))));have n1_:=Aside0.mk (u1h (by repeat (first | (with_reducible first | exact HB.out | apply uc | apply ub | apply ud) | exact HB.out)) hb);clear HB;have HO257:=n0_;have HB:=n1_;clear n0_ n1_;(try clear hb);(try clear hb2);(try clear hk);(try clear hi);(try clear ho0)) | ((with_reducible refine u3f (N:=1) rfl ?_);(try (refine u3t (by rfl) ?_;dsimp only));refine u3c ?hg (N:=1) ?hd (cs:=#[.slice none 0 0,.int .i64 0,.int .u64 0]) (t:=53) ?hr ?_;(case hd => rfl);(case hg => rfl);(case hr => first | (go_simp;done) | (go_simp;rfl));intro gb263 hg w35 hbox hb;have n0_:=Aside0.mk (Kd.R_below (by (with_reducible repeat (first | apply Kd.R_alloc | apply Kd.R_drewN | apply Kd.R_drew));exact HO257.out) hb);have n1_:=Aside0.mk (u1h (by repeat (first | (with_reducible first | exact HB.out | apply uc | apply ub | apply ud) | exact HB.out)) hb);have n2_:=Aside0.mk (hbox);have n3_:=Aside0.mk ((by rw [hg];exact (u1c (by repeat (first | (with_reducible first | exact HB.out | apply uc | apply ub | apply ud) | exact HB.out))):w.heap.size ≤ gb263));have n4_:=Aside0.mk ((by rw [hg];exact (u1c (by repeat (first | (with_reducible first | exact HB.out | apply uc | apply ub | apply ud) | exact HB.out))):w.heap.size ≤ gb263));clear HO257;clear HB;have HO257:=n0_;have HB:=n1_;have BK263:=n2_;have GW263:=n3_;have GE263:=n4_;clear n0_ n1_ n2_ n3_ n4_;clear hb hbox hg) | ((with_reducible refine u3f (N:=3) rfl ?_);(try (refine u3t (by rfl) ?_;dsimp only));refine u3c ?hg (N:=3) ?hd (cs:=#[.int .i64 0,.int .i64 0]) (t:=28) ?hr ?_;(case hd => rfl);(case hg => rfl);(case hr => first | (go_simp;done) | (go_simp;rfl));intro gb264 hg w36 hbox hb;have n0_:=Aside0.mk (Kd.R_below (by (with_reducible repeat (first | apply Kd.R_alloc | apply Kd.R_drewN | apply Kd.R_drew));exact HO257.out) hb);have n1_:=Aside0.mk (u2c (g:=gb263) (o:=.cells #[.slice none 0 0,.int .i64 0,.int .u64 0] 53 (0,0)) (by (with_reducible repeat (first | refine ue ?_ _ | refine ug ?_ | refine uf ?_ _));exact BK263.out) hb);have n2_:=Aside0.mk (u1h (by repeat (first | (with_reducible first | exact HB.out | apply uc | apply ub | apply ud | refine ui ?_ GE263.out) | exact HB.out)) hb);have n3_:=Aside0.mk (hbox);have n4_:=Aside0.mk ((by rw [hg];exact (u1c (by repeat (first | (with_reducible first | exact HB.out | apply uc | apply ub | apply ud | refine ui ?_ GE263.out) | exact HB.out))):w.heap.size ≤ gb264));have n5_:=Aside0.mk ((by rw [hg];exact (u1c (by repeat (first | (with_reducible first | exact HB.out | apply uc | apply ub | apply ud | refine ui ?_ GE263.out) | exact HB.out))):w.heap.size ≤ gb264));have n6_:=Aside0.mk ((by rw [hg];exact Nat.ne_of_lt (u3g (g:=gb263) (o:=.cells #[.slice none 0 0,.int .i64 0,.int .u64 0] 53 (0,0)) (by (with_reducible repeat (first | refine ue ?_ _ | refine ug ?_ | refine uf ?_ _));exact BK263.out)):gb263 ≠ gb264));have n7_:=Aside0.mk ((by rw [hg];exact Nat.ne_of_gt (u3g (g:=gb263) (o:=.cells #[.slice none 0 0,.int .i64 0,.int .u64 0] 53 (0,0)) (by (with_reducible repeat (first | refine ue ?_ _ | refine ug ?_ | refine uf ?_ _));exact BK263.out)):gb264 ≠ gb263));clear HO257;clear BK263;clear HB;have HO257:=n0_;have BK263:=n1_;have HB:=n2_;have BK264:=n3_;have GW264:=n4_;have GE264:=n5_;have NB263_264:=n6_;have NB264_263:=n7_;clear n0_ n1_ n2_ n3_ n4_ n5_ n6_ n7_;clear hb hbox hg;obtain ⟨Ao37,co37,eo37⟩:=Kd.R_slice HO257.out;subst eo37;have hnb38:=NB263_264.out;have hnc38:=NB264_263.out;have hcz39_0:w36.cell? ⟨gb263,0,none⟩ = some (.slice none 0 0):=(uj BK263.out 0).trans rfl;have hcz39_1:w36.cell? ⟨gb263,1,none⟩ = some (.int .i64 0):=(uj BK263.out 1).trans rfl;have hcz39_2:w36.cell? ⟨gb263,2,none⟩ = some (.int .u64 0):=(uj BK263.out 2).trans rfl;have hfz39_0:=uk BK263.out 0;have hfz39_1:=uk BK263.out 1;have hfz39_2:=uk BK263.out 2;have hcz40_0:w36.cell? ⟨gb264,0,none⟩ = some (.int .i64 0):=(uj BK264.out 0).trans rfl;have hcz40_1:w36.cell? ⟨gb264,1,none⟩ = some (.int .i64 0):=(uj BK264.out 1).trans rfl;have hfz40_0:=uk BK264.out 0;have hfz40_1:=uk BK264.out 1))
   go_ret
   exact ⟨by first | rfl | (simp [u1k,u1l] <;> rfl) | (simp [*,u1k,u1l] <;> rfl),by repeat (first | (with_reducible first | exact HB.out | apply uc | apply ub | apply ud | refine ui ?_ GE263.out | refine ui ?_ GE264.out) | exact HB.out)⟩
def u2h.l0:Nat → Bool → List (S34) → Int → Int → ByteArray → ByteArray → ByteArray → Option ((List (S34)))
 | 0,_,_,_,_,_,_,_ => none
 | k + 1,x2,x7,x13,x14,x237000,x237001,x237002 => if x14 < x13 then (if 0 ≤ x14 then (if x14 < (x7.length:Int) then (if ((u2o x7 x14).f0).toList = x237000.toList then (if x2 = true then (some (x7.set (x14:Int).toNat (⟨(u2o x7 x14).f0,(u2o x7 x14).f1,x237002⟩:S34))) else (some (x7.set (x14:Int).toNat (⟨(u2o x7 x14).f0,x237001,(u2o x7 x14).f2⟩:S34)))) else (u2h.l0 k x2 x7 x13 (wrap64 (x14 + 1)) x237000 x237001 x237002)) else (none)) else (none)) else (if x7.length < 2932031007402 then (some (x7 ++ [(⟨x237000,x237001,x237002⟩:S34)])) else (none))
def u2h.f (k:Nat) (l0:List (S34)) (a1_0:ByteArray) (a1_1:ByteArray) (a1_2:ByteArray) (a2:Bool):Option ((List (S34))):=(some (([]:List (S34)):List (S34))).bind fun y237 => (if y237.length + l0.length < 2932031007402 then ((some (y237 ++ l0:List (S34))).bind fun y240 => (u2h.l0 k a2 y240 (y240.length:Int) 0 a1_0 a1_1 a1_2)) else (none))
set_option maxHeartbeats 8000000 in
set_option maxRecDepth 100000 in
theorem u2h.calls (k:Nat) (A0:Option Addr) (c0:Nat) (l0:List (S34)) (a1_0:ByteArray) (a1_1:ByteArray) (a1_2:ByteArray) (a2:Bool) (r:List (S34)) (w:World) (hr0:Kd.C k34 w A0 l0.length l0) (hc0:l0.length ≤ c0) (h:u2h.f k l0 a1_0 a1_1 a1_2 a2 = some r) :
 Calls Tryz.prog 22 #[.slice A0 l0.length c0,.agg #[.string a1_0,.string a1_1,.string a1_2],.bool a2] w fun e w' => ∃ v0_:Value,e = .returned (v0_) ∧ Kd.R k34 34 w' w.heap.size (fun _ => True) v0_ r ∧ Below w.heap.size w w':=by
 have hu34:=Tryz.underlying34
 have HR0:=Aside0.mk hr0
 have HC0:=Aside0.mk hc0
 clear hr0 hc0
 have HB:=Aside0.mk (Below.refl w.heap.size w)
 have H:((some (([]:List (S34)):List (S34))).bind fun y237 => (if y237.length + l0.length < 2932031007402 then ((some (y237 ++ l0:List (S34))).bind fun y240 => (u2h.l0 k a2 y240 (y240.length:Int) 0 a1_0 a1_1 a1_2)) else (none))) = some r:=h
 clear h
 obtain ⟨y237,hy237⟩:∃ y_:List (S34),y_ = (([]:List (S34))):=⟨_,rfl⟩
 replace H:(if y237.length + l0.length < 2932031007402 then ((some (y237 ++ l0:List (S34))).bind fun y240 => (u2h.l0 k a2 y240 (y240.length:Int) 0 a1_0 a1_1 a1_2)) else (none)) = some r:=by first | (rw [hy237];with_reducible exact H) | (have H2_:=(Option.bind_some _ _).symm.trans H;rw [hy237];with_reducible exact H2_) | (have H2_:=(Option.bind_some _ _).symm.trans H;with_reducible exact H2_) | with_reducible exact H | (rw [hy237];exact H) | exact H
 have Ny237:=Aside0.mk hy237
 clear hy237
 by_cases c4:y237.length + l0.length < 2932031007402
 · rw [if_pos c4] at H
   have LMc4:=Aside0.mk c4
   clear c4
   obtain ⟨y240,hy240⟩:∃ y_:List (S34),y_ = (y237 ++ l0):=⟨_,rfl⟩
   replace H:(u2h.l0 k a2 y240 (y240.length:Int) 0 a1_0 a1_1 a1_2) = some r:=by first | (rw [hy240];with_reducible exact H) | (have H2_:=(Option.bind_some _ _).symm.trans H;rw [hy240];with_reducible exact H2_) | (have H2_:=(Option.bind_some _ _).symm.trans H;with_reducible exact H2_) | with_reducible exact H | (rw [hy240];exact H) | exact H
   have Ny240:=Aside0.mk hy240
   clear hy240
   have H':=Aside0.mk H
   clear H
   go_enter Tryz.func22,Tryz.ntmps22
   go_wp2_with (first | ((with_reducible refine u3f (N:=4) rfl ?_);refine u3c ?hg (N:=4) ?hd (cs:=#[.string a1_0,.string a1_1,.string a1_2]) (t:=34) ?hr ?_;(case hd => rfl);(case hg => rfl);(case hr => first | (go_simp;done) | (go_simp;rfl));intro gb236 hg w5 hbox hb;have n0_:=Aside0.mk (u1h (by repeat (first | (with_reducible first | exact HB.out | apply uc | apply ub | apply ud) | exact HB.out)) hb);have n1_:=Aside0.mk (hbox);have n2_:=Aside0.mk ((by rw [hg];exact (u1c (by repeat (first | (with_reducible first | exact HB.out | apply uc | apply ub | apply ud) | exact HB.out))):w.heap.size ≤ gb236));have n3_:=Aside0.mk ((by rw [hg];exact (u1c (by repeat (first | (with_reducible first | exact HB.out | apply uc | apply ub | apply ud) | exact HB.out))):w.heap.size ≤ gb236));clear HB;have HB:=n0_;have BK236:=n1_;have GW236:=n2_;have GE236:=n3_;clear n0_ n1_ n2_ n3_;clear hb hbox hg) | ((with_reducible refine u3f (N:=9) rfl ?_);refine Kd.R_lit k34 _ 34 ?hg (N:=9) ?hd (xs:=([]:List (S34))) (inner:=[]) (ok:=fun _ => True) (okp:=fun _ => True) ?hr ?hp (fun _ hk => hk) trivial (Below.refl _ _) (Nat.le_refl _) (by simp) ?_;(case hd => rfl);(case hg => rfl);(case hr => first | (go_simp;done) | (go_simp;rfl));(case hp => exact (Reps.none _ _));intro v238 w6 ho7 hb hg_ hnew_;clear hg_ hnew_;(first | rw [← Ny237.out] at ho7 | (simp only [Int.reduceToNat] at ho7;rw [← Ny237.out] at ho7));have n0_:=Aside0.mk (Kd.R_lower (Kd.R_newB ho7 (g:=gb236) (o:=.cells #[.string a1_0,.string a1_1,.string a1_2] 34 (0,0)) (by (with_reducible repeat (first | refine ue ?_ _ | refine ug ?_ | refine uf ?_ _));exact BK236.out)) (u1c (by repeat (first | (with_reducible first | exact HB.out | apply uc | apply ub | apply ud | refine ui ?_ GE236.out) | exact HB.out))));have n1_:=Aside0.mk (u2c (g:=gb236) (o:=.cells #[.string a1_0,.string a1_1,.string a1_2] 34 (0,0)) (by (with_reducible repeat (first | refine ue ?_ _ | refine ug ?_ | refine uf ?_ _));exact BK236.out) hb);have n2_:=Aside0.mk (u1h (by repeat (first | (with_reducible first | exact HB.out | apply uc | apply ub | apply ud | refine ui ?_ GE236.out) | exact HB.out)) hb);clear BK236;clear HB;have HO239:=n0_;have BK236:=n1_;have HB:=n2_;clear n0_ n1_ n2_;clear hb ho7) | ((with_reducible refine gate_builtin (b:=.append) (xs:=#[.tmp 9,.tmp 10]) rfl ?_);at_builtin;refine Kd.R_append_rows k34 (w0:=w) w.heap.size rfl (.tmp 9) (.tmp 10) 25 34 (.agg #[(.string ⟨#[]⟩),(.string ⟨#[]⟩),(.string ⟨#[]⟩)]) 48 rfl Tryz.underlying25 info34 rfl (by decide) (by omega) v238 y237 l0 _ _ _ (fun k_ => k_ ≠ gb236) (fun _ => False) rfl rfl ?aO ?aR (fun _ _ h => h) (fun _ h => h.elim) ?aF ?aB ?aS ?aL ?_;(case aR => repeat (first | exact (Kd.C_below HR0.out HB.out) | (with_reducible refine Kd.C_alloc ?_ _) | (with_reducible refine Kd.C_drewN ?_ _) | (with_reducible refine Kd.C_drew ?_)));(case aB => exact (by repeat (first | (with_reducible first | exact HB.out | apply uc | apply ub | apply ud | refine ui ?_ GE236.out) | exact HB.out)));(case aF => exact (fun k_ hk => Kd.freshB (g:=gb236) (o:=.cells #[.string a1_0,.string a1_1,.string a1_2] 34 (0,0)) (by (with_reducible repeat (first | refine ue ?_ _ | refine ug ?_ | refine uf ?_ _));exact BK236.out) k_ hk));(case aO => exact (by (with_reducible repeat (first | apply Kd.R_alloc | apply Kd.R_drewN | apply Kd.R_drew));exact Kd.R_mono HO239.out (fun _ hk => hk.2)));(case aS => exact (u1c (by repeat (first | (with_reducible first | exact HB.out | apply uc | apply ub | apply ud | refine ui ?_ GE236.out) | exact HB.out))));(case aL => have:=LMc4.out;omega);intro v241 w8 ho hb hg hat;rw [← Ny240.out] at ho;have n0_:=Aside0.mk (u3b (g:=gb236) (o:=.cells #[.string a1_0,.string a1_1,.string a1_2] 34 (0,0)) (by (with_reducible repeat (first | refine ue ?_ _ | refine ug ?_ | refine uf ?_ _));exact BK236.out) hg (Kd.R_away HO239.out (fun _ hk => hk.2)));have n1_:=Aside0.mk (hb);have n2_:=Aside0.mk (ho);clear BK236;clear HB;clear HO239;have BK236:=n0_;have HB:=n1_;have HO242:=n2_;clear n0_ n1_ n2_;clear ho hb hg hat;obtain ⟨Ao9,co9,eo9⟩:=Kd.R_slice HO242.out;subst eo9))
   go_loopg [14] k (fun kq v14 w' => ∃ (x7_1:List (S34)) (x14_1:Int) (x237001_1:ByteArray) (x237002_1:ByteArray),v14 = .int .i64 x14_1 ∧ Aside0 (u2h.l0 kq a2 x7_1 (y240.length:Int) x14_1 a1_0 x237001_1 x237002_1 = some r) ∧ Aside0 (kq ≤ k) ∧ Aside0 (Kd.R k34 34 w' w.heap.size (fun k_ => k_ ≠ gb236) (.slice Ao9 y240.length co9) x7_1) ∧ Aside0 (w'.heap[gb236]? = some (.cells #[.string a1_0,.string x237001_1,.string x237002_1] 34 (0,0))) ∧ Aside0 (Below w.heap.size w w'))
   case atStart => exact ⟨(y240),(0),(a1_1),(a1_2),(by first | rfl | (simp;done) | (simp [*];done)),H',⟨Nat.le_refl _⟩,⟨by (with_reducible repeat (first | apply Kd.R_alloc | apply Kd.R_drewN | apply Kd.R_drew));exact HO242.out⟩,⟨by (with_reducible repeat (first | refine ue ?_ _ | refine ug ?_ | refine uf ?_ _));exact BK236.out⟩,⟨by repeat (first | (with_reducible first | exact HB.out | apply uc | apply ub | apply ud | refine ui ?_ GE236.out) | exact HB.out)⟩⟩
   case round =>
    clear H'
    try clear c2
    try clear p2
    try clear c4
    obtain ⟨x7_1,x14_1,x237001_1,x237002_1,rfl,HA,HK1,HO_7,BK236,HB⟩:=hrel
    have hl7_1:=(Kd.R_reads' HO_7.out).1
    rw [hl7_1] at HO_7
    (try simp only [hl7_1])
    (try simp only [hl7_1] at BK236)
    cases gk with
    | zero => exact absurd HA.out (by simp [u2h.l0])
    | succ k1 =>
      have H:=HA.out
      clear HA
      simp only [u2h.l0] at H
      by_cases c10:x14_1 < (y240.length:Int)
      · rw [if_pos c10] at H
        have c10b0:decide (x14_1 < (y240.length:Int)) = true:=decide_eq_true c10
        clear c10
        by_cases c11:0 ≤ x14_1
        · rw [if_pos c11] at H
          have c11b0:decide (0 ≤ x14_1) = true:=decide_eq_true c11
          clear c11
          by_cases c12:x14_1 < (x7_1.length:Int)
          · rw [if_pos c12] at H
            have c12b0:decide (x14_1 < (x7_1.length:Int)) = true:=decide_eq_true c12
            clear c12
            by_cases c13:((u2o x7_1 x14_1).f0).toList = a1_0.toList
            · rw [if_pos c13] at H
              have c13b0:(((u2o x7_1 x14_1).f0).toList == a1_0.toList) = true:=beq_iff_eq.mpr c13
              have c13b1:(((u2o x7_1 x14_1).f0).toList != a1_0.toList) = false:=bne_eq_false_iff_eq.mpr c13
              clear c13
              by_cases c14:a2 = true
              · subst c14
                have H1:(some (x7_1.set (x14_1:Int).toNat (⟨(u2o x7_1 x14_1).f0,(u2o x7_1 x14_1).f1,x237002_1⟩:S34))) = some r:=by rw [if_pos rfl] at H;exact H
                clear H
                have H:=H1
                clear H1
                obtain ⟨y247,hy247⟩:∃ y_:List (S34),y_ = (x7_1.set (x14_1:Int).toNat (⟨(u2o x7_1 x14_1).f0,(u2o x7_1 x14_1).f1,x237002_1⟩:S34)):=⟨_,rfl⟩
                replace H:(some y247) = some r:=by first | (rw [hy247];with_reducible exact H) | (have H2_:=(Option.bind_some _ _).symm.trans H;rw [hy247];with_reducible exact H2_) | (have H2_:=(Option.bind_some _ _).symm.trans H;with_reducible exact H2_) | with_reducible exact H | (rw [hy247];exact H) | exact H
                have Ny247:=Aside0.mk hy247
                clear hy247
                obtain rfl:=Option.some.inj H
                have p246:0 ≤ (x14_1:Int):=of_decide_eq_true (by first | (with_reducible assumption) | assumption)
                have q246:x14_1 < (x7_1.length:Int):=of_decide_eq_true (by first | (with_reducible assumption) | assumption)
                obtain ⟨ad246,e246,hx246_0,hx246_1,hx246_2⟩:=at_T34 (Kd.R_reads' HO_7.out).2.2 x14_1 p246 q246
                cases e246
                replace p246:=eq_true p246
                replace q246:=eq_true q246
                have hcz16_0:wr.cell? ⟨gb236,0,none⟩ = some (.string a1_0):=(uj BK236.out 0).trans rfl
                have hcz16_1:wr.cell? ⟨gb236,1,none⟩ = some (.string x237001_1):=(uj BK236.out 1).trans rfl
                have hcz16_2:wr.cell? ⟨gb236,2,none⟩ = some (.string x237002_1):=(uj BK236.out 2).trans rfl
                have hfz16_0:=uk BK236.out 0
                have hfz16_1:=uk BK236.out 1
                have hfz16_2:=uk BK236.out 2
                have p15:0 ≤ (x14_1:Int):=of_decide_eq_true (by first | (with_reducible assumption) | assumption)
                have q15:(x14_1:Int) < ((x7_1.length:Int):Int):=of_decide_eq_true (by first | (with_reducible assumption) | assumption)
                obtain ⟨go15,co15,eo15,gb15,gl15,cl15,HG15⟩:=Kd.R_form HO_7.out (by omega)
                (first | cases eo15 | (injection eo15 with ea_ en_ ec_;(first | subst ea_ | (injection ea_ with ea_;subst ea_));subst ec_;clear en_))
                have GB15:=Aside0.mk gb15
                have GG15:=Aside0.mk HG15
                clear gb15 gl15 HG15
                (first | simp only [add_plain] at hx246_0 | skip)
                (first | simp only [add_plain] at hx246_1 | skip)
                (first | simp only [add_plain] at hx246_2 | skip)
                obtain ⟨ce15,hcl15,hM15,hcc15,hfr15⟩:=Kd.R_elem HO_7.out z34 (x14_1:Int) p15 q15
                obtain rfl:=k34_openM hM15
                have hx15_0:wr.cell? ⟨go15,(x14_1:Int).toNat * 3,none⟩ = some (.string ((u2o x7_1 x14_1).f0)):=hcc15 0 _ rfl
                have hx15_1:wr.cell? ⟨go15,(x14_1:Int).toNat * 3 + 1,none⟩ = some (.string ((u2o x7_1 x14_1).f1)):=hcc15 1 _ rfl
                have hx15_2:wr.cell? ⟨go15,(x14_1:Int).toNat * 3 + 2,none⟩ = some (.string ((u2o x7_1 x14_1).f2)):=hcc15 2 _ rfl
                have hf15_0:wr.frozen? ⟨go15,(x14_1:Int).toNat * 3,none⟩ = false:=hfr15 0
                have hf15_1:wr.frozen? ⟨go15,(x14_1:Int).toNat * 3 + 1,none⟩ = false:=hfr15 1
                have hf15_2:wr.frozen? ⟨go15,(x14_1:Int).toNat * 3 + 2,none⟩ = false:=hfr15 2
                clear hcl15 hcc15 hfr15 hM15
                replace p15:=eq_true p15
                replace q15:=eq_true q15
                have HX17:=Aside0.mk (show Kd.R k34 34 wr w.heap.size (fun k_ => k_ ≠ gb236) (.slice (some ⟨go15,0,none⟩) x7_1.length co9) x7_1 from (by (with_reducible repeat (first | apply Kd.R_alloc | apply Kd.R_drewN | apply Kd.R_drew));exact HO_7.out))
                obtain ⟨ce17,hcl17,hM17,hcc17,hfr17⟩:=Kd.R_elem HX17.out z34 (x14_1:Int) (of_decide_eq_true (by first | (with_reducible assumption) | assumption)) (by have h_:(x14_1:Int) < ((x7_1.length:Int):Int):=of_decide_eq_true (by first | (with_reducible assumption) | assumption);first | exact h_ | (have e_:=(Kd.R_reads' HO_7.out).1;omega) | simpa using h_)
                obtain rfl:=k34_openM hM17
                have HP17:=Kd.R_seg HX17.out (x14_1:Int) (of_decide_eq_true (by first | (with_reducible assumption) | assumption)) (by have h_:(x14_1:Int) < ((x7_1.length:Int):Int):=of_decide_eq_true (by first | (with_reducible assumption) | assumption);first | exact h_ | (have e_:=(Kd.R_reads' HO_7.out).1;omega) | simpa using h_) (seg:=[.string x237002_1]) (j:=2) hcl17 hcc17 (show 3 ≤ 3 from by decide) (x':=(⟨(u2o x7_1 x14_1).f0,(u2o x7_1 x14_1).f1,x237002_1⟩:S34)) (k34_mkM _ _ _ (⟨(u2o x7_1 x14_1).f0,(u2o x7_1 x14_1).f1,x237002_1⟩:S34) ) (fun _ hk => hk)
                have hx17_2:=hcc17 2 _ rfl
                (try simp only [show (k34).sz = 3 from rfl,Nat.mul_one,Nat.add_zero] at hx17_2)
                have hf17_2:=hfr17 2
                (try simp only [show (k34).sz = 3 from rfl,Nat.mul_one,Nat.add_zero] at hf17_2)
                clear hcl17 hcc17 hfr17 hM17
                go_wp2_with (first | ((with_reducible refine gate_store (t:=9) (p:=31) rfl ?_);(try (rw [u2z wr];generalize hq_:World.drewN wr _ = wr;have n0_:=Aside0.mk (Kd.R_at hq_ HO_7.out);have n1_:=Aside0.mk (blk_at hq_ BK236.out);have n2_:=Aside0.mk (below_at hq_ HB.out);clear hq_ HO_7 BK236 HB;have HO_7:=n0_;have BK236:=n1_;have HB:=n2_;clear n0_ n1_ n2_;(try (have HX17:=Aside0.mk (show Kd.R k34 34 wr w.heap.size (fun k_ => k_ ≠ gb236) (.slice (some ⟨go15,0,none⟩) x7_1.length co9) x7_1 from (by (with_reducible repeat (first | apply Kd.R_alloc | apply Kd.R_drewN | apply Kd.R_drew));exact HO_7.out))));(try (obtain ⟨ce17,hcl17,hM17,hcc17,hfr17⟩:=Kd.R_elem HX17.out z34 (x14_1:Int) (of_decide_eq_true (by first | (with_reducible assumption) | assumption)) (by have h_:(x14_1:Int) < ((x7_1.length:Int):Int):=of_decide_eq_true (by first | (with_reducible assumption) | assumption);first | exact h_ | (have e_:=(Kd.R_reads' HO_7.out).1;omega) | simpa using h_)));(try (obtain rfl:=k34_openM hM17));(try (have HP17:=Kd.R_seg HX17.out (x14_1:Int) (of_decide_eq_true (by first | (with_reducible assumption) | assumption)) (by have h_:(x14_1:Int) < ((x7_1.length:Int):Int):=of_decide_eq_true (by first | (with_reducible assumption) | assumption);first | exact h_ | (have e_:=(Kd.R_reads' HO_7.out).1;omega) | simpa using h_) (seg:=[.string x237002_1]) (j:=2) hcl17 hcc17 (show 3 ≤ 3 from by decide) (x':=(⟨(u2o x7_1 x14_1).f0,(u2o x7_1 x14_1).f1,x237002_1⟩:S34)) (k34_mkM _ _ _ (⟨(u2o x7_1 x14_1).f0,(u2o x7_1 x14_1).f1,x237002_1⟩:S34) ) (fun _ hk => hk)));(try (have hx17_2:=hcc17 2 _ rfl));(try (try simp only [show (k34).sz = 3 from rfl,Nat.mul_one,Nat.add_zero] at hx17_2));(try (have hf17_2:=hfr17 2));(try (try simp only [show (k34).sz = 3 from rfl,Nat.mul_one,Nat.add_zero] at hf17_2));(try (clear hcl17 hcc17 hfr17 hM17))));refine store_event (t:=9) (p:=31) (v:=?vo_w18) (w1:=(wr.setCell ⟨go15,(x14_1:Int).toNat * 3 + 2,none⟩ (.string x237002_1))) ?hg ?ho ?hn ?hr ?_;(case ho => rfl);(case hg => rfl);(case hn => rfl);(case hr => first | (go_simp;done) | (go_simp;rfl));intro w18 hw;have hg:wr.grownBy w18 (some go15):=(by rw [hw];exact HP17.2);have hp_:Kd.R k34 34 w18 w.heap.size (fun k_ => k_ ≠ gb236) (.slice (some ⟨go15,0,none⟩) x7_1.length co9) y247:=(by rw [hw,Ny247.out];exact HP17.1);clear HP17;have n0_:=Aside0.mk (hp_);have n1_:=Aside0.mk (u3b (g:=gb236) (o:=.cells #[.string a1_0,.string x237001_1,.string x237002_1] 34 (0,0)) (by (with_reducible repeat (first | refine ue ?_ _ | refine ug ?_ | refine uf ?_ _));exact BK236.out) hg (Kd.R_away HO_7.out (fun _ hk => hk)));have n2_:=Aside0.mk ((by rw [hw];exact ui (HB.out) GB15.out:Below w.heap.size w w18));clear HO_7;clear BK236;clear HB;have HO_7:=n0_;have BK236:=n1_;have HB:=n2_;clear n0_ n1_ n2_;clear hg hw hp_))
                repeat (go_quiet (first | ((with_reducible refine gate_store (t:=9) (p:=31) rfl ?_);(try (rw [u2z wr];generalize hq_:World.drewN wr _ = wr;have n0_:=Aside0.mk (Kd.R_at hq_ HO_7.out);have n1_:=Aside0.mk (blk_at hq_ BK236.out);have n2_:=Aside0.mk (below_at hq_ HB.out);clear hq_ HO_7 BK236 HB;have HO_7:=n0_;have BK236:=n1_;have HB:=n2_;clear n0_ n1_ n2_;(try (have HX17:=Aside0.mk (show Kd.R k34 34 wr w.heap.size (fun k_ => k_ ≠ gb236) (.slice (some ⟨go15,0,none⟩) x7_1.length co9) x7_1 from (by (with_reducible repeat (first | apply Kd.R_alloc | apply Kd.R_drewN | apply Kd.R_drew));exact HO_7.out))));(try (obtain ⟨ce17,hcl17,hM17,hcc17,hfr17⟩:=Kd.R_elem HX17.out z34 (x14_1:Int) (of_decide_eq_true (by first | (with_reducible assumption) | assumption)) (by have h_:(x14_1:Int) < ((x7_1.length:Int):Int):=of_decide_eq_true (by first | (with_reducible assumption) | assumption);first | exact h_ | (have e_:=(Kd.R_reads' HO_7.out).1;omega) | simpa using h_)));(try (obtain rfl:=k34_openM hM17));(try (have HP17:=Kd.R_seg HX17.out (x14_1:Int) (of_decide_eq_true (by first | (with_reducible assumption) | assumption)) (by have h_:(x14_1:Int) < ((x7_1.length:Int):Int):=of_decide_eq_true (by first | (with_reducible assumption) | assumption);first | exact h_ | (have e_:=(Kd.R_reads' HO_7.out).1;omega) | simpa using h_) (seg:=[.string x237002_1]) (j:=2) hcl17 hcc17 (show 3 ≤ 3 from by decide) (x':=(⟨(u2o x7_1 x14_1).f0,(u2o x7_1 x14_1).f1,x237002_1⟩:S34)) (k34_mkM _ _ _ (⟨(u2o x7_1 x14_1).f0,(u2o x7_1 x14_1).f1,x237002_1⟩:S34) ) (fun _ hk => hk)));(try (have hx17_2:=hcc17 2 _ rfl));(try (try simp only [show (k34).sz = 3 from rfl,Nat.mul_one,Nat.add_zero] at hx17_2));(try (have hf17_2:=hfr17 2));(try (try simp only [show (k34).sz = 3 from rfl,Nat.mul_one,Nat.add_zero] at hf17_2));(try (clear hcl17 hcc17 hfr17 hM17))));refine store_event (t:=9) (p:=31) (v:=?vo_w18) (w1:=(wr.setCell ⟨go15,(x14_1:Int).toNat * 3 + 2,none⟩ (.string x237002_1))) ?hg ?ho ?hn ?hr ?_;(case ho => rfl);(case hg => rfl);(case hn => rfl);(case hr => first | (go_simp;done) | (go_simp;rfl));intro w18 hw;have hg:wr.grownBy w18 (some go15):=(by rw [hw];exact HP17.2);have hp_:Kd.R k34 34 w18 w.heap.size (fun k_ => k_ ≠ gb236) (.slice (some ⟨go15,0,none⟩) x7_1.length co9) y247:=(by rw [hw,Ny247.out];exact HP17.1);clear HP17;have n0_:=Aside0.mk (hp_);have n1_:=Aside0.mk (u3b (g:=gb236) (o:=.cells #[.string a1_0,.string x237001_1,.string x237002_1] 34 (0,0)) (by (with_reducible repeat (first | refine ue ?_ _ | refine ug ?_ | refine uf ?_ _));exact BK236.out) hg (Kd.R_away HO_7.out (fun _ hk => hk)));have n2_:=Aside0.mk ((by rw [hw];exact ui (HB.out) GB15.out:Below w.heap.size w w18));clear HO_7;clear BK236;clear HB;have HO_7:=n0_;have BK236:=n1_;have HB:=n2_;clear n0_ n1_ n2_;clear hg hw hp_));try go_wp2_with (first | ((with_reducible refine gate_store (t:=9) (p:=31) rfl ?_);(try (rw [u2z wr];generalize hq_:World.drewN wr _ = wr;have n0_:=Aside0.mk (Kd.R_at hq_ HO_7.out);have n1_:=Aside0.mk (blk_at hq_ BK236.out);have n2_:=Aside0.mk (below_at hq_ HB.out);clear hq_ HO_7 BK236 HB;have HO_7:=n0_;have BK236:=n1_;have HB:=n2_;clear n0_ n1_ n2_;(try (have HX17:=Aside0.mk (show Kd.R k34 34 wr w.heap.size (fun k_ => k_ ≠ gb236) (.slice (some ⟨go15,0,none⟩) x7_1.length co9) x7_1 from (by (with_reducible repeat (first | apply Kd.R_alloc | apply Kd.R_drewN | apply Kd.R_drew));exact HO_7.out))));(try (obtain ⟨ce17,hcl17,hM17,hcc17,hfr17⟩:=Kd.R_elem HX17.out z34 (x14_1:Int) (of_decide_eq_true (by first | (with_reducible assumption) | assumption)) (by have h_:(x14_1:Int) < ((x7_1.length:Int):Int):=of_decide_eq_true (by first | (with_reducible assumption) | assumption);first | exact h_ | (have e_:=(Kd.R_reads' HO_7.out).1;omega) | simpa using h_)));(try (obtain rfl:=k34_openM hM17));(try (have HP17:=Kd.R_seg HX17.out (x14_1:Int) (of_decide_eq_true (by first | (with_reducible assumption) | assumption)) (by have h_:(x14_1:Int) < ((x7_1.length:Int):Int):=of_decide_eq_true (by first | (with_reducible assumption) | assumption);first | exact h_ | (have e_:=(Kd.R_reads' HO_7.out).1;omega) | simpa using h_) (seg:=[.string x237002_1]) (j:=2) hcl17 hcc17 (show 3 ≤ 3 from by decide) (x':=(⟨(u2o x7_1 x14_1).f0,(u2o x7_1 x14_1).f1,x237002_1⟩:S34)) (k34_mkM _ _ _ (⟨(u2o x7_1 x14_1).f0,(u2o x7_1 x14_1).f1,x237002_1⟩:S34) ) (fun _ hk => hk)));(try (have hx17_2:=hcc17 2 _ rfl));(try (try simp only [show (k34).sz = 3 from rfl,Nat.mul_one,Nat.add_zero] at hx17_2));(try (have hf17_2:=hfr17 2));(try (try simp only [show (k34).sz = 3 from rfl,Nat.mul_one,Nat.add_zero] at hf17_2));(try (clear hcl17 hcc17 hfr17 hM17))));refine store_event (t:=9) (p:=31) (v:=?vo_w18) (w1:=(wr.setCell ⟨go15,(x14_1:Int).toNat * 3 + 2,none⟩ (.string x237002_1))) ?hg ?ho ?hn ?hr ?_;(case ho => rfl);(case hg => rfl);(case hn => rfl);(case hr => first | (go_simp;done) | (go_simp;rfl));intro w18 hw;have hg:wr.grownBy w18 (some go15):=(by rw [hw];exact HP17.2);have hp_:Kd.R k34 34 w18 w.heap.size (fun k_ => k_ ≠ gb236) (.slice (some ⟨go15,0,none⟩) x7_1.length co9) y247:=(by rw [hw,Ny247.out];exact HP17.1);clear HP17;have n0_:=Aside0.mk (hp_);have n1_:=Aside0.mk (u3b (g:=gb236) (o:=.cells #[.string a1_0,.string x237001_1,.string x237002_1] 34 (0,0)) (by (with_reducible repeat (first | refine ue ?_ _ | refine ug ?_ | refine uf ?_ _));exact BK236.out) hg (Kd.R_away HO_7.out (fun _ hk => hk)));have n2_:=Aside0.mk ((by rw [hw];exact ui (HB.out) GB15.out:Below w.heap.size w w18));clear HO_7;clear BK236;clear HB;have HO_7:=n0_;have BK236:=n1_;have HB:=n2_;clear n0_ n1_ n2_;clear hg hw hp_)))
                go_ret
                exact ⟨_,by first | rfl | (simp [u1k,u1l] <;> rfl) | (simp [*,u1k,u1l] <;> rfl),by (with_reducible repeat (first | apply Kd.R_alloc | apply Kd.R_drewN | apply Kd.R_drew));exact Kd.R_mono HO_7.out (fun _ hk => trivial),by repeat (first | (with_reducible first | exact HB.out | apply uc | apply ub | apply ud | refine ui ?_ GE236.out) | exact HB.out)⟩
              · replace c14:=Bool.eq_false_iff.mpr c14
                subst c14
                have H1:(some (x7_1.set (x14_1:Int).toNat (⟨(u2o x7_1 x14_1).f0,x237001_1,(u2o x7_1 x14_1).f2⟩:S34))) = some r:=by rw [if_neg (show ¬ (false = true) by decide)] at H;exact H
                clear H
                have H:=H1
                clear H1
                obtain ⟨y248,hy248⟩:∃ y_:List (S34),y_ = (x7_1.set (x14_1:Int).toNat (⟨(u2o x7_1 x14_1).f0,x237001_1,(u2o x7_1 x14_1).f2⟩:S34)):=⟨_,rfl⟩
                replace H:(some y248) = some r:=by first | (rw [hy248];with_reducible exact H) | (have H2_:=(Option.bind_some _ _).symm.trans H;rw [hy248];with_reducible exact H2_) | (have H2_:=(Option.bind_some _ _).symm.trans H;with_reducible exact H2_) | with_reducible exact H | (rw [hy248];exact H) | exact H
                have Ny248:=Aside0.mk hy248
                clear hy248
                obtain rfl:=Option.some.inj H
                have p246:0 ≤ (x14_1:Int):=of_decide_eq_true (by first | (with_reducible assumption) | assumption)
                have q246:x14_1 < (x7_1.length:Int):=of_decide_eq_true (by first | (with_reducible assumption) | assumption)
                obtain ⟨ad246,e246,hx246_0,hx246_1,hx246_2⟩:=at_T34 (Kd.R_reads' HO_7.out).2.2 x14_1 p246 q246
                cases e246
                replace p246:=eq_true p246
                replace q246:=eq_true q246
                have hcz20_0:wr.cell? ⟨gb236,0,none⟩ = some (.string a1_0):=(uj BK236.out 0).trans rfl
                have hcz20_1:wr.cell? ⟨gb236,1,none⟩ = some (.string x237001_1):=(uj BK236.out 1).trans rfl
                have hcz20_2:wr.cell? ⟨gb236,2,none⟩ = some (.string x237002_1):=(uj BK236.out 2).trans rfl
                have hfz20_0:=uk BK236.out 0
                have hfz20_1:=uk BK236.out 1
                have hfz20_2:=uk BK236.out 2
                have p19:0 ≤ (x14_1:Int):=of_decide_eq_true (by first | (with_reducible assumption) | assumption)
                have q19:(x14_1:Int) < ((x7_1.length:Int):Int):=of_decide_eq_true (by first | (with_reducible assumption) | assumption)
                obtain ⟨go19,co19,eo19,gb19,gl19,cl19,HG19⟩:=Kd.R_form HO_7.out (by omega)
                (first | cases eo19 | (injection eo19 with ea_ en_ ec_;(first | subst ea_ | (injection ea_ with ea_;subst ea_));subst ec_;clear en_))
                have GB19:=Aside0.mk gb19
                have GG19:=Aside0.mk HG19
                clear gb19 gl19 HG19
                (first | simp only [add_plain] at hx246_0 | skip)
                (first | simp only [add_plain] at hx246_1 | skip)
                (first | simp only [add_plain] at hx246_2 | skip)
                obtain ⟨ce19,hcl19,hM19,hcc19,hfr19⟩:=Kd.R_elem HO_7.out z34 (x14_1:Int) p19 q19
                obtain rfl:=k34_openM hM19
                have hx19_0:wr.cell? ⟨go19,(x14_1:Int).toNat * 3,none⟩ = some (.string ((u2o x7_1 x14_1).f0)):=hcc19 0 _ rfl
                have hx19_1:wr.cell? ⟨go19,(x14_1:Int).toNat * 3 + 1,none⟩ = some (.string ((u2o x7_1 x14_1).f1)):=hcc19 1 _ rfl
                have hx19_2:wr.cell? ⟨go19,(x14_1:Int).toNat * 3 + 2,none⟩ = some (.string ((u2o x7_1 x14_1).f2)):=hcc19 2 _ rfl
                have hf19_0:wr.frozen? ⟨go19,(x14_1:Int).toNat * 3,none⟩ = false:=hfr19 0
                have hf19_1:wr.frozen? ⟨go19,(x14_1:Int).toNat * 3 + 1,none⟩ = false:=hfr19 1
                have hf19_2:wr.frozen? ⟨go19,(x14_1:Int).toNat * 3 + 2,none⟩ = false:=hfr19 2
                clear hcl19 hcc19 hfr19 hM19
                replace p19:=eq_true p19
                replace q19:=eq_true q19
                have HX21:=Aside0.mk (show Kd.R k34 34 wr w.heap.size (fun k_ => k_ ≠ gb236) (.slice (some ⟨go19,0,none⟩) x7_1.length co9) x7_1 from (by (with_reducible repeat (first | apply Kd.R_alloc | apply Kd.R_drewN | apply Kd.R_drew));exact HO_7.out))
                obtain ⟨ce21,hcl21,hM21,hcc21,hfr21⟩:=Kd.R_elem HX21.out z34 (x14_1:Int) (of_decide_eq_true (by first | (with_reducible assumption) | assumption)) (by have h_:(x14_1:Int) < ((x7_1.length:Int):Int):=of_decide_eq_true (by first | (with_reducible assumption) | assumption);first | exact h_ | (have e_:=(Kd.R_reads' HO_7.out).1;omega) | simpa using h_)
                obtain rfl:=k34_openM hM21
                have HP21:=Kd.R_seg HX21.out (x14_1:Int) (of_decide_eq_true (by first | (with_reducible assumption) | assumption)) (by have h_:(x14_1:Int) < ((x7_1.length:Int):Int):=of_decide_eq_true (by first | (with_reducible assumption) | assumption);first | exact h_ | (have e_:=(Kd.R_reads' HO_7.out).1;omega) | simpa using h_) (seg:=[.string x237001_1]) (j:=1) hcl21 hcc21 (show 2 ≤ 3 from by decide) (x':=(⟨(u2o x7_1 x14_1).f0,x237001_1,(u2o x7_1 x14_1).f2⟩:S34)) (k34_mkM _ _ _ (⟨(u2o x7_1 x14_1).f0,x237001_1,(u2o x7_1 x14_1).f2⟩:S34) ) (fun _ hk => hk)
                have hx21_1:=hcc21 1 _ rfl
                (try simp only [show (k34).sz = 3 from rfl,Nat.mul_one,Nat.add_zero] at hx21_1)
                have hf21_1:=hfr21 1
                (try simp only [show (k34).sz = 3 from rfl,Nat.mul_one,Nat.add_zero] at hf21_1)
                clear hcl21 hcc21 hfr21 hM21
                go_wp2_with (first | ((with_reducible refine gate_store (t:=9) (p:=37) rfl ?_);(try (rw [u2z wr];generalize hq_:World.drewN wr _ = wr;have n0_:=Aside0.mk (Kd.R_at hq_ HO_7.out);have n1_:=Aside0.mk (blk_at hq_ BK236.out);have n2_:=Aside0.mk (below_at hq_ HB.out);clear hq_ HO_7 BK236 HB;have HO_7:=n0_;have BK236:=n1_;have HB:=n2_;clear n0_ n1_ n2_;(try (have HX21:=Aside0.mk (show Kd.R k34 34 wr w.heap.size (fun k_ => k_ ≠ gb236) (.slice (some ⟨go19,0,none⟩) x7_1.length co9) x7_1 from (by (with_reducible repeat (first | apply Kd.R_alloc | apply Kd.R_drewN | apply Kd.R_drew));exact HO_7.out))));(try (obtain ⟨ce21,hcl21,hM21,hcc21,hfr21⟩:=Kd.R_elem HX21.out z34 (x14_1:Int) (of_decide_eq_true (by first | (with_reducible assumption) | assumption)) (by have h_:(x14_1:Int) < ((x7_1.length:Int):Int):=of_decide_eq_true (by first | (with_reducible assumption) | assumption);first | exact h_ | (have e_:=(Kd.R_reads' HO_7.out).1;omega) | simpa using h_)));(try (obtain rfl:=k34_openM hM21));(try (have HP21:=Kd.R_seg HX21.out (x14_1:Int) (of_decide_eq_true (by first | (with_reducible assumption) | assumption)) (by have h_:(x14_1:Int) < ((x7_1.length:Int):Int):=of_decide_eq_true (by first | (with_reducible assumption) | assumption);first | exact h_ | (have e_:=(Kd.R_reads' HO_7.out).1;omega) | simpa using h_) (seg:=[.string x237001_1]) (j:=1) hcl21 hcc21 (show 2 ≤ 3 from by decide) (x':=(⟨(u2o x7_1 x14_1).f0,x237001_1,(u2o x7_1 x14_1).f2⟩:S34)) (k34_mkM _ _ _ (⟨(u2o x7_1 x14_1).f0,x237001_1,(u2o x7_1 x14_1).f2⟩:S34) ) (fun _ hk => hk)));(try (have hx21_1:=hcc21 1 _ rfl));(try (try simp only [show (k34).sz = 3 from rfl,Nat.mul_one,Nat.add_zero] at hx21_1));(try (have hf21_1:=hfr21 1));(try (try simp only [show (k34).sz = 3 from rfl,Nat.mul_one,Nat.add_zero] at hf21_1));(try (clear hcl21 hcc21 hfr21 hM21))));refine store_event (t:=9) (p:=37) (v:=?vo_w22) (w1:=(wr.setCell ⟨go19,(x14_1:Int).toNat * 3 + 1,none⟩ (.string x237001_1))) ?hg ?ho ?hn ?hr ?_;(case ho => rfl);(case hg => rfl);(case hn => rfl);(case hr => first | (go_simp;done) | (go_simp;rfl));intro w22 hw;have hg:wr.grownBy w22 (some go19):=(by rw [hw];exact HP21.2);have hp_:Kd.R k34 34 w22 w.heap.size (fun k_ => k_ ≠ gb236) (.slice (some ⟨go19,0,none⟩) x7_1.length co9) y248:=(by rw [hw,Ny248.out];exact HP21.1);clear HP21;have n0_:=Aside0.mk (hp_);have n1_:=Aside0.mk (u3b (g:=gb236) (o:=.cells #[.string a1_0,.string x237001_1,.string x237002_1] 34 (0,0)) (by (with_reducible repeat (first | refine ue ?_ _ | refine ug ?_ | refine uf ?_ _));exact BK236.out) hg (Kd.R_away HO_7.out (fun _ hk => hk)));have n2_:=Aside0.mk ((by rw [hw];exact ui (HB.out) GB19.out:Below w.heap.size w w22));clear HO_7;clear BK236;clear HB;have HO_7:=n0_;have BK236:=n1_;have HB:=n2_;clear n0_ n1_ n2_;clear hg hw hp_))
                repeat (go_quiet (first | ((with_reducible refine gate_store (t:=9) (p:=37) rfl ?_);(try (rw [u2z wr];generalize hq_:World.drewN wr _ = wr;have n0_:=Aside0.mk (Kd.R_at hq_ HO_7.out);have n1_:=Aside0.mk (blk_at hq_ BK236.out);have n2_:=Aside0.mk (below_at hq_ HB.out);clear hq_ HO_7 BK236 HB;have HO_7:=n0_;have BK236:=n1_;have HB:=n2_;clear n0_ n1_ n2_;(try (have HX21:=Aside0.mk (show Kd.R k34 34 wr w.heap.size (fun k_ => k_ ≠ gb236) (.slice (some ⟨go19,0,none⟩) x7_1.length co9) x7_1 from (by (with_reducible repeat (first | apply Kd.R_alloc | apply Kd.R_drewN | apply Kd.R_drew));exact HO_7.out))));(try (obtain ⟨ce21,hcl21,hM21,hcc21,hfr21⟩:=Kd.R_elem HX21.out z34 (x14_1:Int) (of_decide_eq_true (by first | (with_reducible assumption) | assumption)) (by have h_:(x14_1:Int) < ((x7_1.length:Int):Int):=of_decide_eq_true (by first | (with_reducible assumption) | assumption);first | exact h_ | (have e_:=(Kd.R_reads' HO_7.out).1;omega) | simpa using h_)));(try (obtain rfl:=k34_openM hM21));(try (have HP21:=Kd.R_seg HX21.out (x14_1:Int) (of_decide_eq_true (by first | (with_reducible assumption) | assumption)) (by have h_:(x14_1:Int) < ((x7_1.length:Int):Int):=of_decide_eq_true (by first | (with_reducible assumption) | assumption);first | exact h_ | (have e_:=(Kd.R_reads' HO_7.out).1;omega) | simpa using h_) (seg:=[.string x237001_1]) (j:=1) hcl21 hcc21 (show 2 ≤ 3 from by decide) (x':=(⟨(u2o x7_1 x14_1).f0,x237001_1,(u2o x7_1 x14_1).f2⟩:S34)) (k34_mkM _ _ _ (⟨(u2o x7_1 x14_1).f0,x237001_1,(u2o x7_1 x14_1).f2⟩:S34) ) (fun _ hk => hk)));(try (have hx21_1:=hcc21 1 _ rfl));(try (try simp only [show (k34).sz = 3 from rfl,Nat.mul_one,Nat.add_zero] at hx21_1));(try (have hf21_1:=hfr21 1));(try (try simp only [show (k34).sz = 3 from rfl,Nat.mul_one,Nat.add_zero] at hf21_1));(try (clear hcl21 hcc21 hfr21 hM21))));refine store_event (t:=9) (p:=37) (v:=?vo_w22) (w1:=(wr.setCell ⟨go19,(x14_1:Int).toNat * 3 + 1,none⟩ (.string x237001_1))) ?hg ?ho ?hn ?hr ?_;(case ho => rfl);(case hg => rfl);(case hn => rfl);(case hr => first | (go_simp;done) | (go_simp;rfl));intro w22 hw;have hg:wr.grownBy w22 (some go19):=(by rw [hw];exact HP21.2);have hp_:Kd.R k34 34 w22 w.heap.size (fun k_ => k_ ≠ gb236) (.slice (some ⟨go19,0,none⟩) x7_1.length co9) y248:=(by rw [hw,Ny248.out];exact HP21.1);clear HP21;have n0_:=Aside0.mk (hp_);have n1_:=Aside0.mk (u3b (g:=gb236) (o:=.cells #[.string a1_0,.string x237001_1,.string x237002_1] 34 (0,0)) (by (with_reducible repeat (first | refine ue ?_ _ | refine ug ?_ | refine uf ?_ _));exact BK236.out) hg (Kd.R_away HO_7.out (fun _ hk => hk)));have n2_:=Aside0.mk ((by rw [hw];exact ui (HB.out) GB19.out:Below w.heap.size w w22));clear HO_7;clear BK236;clear HB;have HO_7:=n0_;have BK236:=n1_;have HB:=n2_;clear n0_ n1_ n2_;clear hg hw hp_));try go_wp2_with (first | ((with_reducible refine gate_store (t:=9) (p:=37) rfl ?_);(try (rw [u2z wr];generalize hq_:World.drewN wr _ = wr;have n0_:=Aside0.mk (Kd.R_at hq_ HO_7.out);have n1_:=Aside0.mk (blk_at hq_ BK236.out);have n2_:=Aside0.mk (below_at hq_ HB.out);clear hq_ HO_7 BK236 HB;have HO_7:=n0_;have BK236:=n1_;have HB:=n2_;clear n0_ n1_ n2_;(try (have HX21:=Aside0.mk (show Kd.R k34 34 wr w.heap.size (fun k_ => k_ ≠ gb236) (.slice (some ⟨go19,0,none⟩) x7_1.length co9) x7_1 from (by (with_reducible repeat (first | apply Kd.R_alloc | apply Kd.R_drewN | apply Kd.R_drew));exact HO_7.out))));(try (obtain ⟨ce21,hcl21,hM21,hcc21,hfr21⟩:=Kd.R_elem HX21.out z34 (x14_1:Int) (of_decide_eq_true (by first | (with_reducible assumption) | assumption)) (by have h_:(x14_1:Int) < ((x7_1.length:Int):Int):=of_decide_eq_true (by first | (with_reducible assumption) | assumption);first | exact h_ | (have e_:=(Kd.R_reads' HO_7.out).1;omega) | simpa using h_)));(try (obtain rfl:=k34_openM hM21));(try (have HP21:=Kd.R_seg HX21.out (x14_1:Int) (of_decide_eq_true (by first | (with_reducible assumption) | assumption)) (by have h_:(x14_1:Int) < ((x7_1.length:Int):Int):=of_decide_eq_true (by first | (with_reducible assumption) | assumption);first | exact h_ | (have e_:=(Kd.R_reads' HO_7.out).1;omega) | simpa using h_) (seg:=[.string x237001_1]) (j:=1) hcl21 hcc21 (show 2 ≤ 3 from by decide) (x':=(⟨(u2o x7_1 x14_1).f0,x237001_1,(u2o x7_1 x14_1).f2⟩:S34)) (k34_mkM _ _ _ (⟨(u2o x7_1 x14_1).f0,x237001_1,(u2o x7_1 x14_1).f2⟩:S34) ) (fun _ hk => hk)));(try (have hx21_1:=hcc21 1 _ rfl));(try (try simp only [show (k34).sz = 3 from rfl,Nat.mul_one,Nat.add_zero] at hx21_1));(try (have hf21_1:=hfr21 1));(try (try simp only [show (k34).sz = 3 from rfl,Nat.mul_one,Nat.add_zero] at hf21_1));(try (clear hcl21 hcc21 hfr21 hM21))));refine store_event (t:=9) (p:=37) (v:=?vo_w22) (w1:=(wr.setCell ⟨go19,(x14_1:Int).toNat * 3 + 1,none⟩ (.string x237001_1))) ?hg ?ho ?hn ?hr ?_;(case ho => rfl);(case hg => rfl);(case hn => rfl);(case hr => first | (go_simp;done) | (go_simp;rfl));intro w22 hw;have hg:wr.grownBy w22 (some go19):=(by rw [hw];exact HP21.2);have hp_:Kd.R k34 34 w22 w.heap.size (fun k_ => k_ ≠ gb236) (.slice (some ⟨go19,0,none⟩) x7_1.length co9) y248:=(by rw [hw,Ny248.out];exact HP21.1);clear HP21;have n0_:=Aside0.mk (hp_);have n1_:=Aside0.mk (u3b (g:=gb236) (o:=.cells #[.string a1_0,.string x237001_1,.string x237002_1] 34 (0,0)) (by (with_reducible repeat (first | refine ue ?_ _ | refine ug ?_ | refine uf ?_ _));exact BK236.out) hg (Kd.R_away HO_7.out (fun _ hk => hk)));have n2_:=Aside0.mk ((by rw [hw];exact ui (HB.out) GB19.out:Below w.heap.size w w22));clear HO_7;clear BK236;clear HB;have HO_7:=n0_;have BK236:=n1_;have HB:=n2_;clear n0_ n1_ n2_;clear hg hw hp_)))
                go_ret
                exact ⟨_,by first | rfl | (simp [u1k,u1l] <;> rfl) | (simp [*,u1k,u1l] <;> rfl),by (with_reducible repeat (first | apply Kd.R_alloc | apply Kd.R_drewN | apply Kd.R_drew));exact Kd.R_mono HO_7.out (fun _ hk => trivial),by repeat (first | (with_reducible first | exact HB.out | apply uc | apply ub | apply ud | refine ui ?_ GE236.out) | exact HB.out)⟩
            · rw [if_neg c13] at H
              have c13b0:(((u2o x7_1 x14_1).f0).toList == a1_0.toList) = false:=beq_eq_false_iff_ne.mpr c13
              have c13b1:(((u2o x7_1 x14_1).f0).toList != a1_0.toList) = true:=bne_iff_ne.mpr c13
              have H':=Aside0.mk H
              clear H
              have p246:0 ≤ (x14_1:Int):=of_decide_eq_true (by first | (with_reducible assumption) | assumption)
              have q246:x14_1 < (x7_1.length:Int):=of_decide_eq_true (by first | (with_reducible assumption) | assumption)
              obtain ⟨ad246,e246,hx246_0,hx246_1,hx246_2⟩:=at_T34 (Kd.R_reads' HO_7.out).2.2 x14_1 p246 q246
              cases e246
              replace p246:=eq_true p246
              replace q246:=eq_true q246
              have hcz23_0:wr.cell? ⟨gb236,0,none⟩ = some (.string a1_0):=(uj BK236.out 0).trans rfl
              have hcz23_1:wr.cell? ⟨gb236,1,none⟩ = some (.string x237001_1):=(uj BK236.out 1).trans rfl
              have hcz23_2:wr.cell? ⟨gb236,2,none⟩ = some (.string x237002_1):=(uj BK236.out 2).trans rfl
              have hfz23_0:=uk BK236.out 0
              have hfz23_1:=uk BK236.out 1
              have hfz23_2:=uk BK236.out 2
              go_wp2
              repeat (go_quiet (fail);try go_wp2)
              (try simp only [← hl7_1])
              go_roundg k1
              case measure => have:=HK1.out;omega
              case rel => exact ⟨(x7_1),(wrap64 (x14_1 + 1)),(x237001_1),(x237002_1),(by first | rfl | (simp;done) | (simp [*];done)),H',⟨by have:=HK1.out;omega⟩,⟨by (try simp only [hl7_1]);(with_reducible repeat (first | apply Kd.R_alloc | apply Kd.R_drewN | apply Kd.R_drew));exact HO_7.out⟩,⟨by (try simp only [hl7_1]);(with_reducible repeat (first | refine ue ?_ _ | refine ug ?_ | refine uf ?_ _));exact BK236.out⟩,⟨by repeat (first | (with_reducible first | exact HB.out | apply uc | apply ub | apply ud | refine ui ?_ GE236.out) | exact HB.out)⟩⟩
          · rw [if_neg c12] at H
            exact absurd H (by simp)
        · rw [if_neg c11] at H
          exact absurd H (by simp)
      · rw [if_neg c10] at H
        have c10b0:decide (x14_1 < (y240.length:Int)) = false:=decide_eq_false c10
        try (have c10b0l:decide (x14_1 < (x7_1.length:Int)) = false:=by rw [← hl7_1];exact c10b0)
        clear c10
        by_cases c24:x7_1.length < 2932031007402
        · rw [if_pos c24] at H
          have LMc24:=Aside0.mk c24
          clear c24
          obtain ⟨y243,hy243⟩:∃ y_:List (S34),y_ = (x7_1 ++ [(⟨a1_0,x237001_1,x237002_1⟩:S34)]):=⟨_,rfl⟩
          replace H:(some y243) = some r:=by first | (rw [hy243];with_reducible exact H) | (have H2_:=(Option.bind_some _ _).symm.trans H;rw [hy243];with_reducible exact H2_) | (have H2_:=(Option.bind_some _ _).symm.trans H;with_reducible exact H2_) | with_reducible exact H | (rw [hy243];exact H) | exact H
          have Ny243:=Aside0.mk hy243
          clear hy243
          obtain rfl:=Option.some.inj H
          have hcz25_0:wr.cell? ⟨gb236,0,none⟩ = some (.string a1_0):=(uj BK236.out 0).trans rfl
          have hcz25_1:wr.cell? ⟨gb236,1,none⟩ = some (.string x237001_1):=(uj BK236.out 1).trans rfl
          have hcz25_2:wr.cell? ⟨gb236,2,none⟩ = some (.string x237002_1):=(uj BK236.out 2).trans rfl
          have hfz25_0:=uk BK236.out 0
          have hfz25_1:=uk BK236.out 1
          have hfz25_2:=uk BK236.out 2
          go_wp2_with (first | ((with_reducible refine gate_builtin (b:=.append) (xs:=#[.tmp 40,.tmp 42]) rfl ?_);at_builtin;refine Kd.R_append k34 (w0:=w) w.heap.size rfl (.tmp 40) (.tmp 42) 25 34 (.agg #[(.string ⟨#[]⟩),(.string ⟨#[]⟩),(.string ⟨#[]⟩)]) 48 rfl Tryz.underlying25 info34 rfl (by decide) (by omega) (.slice Ao9 x7_1.length co9) x7_1 (⟨a1_0,x237001_1,x237002_1⟩:S34) [.string a1_0,.string x237001_1,.string x237002_1] (fun k_ => k_ ≠ gb236) (fun _ => False) rfl rfl ?aP (fun _ hk => hk.elim) ?aF ?aO ?aB ?aS ?aL ?_;(case aP => exact k34_mkM _ _ _ (⟨a1_0,x237001_1,x237002_1⟩:S34));(case aB => exact (by repeat (first | (with_reducible first | exact HB.out | apply uc | apply ub | apply ud | refine ui ?_ GE236.out) | exact HB.out)));(case aF => exact (fun k_ hk => Kd.freshB (g:=gb236) (o:=.cells #[.string a1_0,.string x237001_1,.string x237002_1] 34 (0,0)) (by (with_reducible repeat (first | refine ue ?_ _ | refine ug ?_ | refine uf ?_ _));exact BK236.out) k_ hk));(case aO => exact (by (with_reducible repeat (first | apply Kd.R_alloc | apply Kd.R_drewN | apply Kd.R_drew));exact HO_7.out));(case aS => exact (u1c (by repeat (first | (with_reducible first | exact HB.out | apply uc | apply ub | apply ud | refine ui ?_ GE236.out) | exact HB.out))));(case aL => have:=LMc24.out;omega);intro v244 w26 ho hb hg hat;rw [← Ny243.out] at ho;have n0_:=Aside0.mk (u3b (g:=gb236) (o:=.cells #[.string a1_0,.string x237001_1,.string x237002_1] 34 (0,0)) (by (with_reducible repeat (first | refine ue ?_ _ | refine ug ?_ | refine uf ?_ _));exact BK236.out) hg (Kd.R_away HO_7.out (fun _ hk => hk)));have n1_:=Aside0.mk (hb);have n2_:=Aside0.mk (ho);clear BK236;clear HB;clear HO_7;have BK236:=n0_;have HB:=n1_;have HO245:=n2_;clear n0_ n1_ n2_;clear ho hb hg hat))
          go_ret
          exact ⟨_,by first | rfl | (simp [u1k,u1l] <;> rfl) | (simp [*,u1k,u1l] <;> rfl),by (with_reducible repeat (first | apply Kd.R_alloc | apply Kd.R_drewN | apply Kd.R_drew));exact Kd.R_mono HO245.out (fun _ hk => trivial),by repeat (first | (with_reducible first | exact HB.out | apply uc | apply ub | apply ud | refine ui ?_ GE236.out) | exact HB.out)⟩
        · rw [if_neg c24] at H
          exact absurd H (by simp)
 · rw [if_neg c4] at H
   exact absurd H (by simp)
mutual
def uo.j0:Nat → Int → List (S66) → ByteArray → Option ((List (S66)) × Int × Int × Bool)
 | 0,_,_,_ => none
 | k + 1,x1,x6,x8 => (uv.f x8 (⟨#[123]⟩:ByteArray)).bind fun t200 => (if t200 = true then (if 1 ≤ (x8.size:Int) then ((um.f k x6 (x8.extract 1 x8.size)).bind fun bt201 => (if bt201.2.2 = true then (uo.j1 k x1 bt201.1 bt201.2.1) else (some (([]:List (S66)),0,0,false)))) else (none)) else (uo.j1 k x1 x6 x8))
def uo.j1:Nat → Int → List (S66) → ByteArray → Option ((List (S66)) × Int × Int × Bool)
 | 0,_,_,_ => none
 | k + 1,x1,x6,x8 => (u1f.f k x8).bind fun bt206 => ((u2f.f k bt206.1).bind fun bt208 => ((uy.f k x6).bind fun t211 => (if t211 = true then (if bt206.2 = true then (uo.j2 k x1 x6 bt208.2.1 bt208.1 (!bt208.2.2)) else (uo.j2 k x1 x6 bt208.2.1 bt208.1 true)) else (uo.j2 k x1 x6 bt208.2.1 bt208.1 true))))
def uo.j2:Nat → Int → List (S66) → ByteArray → Int → Bool → Option ((List (S66)) × Int × Int × Bool)
 | 0,_,_,_,_,_ => none
 | k + 1,x1,x6,x8,x11,x62 => if x62 = true then (some (([]:List (S66)),0,0,false)) else ((u1f.f k x8).bind fun bt212 => (if bt212.1.toList = ([]:List UInt8) then (some (x6,x1,x11,true)) else ((u1i.f k bt212.1).bind fun bt214 => ((u1f.f k bt214.2.1).bind fun bt217 => (if bt212.2 = true then (if bt214.2.2 = true then (some (x6,bt214.1,x11,(bt217.1.toList == ([]:List UInt8)))) else (some (x6,bt214.1,x11,false))) else (some (x6,bt214.1,x11,false)))))))
end
def uo.f (k:Nat) (a0:ByteArray) (a1:Int):Option ((List (S66)) × Int × Int × Bool):=(u1v.f k a0).bind fun bt194 => (if bt194.1.toList = ([]:List UInt8) then (uo.j0 k a1 ([]:List (S66)) bt194.2) else ((u1a.f k bt194.1).bind fun t196 => (if t196 = true then (uo.j0 k a1 (([(⟨(⟨#[95,95,110,97,109,101,95,95]⟩:ByteArray),bt194.1⟩:S66)]:List (S66))) bt194.2) else (some (([]:List (S66)),0,0,false)))))
set_option maxHeartbeats 8000000 in
set_option maxRecDepth 100000 in
theorem uo.calls (k:Nat) (a0:ByteArray) (a1:Int) (r1:List (S66)) (r2:Int) (r3:Int) (r4:Bool) (w:World) (h:uo.f k a0 a1 = some (r1,r2,r3,r4)) :
 Calls Tryz.prog 54 #[.string a0,.int .i64 a1] w fun e w' => ∃ v0_:Value,e = .returned (.tuple #[.agg #[v0_,.int .i64 r2,.int .u64 r3],.bool r4]) ∧ Kd.R k66 66 w' w.heap.size (fun _ => True) v0_ r1 ∧ Below w.heap.size w w':=by
 have hu53:=Tryz.underlying53
 have hu66:=Tryz.underlying66
 have HB:=Aside0.mk (Below.refl w.heap.size w)
 have H:((u1v.f k a0).bind fun bt194 => (if bt194.1.toList = ([]:List UInt8) then (uo.j0 k a1 ([]:List (S66)) bt194.2) else ((u1a.f k bt194.1).bind fun t196 => (if t196 = true then (uo.j0 k a1 (([(⟨(⟨#[95,95,110,97,109,101,95,95]⟩:ByteArray),bt194.1⟩:S66)]:List (S66))) bt194.2) else (some (([]:List (S66)),0,0,false)))))) = some (r1,r2,r3,r4):=h
 clear h
 replace H:=Option.bind_eq_some_iff.mp H
 obtain ⟨⟨t194,t195⟩,A30,H⟩:=H
 replace H:(if t194.toList = ([]:List UInt8) then (uo.j0 k a1 ([]:List (S66)) t195) else ((u1a.f k t194).bind fun t196 => (if t196 = true then (uo.j0 k a1 (([(⟨(⟨#[95,95,110,97,109,101,95,95]⟩:ByteArray),t194⟩:S66)]:List (S66))) t195) else (some (([]:List (S66)),0,0,false))))) = some (r1,r2,r3,r4):=H
 have A3:=Aside0.mk A30
 clear A30
 have HC4:=Aside0.mk H
 clear H
 go_enter Tryz.func54,Tryz.ntmps54
 go_upto_if 20 with (first | ((with_reducible refine u3f (N:=4) rfl ?_);refine u3c ?hg (N:=4) ?hd (cs:=#[.slice none 0 0,.int .i64 0,.int .u64 0]) (t:=53) ?hr ?_;(case hd => rfl);(case hg => rfl);(case hr => first | (go_simp;done) | (go_simp;rfl));intro gb193 hg w5 hbox hb;have n0_:=Aside0.mk (u1h (by repeat (first | (with_reducible first | exact HB.out | apply uc | apply ub | apply ud) | exact HB.out)) hb);have n1_:=Aside0.mk (hbox);have n2_:=Aside0.mk ((by rw [hg];exact (u1c (by repeat (first | (with_reducible first | exact HB.out | apply uc | apply ub | apply ud) | exact HB.out))):w.heap.size ≤ gb193));have n3_:=Aside0.mk ((by rw [hg];exact (u1c (by repeat (first | (with_reducible first | exact HB.out | apply uc | apply ub | apply ud) | exact HB.out))):w.heap.size ≤ gb193));clear HB;have HB:=n0_;have BK193:=n1_;have GW193:=n2_;have GE193:=n3_;clear n0_ n1_ n2_ n3_;clear hb hbox hg) | ((with_reducible refine u1u (f:=100) rfl ?_);refine u3e (some 16) rfl rfl Tryz.func100 (by kernel_rfl) rfl #[.string a0] rfl (by (try simp only [List.map_toArray,List.map_cons,List.map_nil]);first | done | rfl | (simp only [List.length_drop,List.length_take];rfl)) ?_;(with_reducible refine (u1v.calls k a0 t194 t195 _ A3.out).mono ?_);rintro e w' ⟨rfl,⟨nd,rfl⟩⟩;refine ⟨_,rfl,?_⟩))
 (try simp only [Act.put,List.setIfInBounds_toArray,List.set_cons_zero,List.set_cons_succ])
 go_cut [6] (fun v6 wc => ∃ (kq:Nat) (x6_3:List (S66)) (x194001_3:Int) (x194002_3:Int),Aside0 (uo.j0 kq a1 x6_3 t195 = some (r1,r2,r3,r4)) ∧ Aside0 (kq ≤ k) ∧ Aside0 (Kd.R k66 66 wc w.heap.size (fun _ => True) v6 x6_3) ∧ Aside0 (wc.heap[gb193]? = some (.cells #[(.slice none 0 0),.int .i64 x194001_3,.int .u64 x194002_3] 53 (0,0))) ∧ Aside0 (Below w.heap.size w wc))
 case first =>
  have H:=HC4.out
  clear HC4
  by_cases c6:t194.toList = ([]:List UInt8)
  ·rw [if_pos c6] at H
   have c6b0:(t194.toList == ([]:List UInt8)) = true:=beq_iff_eq.mpr c6
   have c6b1:(t194.toList != ([]:List UInt8)) = false:=bne_eq_false_iff_eq.mpr c6
   have c6b2:t194.toList.isEmpty = true:=by rw [c6];rfl
   clear c6
   (first | rw [c6b0] | (rw [c6b2];simp only [Bool.not_true,Bool.not_false]) | (simp only [i64_w,i32_w];rw [c6b0]) | skip)
   have H':=Aside0.mk H
   clear H
   go_wp2
   go_meet
   case rel => exact ⟨_,(([]:List (S66))),(0),(0),H',⟨by first | omega | exact Nat.le_refl _⟩,⟨by first | exact Kd.R_nil _ _ _ _ _ | exact Kd.N_nil _ _ _ _ _ | exact Kd.V_nil _ _ _ _ _ | exact Kd.Q_nil _ _ _ _ _ | exact Kd.S_nil _ _ _ _ _⟩,⟨by (with_reducible repeat (first | refine ue ?_ _ | refine ug ?_ | refine uf ?_ _));exact BK193.out⟩,⟨by repeat (first | (with_reducible first | exact HB.out | apply uc | apply ub | apply ud | refine ui ?_ GE193.out) | exact HB.out)⟩⟩
  ·rw [if_neg c6] at H
   have c6b0:(t194.toList == ([]:List UInt8)) = false:=beq_eq_false_iff_ne.mpr c6
   have c6b1:(t194.toList != ([]:List UInt8)) = true:=bne_iff_ne.mpr c6
   have c6b2:t194.toList.isEmpty = false:=by cases e_:t194.toList with | nil => exact absurd e_ c6 | cons _ _ => rfl
   (first | rw [c6b0] | (rw [c6b2];simp only [Bool.not_true,Bool.not_false]) | (simp only [i64_w,i32_w];rw [c6b0]) | skip)
   replace H:=Option.bind_eq_some_iff.mp H
   obtain ⟨t196,A70,H⟩:=H
   replace H:(if t196 = true then (uo.j0 k a1 (([(⟨(⟨#[95,95,110,97,109,101,95,95]⟩:ByteArray),t194⟩:S66)]:List (S66))) t195) else (some (([]:List (S66)),0,0,false))) = some (r1,r2,r3,r4):=H
   have A7:=Aside0.mk A70
   clear A70
   by_cases c8:t196 = true
   ·subst c8
    have H1:(uo.j0 k a1 (([(⟨(⟨#[95,95,110,97,109,101,95,95]⟩:ByteArray),t194⟩:S66)]:List (S66))) t195) = some (r1,r2,r3,r4):=by rw [if_pos rfl] at H;exact H
    clear H
    have H:=H1
    clear H1
    obtain ⟨y197,hy197⟩:∃ y_:List (S66),y_ = (([(⟨(⟨#[95,95,110,97,109,101,95,95]⟩:ByteArray),t194⟩:S66)]:List (S66))):=⟨_,rfl⟩
    replace H:(uo.j0 k a1 y197 t195) = some (r1,r2,r3,r4):=by first | (rw [hy197];with_reducible exact H) | (have H2_:=(Option.bind_some _ _).symm.trans H;rw [hy197];with_reducible exact H2_) | (have H2_:=(Option.bind_some _ _).symm.trans H;with_reducible exact H2_) | with_reducible exact H | (rw [hy197];exact H) | exact H
    have Ny197:=Aside0.mk hy197
    clear hy197
    have H':=Aside0.mk H
    clear H
    go_wp2_with (first | ((with_reducible refine u1u (f:=37) rfl ?_);refine u3e (some 22) rfl rfl Tryz.func37 (by kernel_rfl) rfl #[.string t194] rfl (by (try simp only [List.map_toArray,List.map_cons,List.map_nil]);first | done | rfl | (simp only [List.length_drop,List.length_take];rfl)) ?_;(with_reducible refine (u1a.calls k t194 true _ A7.out).mono ?_);rintro e w' ⟨rfl,⟨nd,rfl⟩⟩;refine ⟨_,rfl,?_⟩) | ((with_reducible refine u3f (N:=27) rfl ?_);refine Kd.R_lit k66 _ 66 ?hg (N:=27) ?hd (xs:=([(⟨(⟨#[95,95,110,97,109,101,95,95]⟩:ByteArray),t194⟩:S66)]:List (S66))) (inner:=[.string (⟨#[95,95,110,97,109,101,95,95]⟩:ByteArray),.string t194]) (ok:=fun _ => True) (okp:=fun _ => True) ?hr ?hp (fun _ hk => hk) trivial (Below.refl _ _) (Nat.le_refl _) (by simp) ?_;(case hd => rfl);(case hg => rfl);(case hr => first | (go_simp;done) | (go_simp;rfl));(case hp => exact (Reps.c2 (show Kd.M k66 _ _ _ (⟨(⟨#[95,95,110,97,109,101,95,95]⟩:ByteArray),t194⟩:S66) [.string (⟨#[95,95,110,97,109,101,95,95]⟩:ByteArray),.string t194] from (k66_mkM _ _ _ (⟨(⟨#[95,95,110,97,109,101,95,95]⟩:ByteArray),t194⟩:S66) )) (Reps.none _ _)));intro v198 w9 ho10 hb hg_ hnew_;clear hg_ hnew_;(first | rw [← Ny197.out] at ho10 | (simp only [Int.reduceToNat] at ho10;rw [← Ny197.out] at ho10));have n0_:=Aside0.mk (Kd.R_lower ho10 (u1c (by repeat (first | (with_reducible first | exact HB.out | apply uc | apply ub | apply ud | refine ui ?_ GE193.out) | exact HB.out))));have n1_:=Aside0.mk (u2c (g:=gb193) (o:=.cells #[.slice none 0 0,.int .i64 0,.int .u64 0] 53 (0,0)) (by (with_reducible repeat (first | refine ue ?_ _ | refine ug ?_ | refine uf ?_ _));exact BK193.out) hb);have n2_:=Aside0.mk (u1h (by repeat (first | (with_reducible first | exact HB.out | apply uc | apply ub | apply ud | refine ui ?_ GE193.out) | exact HB.out)) hb);clear BK193;clear HB;have HO199:=n0_;have BK193:=n1_;have HB:=n2_;clear n0_ n1_ n2_;clear hb ho10))
    go_meet
    case rel => exact ⟨_,(y197),(0),(0),H',⟨by first | omega | exact Nat.le_refl _⟩,⟨by (with_reducible repeat (first | apply Kd.R_alloc | apply Kd.R_drewN | apply Kd.R_drew));exact HO199.out⟩,⟨by (with_reducible repeat (first | refine ue ?_ _ | refine ug ?_ | refine uf ?_ _));exact BK193.out⟩,⟨by repeat (first | (with_reducible first | exact HB.out | apply uc | apply ub | apply ud | refine ui ?_ GE193.out) | exact HB.out)⟩⟩
   ·replace c8:=Bool.eq_false_iff.mpr c8
    subst c8
    have H1:(some (([]:List (S66)),0,0,false)) = some (r1,r2,r3,r4):=by rw [if_neg (show ¬ (false = true) by decide)] at H;exact H
    clear H
    have H:=H1
    clear H1
    simp only [Option.some.injEq,Prod.mk.injEq] at H
    obtain ⟨rfl,rfl,rfl,rfl⟩:=H
    go_wp2_with (first | ((with_reducible refine u1u (f:=37) rfl ?_);refine u3e (some 22) rfl rfl Tryz.func37 (by kernel_rfl) rfl #[.string t194] rfl (by (try simp only [List.map_toArray,List.map_cons,List.map_nil]);first | done | rfl | (simp only [List.length_drop,List.length_take];rfl)) ?_;(with_reducible refine (u1a.calls k t194 false _ A7.out).mono ?_);rintro e w' ⟨rfl,⟨nd,rfl⟩⟩;refine ⟨_,rfl,?_⟩;(try (rw [u2z w5];generalize hq_:World.drewN w5 _ = w5;have n0_:Aside0 (w5.heap[gb193]? = some (.cells #[.slice none 0 0,.int .i64 0,.int .u64 0] 53 (0,0))):=⟨by rw [← hq_];exact (by (with_reducible repeat (first | refine ue ?_ _ | refine ug ?_ | refine uf ?_ _));exact BK193.out)⟩;have n1_:Aside0 (Below w.heap.size w w5):=⟨by rw [← hq_];exact (by repeat (first | (with_reducible first | exact HB.out | apply uc | apply ub | apply ud | refine ui ?_ GE193.out) | exact HB.out))⟩;clear BK193 HB hq_;have BK193:=n0_;have HB:=n1_;clear n0_ n1_));have hcz11_0:w5.cell? ⟨gb193,0,none⟩ = some (.slice none 0 0):=(uj BK193.out 0).trans rfl;have hcz11_1:w5.cell? ⟨gb193,1,none⟩ = some (.int .i64 0):=(uj BK193.out 1).trans rfl;have hcz11_2:w5.cell? ⟨gb193,2,none⟩ = some (.int .u64 0):=(uj BK193.out 2).trans rfl;have hfz11_0:=uk BK193.out 0;have hfz11_1:=uk BK193.out 1;have hfz11_2:=uk BK193.out 2))
    refine bodyPost_ret (results_ct rfl _ _ gb193 53 #[.slice none 0 0,.int .i64 0,.int .u64 0] (0,0) _ rfl (by (with_reducible repeat (first | refine ue ?_ _ | refine ug ?_ | refine uf ?_ _));refine u2d (cs:=#[.slice none 0 0,.int .i64 0,.int .u64 0]) ?_ 2 _ rfl;(with_reducible repeat (first | refine ue ?_ _ | refine ug ?_ | refine uf ?_ _));refine u2d (cs:=#[.slice none 0 0,.int .i64 0,.int .u64 0]) ?_ 1 _ rfl;(with_reducible repeat (first | refine ue ?_ _ | refine ug ?_ | refine uf ?_ _));refine u2d (cs:=#[.slice none 0 0,.int .i64 0,.int .u64 0]) ?_ 0 _ rfl;(with_reducible repeat (first | refine ue ?_ _ | refine ug ?_ | refine uf ?_ _));exact BK193.out) Tryz.underlying53 rfl (by kernel_rfl)) rfl ?_
    exact ⟨_,by first | rfl | (simp [u1k,u1l] <;> rfl) | (simp [*,u1k,u1l] <;> rfl),by first | exact Kd.R_nil _ _ _ _ _ | exact Kd.N_nil _ _ _ _ _ | exact Kd.V_nil _ _ _ _ _ | exact Kd.Q_nil _ _ _ _ _ | exact Kd.S_nil _ _ _ _ _,by repeat (first | (with_reducible first | exact HB.out | apply uc | apply ub | apply ud | refine ui ?_ GE193.out) | exact HB.out)⟩
 case rest =>
  clear HC4
  try clear c1
  try clear c2
  try clear p2
  try clear c3
  try clear c5
  try clear c6
  try clear c6b0
  try clear c6b1
  try clear c8
  try clear c10
  try clear hcz11_0
  try clear hcz11_1
  try clear hcz11_2
  try clear hfz11_0
  try clear hfz11_1
  try clear hfz11_2
  obtain ⟨kq,x6_3,x194001_3,x194002_3,HA,HJ3,HO_6,BK193,HB⟩:=hcut
  cases kq with
  | zero => exact absurd HA.out (by simp [uo.j0])
  | succ kj3 =>
   have H:=HA.out
   clear HA
   simp only [uo.j0] at H
   replace H:=Option.bind_eq_some_iff.mp H
   obtain ⟨t200,A120,H⟩:=H
   replace H:(if t200 = true then (if 1 ≤ (t195.size:Int) then ((um.f kj3 x6_3 (t195.extract 1 t195.size)).bind fun bt201 => (if bt201.2.2 = true then (uo.j1 kj3 a1 bt201.1 bt201.2.1) else (some (([]:List (S66)),0,0,false)))) else (none)) else (uo.j1 kj3 a1 x6_3 t195)) = some (r1,r2,r3,r4):=H
   have A12:=Aside0.mk A120
   clear A120
   have HC13:=Aside0.mk H
   clear H
   go_upto_if 29 with (first | ((with_reducible refine u1u (f:=23) rfl ?_);refine u3e (some 29) rfl rfl Tryz.func23 (by kernel_rfl) rfl #[.string t195,.string (⟨#[123]⟩:ByteArray)] rfl (by (try simp only [List.map_toArray,List.map_cons,List.map_nil]);first | done | rfl | (simp only [List.length_drop,List.length_take];rfl)) ?_;(with_reducible refine (uv.calls t195 (⟨#[123]⟩:ByteArray) t200 _ A12.out).mono ?_);rintro e w' ⟨rfl,⟨nd,rfl⟩⟩;refine ⟨_,rfl,?_⟩))
   (try simp only [Act.put,List.setIfInBounds_toArray,List.set_cons_zero,List.set_cons_succ])
   go_cut [6,8] (fun v6 v8 wc => ∃ (kq:Nat) (x6_12:List (S66)) (x8_12:ByteArray) (x194001_12:Int) (x194002_12:Int),v8 = .string x8_12 ∧ Aside0 (uo.j1 kq a1 x6_12 x8_12 = some (r1,r2,r3,r4)) ∧ Aside0 (kq ≤ kj3) ∧ Aside0 (Kd.R k66 66 wc w.heap.size (fun _ => True) v6 x6_12) ∧ Aside0 (wc.heap[gb193]? = some (.cells #[(.slice none 0 0),.int .i64 x194001_12,.int .u64 x194002_12] 53 (0,0))) ∧ Aside0 (Below w.heap.size w wc))
   case first =>
    have H:=HC13.out
    clear HC13
    by_cases c14:t200 = true
    ·subst c14
     have H1:(if 1 ≤ (t195.size:Int) then ((um.f kj3 x6_3 (t195.extract 1 t195.size)).bind fun bt201 => (if bt201.2.2 = true then (uo.j1 kj3 a1 bt201.1 bt201.2.1) else (some (([]:List (S66)),0,0,false)))) else (none)) = some (r1,r2,r3,r4):=by rw [if_pos rfl] at H;exact H
     clear H
     have H:=H1
     clear H1
     by_cases c15:1 ≤ (t195.size:Int)
     ·rw [if_pos c15] at H
      have c15b0:=eq_true c15
      have c15b1:decide (1 ≤ (t195.size:Int)) = true:=decide_eq_true c15
      clear c15
      replace H:=Option.bind_eq_some_iff.mp H
      obtain ⟨⟨t201,t204,t205⟩,A160,H⟩:=H
      replace H:(if t205 = true then (uo.j1 kj3 a1 t201 t204) else (some (([]:List (S66)),0,0,false))) = some (r1,r2,r3,r4):=H
      have A16:=Aside0.mk A160
      clear A160
      by_cases c17:t205 = true
      ·subst c17
       have H1:(uo.j1 kj3 a1 t201 t204) = some (r1,r2,r3,r4):=by rw [if_pos rfl] at H;exact H
       clear H
       have H:=H1
       clear H1
       have H':=Aside0.mk H
       clear H
       obtain ⟨Ao18,co18,eo18⟩:=Kd.R_slice HO_6.out
       subst eo18
       go_wp2_with (first | ((with_reducible refine u1u (f:=101) rfl ?_);refine u3e (some 34) rfl rfl Tryz.func101 (by kernel_rfl) rfl #[.slice Ao18 x6_3.length co18,.string (t195.extract 1 t195.size)] rfl (by (try simp only [List.map_toArray,List.map_cons,List.map_nil]);first | done | rfl | (simp only [List.length_drop,List.length_take];rfl)) ?_;(with_reducible refine (um.calls kj3 (fun k_ => some k_ = (.slice Ao18 x6_3.length co18:Value).ownBlock) _ _ x6_3 (t195.extract 1 t195.size) t201 t204 true _ ?side1 A16.out).mono ?_);(case side1 => exact Kd.R_V (Kd.R_tight rfl (Kd.R_types (HO_6.out) BK193.out (by decide))));rintro e w19 ⟨v202,rfl,ho0,hb⟩;refine ⟨_,rfl,?_⟩;have n0_:=Aside0.mk (Kd.R_elder' (by (with_reducible repeat (first | apply Kd.R_alloc | apply Kd.R_drewN | apply Kd.R_drew));exact HO_6.out) (Kd.R_base ho0) hb);have n1_:=Aside0.mk (Kd.R_lower (Kd.R_new' (Kd.R_mono (ok':=fun k_ => True) ho0 (fun _ hk_ => trivial)) (Kd.R_lt (by (with_reducible repeat (first | apply Kd.R_alloc | apply Kd.R_drewN | apply Kd.R_drew));exact HO_6.out))) (u1c (by repeat (first | (with_reducible first | exact HB.out | apply uc | apply ub | apply ud | refine ui ?_ GE193.out) | exact HB.out))));have n2_:=Aside0.mk (u2c (g:=gb193) (o:=.cells #[.slice none 0 0,.int .i64 x194001_3,.int .u64 x194002_3] 53 (0,0)) (by (with_reducible repeat (first | refine ue ?_ _ | refine ug ?_ | refine uf ?_ _));exact BK193.out) hb);have n3_:=Aside0.mk (u1h (by repeat (first | (with_reducible first | exact HB.out | apply uc | apply ub | apply ud | refine ui ?_ GE193.out) | exact HB.out)) hb);clear HO_6;clear BK193;clear HB;have HO_6:=n0_;have HO203:=n1_;have BK193:=n2_;have HB:=n3_;clear n0_ n1_ n2_ n3_;(try clear hb);(try clear hb2);(try clear hk);(try clear hi);(try clear ho0)))
       go_meet
       case rel => exact ⟨_,(t201),(t204),(x194001_3),(x194002_3),(by first | rfl | (simp;done) | (simp [*];done)),H',⟨by have:=HJ3.out;first | omega | exact Nat.le_refl _⟩,⟨by (with_reducible repeat (first | apply Kd.R_alloc | apply Kd.R_drewN | apply Kd.R_drew));exact Kd.R_mono HO203.out (fun _ hk => trivial)⟩,⟨by (with_reducible repeat (first | refine ue ?_ _ | refine ug ?_ | refine uf ?_ _));exact BK193.out⟩,⟨by repeat (first | (with_reducible first | exact HB.out | apply uc | apply ub | apply ud | refine ui ?_ GE193.out) | exact HB.out)⟩⟩
      ·replace c17:=Bool.eq_false_iff.mpr c17
       subst c17
       have H1:(some (([]:List (S66)),0,0,false)) = some (r1,r2,r3,r4):=by rw [if_neg (show ¬ (false = true) by decide)] at H;exact H
       clear H
       have H:=H1
       clear H1
       simp only [Option.some.injEq,Prod.mk.injEq] at H
       obtain ⟨rfl,rfl,rfl,rfl⟩:=H
       obtain ⟨Ao20,co20,eo20⟩:=Kd.R_slice HO_6.out
       subst eo20
       go_wp2_with (first | ((with_reducible refine u1u (f:=101) rfl ?_);refine u3e (some 34) rfl rfl Tryz.func101 (by kernel_rfl) rfl #[.slice Ao20 x6_3.length co20,.string (t195.extract 1 t195.size)] rfl (by (try simp only [List.map_toArray,List.map_cons,List.map_nil]);first | done | rfl | (simp only [List.length_drop,List.length_take];rfl)) ?_;(with_reducible refine (um.calls kj3 (fun k_ => some k_ = (.slice Ao20 x6_3.length co20:Value).ownBlock) _ _ x6_3 (t195.extract 1 t195.size) t201 t204 false _ ?side1 A16.out).mono ?_);(case side1 => exact Kd.R_V (Kd.R_tight rfl (Kd.R_types (HO_6.out) BK193.out (by decide))));rintro e w21 ⟨v202,rfl,ho0,hb⟩;refine ⟨_,rfl,?_⟩;have n0_:=Aside0.mk (Kd.R_elder' (by (with_reducible repeat (first | apply Kd.R_alloc | apply Kd.R_drewN | apply Kd.R_drew));exact HO_6.out) (Kd.R_base ho0) hb);have n1_:=Aside0.mk (Kd.R_lower (Kd.R_new' (Kd.R_mono (ok':=fun k_ => True) ho0 (fun _ hk_ => trivial)) (Kd.R_lt (by (with_reducible repeat (first | apply Kd.R_alloc | apply Kd.R_drewN | apply Kd.R_drew));exact HO_6.out))) (u1c (by repeat (first | (with_reducible first | exact HB.out | apply uc | apply ub | apply ud | refine ui ?_ GE193.out) | exact HB.out))));have n2_:=Aside0.mk (u2c (g:=gb193) (o:=.cells #[.slice none 0 0,.int .i64 x194001_3,.int .u64 x194002_3] 53 (0,0)) (by (with_reducible repeat (first | refine ue ?_ _ | refine ug ?_ | refine uf ?_ _));exact BK193.out) hb);have n3_:=Aside0.mk (u1h (by repeat (first | (with_reducible first | exact HB.out | apply uc | apply ub | apply ud | refine ui ?_ GE193.out) | exact HB.out)) hb);clear HO_6;clear BK193;clear HB;have HO_6:=n0_;have HO203:=n1_;have BK193:=n2_;have HB:=n3_;clear n0_ n1_ n2_ n3_;(try clear hb);(try clear hb2);(try clear hk);(try clear hi);(try clear ho0);have hcz22_0:w21.cell? ⟨gb193,0,none⟩ = some (.slice none 0 0):=(uj BK193.out 0).trans rfl;have hcz22_1:w21.cell? ⟨gb193,1,none⟩ = some (.int .i64 x194001_3):=(uj BK193.out 1).trans rfl;have hcz22_2:w21.cell? ⟨gb193,2,none⟩ = some (.int .u64 x194002_3):=(uj BK193.out 2).trans rfl;have hfz22_0:=uk BK193.out 0;have hfz22_1:=uk BK193.out 1;have hfz22_2:=uk BK193.out 2))
       refine bodyPost_ret (results_ct rfl _ _ gb193 53 #[.slice none 0 0,.int .i64 0,.int .u64 0] (0,0) _ rfl (by (with_reducible repeat (first | refine ue ?_ _ | refine ug ?_ | refine uf ?_ _));refine u2d (cs:=#[.slice none 0 0,.int .i64 0,.int .u64 x194002_3]) ?_ 2 _ rfl;(with_reducible repeat (first | refine ue ?_ _ | refine ug ?_ | refine uf ?_ _));refine u2d (cs:=#[.slice none 0 0,.int .i64 x194001_3,.int .u64 x194002_3]) ?_ 1 _ rfl;(with_reducible repeat (first | refine ue ?_ _ | refine ug ?_ | refine uf ?_ _));refine u2d (cs:=#[.slice none 0 0,.int .i64 x194001_3,.int .u64 x194002_3]) ?_ 0 _ rfl;(with_reducible repeat (first | refine ue ?_ _ | refine ug ?_ | refine uf ?_ _));exact BK193.out) Tryz.underlying53 rfl (by kernel_rfl)) rfl ?_
       exact ⟨_,by first | rfl | (simp [u1k,u1l] <;> rfl) | (simp [*,u1k,u1l] <;> rfl),by first | exact Kd.R_nil _ _ _ _ _ | exact Kd.N_nil _ _ _ _ _ | exact Kd.V_nil _ _ _ _ _ | exact Kd.Q_nil _ _ _ _ _ | exact Kd.S_nil _ _ _ _ _,by repeat (first | (with_reducible first | exact HB.out | apply uc | apply ub | apply ud | refine ui ?_ GE193.out) | exact HB.out)⟩
     ·rw [if_neg c15] at H
      exact absurd H (by simp)
    ·replace c14:=Bool.eq_false_iff.mpr c14
     subst c14
     have H1:(uo.j1 kj3 a1 x6_3 t195) = some (r1,r2,r3,r4):=by rw [if_neg (show ¬ (false = true) by decide)] at H;exact H
     clear H
     have H:=H1
     clear H1
     have H':=Aside0.mk H
     clear H
     go_wp2
     go_meet
     case rel => exact ⟨_,(x6_3),(t195),(x194001_3),(x194002_3),(by first | rfl | (simp;done) | (simp [*];done)),H',⟨by have:=HJ3.out;first | omega | exact Nat.le_refl _⟩,⟨by (with_reducible repeat (first | apply Kd.R_alloc | apply Kd.R_drewN | apply Kd.R_drew));exact HO_6.out⟩,⟨by (with_reducible repeat (first | refine ue ?_ _ | refine ug ?_ | refine uf ?_ _));exact BK193.out⟩,⟨by repeat (first | (with_reducible first | exact HB.out | apply uc | apply ub | apply ud | refine ui ?_ GE193.out) | exact HB.out)⟩⟩
   case rest =>
    clear HC13
    try clear c1
    try clear c2
    try clear p2
    try clear c3
    try clear c5
    try clear c6
    try clear c6b0
    try clear c6b1
    try clear c8
    try clear c10
    try clear c14
    try clear c15
    try clear c15b0
    try clear c15b1
    try clear c17
    try clear hcz11_0
    try clear hcz11_1
    try clear hcz11_2
    try clear hcz22_0
    try clear hcz22_1
    try clear hcz22_2
    try clear hfz11_0
    try clear hfz11_1
    try clear hfz11_2
    try clear hfz22_0
    try clear hfz22_1
    try clear hfz22_2
    try clear p2
    obtain ⟨kq,x6_12,x8_12,x194001_12,x194002_12,rfl,HA,HJ12,HO_6,BK193,HB⟩:=hcut
    cases kq with
    | zero => exact absurd HA.out (by simp [uo.j1])
    | succ kj12 =>
     have H:=HA.out
     clear HA
     simp only [uo.j1] at H
     replace H:=Option.bind_eq_some_iff.mp H
     obtain ⟨⟨t206,t207⟩,A230,H⟩:=H
     replace H:((u2f.f kj12 t206).bind fun bt208 => ((uy.f kj12 x6_12).bind fun t211 => (if t211 = true then (if t207 = true then (uo.j2 kj12 a1 x6_12 bt208.2.1 bt208.1 (!bt208.2.2)) else (uo.j2 kj12 a1 x6_12 bt208.2.1 bt208.1 true)) else (uo.j2 kj12 a1 x6_12 bt208.2.1 bt208.1 true)))) = some (r1,r2,r3,r4):=H
     have A23:=Aside0.mk A230
     clear A230
     replace H:=Option.bind_eq_some_iff.mp H
     obtain ⟨⟨t208,t209,t210⟩,A240,H⟩:=H
     replace H:((uy.f kj12 x6_12).bind fun t211 => (if t211 = true then (if t207 = true then (uo.j2 kj12 a1 x6_12 t209 t208 (!t210)) else (uo.j2 kj12 a1 x6_12 t209 t208 true)) else (uo.j2 kj12 a1 x6_12 t209 t208 true))) = some (r1,r2,r3,r4):=H
     have A24:=Aside0.mk A240
     clear A240
     have HC25:=Aside0.mk H
     clear H
     go_upto_region 14 with (first | ((with_reducible refine u1u (f:=53) rfl ?_);refine u3e (some 43) rfl rfl Tryz.func53 (by kernel_rfl) rfl #[.string x8_12] rfl (by (try simp only [List.map_toArray,List.map_cons,List.map_nil]);first | done | rfl | (simp only [List.length_drop,List.length_take];rfl)) ?_;(with_reducible refine (u1f.calls kj12 x8_12 t206 t207 _ A23.out).mono ?_);rintro e w' ⟨rfl,⟨nd,rfl⟩⟩;refine ⟨_,rfl,?_⟩) | ((with_reducible refine u1u (f:=102) rfl ?_);refine u3e (some 48) rfl rfl Tryz.func102 (by kernel_rfl) rfl #[.string t206] rfl (by (try simp only [List.map_toArray,List.map_cons,List.map_nil]);first | done | rfl | (simp only [List.length_drop,List.length_take];rfl)) ?_;(with_reducible refine (u2f.calls kj12 t206 t208 t209 t210 _ A24.out).mono ?_);rintro e w' ⟨rfl,⟨nd,rfl⟩⟩;refine ⟨_,rfl,?_⟩))
     (try simp only [Act.put,List.setIfInBounds_toArray,List.set_cons_zero,List.set_cons_succ])
     go_cut [62] (fun v62 wc => ∃ (kq:Nat) (x62_24:Bool),v62 = .bool x62_24 ∧ Aside0 (uo.j2 kq a1 x6_12 t209 t208 x62_24 = some (r1,r2,r3,r4)) ∧ Aside0 (kq ≤ kj12) ∧ Aside0 (Kd.R k66 66 wc w.heap.size (fun _ => True) u6 x6_12) ∧ Aside0 (wc.heap[gb193]? = some (.cells #[(.slice none 0 0),.int .i64 x194001_12,.int .u64 x194002_12] 53 (0,0))) ∧ Aside0 (Below w.heap.size w wc))
     case first =>
      have H:=HC25.out
      clear HC25
      replace H:=Option.bind_eq_some_iff.mp H
      obtain ⟨t211,A260,H⟩:=H
      replace H:(if t211 = true then (if t207 = true then (uo.j2 kj12 a1 x6_12 t209 t208 (!t210)) else (uo.j2 kj12 a1 x6_12 t209 t208 true)) else (uo.j2 kj12 a1 x6_12 t209 t208 true)) = some (r1,r2,r3,r4):=H
      have A26:=Aside0.mk A260
      clear A260
      by_cases c27:t211 = true
      ·subst c27
       have H1:(if t207 = true then (uo.j2 kj12 a1 x6_12 t209 t208 (!t210)) else (uo.j2 kj12 a1 x6_12 t209 t208 true)) = some (r1,r2,r3,r4):=by rw [if_pos rfl] at H;exact H
       clear H
       have H:=H1
       clear H1
       by_cases c28:t207 = true
       ·subst c28
        have H1:(uo.j2 kj12 a1 x6_12 t209 t208 (!t210)) = some (r1,r2,r3,r4):=by rw [if_pos rfl] at H;exact H
        clear H
        have H:=H1
        clear H1
        have H':=Aside0.mk H
        clear H
        obtain ⟨Ao29,co29,eo29⟩:=Kd.R_slice HO_6.out
        subst eo29
        go_wp2_with (first | ((with_reducible refine u1u (f:=40) rfl ?_);refine u3e (some 53) rfl rfl Tryz.func40 (by kernel_rfl) rfl #[.slice Ao29 x6_12.length co29] rfl (by (try simp only [List.map_toArray,List.map_cons,List.map_nil]);first | done | rfl | (simp only [List.length_drop,List.length_take];rfl)) ?_;(with_reducible refine (uy.calls kj12 _ _ x6_12 true _ ?side1 ?side2 A26.out).mono ?_);(case side1 => repeat (first | exact (Kd.R_reads' HO_6.out).2.2 | (with_reducible refine Kd.C_alloc ?_ _) | (with_reducible refine Kd.C_drewN ?_ _) | (with_reducible refine Kd.C_drew ?_)));(case side2 => exact (Kd.R_reads' HO_6.out).2.1);rintro e w30 ⟨rfl,hb⟩;refine ⟨_,rfl,?_⟩;have n0_:=Aside0.mk (Kd.R_below (by (with_reducible repeat (first | apply Kd.R_alloc | apply Kd.R_drewN | apply Kd.R_drew));exact HO_6.out) hb);have n1_:=Aside0.mk (u2c (g:=gb193) (o:=.cells #[.slice none 0 0,.int .i64 x194001_12,.int .u64 x194002_12] 53 (0,0)) (by (with_reducible repeat (first | refine ue ?_ _ | refine ug ?_ | refine uf ?_ _));exact BK193.out) hb);have n2_:=Aside0.mk (u1h (by repeat (first | (with_reducible first | exact HB.out | apply uc | apply ub | apply ud | refine ui ?_ GE193.out) | exact HB.out)) hb);clear HO_6;clear BK193;clear HB;have HO_6:=n0_;have BK193:=n1_;have HB:=n2_;clear n0_ n1_ n2_;(try clear hb);(try clear hb2);(try clear hk);(try clear hi)))
        go_meet
        case rel => exact ⟨_,(!t210),(by first | rfl | (simp;done) | (simp [*];done)),H',⟨by have:=HJ3.out;have:=HJ12.out;first | omega | exact Nat.le_refl _⟩,⟨by (with_reducible repeat (first | apply Kd.R_alloc | apply Kd.R_drewN | apply Kd.R_drew));exact HO_6.out⟩,⟨by (with_reducible repeat (first | refine ue ?_ _ | refine ug ?_ | refine uf ?_ _));exact BK193.out⟩,⟨by repeat (first | (with_reducible first | exact HB.out | apply uc | apply ub | apply ud | refine ui ?_ GE193.out) | exact HB.out)⟩⟩
       ·replace c28:=Bool.eq_false_iff.mpr c28
        subst c28
        have H1:(uo.j2 kj12 a1 x6_12 t209 t208 true) = some (r1,r2,r3,r4):=by rw [if_neg (show ¬ (false = true) by decide)] at H;exact H
        clear H
        have H:=H1
        clear H1
        have H':=Aside0.mk H
        clear H
        obtain ⟨Ao31,co31,eo31⟩:=Kd.R_slice HO_6.out
        subst eo31
        go_wp2_with (first | ((with_reducible refine u1u (f:=40) rfl ?_);refine u3e (some 53) rfl rfl Tryz.func40 (by kernel_rfl) rfl #[.slice Ao31 x6_12.length co31] rfl (by (try simp only [List.map_toArray,List.map_cons,List.map_nil]);first | done | rfl | (simp only [List.length_drop,List.length_take];rfl)) ?_;(with_reducible refine (uy.calls kj12 _ _ x6_12 true _ ?side1 ?side2 A26.out).mono ?_);(case side1 => repeat (first | exact (Kd.R_reads' HO_6.out).2.2 | (with_reducible refine Kd.C_alloc ?_ _) | (with_reducible refine Kd.C_drewN ?_ _) | (with_reducible refine Kd.C_drew ?_)));(case side2 => exact (Kd.R_reads' HO_6.out).2.1);rintro e w32 ⟨rfl,hb⟩;refine ⟨_,rfl,?_⟩;have n0_:=Aside0.mk (Kd.R_below (by (with_reducible repeat (first | apply Kd.R_alloc | apply Kd.R_drewN | apply Kd.R_drew));exact HO_6.out) hb);have n1_:=Aside0.mk (u2c (g:=gb193) (o:=.cells #[.slice none 0 0,.int .i64 x194001_12,.int .u64 x194002_12] 53 (0,0)) (by (with_reducible repeat (first | refine ue ?_ _ | refine ug ?_ | refine uf ?_ _));exact BK193.out) hb);have n2_:=Aside0.mk (u1h (by repeat (first | (with_reducible first | exact HB.out | apply uc | apply ub | apply ud | refine ui ?_ GE193.out) | exact HB.out)) hb);clear HO_6;clear BK193;clear HB;have HO_6:=n0_;have BK193:=n1_;have HB:=n2_;clear n0_ n1_ n2_;(try clear hb);(try clear hb2);(try clear hk);(try clear hi)))
        go_meet
        case rel => exact ⟨_,(true),(by first | rfl | (simp;done) | (simp [*];done)),H',⟨by have:=HJ3.out;have:=HJ12.out;first | omega | exact Nat.le_refl _⟩,⟨by (with_reducible repeat (first | apply Kd.R_alloc | apply Kd.R_drewN | apply Kd.R_drew));exact HO_6.out⟩,⟨by (with_reducible repeat (first | refine ue ?_ _ | refine ug ?_ | refine uf ?_ _));exact BK193.out⟩,⟨by repeat (first | (with_reducible first | exact HB.out | apply uc | apply ub | apply ud | refine ui ?_ GE193.out) | exact HB.out)⟩⟩
      ·replace c27:=Bool.eq_false_iff.mpr c27
       subst c27
       have H1:(uo.j2 kj12 a1 x6_12 t209 t208 true) = some (r1,r2,r3,r4):=by rw [if_neg (show ¬ (false = true) by decide)] at H;exact H
       clear H
       have H:=H1
       clear H1
       have H':=Aside0.mk H
       clear H
       obtain ⟨Ao33,co33,eo33⟩:=Kd.R_slice HO_6.out
       subst eo33
       go_wp2_with (first | ((with_reducible refine u1u (f:=40) rfl ?_);refine u3e (some 53) rfl rfl Tryz.func40 (by kernel_rfl) rfl #[.slice Ao33 x6_12.length co33] rfl (by (try simp only [List.map_toArray,List.map_cons,List.map_nil]);first | done | rfl | (simp only [List.length_drop,List.length_take];rfl)) ?_;(with_reducible refine (uy.calls kj12 _ _ x6_12 false _ ?side1 ?side2 A26.out).mono ?_);(case side1 => repeat (first | exact (Kd.R_reads' HO_6.out).2.2 | (with_reducible refine Kd.C_alloc ?_ _) | (with_reducible refine Kd.C_drewN ?_ _) | (with_reducible refine Kd.C_drew ?_)));(case side2 => exact (Kd.R_reads' HO_6.out).2.1);rintro e w34 ⟨rfl,hb⟩;refine ⟨_,rfl,?_⟩;have n0_:=Aside0.mk (Kd.R_below (by (with_reducible repeat (first | apply Kd.R_alloc | apply Kd.R_drewN | apply Kd.R_drew));exact HO_6.out) hb);have n1_:=Aside0.mk (u2c (g:=gb193) (o:=.cells #[.slice none 0 0,.int .i64 x194001_12,.int .u64 x194002_12] 53 (0,0)) (by (with_reducible repeat (first | refine ue ?_ _ | refine ug ?_ | refine uf ?_ _));exact BK193.out) hb);have n2_:=Aside0.mk (u1h (by repeat (first | (with_reducible first | exact HB.out | apply uc | apply ub | apply ud | refine ui ?_ GE193.out) | exact HB.out)) hb);clear HO_6;clear BK193;clear HB;have HO_6:=n0_;have BK193:=n1_;have HB:=n2_;clear n0_ n1_ n2_;(try clear hb);(try clear hb2);(try clear hk);(try clear hi)))
       go_meet
       case rel => exact ⟨_,(true),(by first | rfl | (simp;done) | (simp [*];done)),H',⟨by have:=HJ3.out;have:=HJ12.out;first | omega | exact Nat.le_refl _⟩,⟨by (with_reducible repeat (first | apply Kd.R_alloc | apply Kd.R_drewN | apply Kd.R_drew));exact HO_6.out⟩,⟨by (with_reducible repeat (first | refine ue ?_ _ | refine ug ?_ | refine uf ?_ _));exact BK193.out⟩,⟨by repeat (first | (with_reducible first | exact HB.out | apply uc | apply ub | apply ud | refine ui ?_ GE193.out) | exact HB.out)⟩⟩
     case rest =>
      clear HC25
      try clear c1
      try clear c2
      try clear p2
      try clear c3
      try clear c4
      try clear c5
      try clear c6
      try clear c6b0
      try clear c6b1
      try clear c8
      try clear c10
      try clear c14
      try clear c15
      try clear c15b0
      try clear c15b1
      try clear c17
      try clear c23
      try clear c27
      try clear c28
      try clear hcz11_0
      try clear hcz11_1
      try clear hcz11_2
      try clear hcz22_0
      try clear hcz22_1
      try clear hcz22_2
      try clear hfz11_0
      try clear hfz11_1
      try clear hfz11_2
      try clear hfz22_0
      try clear hfz22_1
      try clear hfz22_2
      try clear p2
      obtain ⟨kq,x62_24,rfl,HA,HJ24,HO_6,BK193,HB⟩:=hcut
      cases kq with
      | zero => exact absurd HA.out (by simp [uo.j2])
      | succ kj24 =>
       have H:=HA.out
       clear HA
       simp only [uo.j2] at H
       by_cases c35:x62_24 = true
       ·subst c35
        have H1:(some (([]:List (S66)),0,0,false)) = some (r1,r2,r3,r4):=by rw [if_pos rfl] at H;exact H
        clear H
        have H:=H1
        clear H1
        simp only [Option.some.injEq,Prod.mk.injEq] at H
        obtain ⟨rfl,rfl,rfl,rfl⟩:=H
        have hcz36_0:wc.cell? ⟨gb193,0,none⟩ = some (.slice none 0 0):=(uj BK193.out 0).trans rfl
        have hcz36_1:wc.cell? ⟨gb193,1,none⟩ = some (.int .i64 x194001_12):=(uj BK193.out 1).trans rfl
        have hcz36_2:wc.cell? ⟨gb193,2,none⟩ = some (.int .u64 x194002_12):=(uj BK193.out 2).trans rfl
        have hfz36_0:=uk BK193.out 0
        have hfz36_1:=uk BK193.out 1
        have hfz36_2:=uk BK193.out 2
        go_wp2
        refine bodyPost_ret (results_ct rfl _ _ gb193 53 #[.slice none 0 0,.int .i64 0,.int .u64 0] (0,0) _ rfl (by (with_reducible repeat (first | refine ue ?_ _ | refine ug ?_ | refine uf ?_ _));refine u2d (cs:=#[.slice none 0 0,.int .i64 0,.int .u64 x194002_12]) ?_ 2 _ rfl;(with_reducible repeat (first | refine ue ?_ _ | refine ug ?_ | refine uf ?_ _));refine u2d (cs:=#[.slice none 0 0,.int .i64 x194001_12,.int .u64 x194002_12]) ?_ 1 _ rfl;(with_reducible repeat (first | refine ue ?_ _ | refine ug ?_ | refine uf ?_ _));refine u2d (cs:=#[.slice none 0 0,.int .i64 x194001_12,.int .u64 x194002_12]) ?_ 0 _ rfl;(with_reducible repeat (first | refine ue ?_ _ | refine ug ?_ | refine uf ?_ _));exact BK193.out) Tryz.underlying53 rfl (by kernel_rfl)) rfl ?_
        exact ⟨_,by first | rfl | (simp [u1k,u1l] <;> rfl) | (simp [*,u1k,u1l] <;> rfl),by first | exact Kd.R_nil _ _ _ _ _ | exact Kd.N_nil _ _ _ _ _ | exact Kd.V_nil _ _ _ _ _ | exact Kd.Q_nil _ _ _ _ _ | exact Kd.S_nil _ _ _ _ _,by repeat (first | (with_reducible first | exact HB.out | apply uc | apply ub | apply ud | refine ui ?_ GE193.out) | exact HB.out)⟩
       ·replace c35:=Bool.eq_false_iff.mpr c35
        subst c35
        have H1:((u1f.f kj24 t209).bind fun bt212 => (if bt212.1.toList = ([]:List UInt8) then (some (x6_12,a1,t208,true)) else ((u1i.f kj24 bt212.1).bind fun bt214 => ((u1f.f kj24 bt214.2.1).bind fun bt217 => (if bt212.2 = true then (if bt214.2.2 = true then (some (x6_12,bt214.1,t208,(bt217.1.toList == ([]:List UInt8)))) else (some (x6_12,bt214.1,t208,false))) else (some (x6_12,bt214.1,t208,false))))))) = some (r1,r2,r3,r4):=by rw [if_neg (show ¬ (false = true) by decide)] at H;exact H
        clear H
        have H:=H1
        clear H1
        replace H:=Option.bind_eq_some_iff.mp H
        obtain ⟨⟨t212,t213⟩,A370,H⟩:=H
        replace H:(if t212.toList = ([]:List UInt8) then (some (x6_12,a1,t208,true)) else ((u1i.f kj24 t212).bind fun bt214 => ((u1f.f kj24 bt214.2.1).bind fun bt217 => (if t213 = true then (if bt214.2.2 = true then (some (x6_12,bt214.1,t208,(bt217.1.toList == ([]:List UInt8)))) else (some (x6_12,bt214.1,t208,false))) else (some (x6_12,bt214.1,t208,false)))))) = some (r1,r2,r3,r4):=H
        have A37:=Aside0.mk A370
        clear A370
        by_cases c38:t212.toList = ([]:List UInt8)
        ·rw [if_pos c38] at H
         have c38b0:(t212.toList == ([]:List UInt8)) = true:=beq_iff_eq.mpr c38
         have c38b1:(t212.toList != ([]:List UInt8)) = false:=bne_eq_false_iff_eq.mpr c38
         have c38b2:t212.toList.isEmpty = true:=by rw [c38];rfl
         clear c38
         simp only [Option.some.injEq,Prod.mk.injEq] at H
         obtain ⟨rfl,rfl,rfl,rfl⟩:=H
         go_wp2_with (first | ((with_reducible refine u1u (f:=53) rfl ?_);refine u3e (some 66) rfl rfl Tryz.func53 (by kernel_rfl) rfl #[.string t209] rfl (by (try simp only [List.map_toArray,List.map_cons,List.map_nil]);first | done | rfl | (simp only [List.length_drop,List.length_take];rfl)) ?_;(with_reducible refine (u1f.calls kj24 t209 t212 t213 _ A37.out).mono ?_);rintro e w' ⟨rfl,⟨nd,rfl⟩⟩;refine ⟨_,rfl,?_⟩;(try (rw [u2z wc];generalize hq_:World.drewN wc _ = wc;have n0_:Aside0 (Kd.R k66 66 wc w.heap.size (fun _ => True) u6 x6_12):=⟨by rw [← hq_];exact (by (with_reducible repeat (first | apply Kd.R_alloc | apply Kd.R_drewN | apply Kd.R_drew));exact HO_6.out)⟩;have n1_:Aside0 (wc.heap[gb193]? = some (.cells #[.slice none 0 0,.int .i64 x194001_12,.int .u64 x194002_12] 53 (0,0))):=⟨by rw [← hq_];exact (by (with_reducible repeat (first | refine ue ?_ _ | refine ug ?_ | refine uf ?_ _));exact BK193.out)⟩;have n2_:Aside0 (Below w.heap.size w wc):=⟨by rw [← hq_];exact (by repeat (first | (with_reducible first | exact HB.out | apply uc | apply ub | apply ud | refine ui ?_ GE193.out) | exact HB.out))⟩;clear HO_6 BK193 HB hq_;have HO_6:=n0_;have BK193:=n1_;have HB:=n2_;clear n0_ n1_ n2_));obtain ⟨Ao39,co39,eo39⟩:=Kd.R_slice HO_6.out;subst eo39;have hcz40_0:wc.cell? ⟨gb193,0,none⟩ = some (.slice none 0 0):=(uj BK193.out 0).trans rfl;have hcz40_1:wc.cell? ⟨gb193,1,none⟩ = some (.int .i64 x194001_12):=(uj BK193.out 1).trans rfl;have hcz40_2:wc.cell? ⟨gb193,2,none⟩ = some (.int .u64 x194002_12):=(uj BK193.out 2).trans rfl;have hfz40_0:=uk BK193.out 0;have hfz40_1:=uk BK193.out 1;have hfz40_2:=uk BK193.out 2))
         refine bodyPost_ret (results_ct rfl _ _ gb193 53 #[.slice Ao39 x6_12.length co39,.int .i64 a1,.int .u64 t208] (0,0) _ rfl (by (with_reducible repeat (first | refine ue ?_ _ | refine ug ?_ | refine uf ?_ _));refine u2d (cs:=#[.slice Ao39 x6_12.length co39,.int .i64 a1,.int .u64 x194002_12]) ?_ 2 _ rfl;(with_reducible repeat (first | refine ue ?_ _ | refine ug ?_ | refine uf ?_ _));refine u2d (cs:=#[.slice Ao39 x6_12.length co39,.int .i64 x194001_12,.int .u64 x194002_12]) ?_ 1 _ rfl;(with_reducible repeat (first | refine ue ?_ _ | refine ug ?_ | refine uf ?_ _));refine u2d (cs:=#[.slice none 0 0,.int .i64 x194001_12,.int .u64 x194002_12]) ?_ 0 _ rfl;(with_reducible repeat (first | refine ue ?_ _ | refine ug ?_ | refine uf ?_ _));exact BK193.out) Tryz.underlying53 rfl (by kernel_rfl)) rfl ?_
         exact ⟨_,by first | rfl | (simp [u1k,u1l] <;> rfl) | (simp [*,u1k,u1l] <;> rfl),by (with_reducible repeat (first | apply Kd.R_alloc | apply Kd.R_drewN | apply Kd.R_drew));exact Kd.R_mono (Kd.R_far (p:=⟨gb193,2,none⟩) (Kd.R_far (p:=⟨gb193,1,none⟩) (Kd.R_far (p:=⟨gb193,0,none⟩) (Kd.R_types HO_6.out BK193.out (by decide)) (fun _ hk => hk.2) (.slice Ao39 x6_12.length co39)) (fun _ hk => hk.2) (.int .i64 a1)) (fun _ hk => hk.2) (.int .u64 t208)) (fun _ hk => trivial),by repeat (first | (with_reducible first | exact HB.out | apply uc | apply ub | apply ud | refine ui ?_ GE193.out) | exact HB.out)⟩
        ·rw [if_neg c38] at H
         have c38b0:(t212.toList == ([]:List UInt8)) = false:=beq_eq_false_iff_ne.mpr c38
         have c38b1:(t212.toList != ([]:List UInt8)) = true:=bne_iff_ne.mpr c38
         have c38b2:t212.toList.isEmpty = false:=by cases e_:t212.toList with | nil => exact absurd e_ c38 | cons _ _ => rfl
         replace H:=Option.bind_eq_some_iff.mp H
         obtain ⟨⟨t214,t215,t216⟩,A410,H⟩:=H
         replace H:((u1f.f kj24 t215).bind fun bt217 => (if t213 = true then (if t216 = true then (some (x6_12,t214,t208,(bt217.1.toList == ([]:List UInt8)))) else (some (x6_12,t214,t208,false))) else (some (x6_12,t214,t208,false)))) = some (r1,r2,r3,r4):=H
         have A41:=Aside0.mk A410
         clear A410
         replace H:=Option.bind_eq_some_iff.mp H
         obtain ⟨⟨t217,t218⟩,A420,H⟩:=H
         replace H:(if t213 = true then (if t216 = true then (some (x6_12,t214,t208,(t217.toList == ([]:List UInt8)))) else (some (x6_12,t214,t208,false))) else (some (x6_12,t214,t208,false))) = some (r1,r2,r3,r4):=H
         have A42:=Aside0.mk A420
         clear A420
         by_cases c43:t213 = true
         ·subst c43
          have H1:(if t216 = true then (some (x6_12,t214,t208,(t217.toList == ([]:List UInt8)))) else (some (x6_12,t214,t208,false))) = some (r1,r2,r3,r4):=by rw [if_pos rfl] at H;exact H
          clear H
          have H:=H1
          clear H1
          by_cases c44:t216 = true
          ·subst c44
           have H1:(some (x6_12,t214,t208,(t217.toList == ([]:List UInt8)))) = some (r1,r2,r3,r4):=by rw [if_pos rfl] at H;exact H
           clear H
           have H:=H1
           clear H1
           simp only [Option.some.injEq,Prod.mk.injEq] at H
           obtain ⟨rfl,rfl,rfl,rfl⟩:=H
           go_wp2_with (first | ((with_reducible refine u1u (f:=53) rfl ?_);refine u3e (some 66) rfl rfl Tryz.func53 (by kernel_rfl) rfl #[.string t209] rfl (by (try simp only [List.map_toArray,List.map_cons,List.map_nil]);first | done | rfl | (simp only [List.length_drop,List.length_take];rfl)) ?_;(with_reducible refine (u1f.calls kj24 t209 t212 true _ A37.out).mono ?_);rintro e w' ⟨rfl,⟨nd,rfl⟩⟩;refine ⟨_,rfl,?_⟩;(try (rw [u2z wc];generalize hq_:World.drewN wc _ = wc;have n0_:Aside0 (Kd.R k66 66 wc w.heap.size (fun _ => True) u6 x6_12):=⟨by rw [← hq_];exact (by (with_reducible repeat (first | apply Kd.R_alloc | apply Kd.R_drewN | apply Kd.R_drew));exact HO_6.out)⟩;have n1_:Aside0 (wc.heap[gb193]? = some (.cells #[.slice none 0 0,.int .i64 x194001_12,.int .u64 x194002_12] 53 (0,0))):=⟨by rw [← hq_];exact (by (with_reducible repeat (first | refine ue ?_ _ | refine ug ?_ | refine uf ?_ _));exact BK193.out)⟩;have n2_:Aside0 (Below w.heap.size w wc):=⟨by rw [← hq_];exact (by repeat (first | (with_reducible first | exact HB.out | apply uc | apply ub | apply ud | refine ui ?_ GE193.out) | exact HB.out))⟩;clear HO_6 BK193 HB hq_;have HO_6:=n0_;have BK193:=n1_;have HB:=n2_;clear n0_ n1_ n2_))) | ((with_reducible refine u1u (f:=103) rfl ?_);refine u3e (some 77) rfl rfl Tryz.func103 (by kernel_rfl) rfl #[.string t212] rfl (by (try simp only [List.map_toArray,List.map_cons,List.map_nil]);first | done | rfl | (simp only [List.length_drop,List.length_take];rfl)) ?_;(with_reducible refine (u1i.calls kj24 t212 t214 t215 true _ A41.out).mono ?_);rintro e w' ⟨rfl,⟨nd,rfl⟩⟩;refine ⟨_,rfl,?_⟩;(try (rw [u2z wc];generalize hq_:World.drewN wc _ = wc;have n0_:Aside0 (Kd.R k66 66 wc w.heap.size (fun _ => True) u6 x6_12):=⟨by rw [← hq_];exact (by (with_reducible repeat (first | apply Kd.R_alloc | apply Kd.R_drewN | apply Kd.R_drew));exact HO_6.out)⟩;have n1_:Aside0 (wc.heap[gb193]? = some (.cells #[.slice none 0 0,.int .i64 x194001_12,.int .u64 x194002_12] 53 (0,0))):=⟨by rw [← hq_];exact (by (with_reducible repeat (first | refine ue ?_ _ | refine ug ?_ | refine uf ?_ _));exact BK193.out)⟩;have n2_:Aside0 (Below w.heap.size w wc):=⟨by rw [← hq_];exact (by repeat (first | (with_reducible first | exact HB.out | apply uc | apply ub | apply ud | refine ui ?_ GE193.out) | exact HB.out))⟩;clear HO_6 BK193 HB hq_;have HO_6:=n0_;have BK193:=n1_;have HB:=n2_;clear n0_ n1_ n2_))) | ((with_reducible refine u1u (f:=53) rfl ?_);refine u3e (some 83) rfl rfl Tryz.func53 (by kernel_rfl) rfl #[.string t215] rfl (by (try simp only [List.map_toArray,List.map_cons,List.map_nil]);first | done | rfl | (simp only [List.length_drop,List.length_take];rfl)) ?_;(with_reducible refine (u1f.calls kj24 t215 t217 t218 _ A42.out).mono ?_);rintro e w' ⟨rfl,⟨nd,rfl⟩⟩;refine ⟨_,rfl,?_⟩;(try (rw [u2z wc];generalize hq_:World.drewN wc _ = wc;have n0_:Aside0 (Kd.R k66 66 wc w.heap.size (fun _ => True) u6 x6_12):=⟨by rw [← hq_];exact (by (with_reducible repeat (first | apply Kd.R_alloc | apply Kd.R_drewN | apply Kd.R_drew));exact HO_6.out)⟩;have n1_:Aside0 (wc.heap[gb193]? = some (.cells #[.slice none 0 0,.int .i64 x194001_12,.int .u64 x194002_12] 53 (0,0))):=⟨by rw [← hq_];exact (by (with_reducible repeat (first | refine ue ?_ _ | refine ug ?_ | refine uf ?_ _));exact BK193.out)⟩;have n2_:Aside0 (Below w.heap.size w wc):=⟨by rw [← hq_];exact (by repeat (first | (with_reducible first | exact HB.out | apply uc | apply ub | apply ud | refine ui ?_ GE193.out) | exact HB.out))⟩;clear HO_6 BK193 HB hq_;have HO_6:=n0_;have BK193:=n1_;have HB:=n2_;clear n0_ n1_ n2_));obtain ⟨Ao45,co45,eo45⟩:=Kd.R_slice HO_6.out;subst eo45;have hcz46_0:wc.cell? ⟨gb193,0,none⟩ = some (.slice none 0 0):=(uj BK193.out 0).trans rfl;have hcz46_1:wc.cell? ⟨gb193,1,none⟩ = some (.int .i64 x194001_12):=(uj BK193.out 1).trans rfl;have hcz46_2:wc.cell? ⟨gb193,2,none⟩ = some (.int .u64 x194002_12):=(uj BK193.out 2).trans rfl;have hfz46_0:=uk BK193.out 0;have hfz46_1:=uk BK193.out 1;have hfz46_2:=uk BK193.out 2))
           refine bodyPost_ret (results_ct rfl _ _ gb193 53 #[.slice Ao45 x6_12.length co45,.int .i64 t214,.int .u64 t208] (0,0) _ rfl (by (with_reducible repeat (first | refine ue ?_ _ | refine ug ?_ | refine uf ?_ _));refine u2d (cs:=#[.slice Ao45 x6_12.length co45,.int .i64 t214,.int .u64 x194002_12]) ?_ 2 _ rfl;(with_reducible repeat (first | refine ue ?_ _ | refine ug ?_ | refine uf ?_ _));refine u2d (cs:=#[.slice Ao45 x6_12.length co45,.int .i64 x194001_12,.int .u64 x194002_12]) ?_ 1 _ rfl;(with_reducible repeat (first | refine ue ?_ _ | refine ug ?_ | refine uf ?_ _));refine u2d (cs:=#[.slice none 0 0,.int .i64 x194001_12,.int .u64 x194002_12]) ?_ 0 _ rfl;(with_reducible repeat (first | refine ue ?_ _ | refine ug ?_ | refine uf ?_ _));exact BK193.out) Tryz.underlying53 rfl (by kernel_rfl)) rfl ?_
           exact ⟨_,by first | rfl | (simp [u1k,u1l] <;> rfl) | (simp [*,u1k,u1l] <;> rfl),by (with_reducible repeat (first | apply Kd.R_alloc | apply Kd.R_drewN | apply Kd.R_drew));exact Kd.R_mono (Kd.R_far (p:=⟨gb193,2,none⟩) (Kd.R_far (p:=⟨gb193,1,none⟩) (Kd.R_far (p:=⟨gb193,0,none⟩) (Kd.R_types HO_6.out BK193.out (by decide)) (fun _ hk => hk.2) (.slice Ao45 x6_12.length co45)) (fun _ hk => hk.2) (.int .i64 t214)) (fun _ hk => hk.2) (.int .u64 t208)) (fun _ hk => trivial),by repeat (first | (with_reducible first | exact HB.out | apply uc | apply ub | apply ud | refine ui ?_ GE193.out) | exact HB.out)⟩
          ·replace c44:=Bool.eq_false_iff.mpr c44
           subst c44
           have H1:(some (x6_12,t214,t208,false)) = some (r1,r2,r3,r4):=by rw [if_neg (show ¬ (false = true) by decide)] at H;exact H
           clear H
           have H:=H1
           clear H1
           simp only [Option.some.injEq,Prod.mk.injEq] at H
           obtain ⟨rfl,rfl,rfl,rfl⟩:=H
           go_wp2_with (first | ((with_reducible refine u1u (f:=53) rfl ?_);refine u3e (some 66) rfl rfl Tryz.func53 (by kernel_rfl) rfl #[.string t209] rfl (by (try simp only [List.map_toArray,List.map_cons,List.map_nil]);first | done | rfl | (simp only [List.length_drop,List.length_take];rfl)) ?_;(with_reducible refine (u1f.calls kj24 t209 t212 true _ A37.out).mono ?_);rintro e w' ⟨rfl,⟨nd,rfl⟩⟩;refine ⟨_,rfl,?_⟩;(try (rw [u2z wc];generalize hq_:World.drewN wc _ = wc;have n0_:Aside0 (Kd.R k66 66 wc w.heap.size (fun _ => True) u6 x6_12):=⟨by rw [← hq_];exact (by (with_reducible repeat (first | apply Kd.R_alloc | apply Kd.R_drewN | apply Kd.R_drew));exact HO_6.out)⟩;have n1_:Aside0 (wc.heap[gb193]? = some (.cells #[.slice none 0 0,.int .i64 x194001_12,.int .u64 x194002_12] 53 (0,0))):=⟨by rw [← hq_];exact (by (with_reducible repeat (first | refine ue ?_ _ | refine ug ?_ | refine uf ?_ _));exact BK193.out)⟩;have n2_:Aside0 (Below w.heap.size w wc):=⟨by rw [← hq_];exact (by repeat (first | (with_reducible first | exact HB.out | apply uc | apply ub | apply ud | refine ui ?_ GE193.out) | exact HB.out))⟩;clear HO_6 BK193 HB hq_;have HO_6:=n0_;have BK193:=n1_;have HB:=n2_;clear n0_ n1_ n2_))) | ((with_reducible refine u1u (f:=103) rfl ?_);refine u3e (some 77) rfl rfl Tryz.func103 (by kernel_rfl) rfl #[.string t212] rfl (by (try simp only [List.map_toArray,List.map_cons,List.map_nil]);first | done | rfl | (simp only [List.length_drop,List.length_take];rfl)) ?_;(with_reducible refine (u1i.calls kj24 t212 t214 t215 false _ A41.out).mono ?_);rintro e w' ⟨rfl,⟨nd,rfl⟩⟩;refine ⟨_,rfl,?_⟩;(try (rw [u2z wc];generalize hq_:World.drewN wc _ = wc;have n0_:Aside0 (Kd.R k66 66 wc w.heap.size (fun _ => True) u6 x6_12):=⟨by rw [← hq_];exact (by (with_reducible repeat (first | apply Kd.R_alloc | apply Kd.R_drewN | apply Kd.R_drew));exact HO_6.out)⟩;have n1_:Aside0 (wc.heap[gb193]? = some (.cells #[.slice none 0 0,.int .i64 x194001_12,.int .u64 x194002_12] 53 (0,0))):=⟨by rw [← hq_];exact (by (with_reducible repeat (first | refine ue ?_ _ | refine ug ?_ | refine uf ?_ _));exact BK193.out)⟩;have n2_:Aside0 (Below w.heap.size w wc):=⟨by rw [← hq_];exact (by repeat (first | (with_reducible first | exact HB.out | apply uc | apply ub | apply ud | refine ui ?_ GE193.out) | exact HB.out))⟩;clear HO_6 BK193 HB hq_;have HO_6:=n0_;have BK193:=n1_;have HB:=n2_;clear n0_ n1_ n2_))) | ((with_reducible refine u1u (f:=53) rfl ?_);refine u3e (some 83) rfl rfl Tryz.func53 (by kernel_rfl) rfl #[.string t215] rfl (by (try simp only [List.map_toArray,List.map_cons,List.map_nil]);first | done | rfl | (simp only [List.length_drop,List.length_take];rfl)) ?_;(with_reducible refine (u1f.calls kj24 t215 t217 t218 _ A42.out).mono ?_);rintro e w' ⟨rfl,⟨nd,rfl⟩⟩;refine ⟨_,rfl,?_⟩;(try (rw [u2z wc];generalize hq_:World.drewN wc _ = wc;have n0_:Aside0 (Kd.R k66 66 wc w.heap.size (fun _ => True) u6 x6_12):=⟨by rw [← hq_];exact (by (with_reducible repeat (first | apply Kd.R_alloc | apply Kd.R_drewN | apply Kd.R_drew));exact HO_6.out)⟩;have n1_:Aside0 (wc.heap[gb193]? = some (.cells #[.slice none 0 0,.int .i64 x194001_12,.int .u64 x194002_12] 53 (0,0))):=⟨by rw [← hq_];exact (by (with_reducible repeat (first | refine ue ?_ _ | refine ug ?_ | refine uf ?_ _));exact BK193.out)⟩;have n2_:Aside0 (Below w.heap.size w wc):=⟨by rw [← hq_];exact (by repeat (first | (with_reducible first | exact HB.out | apply uc | apply ub | apply ud | refine ui ?_ GE193.out) | exact HB.out))⟩;clear HO_6 BK193 HB hq_;have HO_6:=n0_;have BK193:=n1_;have HB:=n2_;clear n0_ n1_ n2_));obtain ⟨Ao47,co47,eo47⟩:=Kd.R_slice HO_6.out;subst eo47;have hcz48_0:wc.cell? ⟨gb193,0,none⟩ = some (.slice none 0 0):=(uj BK193.out 0).trans rfl;have hcz48_1:wc.cell? ⟨gb193,1,none⟩ = some (.int .i64 x194001_12):=(uj BK193.out 1).trans rfl;have hcz48_2:wc.cell? ⟨gb193,2,none⟩ = some (.int .u64 x194002_12):=(uj BK193.out 2).trans rfl;have hfz48_0:=uk BK193.out 0;have hfz48_1:=uk BK193.out 1;have hfz48_2:=uk BK193.out 2))
           refine bodyPost_ret (results_ct rfl _ _ gb193 53 #[.slice Ao47 x6_12.length co47,.int .i64 t214,.int .u64 t208] (0,0) _ rfl (by (with_reducible repeat (first | refine ue ?_ _ | refine ug ?_ | refine uf ?_ _));refine u2d (cs:=#[.slice Ao47 x6_12.length co47,.int .i64 t214,.int .u64 x194002_12]) ?_ 2 _ rfl;(with_reducible repeat (first | refine ue ?_ _ | refine ug ?_ | refine uf ?_ _));refine u2d (cs:=#[.slice Ao47 x6_12.length co47,.int .i64 x194001_12,.int .u64 x194002_12]) ?_ 1 _ rfl;(with_reducible repeat (first | refine ue ?_ _ | refine ug ?_ | refine uf ?_ _));refine u2d (cs:=#[.slice none 0 0,.int .i64 x194001_12,.int .u64 x194002_12]) ?_ 0 _ rfl;(with_reducible repeat (first | refine ue ?_ _ | refine ug ?_ | refine uf ?_ _));exact BK193.out) Tryz.underlying53 rfl (by kernel_rfl)) rfl ?_
           exact ⟨_,by first | rfl | (simp [u1k,u1l] <;> rfl) | (simp [*,u1k,u1l] <;> rfl),by (with_reducible repeat (first | apply Kd.R_alloc | apply Kd.R_drewN | apply Kd.R_drew));exact Kd.R_mono (Kd.R_far (p:=⟨gb193,2,none⟩) (Kd.R_far (p:=⟨gb193,1,none⟩) (Kd.R_far (p:=⟨gb193,0,none⟩) (Kd.R_types HO_6.out BK193.out (by decide)) (fun _ hk => hk.2) (.slice Ao47 x6_12.length co47)) (fun _ hk => hk.2) (.int .i64 t214)) (fun _ hk => hk.2) (.int .u64 t208)) (fun _ hk => trivial),by repeat (first | (with_reducible first | exact HB.out | apply uc | apply ub | apply ud | refine ui ?_ GE193.out) | exact HB.out)⟩
         ·replace c43:=Bool.eq_false_iff.mpr c43
          subst c43
          have H1:(some (x6_12,t214,t208,false)) = some (r1,r2,r3,r4):=by rw [if_neg (show ¬ (false = true) by decide)] at H;exact H
          clear H
          have H:=H1
          clear H1
          simp only [Option.some.injEq,Prod.mk.injEq] at H
          obtain ⟨rfl,rfl,rfl,rfl⟩:=H
          go_wp2_with (first | ((with_reducible refine u1u (f:=53) rfl ?_);refine u3e (some 66) rfl rfl Tryz.func53 (by kernel_rfl) rfl #[.string t209] rfl (by (try simp only [List.map_toArray,List.map_cons,List.map_nil]);first | done | rfl | (simp only [List.length_drop,List.length_take];rfl)) ?_;(with_reducible refine (u1f.calls kj24 t209 t212 false _ A37.out).mono ?_);rintro e w' ⟨rfl,⟨nd,rfl⟩⟩;refine ⟨_,rfl,?_⟩;(try (rw [u2z wc];generalize hq_:World.drewN wc _ = wc;have n0_:Aside0 (Kd.R k66 66 wc w.heap.size (fun _ => True) u6 x6_12):=⟨by rw [← hq_];exact (by (with_reducible repeat (first | apply Kd.R_alloc | apply Kd.R_drewN | apply Kd.R_drew));exact HO_6.out)⟩;have n1_:Aside0 (wc.heap[gb193]? = some (.cells #[.slice none 0 0,.int .i64 x194001_12,.int .u64 x194002_12] 53 (0,0))):=⟨by rw [← hq_];exact (by (with_reducible repeat (first | refine ue ?_ _ | refine ug ?_ | refine uf ?_ _));exact BK193.out)⟩;have n2_:Aside0 (Below w.heap.size w wc):=⟨by rw [← hq_];exact (by repeat (first | (with_reducible first | exact HB.out | apply uc | apply ub | apply ud | refine ui ?_ GE193.out) | exact HB.out))⟩;clear HO_6 BK193 HB hq_;have HO_6:=n0_;have BK193:=n1_;have HB:=n2_;clear n0_ n1_ n2_))) | ((with_reducible refine u1u (f:=103) rfl ?_);refine u3e (some 77) rfl rfl Tryz.func103 (by kernel_rfl) rfl #[.string t212] rfl (by (try simp only [List.map_toArray,List.map_cons,List.map_nil]);first | done | rfl | (simp only [List.length_drop,List.length_take];rfl)) ?_;(with_reducible refine (u1i.calls kj24 t212 t214 t215 t216 _ A41.out).mono ?_);rintro e w' ⟨rfl,⟨nd,rfl⟩⟩;refine ⟨_,rfl,?_⟩;(try (rw [u2z wc];generalize hq_:World.drewN wc _ = wc;have n0_:Aside0 (Kd.R k66 66 wc w.heap.size (fun _ => True) u6 x6_12):=⟨by rw [← hq_];exact (by (with_reducible repeat (first | apply Kd.R_alloc | apply Kd.R_drewN | apply Kd.R_drew));exact HO_6.out)⟩;have n1_:Aside0 (wc.heap[gb193]? = some (.cells #[.slice none 0 0,.int .i64 x194001_12,.int .u64 x194002_12] 53 (0,0))):=⟨by rw [← hq_];exact (by (with_reducible repeat (first | refine ue ?_ _ | refine ug ?_ | refine uf ?_ _));exact BK193.out)⟩;have n2_:Aside0 (Below w.heap.size w wc):=⟨by rw [← hq_];exact (by repeat (first | (with_reducible first | exact HB.out | apply uc | apply ub | apply ud | refine ui ?_ GE193.out) | exact HB.out))⟩;clear HO_6 BK193 HB hq_;have HO_6:=n0_;have BK193:=n1_;have HB:=n2_;clear n0_ n1_ n2_))) | ((with_reducible refine u1u (f:=53) rfl ?_);refine u3e (some 83) rfl rfl Tryz.func53 (by kernel_rfl) rfl #[.string t215] rfl (by (try simp only [List.map_toArray,List.map_cons,List.map_nil]);first | done | rfl | (simp only [List.length_drop,List.length_take];rfl)) ?_;(with_reducible refine (u1f.calls kj24 t215 t217 t218 _ A42.out).mono ?_);rintro e w' ⟨rfl,⟨nd,rfl⟩⟩;refine ⟨_,rfl,?_⟩;(try (rw [u2z wc];generalize hq_:World.drewN wc _ = wc;have n0_:Aside0 (Kd.R k66 66 wc w.heap.size (fun _ => True) u6 x6_12):=⟨by rw [← hq_];exact (by (with_reducible repeat (first | apply Kd.R_alloc | apply Kd.R_drewN | apply Kd.R_drew));exact HO_6.out)⟩;have n1_:Aside0 (wc.heap[gb193]? = some (.cells #[.slice none 0 0,.int .i64 x194001_12,.int .u64 x194002_12] 53 (0,0))):=⟨by rw [← hq_];exact (by (with_reducible repeat (first | refine ue ?_ _ | refine ug ?_ | refine uf ?_ _));exact BK193.out)⟩;have n2_:Aside0 (Below w.heap.size w wc):=⟨by rw [← hq_];exact (by repeat (first | (with_reducible first | exact HB.out | apply uc | apply ub | apply ud | refine ui ?_ GE193.out) | exact HB.out))⟩;clear HO_6 BK193 HB hq_;have HO_6:=n0_;have BK193:=n1_;have HB:=n2_;clear n0_ n1_ n2_));obtain ⟨Ao49,co49,eo49⟩:=Kd.R_slice HO_6.out;subst eo49;have hcz50_0:wc.cell? ⟨gb193,0,none⟩ = some (.slice none 0 0):=(uj BK193.out 0).trans rfl;have hcz50_1:wc.cell? ⟨gb193,1,none⟩ = some (.int .i64 x194001_12):=(uj BK193.out 1).trans rfl;have hcz50_2:wc.cell? ⟨gb193,2,none⟩ = some (.int .u64 x194002_12):=(uj BK193.out 2).trans rfl;have hfz50_0:=uk BK193.out 0;have hfz50_1:=uk BK193.out 1;have hfz50_2:=uk BK193.out 2))
          refine bodyPost_ret (results_ct rfl _ _ gb193 53 #[.slice Ao49 x6_12.length co49,.int .i64 t214,.int .u64 t208] (0,0) _ rfl (by (with_reducible repeat (first | refine ue ?_ _ | refine ug ?_ | refine uf ?_ _));refine u2d (cs:=#[.slice Ao49 x6_12.length co49,.int .i64 t214,.int .u64 x194002_12]) ?_ 2 _ rfl;(with_reducible repeat (first | refine ue ?_ _ | refine ug ?_ | refine uf ?_ _));refine u2d (cs:=#[.slice Ao49 x6_12.length co49,.int .i64 x194001_12,.int .u64 x194002_12]) ?_ 1 _ rfl;(with_reducible repeat (first | refine ue ?_ _ | refine ug ?_ | refine uf ?_ _));refine u2d (cs:=#[.slice none 0 0,.int .i64 x194001_12,.int .u64 x194002_12]) ?_ 0 _ rfl;(with_reducible repeat (first | refine ue ?_ _ | refine ug ?_ | refine uf ?_ _));exact BK193.out) Tryz.underlying53 rfl (by kernel_rfl)) rfl ?_
          exact ⟨_,by first | rfl | (simp [u1k,u1l] <;> rfl) | (simp [*,u1k,u1l] <;> rfl),by (with_reducible repeat (first | apply Kd.R_alloc | apply Kd.R_drewN | apply Kd.R_drew));exact Kd.R_mono (Kd.R_far (p:=⟨gb193,2,none⟩) (Kd.R_far (p:=⟨gb193,1,none⟩) (Kd.R_far (p:=⟨gb193,0,none⟩) (Kd.R_types HO_6.out BK193.out (by decide)) (fun _ hk => hk.2) (.slice Ao49 x6_12.length co49)) (fun _ hk => hk.2) (.int .i64 t214)) (fun _ hk => hk.2) (.int .u64 t208)) (fun _ hk => trivial),by repeat (first | (with_reducible first | exact HB.out | apply uc | apply ub | apply ud | refine ui ?_ GE193.out) | exact HB.out)⟩
end Go.Proofs.YtmcpeifhapekoaaGreatDoor.PAll
namespace Go.Proofs.YtmcpeifhapekoaaGreatDoor.Tx
open Go.RowKit Go.Proofs.YtmcpeifhapekoaaGreatDoor.PAll Go.Proofs.YtmcpeifhapekoaaGreatDoorW.PrintWords Go.Proofs.YtmcpeifhapekoaaGreatDoorW.PrintLast
open Go.Proofs.YtmcpeifhapekoaaGreatDoor.Laws (okFrom canB wrap_up at_byte no_byte word_ev)
set_option linter.unusedVariables false
set_option linter.unusedSimpArgs false
theorem valueD_rest {h:Bool} {most:Nat} {base:Int} {s:B8} {n:Int} {r:B8} (e:valueD h most base s = some (n,r)):r.length ≤ s.length:=by
 unfold valueD digitsP at e
 split at e
 · simp only [Option.bind_some] at e
   cases hn:numL base (s.takeWhile (digC h)) 0 with
   | none => rw [hn] at e;cases e
   | some m =>
     rw [hn] at e
     obtain ⟨_,rfl⟩:=Prod.mk.inj (Option.some.inj e)
     exact dw_len _ _
 · cases e
theorem valueP_rest {s:B8} {n:Int} {r:B8} (e:valueP s = some (n,r)):r.length ≤ s.length:=by
 rcases pre2 s with ⟨q,hq,h,_⟩ | ⟨_,h⟩
 · rw [h] at e
   have:=valueD_rest e
   rw [hq,List.length_cons,List.length_cons]
   omega
 · rw [h] at e
   exact valueD_rest e
theorem timeP_rest {s:B8} {n:Int} {r:B8} (e:timeP s = some (n,r)):r.length ≤ s.length:=by
 unfold timeP at e
 split at e
 · rename_i q
   cases hv:valueD false 19 10 q with
   | none => rw [hv] at e;cases e
   | some p =>
     rw [hv] at e
     simp only [Option.bind_some] at e
     split at e
     · obtain ⟨_,rfl⟩:=Prod.mk.inj (Option.some.inj e)
       have:=valueD_rest (r:=p.2) (n:=p.1) hv
       rw [List.length_cons]
       omega
     · cases e
 · rename_i q hq
   cases hv:valueD false 19 10 s with
   | none => rw [hv] at e;cases e
   | some p =>
     rw [hv] at e
     simp only [Option.bind_some] at e
     split at e
     · cases Option.some.inj e
       exact valueD_rest hv
     · cases e
def small (y:Lb):Prop:=y.f0.size ≤ 1000 ∧ y.f1.size ≤ 1000
theorem addR_mem {x:Lb} {r o:List Lb} (h:addR x r = some o):∀ y ∈ o,y = x ∨ y ∈ r:=fun y hy => by
 rcases addR_some x r with h1 | ⟨h1,_⟩
 · rw [h1] at h
   cases Option.some.inj h
   have:=(insR_perm x r).mem_iff.1 hy
   rcases List.mem_cons.1 this with e | e
   · exact Or.inl e
   · exact Or.inr e
 · rw [h1] at h
   cases h
theorem bracesR_small:∀ (n:Nat) (acc:List Lb) (s:B8) (p:List Lb × B8),bracesR n acc s = some p → s.length ≤ 1000 → (∀ y ∈ acc,small y) → (∀ y ∈ p.1,small y) ∧ p.2.length ≤ s.length
 | 0,acc,s,p,h,_,_ => by cases h
 | n + 1,acc,s,p,h,hs,ha => by
   unfold bracesR at h
   cases hv:valP (s.dropWhile wordC) with
   | none => rw [hv] at h;cases h
   | some q =>
     obtain ⟨v,t0⟩:=q
     rw [hv] at h
     have hvr:=valP_rest hv
     have hdl:=dw_len wordC s
     have htl:=tw_le wordC s
     cases t0 with
     | nil => cases h
     | cons c t =>
       rw [List.length_cons] at hvr
       simp only [Option.bind_some] at h
       split at h
       · cases h
       · cases hax:addR ⟨Base.ofL (s.takeWhile wordC),v⟩ acc with
         | none => rw [hax] at h;cases h
         | some l =>
           rw [hax] at h
           have hl:∀ y ∈ l,small y:=fun y hy => by
            rcases addR_mem hax y hy with rfl | e
            · exact ⟨by rw [sz];omega,by show v.size ≤ 1000;omega⟩
            · exact ha y e
           simp only [Option.bind_some] at h
           split at h
           · have:=bracesR_small n l t p h (by omega) hl
             exact ⟨this.1,by omega⟩
           · split at h
             · cases Option.some.inj h
               exact ⟨hl,by show t.length ≤ _;omega⟩
             · cases h
def SaysR (g:Nat → Option (List Lb × Int × Int × Bool)) (o:Option Rw):Prop:=match o with
 | some r => Ev g (r.f0,r.f1,r.f2,true)
 | none => ∃ (a:List Lb) (b c:Int),Ev g (a,b,c,false)
theorem SaysR.congr {g f:Nat → Option (List Lb × Int × Int × Bool)} {o:Option Rw} (h:∀ k,g k = f k) (hf:SaysR f o):SaysR g o:=by
 rw [show g = f from funext h]
 exact hf
theorem SaysR.no {g:Nat → Option (List Lb × Int × Int × Bool)} (h:∀ k,g (k + 1) = some ([],0,0,false)):SaysR g none:=⟨[],0,0,Ev.step (f:=fun _ => some ([],0,0,false)) h (Ev.now _)⟩
theorem SaysR.step {g f:Nat → Option (List Lb × Int × Int × Bool)} {o:Option Rw} (h:∀ k,g (k + 1) = f k) (hf:SaysR f o):SaysR g o:=by
 cases o with
 | some r => exact Ev.step h hf
 | none =>
   obtain ⟨a,b,c,hf⟩:=hf
   exact ⟨a,b,c,Ev.step h hf⟩
theorem SaysR.bind {α:Type} {g:Nat → Option α} {f:Nat → α → Option (List Lb × Int × Int × Bool)} {x:α} {o:Option Rw} (hg:Ev g x) (hf:SaysR (fun k => f k x) o):SaysR (fun k => (g k).bind (f k)) o:=by
 cases o with
 | some r => exact Ev.bind hg hf
 | none =>
   obtain ⟨a,b,c,hf⟩:=hf
   exact ⟨a,b,c,Ev.bind hg hf⟩
def endT (s:B8) (now v:Int):Option (Int × Int) :=
 if s.dropWhile blankC = [] then some (now,v) else if s.takeWhile blankC = [] then none else
  (timeP (s.dropWhile blankC)).bind fun q => if q.2.dropWhile blankC = [] then some (q.1,v) else none
theorem end_is (s:B8) (now:Int):endP s now = if s.takeWhile blankC = [] then none else (valueP (s.dropWhile blankC)).bind fun p => endT p.2 now p.1:=rfl
theorem emp {s:B8}:(!s.isEmpty) = true ↔ ¬ s = []:=by cases s <;> simp
theorem sample_j2 (l:List Lb) (s:B8) (hs:s.length ≤ 1000) (now v:Int) (b:Bool) (hb:b = false):SaysR (fun k => uo.j2 k now l (Base.ofL s) v b) ((endT s now v).map fun q => ⟨l,q.1,q.2⟩):=by
 subst hb
 have hbl:=blanks_ev s hs
 have hdl:=dw_len blankC s
 have hbg:=time_says (s.dropWhile blankC) (by omega)
 refine SaysR.step (f:=fun k => (u1f.f k (Base.ofL s)).bind fun bt212 => (if bt212.1.toList = ([]:List UInt8) then (some (l,now,v,true)) else ((u1i.f k bt212.1).bind fun bt214 => ((u1f.f k bt214.2.1).bind fun bt217 => (if bt212.2 = true then (if bt214.2.2 = true then (some (l,bt214.1,v,(bt217.1.toList == ([]:List UInt8)))) else (some (l,bt214.1,v,false))) else (some (l,bt214.1,v,false))))))) (fun k => rfl) (SaysR.bind hbl ?_)
 simp only [tl_ofL]
 unfold endT
 by_cases h1:s.dropWhile blankC = []
 · rw [if_pos h1]
   exact SaysR.congr (fun k => if_pos h1) (Ev.now _)
 · rw [if_neg h1]
   refine SaysR.congr (fun k => if_neg h1) ?_
   cases ht:timeP (s.dropWhile blankC) with
   | none =>
     rw [ht] at hbg
     obtain ⟨x,y,hy,hbg⟩:=hbg
     have hb2:=blanks_ev y hy
     have:SaysR (fun k => (u1i.f k (Base.ofL (s.dropWhile blankC))).bind fun bt214 => ((u1f.f k bt214.2.1).bind fun bt217 => (if (!(s.takeWhile blankC).isEmpty) = true then (if bt214.2.2 = true then (some (l,bt214.1,v,(bt217.1.toList == ([]:List UInt8)))) else (some (l,bt214.1,v,false))) else (some (l,bt214.1,v,false))))) none:=by
      refine SaysR.bind hbg (SaysR.bind hb2 ?_)
      refine ⟨l,x,v,Ev.congr (f:=fun _ => some (l,x,v,false)) (fun k => ?_) (Ev.now _)⟩
      simp
     have e0:(Option.map (fun q:Int × Int => (⟨l,q.1,q.2⟩:Rw)) (if s.takeWhile blankC = [] then none else (none:Option (Int × B8)).bind fun q => if q.2.dropWhile blankC = [] then some (q.1,v) else none)) = none:=by split <;> rfl
     rw [e0]
     exact SaysR.congr (fun k => rfl) this
   | some q =>
     obtain ⟨n,r⟩:=q
     rw [ht] at hbg
     have hr:=timeP_rest ht
     have hb2:=blanks_ev r (by omega)
     refine SaysR.bind hbg (SaysR.bind hb2 ?_)
     simp only [tl_ofL,if_true,Option.bind_some]
     by_cases h2:s.takeWhile blankC = []
     · rw [if_pos h2]
       exact ⟨l,n,v,Ev.congr (f:=fun _ => some (l,n,v,false)) (fun k => by rw [h2];rfl) (Ev.now _)⟩
     · rw [if_neg h2]
       refine SaysR.congr (fun k => if_pos (emp.2 h2)) ?_
       by_cases h3:r.dropWhile blankC = []
       · rw [if_pos h3]
         refine Ev.congr (f:=fun _ => some (l,n,v,true)) (fun k => ?_) (Ev.now _)
         rw [h3]
         rfl
       · rw [if_neg h3]
         refine ⟨l,n,v,Ev.congr (f:=fun _ => some (l,n,v,false)) (fun k => ?_) (Ev.now _)⟩
         rw [beq_eq_false_iff_ne.2 h3]
theorem sample_j2no (l:List Lb) (s:ByteArray) (now v:Int) (b:Bool) (hb:b = true):SaysR (fun k => uo.j2 k now l s v b) none:=by
 subst hb
 exact SaysR.no (fun k => by simp only [uo.j2,if_true])
theorem sample_j1 (l:List Lb) (hl:∀ y ∈ l,small y) (s:B8) (hs:s.length ≤ 1000) (now:Int):SaysR (fun k => uo.j1 k now l (Base.ofL s)) (if canB l = true then (endP s now).map fun q => ⟨l,q.1,q.2⟩ else none):=by
 have hbl:=blanks_ev s hs
 have hdl:=dw_len blankC s
 have hcan:=Laws.rcan_ev l (fun y hy => by
  have h:=hl y hy
  unfold small at h
  have hm:(1000:Nat) ≤ maxLen:=by decide
  exact ⟨by omega,by omega⟩)
 have hva:=value_says (s.dropWhile blankC) (by omega)
 have hx:∃ (n:Int) (r:B8) (ok:Bool),Ev (fun k => u2f.f k (Base.ofL (s.dropWhile blankC))) (n,Base.ofL r,ok) ∧ r.length ≤ 1000 ∧ valueP (s.dropWhile blankC) = if ok = true then some (n,r) else none:=by
  cases h:valueP (s.dropWhile blankC) with
  | none =>
    rw [h] at hva
    obtain ⟨x,y,hy,hva⟩:=hva
    exact ⟨x,y,false,hva,hy,rfl⟩
  | some q =>
    obtain ⟨n,r⟩:=q
    rw [h] at hva
    have:=valueP_rest h
    exact ⟨n,r,true,hva,by omega,rfl⟩
 obtain ⟨n,r,ok,hva,hr,hok⟩:=hx
 refine SaysR.step (f:=fun k => (u1f.f k (Base.ofL s)).bind fun bt206 => ((u2f.f k bt206.1).bind fun bt208 => ((uy.f k l).bind fun t211 => (if t211 = true then (if bt206.2 = true then (uo.j2 k now l bt208.2.1 bt208.1 (!bt208.2.2)) else (uo.j2 k now l bt208.2.1 bt208.1 true)) else (uo.j2 k now l bt208.2.1 bt208.1 true))))) (fun k => rfl) (SaysR.bind hbl (SaysR.bind hva (SaysR.bind hcan ?_)))
 simp only
 rw [end_is,hok]
 by_cases hc:canB l = true
 · rw [if_pos hc]
   refine SaysR.congr (fun k => if_pos hc) ?_
   by_cases h2:s.takeWhile blankC = []
   · rw [if_pos h2]
     exact SaysR.congr (f:=fun k => uo.j2 k now l (Base.ofL r) n true) (fun k => by rw [h2];rfl) (sample_j2no _ _ _ _ _ rfl)
   · rw [if_neg h2]
     refine SaysR.congr (fun k => if_pos (emp.2 h2)) ?_
     cases ok with
     | true => exact sample_j2 l r hr now n _ rfl
     | false => exact sample_j2no _ _ _ _ _ rfl
 · rw [if_neg hc]
   exact SaysR.congr (fun k => if_neg hc) (sample_j2no _ _ _ _ _ rfl)
def restR (l0:List Lb) (s:B8):Option (List Lb × B8):=match s with
 | 123 :: t => bracesR (t.length + 1) l0 t
 | _ => some (l0,s)
theorem restR_no (l0:List Lb) (s:B8) (h:∀ q,s ≠ 123 :: q):restR l0 s = some (l0,s):=by
 unfold restR
 split
 · exact absurd rfl (h _)
 · rfl
theorem sample_j0 (l0:List Lb) (h0:l0.length ≤ 1) (hl:∀ y ∈ l0,small y) (s:B8) (hs:s.length ≤ 1000) (now:Int):SaysR (fun k => uo.j0 k now l0 (Base.ofL s))
 ((restR l0 s).bind fun p => if canB p.1.reverse = true then (endP p.2 now).map fun q:Int × Int => (⟨p.1.reverse,q.1,q.2⟩:Rw) else none):=by
 have hrev:l0.reverse = l0:=by
  match l0,h0 with
  | [],_ => rfl
  | [x],_ => rfl
 have hbg:uv.f (Base.ofL s) (⟨#[123]⟩:ByteArray) = some (([123]:B8).isPrefixOf s):=begins_is [123] _
 have hstep:∀ k,uo.j0 (k + 1) now l0 (Base.ofL s) = (uv.f (Base.ofL s) (⟨#[123]⟩:ByteArray)).bind fun t200 => (if t200 = true then (if 1 ≤ ((Base.ofL s).size:Int) then ((um.f k l0 ((Base.ofL s).extract 1 (Base.ofL s).size)).bind fun bt201 => (if bt201.2.2 = true then (uo.j1 k now bt201.1 bt201.2.1) else (some (([]:List Lb),0,0,false)))) else (none)) else (uo.j1 k now l0 (Base.ofL s))):=fun k => rfl
 rw [hbg] at hstep
 rcases pre1 123 s with ⟨t,ht,hp⟩ | ⟨hp,hne⟩
 · subst ht
   rw [hp] at hstep
   rw [List.length_cons] at hs
   have hbr:=braces_ev l0 t (by omega) (by omega)
   rw [hrev] at hbr
   refine SaysR.step (f:=fun k => (um.f k l0 (Base.ofL t)).bind fun bt201 => (if bt201.2.2 = true then (uo.j1 k now bt201.1 bt201.2.1) else (some (([]:List Lb),0,0,false)))) (fun k => ?_) (SaysR.bind hbr ?_)
   · rw [hstep k]
     simp only [Option.bind_some,if_true]
     rw [if_pos (first_of 123 t (by omega)).1,(first_of 123 t (by omega)).2.2.2]
   · simp only [restR]
     cases hb:bracesR (t.length + 1) l0 t with
     | none => exact ⟨[],0,0,Ev.congr (f:=fun _ => some ([],0,0,false)) (fun k => if_neg (by decide)) (Ev.now _)⟩
     | some p =>
       have hsm:=bracesR_small _ _ _ _ hb (by omega) hl
       refine SaysR.congr (fun k => if_pos rfl) ?_
       exact sample_j1 p.1.reverse (fun y hy => hsm.1 y (List.mem_reverse.1 hy)) p.2 (by omega) now
 · rw [hp] at hstep
   rw [restR_no l0 s hne]
   simp only [Option.bind_some,hrev]
   refine SaysR.step (f:=fun k => uo.j1 k now l0 (Base.ofL s)) (fun k => ?_) (sample_j1 l0 hl s hs now)
   rw [hstep k]
   rfl
theorem sample_says (s:B8) (hs:s.length ≤ 1000) (now:Int):SaysR (fun k => uo.f k (Base.ofL s) now) (sampleP canB s now):=by
 have hE:=labs_same (fun l t => (endP t now).map fun q => (⟨l,q.1,q.2⟩:Rw)) s
 unfold sampleP
 rw [hE]
 have hw:=rword_ev s hs
 have htl:=tw_le wordC s
 have hdl:=dw_len wordC s
 have hn:=Laws.rname_ev (Base.ofL (s.takeWhile wordC)) (by rw [sz];omega)
 have hgo:∀ l0:List Lb,l0.length ≤ 1 → (∀ y ∈ l0,small y) → SaysR (fun k => uo.j0 k now l0 (Base.ofL (s.dropWhile wordC))) _:=fun l0 h0 hl => sample_j0 l0 h0 hl _ (by omega) now
 refine SaysR.congr (f:=fun k => (u1v.f k (Base.ofL s)).bind fun bt194 => (if bt194.1.toList = ([]:List UInt8) then (uo.j0 k now ([]:List Lb) bt194.2) else ((u1a.f k bt194.1).bind fun t196 => (if t196 = true then (uo.j0 k now (([(⟨(⟨#[95,95,110,97,109,101,95,95]⟩:ByteArray),bt194.1⟩:Lb)]:List Lb)) bt194.2) else (some (([]:List Lb),0,0,false)))))) (fun k => rfl) (SaysR.bind hw ?_)
 simp only [tl_ofL]
 unfold labsR
 by_cases h1:s.takeWhile wordC = []
 · rw [if_neg (by rintro ⟨h,_⟩;exact h h1),if_neg (by rw [h1];simp)]
   refine SaysR.congr (fun k => if_pos h1) ?_
   exact hgo [] (by simp) (by simp)
 · refine SaysR.congr (fun k => if_neg h1) (SaysR.bind hn ?_)
   by_cases h2:Base.nameB (Base.ofL (s.takeWhile wordC)) = true
   · rw [if_neg (by rw [h2];rintro ⟨_,h⟩;cases h),if_pos h1]
     refine SaysR.congr (fun k => if_pos h2) ?_
     exact hgo [⟨metric,Base.ofL (s.takeWhile wordC)⟩] (by simp) (fun y hy => by
      rw [List.mem_singleton] at hy
      subst hy
      exact ⟨by show metric.size ≤ 1000;decide,by show (Base.ofL _).size ≤ _;rw [sz];omega⟩)
   · rw [if_pos ⟨h1,by simpa using h2⟩]
     exact ⟨[],0,0,Ev.congr (f:=fun _ => some ([],0,0,false)) (fun k => if_neg h2) (Ev.now _)⟩
end Go.Proofs.YtmcpeifhapekoaaGreatDoor.Tx
