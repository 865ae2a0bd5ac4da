/- A text of this seat. -/
import Derived.Test.YtmcpeifhapekoaaGreatDoorBk3
import Derived.Test.YtmcpeifhapekoaaGreatDoorBk2
import Derived.Test.YtmcpeifhapekoaaGreatDoorBk1
import Derived.Test.YtmcpeifhapekoaaGreatDoorBk4
import Derived.Test.YtmcpeifhapekoaaGreatDoorBk5
namespace Go.Proofs.YtmcpeifhapekoaaGreatDoor.PAll
open Go.RowKit Go.Proofs.YtmcpeifhapekoaaGreatDoorW.PrintWords Go.Proofs.YtmcpeifhapekoaaGreatDoorW.PrintLast Go.Proofs.YtmcpeifhapekoaaGreatDoorW.PrintMore
attribute [local go_sem] max2_int min2_int max_two min_two max_three min_three max_four min_four   -- for this text's walks alone
set_option linter.unusedVariables false
set_option linter.unusedSimpArgs false
-- uses text_scanner_peek text_read text_scanner_sample labels_Can bytes_Cut text_book_note strings_HasPrefix stringslite_HasPrefix text_scanner_remark text_Line text_scanner_label
set_option maxRecDepth 100000 in
set_option maxHeartbeats 2000000 in
theorem u1a.lite (a0 a1:ByteArray) (r:Bool) (w:World) (h:u1t.f a0 a1 = some r):Calls Tryz.prog 51 #[.string a0,.string a1] w fun e w' => e = .returned (.bool r) ∧ w' = w:=by
 unfold u1t.f at h
 by_cases c3:(a0.size:Int) ≥ (a1.size:Int)
 · rw [if_pos c3,if_pos (by omega),if_pos (by omega)] at h
   have c3b0:decide ((a1.size:Int) ≤ (a0.size:Int)) = true:=decide_eq_true c3
   have c3b1:decide (a1.size ≤ a0.size) = true:=decide_eq_true (Int.ofNat_le.mp c3)
   have c4b0:(0 ≤ (a1.size:Int)) = True:=eq_true (by omega)
   have c5b0:((a1.size:Int) ≤ (a0.size:Int)) = True:=eq_true c3
   obtain rfl:=Option.some.inj h
   clear c3
   go_enter Tryz.func51,Tryz.ntmps51
   go_wp2
   go_ret
   exact ⟨by first | rfl | (simp;done) | (simp [*];done),rfl⟩
 · rw [if_neg c3] at h
   have c3b0:decide ((a1.size:Int) ≤ (a0.size:Int)) = false:=decide_eq_false c3
   have c3b1:decide (a1.size ≤ a0.size) = false:=decide_eq_false (fun h => c3 (Int.ofNat_le.mpr h))
   clear c3
   obtain rfl:=Option.some.inj h
   go_enter Tryz.func51,Tryz.ntmps51
   go_wp2
   go_ret
   exact ⟨by first | rfl | (simp;done) | (simp [*];done),rfl⟩
theorem u1a.help_same (s:List UInt8) (w:World):Calls Tryz.prog 20 #[.string (Base.ofL s),.string ⟨#[35,32,72,69,76,80,32]⟩] w fun e w' => e = .returned (.bool (Tx.helpW.isPrefixOf s)) ∧ w' = w:=by
 have h:u1q.f (Base.ofL s) ⟨#[35,32,72,69,76,80,32]⟩ = some (Tx.helpW.isPrefixOf s):=ul.pre_is Tx.helpW s
 unfold u1q.f at h
 have h1:u1t.f (Base.ofL s) ⟨#[35,32,72,69,76,80,32]⟩ = some (Tx.helpW.isPrefixOf s):=by
  cases hh:u1t.f (Base.ofL s) ⟨#[35,32,72,69,76,80,32]⟩ with
  | none => rw [hh] at h;cases h
  | some b => rw [hh] at h;exact h
 have HL:=Aside0.mk (u1a.lite _ _ _ w h1)
 clear h h1
 generalize Tx.helpW.isPrefixOf s = r at *
 go_enter Tryz.func20,Tryz.ntmps20
 go_wp2_with (go_at_call 51;(with_reducible refine HL.out.mono ?_);rintro e w' ⟨rfl,rfl⟩)
 go_ret
 exact ⟨rfl,rfl⟩
def u1a.me (x:S34):Tx.Me:=(x.f0,x.f1,x.f2)
def u1a.un (m:Tx.Me):S34:=⟨m.1,m.2.1,m.2.2⟩
theorem u1a.un_me (l:List S34):(l.map u1a.me).map u1a.un = l:=by
 rw [List.map_map]
 exact List.map_id l
theorem u1a.note_is (m:S34) (help:Bool):∀ l:List S34,(um.noteS m help l).map u1a.me = Tx.noteP (u1a.me m) help (l.map u1a.me)
 | [] => rfl
 | x :: l => by
   unfold um.noteS
   rw [List.map_cons]
   unfold Tx.noteP
   by_cases h:x.f0 = m.f0
   · rw [if_pos h,if_pos (show (u1a.me x).1 = (u1a.me m).1 from h),List.map_cons]
     unfold um.set
     cases help <;> rfl
   · rw [if_neg h,if_neg (show ¬ (u1a.me x).1 = (u1a.me m).1 from h),List.map_cons,u1a.note_is m help l]
theorem u1a.note_len (m:S34) (help:Bool):∀ l:List S34,(um.noteS m help l).length ≤ l.length + 1
 | [] => Nat.le_refl _
 | x :: l => by
   unfold um.noteS
   have:=u1a.note_len m help l
   split
   · simp
   · simp only [List.length_cons]
     omega
theorem u1a.read_cases (can:List Tx.Lb → Bool) (s:List UInt8) (now:Int):(∃ c,Tx.readP can s now = (none,Tx.me0,c) ∧ c ≠ 0) ∨ (∃ r,Tx.readP can s now = (some r,Tx.me0,0)) ∨ ∃ m:Tx.Me,Tx.readP can s now = (none,m,0) ∧ m.1.size ≤ 1000:=by
 unfold Tx.readP
 by_cases h1:s.length > 1000
 · rw [if_pos h1]
   exact Or.inl ⟨4,rfl,by decide⟩
 · rw [if_neg h1]
   split
   · exact Or.inl ⟨280,rfl,by decide⟩
   · split
     · rename_i t hx
       cases hm:Tx.remarkP (35 :: t) with
       | none => exact Or.inl ⟨280,rfl,by decide⟩
       | some m =>
         refine Or.inr (Or.inr ⟨m,rfl,?_⟩)
         unfold Tx.remarkP at hm
         split at hm
         · unfold Tx.nameP at hm
           split at hm
           · simp only [Option.bind_some] at hm
             have hsz:(Base.ofL (((35 :: t).drop 7).takeWhile Tx.wordC)).size ≤ 1000:=by
              have a1:=(Tx.cut_ofL (((35 :: t).drop 7).takeWhile Tx.wordC) 0 (by omega)).2.2
              have a2:=Tx.tw_le Tx.wordC ((35 :: t).drop 7)
              rw [List.length_drop] at a2
              omega
             cases he:Tx.expectP [32] (((35 :: t).drop 7).dropWhile Tx.wordC) with
             | none => rw [he] at hm;cases hm
             | some r =>
               rw [he] at hm
               simp only [Option.bind_some] at hm
               split at hm
               · split at hm
                 · cases Option.some.inj hm
                   exact hsz
                 · cases hm
               · split at hm
                 · cases Option.some.inj hm
                   exact hsz
                 · cases hm
           · cases hm
         · cases Option.some.inj hm
           decide
     · split
       · exact Or.inr (Or.inr ⟨Tx.me0,rfl,by decide⟩)
       · cases Tx.sampleP can s now with
         | none => exact Or.inl ⟨280,rfl,by decide⟩
         | some r => exact Or.inr (Or.inl ⟨r,rfl⟩)
structure u1a.In (w0 W:World) (gf gb:Nat) (vr:Value) (rows:List S53) (L:List S34):Prop where
 below:Below w0.heap.size w0 W
 fb:w0.heap.size ≤ gf
 fault:W.heap[gf]? = some (.cells #[.int .i64 0,.int .i64 0] 28 (0,0))
 rows:Kd.R k53 53 W w0.heap.size (fun _ => True) vr rows
 book:um.Bk w0 W gb L
theorem u1a.own_below {W W':World} {P:Program} {k:TypeId} {R:Value → Option (DataW Unit × List MemPlace)} {b n:Nat} {D:DataW Unit} (h:W.ownsMap P k R b n D) (hb:Below W.heap.size W W'):W'.ownsMap P k R b n D:=by
 have hlt:=h.lt
 obtain ⟨es,clock,h1,F,hs,hD⟩:=h
 exact ⟨es,clock,(hb.block b hlt).trans h1,F,hs,hD⟩
theorem u1a.bk_more {w0 W W':World} {gb:Nat} {L:List S34} (h:um.Bk w0 W gb L) (hb:Below W.heap.size W W'):um.Bk w0 W' gb L:=by
 obtain ⟨h0,v,bm,D,h1,h2,h3,h4,h5⟩:=h
 exact ⟨h0,v,bm,D,ua.below_at hb h1,u1a.own_below h2 hb,h3,Kd.R_below h4 hb,h5⟩
theorem u1a.In.more {w0 W W':World} {gf gb:Nat} {vr:Value} {rows:List S53} {L:List S34} (h:u1a.In w0 W gf gb vr rows L) (hb:Below W.heap.size W W'):u1a.In w0 W' gf gb vr rows L :=
 ⟨ui h.below h.below.size hb,h.fb,ua.below_at hb h.fault,Kd.R_below h.rows hb,u1a.bk_more h.book hb⟩
def u1a.Out (w0:World) (X:List Tx.Rw × List Tx.Me × Int × Int) (e:Ending) (W':World):Prop:=∃ v1 v2:Value,e = .returned (.tuple #[v1,v2,.agg #[.int .i64 X.2.2.1,.int .i64 X.2.2.2]]) ∧ Kd.R k53 53 W' w0.heap.size (fun _ => True) v1 X.1 ∧ Kd.R k34 34 W' w0.heap.size (fun _ => True) v2 (X.2.1.map u1a.un) ∧ Below w0.heap.size w0 W'
theorem u1a.noted {w0 W W':World} {gf gb:Nat} {vr:Value} {rows:List S53} {L L':List S34} (h:u1a.In w0 W gf gb vr rows L) (hbk:um.Bk w0 W' gb L') (hbl:Below w0.heap.size w0 W') (hst:um.Stay W W'):u1a.In w0 W' gf gb vr rows L' :=
 ⟨hbl,h.fb,(hst gf _ _ h.fault (by decide) (by decide)).trans h.fault,Kd.R_mono (Kd.R_step (Kd.R_bound h.rows) (fun k hk _ => by
   obtain ⟨_,_,_,q,hq,cells,hc⟩:=hk
   have hall:∀ q ∈ (53 :: k53.E:List Nat),q ≠ 47 ∧ q ≠ 34:=by decide
   exact hst k q cells hc (hall q hq).1 (hall q hq).2)) (fun _ _ => trivial),hbk⟩
theorem u1a.bad (w0 W:World) (gf:Nat) (C line:Int) (X:List Tx.Rw × List Tx.Me × Int × Int) (hX:X = ([],[],C,line)) (hb:Below w0.heap.size w0 W) (hf:w0.heap.size ≤ gf):u1a.Out w0 X (.returned (.tuple #[.slice none 0 0,.slice none 0 0,.agg #[.int .i64 C,.int .i64 line]])) ((W.setCell ⟨gf,0,none⟩ (.int .i64 C)).setCell ⟨gf,1,none⟩ (.int .i64 line)):=by
 subst hX
 exact ⟨_,_,rfl,Kd.R_nil _ _ _ _ _,Kd.R_nil _ _ _ _ _,(hb.setCell hf _).setCell hf _⟩
theorem u1a.good (w0 W:World) (gf gb:Nat) (rows:List S53) (L:List S34) (X:List Tx.Rw × List Tx.Me × Int × Int) (hX:X = (rows,L.map u1a.me,0,0)) (v1 v2:Value) (h:u1a.In w0 W gf gb v1 rows L) (h2:Kd.R k34 34 W w0.heap.size (fun _ => True) v2 L):u1a.Out w0 X (.returned (.tuple #[v1,v2,.agg #[.int .i64 0,.int .i64 0]])) (((W.setCell ⟨gf,0,none⟩ (.int .i64 0)).setCell ⟨gf,1,none⟩ (.int .i64 0)).drew):=by
 subst hX
 have f1:=blk_set h.fault 0 (.int .i64 0)
 refine ⟨v1,v2,rfl,Kd.R_drew (Kd.R_set (Kd.R_set h.rows h.fault (by decide) 0 _) f1 (by decide) 1 _),?_,u2t (((h.below.setCell h.fb _).setCell h.fb _))⟩
 show Kd.R k34 34 _ w0.heap.size (fun _ => True) v2 ((L.map u1a.me).map u1a.un)
 rw [u1a.un_me]
 exact Kd.R_drew (Kd.R_set (Kd.R_set h2 h.fault (by decide) 0 _) f1 (by decide) 1 _)
theorem u1a.infoR:(Tryz.prog.info? 53).map (fun i => (i.zero,i.size,i.bytes)) = some (some (.agg #[.slice none 0 0,.int .i64 0,.int .u64 0]),3,40):=by kernel_rfl
theorem u1a.bk_grown {w0 W W':World} {gb:Nat} {L:List S34} {v:Value} (h:um.Bk w0 W gb L) (hg:W.grownBy W' v.ownBlock) (hv:∀ k,v.ownBlock = some k → ∃ cells,W.heap[k]? = some (.cells cells 53 (0,0))):um.Bk w0 W' gb L:=by
 obtain ⟨h0,v2,bm,D,h1,h2,h3,h4,h5⟩:=h
 have far:∀ (k t:Nat) (cells:Array Value),W.heap[k]? = some (.cells cells t (0,0)) → t ≠ 53 → some k ≠ v.ownBlock:=fun k t cells hk ht e => by
  obtain ⟨c,hc⟩:=hv k e.symm
  rw [hk] at hc
  injection hc with hc
  injection hc with _ hc
  exact ht hc
 refine ⟨h0,v2,bm,D,u3g h1 hg (far _ _ _ h1 (by decide)),h2.kept hg (fun e => ?_),h3,Kd.R_over' h4 hv (by decide) hg,h5⟩
 obtain ⟨c,hc⟩:=hv bm e.symm
 obtain ⟨es,clock,hb1,_⟩:=h2
 rw [hb1] at hc
 cases hc
theorem u1a.made (w0 W:World) (hb:Below w0.heap.size w0 W):um.Bk w0 ((W.alloc (.map #[] 0)).alloc (.cells #[.slice none 0 0,.map (some W.heap.size)] 47)) (W.heap.size + 1) []:=by
 refine ⟨by have:=hb.size;omega,.slice none 0 0,W.heap.size,.map [],?_,?_,⟨Maps.isMap_empty,fun i h => absurd h (Nat.not_lt_zero _),fun key _ => rfl⟩,Kd.R_nil _ _ _ _ _,hb.size⟩
 · have:=ua.new_at (W.alloc (.map #[] 0)) (.cells #[.slice none 0 0,.map (some W.heap.size)] 47)
   rw [World.size_alloc] at this
   exact this
 · exact (World.ownsMap_made W _ _ _).alloc _
set_option maxRecDepth 100000 in
set_option maxHeartbeats 4000000 in
theorem u1a.walk (can:List Tx.Lb → Bool) (hcan:∀ l:List Tx.Lb,l.length ≤ 10 → ∃ k,u1w.f k l = some (can l)) (w0:World) (A0:Option Addr) (c0:Nat) (xs0:List Int) (now:Int) (hx0:(Kd.int .u8).C w0 A0 xs0.length xs0) (hc0:xs0.length ≤ c0) (hn:xs0.length ≤ 1000000000000) :
 Calls Tryz.prog 7 #[.slice A0 xs0.length c0,.int .i64 now] w0 fun e W' => u1a.Out w0 (Tx.parseP can now (xs0.length + 1) 1 [] [] (Lib.bytesOf xs0)) e W':=by
 generalize hX:Tx.parseP can now (xs0.length + 1) 1 [] [] (Lib.bytesOf xs0) = X
 have HX:=Aside0.mk hX
 have HC0:=Aside0.mk hx0
 have HI0:Aside0 (u1a.In w0 (((w0.alloc (.cells #[.int .i64 0,.int .i64 0] 28)).alloc (.map #[] 0)).alloc (.cells #[.slice none 0 0,.map (some (w0.heap.size + 1))] 47)) w0.heap.size (w0.heap.size + 1 + 1) (.slice none 0 0) [] []):=by
  have hb:=ud (Below.refl w0.heap.size w0) (.cells #[.int .i64 0,.int .i64 0] 28)
  have hm:=u1a.made w0 _ hb
  rw [World.size_alloc] at hm
  exact ⟨⟨ud (ud hb _) _,Nat.le_refl _,ua.new_old (ua.new_old (ua.new_at _ _) _) _,Kd.R_nil _ _ _ _ _,hm⟩⟩
 have hmk:=fun w => run_makeMap (P:=Tryz.prog) 45 w
 clear hX hx0
 go_enter Tryz.func7,Tryz.ntmps7
 go_wp2
 go_loopg [0,7,9] (xs0.length + 1) (fun kq v0 v7 v9 wr => ∃ (A:Option Addr) (c:Nat) (xs:List Int) (rows:List S53) (L:List S34) (line:Nat),v0 = .slice A xs.length c ∧ v9 = .int .i64 (line:Int) ∧ xs.length < kq ∧ xs.length ≤ c ∧ line + xs.length ≤ xs0.length + 1 ∧ L.length ≤ line ∧ rows.length ≤ 10000 ∧ Aside0 ((Kd.int .u8).C w0 A xs.length xs) ∧ Aside0 (Tx.parseP can now kq (line:Int) rows (L.map u1a.me) (Lib.bytesOf xs) = X) ∧ Aside0 (u1a.In w0 wr w0.heap.size (w0.heap.size + 1 + 1) v7 rows L))
 case atStart => exact ⟨A0,c0,xs0,[],[],1,rfl,rfl,by omega,hc0,by omega,by simp,by simp,HC0,HX,HI0⟩
 case round =>
  clear HX HI0 HC0
  obtain ⟨A,c,xs,rows,L,line,rfl,rfl,hlk,hlc,hln,hL1,hrw,HC,HX,HI⟩:=hrel
  obtain ⟨Ar,cr,er⟩:=Kd.R_slice HI.out.rows
  subst er
  obtain ⟨k1,rfl⟩:∃ k1,gk = k1 + 1:=⟨gk - 1,by omega⟩
  by_cases hxs:xs.length = 0
  · obtain rfl:xs = []:=List.eq_nil_of_length_eq_zero hxs
    have hXe:X = (rows,L.map u1a.me,0,0):=by
     rw [← HX.out]
     unfold Tx.parseP
     exact if_pos rfl
    obtain ⟨_,vm,bm,D,hg,_,_,hRm,_⟩:=HI.out.book
    obtain ⟨Am,cm,em⟩:=Kd.R_slice hRm
    subst em
    have HRM:=Aside0.mk hRm
    obtain ⟨g0,g1,g2,g3⟩:=ua.look2 hg
    obtain ⟨z0,z1,z2,z3⟩:=ua.look2 HI.out.fault
    have mixed:Tryz.prog.follows .mixedOrders = true:=by kernel_rfl
    clear hRm hg HX hlk hlc
    go_wp2
    go_region_o
    all_goals go_wp2
    refine bodyPost_ret (v:=.tuple #[.slice Ar rows.length cr,.slice Am L.length cm,.agg #[.int .i64 0,.int .i64 0]]) (by simp [results,Tryz.results7,go_sem,z0,z1]) rfl ?_
    exact u1a.good w0 wr _ _ rows L X hXe _ _ HI.out HRM.out
  · have hp:0 < xs.length:=by omega
    have hgt:(xs.length:Int) > 0:=by omega
    have HP:=Aside0.mk hp
    have HLC:=Aside0.mk hlc
    have HN:Aside0 (xs.length ≤ 4611686018427387904):=⟨by omega⟩
    obtain ⟨S,hS⟩:∃ S,Tx.partL (Lib.bytesOf xs) = S:=⟨_,rfl⟩
    have hSl:S.length ≤ xs.length:=by
     have h1:=Tx.tw_le (· != 10) (Lib.bytesOf xs)
     rw [Lib.bytesOf_length] at h1
     rw [← hS]
     exact h1
    have HSS:=Aside0.mk hS
    have HX2:Aside0 ((let x:=Tx.readP can S now;let e:=if x.1.isSome = true ∧ rows.length = 10000 then 4 else x.2.2;if e ≠ 0 then ([],[],e,(line:Int)) else Tx.parseP can now k1 ((line:Int) + 1) (rows ++ x.1.toList) (if x.2.1.1 = Base.ofL [] then L.map u1a.me else Tx.noteP x.2.1 (Tx.helpW.isPrefixOf S) (L.map u1a.me)) (Tx.restL (Lib.bytesOf xs))) = X):=⟨by
     have h1:=HX.out
     unfold Tx.parseP at h1
     rw [if_neg (fun e => by
      have h2:=congrArg List.length e
      rw [Lib.bytesOf_length] at h2
      exact hxs h2),hS] at h1
     exact h1⟩
    clear HX hS
    have hemp:(Base.ofL []).toList.isEmpty = true:=by rw [ByteArray.toList_eq,Base.ofL_data];rfl
    rcases u1a.read_cases can S now with ⟨C,hr,hC⟩ | ⟨r,hr⟩ | ⟨m,hr,hm⟩
    · have HRD:Aside0 (∀ W,Calls Tryz.prog 18 #[.string (Base.ofL S),.int .i64 now] W fun e W' => ∃ v:Value,e = .returned (.tuple #[.agg #[v,.int .i64 0,.int .u64 0,.bool false,.string (Base.ofL []),.string (Base.ofL []),.string (Base.ofL [])],.int .i64 C]) ∧ Kd.R k66 66 W' W.heap.size (fun _ => True) v [] ∧ Below W.heap.size W W'):=⟨fun W => u2j.read_at can hcan W S now (by omega) [] 0 0 C false (Base.ofL []) (Base.ofL []) (Base.ofL []) (by rw [hr];rfl) (by rw [hr];rfl) (by rw [hr];rfl) (by rw [hr];rfl) (by rw [hr];rfl) (by rw [hr])⟩
      have hXe:X = ([],[],C,(line:Int)):=by rw [← HX2.out,hr];simp [hC]
      have hCb:(C == 0) = false:=beq_eq_false_iff_ne.2 hC
      have hCn:(C != 0) = true:=bne_iff_ne.2 hC
      clear HX2 hr
      go_wp2_with (first
       | (go_at_call 17;(with_reducible refine (u3m.cut A c 1 xs _ _ (Kd.C_alloc (Kd.C_below HC.out HI.out.below) _) HLC.out HP.out HN.out ?hs).mono ?_);(case hs => exact (uj (ua.new_at _ _) 0).trans rfl);rintro e W1 ⟨A1,A2,c1,c2,p,q,f,rfl,hpq,hqc,hpl,hql,ep,eq,hb1⟩;have HI1:=Aside0.mk (HI.out.more (u1d (ud (Below.refl _ _) _) hb1));have HQ:=Aside0.mk (hpq _ HC.out).2;have hcv:=Kd.C_string Tryz.underlying22 Tryz.underlying5 Tryz.underlying9 (hpq _ (Kd.C_below HC.out HI1.out.below)).1 (c:=c1);rw [show strOfNums p = Base.ofL S from (by rw [← HSS.out,← ep];rfl)] at hcv;clear hpq hb1 ep)
       | (go_at_call 18;(with_reducible refine (HRD.out _).mono ?_);rintro e W2 ⟨v,rfl,hr2,hb2⟩;have HI2:=Aside0.mk (HI1.out.more hb2);obtain ⟨Al,cl,el⟩:=Kd.R_slice hr2;subst el;have HR2:=Aside0.mk hr2;clear hr2 hb2;obtain ⟨z0,z1,z2,z3⟩:=ua.look2 (ua.new_old HI2.out.fault (.cells #[.slice Al 0 cl,.int .i64 0,.int .u64 0,.bool false,.string (Base.ofL []),.string (Base.ofL []),.string (Base.ofL [])] 55))))
      refine bodyPost_ret (v:=.tuple #[.slice none 0 0,.slice none 0 0,.agg #[.int .i64 C,.int .i64 (line:Int)]]) (by simp [results,Tryz.results7,go_sem,z0,z1]) rfl ?_
      exact u1a.bad w0 _ _ C line X hXe (ud HI2.out.below _) (Nat.le_refl _)
    · have HRD:Aside0 (∀ W,Calls Tryz.prog 18 #[.string (Base.ofL S),.int .i64 now] W fun e W' => ∃ v:Value,e = .returned (.tuple #[.agg #[v,.int .i64 r.f1,.int .u64 r.f2,.bool true,.string (Base.ofL []),.string (Base.ofL []),.string (Base.ofL [])],.int .i64 0]) ∧ Kd.R k66 66 W' W.heap.size (fun _ => True) v r.f0 ∧ Below W.heap.size W W'):=⟨fun W => u2j.read_at can hcan W S now (by omega) r.f0 r.f1 r.f2 0 true (Base.ofL []) (Base.ofL []) (Base.ofL []) (by rw [hr];rfl) (by rw [hr];rfl) (by rw [hr];rfl) (by rw [hr];rfl) (by rw [hr];rfl) (by rw [hr])⟩
      by_cases h10:rows.length = 10000
      · have hXe:X = ([],[],4,(line:Int)):=by rw [← HX2.out,hr];simp [h10]
        have hf:((rows.length:Int) == 10000) = true:=beq_iff_eq.2 (by omega)
        clear HX2 hr
        go_wp2_with (first
         | (go_at_call 17;(with_reducible refine (u3m.cut A c 1 xs _ _ (Kd.C_alloc (Kd.C_below HC.out HI.out.below) _) HLC.out HP.out HN.out ?hs).mono ?_);(case hs => exact (uj (ua.new_at _ _) 0).trans rfl);rintro e W1 ⟨A1,A2,c1,c2,p,q,f,rfl,hpq,hqc,hpl,hql,ep,eq,hb1⟩;have HI1:=Aside0.mk (HI.out.more (u1d (ud (Below.refl _ _) _) hb1));have HQ:=Aside0.mk (hpq _ HC.out).2;have hcv:=Kd.C_string Tryz.underlying22 Tryz.underlying5 Tryz.underlying9 (hpq _ (Kd.C_below HC.out HI1.out.below)).1 (c:=c1);rw [show strOfNums p = Base.ofL S from (by rw [← HSS.out,← ep];rfl)] at hcv;clear hpq hb1 ep)
         | (go_at_call 18;(with_reducible refine (HRD.out _).mono ?_);rintro e W2 ⟨v,rfl,hr2,hb2⟩;have HI2:=Aside0.mk (HI1.out.more hb2);obtain ⟨Al,cl,el⟩:=Kd.R_slice hr2;subst el;have HR2:=Aside0.mk hr2;clear hr2 hb2;obtain ⟨z0,z1,z2,z3⟩:=ua.look2 (ua.new_old HI2.out.fault (.cells #[.slice Al r.f0.length cl,.int .i64 r.f1,.int .u64 r.f2,.bool true,.string (Base.ofL []),.string (Base.ofL []),.string (Base.ofL [])] 55))))
        refine bodyPost_ret (v:=.tuple #[.slice none 0 0,.slice none 0 0,.agg #[.int .i64 4,.int .i64 (line:Int)]]) (by simp [results,Tryz.results7,go_sem,z0,z1]) rfl ?_
        exact u1a.bad w0 _ _ 4 line X hXe (ud HI2.out.below _) (Nat.le_refl _)
      · have hXe:Aside0 (Tx.parseP can now k1 ((line:Int) + 1) (rows ++ [r]) (L.map u1a.me) (Tx.restL (Lib.bytesOf xs)) = X):=⟨by rw [← HX2.out,hr];simp [h10,Tx.me0]⟩
        have hf:((rows.length:Int) == 10000) = false:=beq_eq_false_iff_ne.2 (by omega)
        clear HX2 hr
        go_wp2_with (first
         | (go_at_call 17;(with_reducible refine (u3m.cut A c 1 xs _ _ (Kd.C_alloc (Kd.C_below HC.out HI.out.below) _) HLC.out HP.out HN.out ?hs).mono ?_);(case hs => exact (uj (ua.new_at _ _) 0).trans rfl);rintro e W1 ⟨A1,A2,c1,c2,p,q,f,rfl,hpq,hqc,hpl,hql,ep,eq,hb1⟩;have HI1:=Aside0.mk (HI.out.more (u1d (ud (Below.refl _ _) _) hb1));have HQ:=Aside0.mk (hpq _ HC.out).2;have hcv:=Kd.C_string Tryz.underlying22 Tryz.underlying5 Tryz.underlying9 (hpq _ (Kd.C_below HC.out HI1.out.below)).1 (c:=c1);rw [show strOfNums p = Base.ofL S from (by rw [← HSS.out,← ep];rfl)] at hcv;clear hpq hb1 ep)
         | (go_at_call 18;(with_reducible refine (HRD.out _).mono ?_);rintro e W2 ⟨v,rfl,hr2,hb2⟩;have HI2:=Aside0.mk (HI1.out.more hb2);obtain ⟨Al,cl,el⟩:=Kd.R_slice hr2;subst el;have HR2:=Aside0.mk hr2;clear hr2 hb2;obtain ⟨z0,z1,z2,z3⟩:=ua.look2 (ua.new_old HI2.out.fault (.cells #[.slice Al r.f0.length cl,.int .i64 r.f1,.int .u64 r.f2,.bool true,.string (Base.ofL []),.string (Base.ofL []),.string (Base.ofL [])] 55)))
         | ((with_reducible refine u3n (b:=.append) (xs:=#[.tmp 54,.tmp 57]) rfl ?_);at_builtin;go_loud (refine Kd.R_append k53 (w0:=w0) (W:=W2.alloc (.cells #[.slice Al r.f0.length cl,.int .i64 r.f1,.int .u64 r.f2,.bool true,.string (Base.ofL []),.string (Base.ofL []),.string (Base.ofL [])] 55)) w0.heap.size rfl (.tmp 54) (.tmp 57) 24 53 (.agg #[.slice none 0 0,.int .i64 0,.int .u64 0]) 40 rfl Tryz.underlying24 u1a.infoR rfl (by decide) (by decide) _ rows r [.slice Al r.f0.length cl,.int .i64 r.f1,.int .u64 r.f2] (fun _ => True) (fun k => W1.heap.size ≤ k) rfl (by rw [World.size_alloc];rfl) ?hM ?hok (fun _ _ => trivial) (Kd.R_alloc HI2.out.rows _) (ud HI2.out.below _) ?hbs ?hbig ?_;(case hM => exact k53_mkM _ _ _ r (Kd.R_lower (Kd.R_mono (Kd.R_bound (Kd.R_alloc HR2.out _)) (fun k hk => hk.2.1)) HI1.out.below.size));(case hok => intro k hk;refine ⟨trivial,fun e => ?_⟩;have h1:=Kd.R_lt HI1.out.rows k e.symm;omega);(case hbs => have h1:=HI2.out.below.size;rw [World.size_alloc];omega);(case hbig => omega);intro v8 w8 ho hb hg8 hat;have HR8:=Aside0.mk ho;have HB8:=Aside0.mk hb;have HG8:=Aside0.mk hg8;obtain ⟨⟨q0,q1,q2,q3,q4,q5,q6⟩,fq⟩:=uh.look7 (u3g (ua.new_at W2 (.cells #[.slice Al r.f0.length cl,.int .i64 r.f1,.int .u64 r.f2,.bool true,.string (Base.ofL []),.string (Base.ofL []),.string (Base.ofL [])] 55)) hg8 (Kd.R_ne (Kd.R_alloc HI2.out.rows (.cells #[.slice Al r.f0.length cl,.int .i64 r.f1,.int .u64 r.f2,.bool true,.string (Base.ofL []),.string (Base.ofL []),.string (Base.ofL [])] 55)) (ua.new_at W2 (.cells #[.slice Al r.f0.length cl,.int .i64 r.f1,.int .u64 r.f2,.bool true,.string (Base.ofL []),.string (Base.ofL []),.string (Base.ofL [])] 55)) (show (53:Nat) ≠ 55 by decide)));clear ho hb hg8 hat)))
        have HI8:Aside0 (u1a.In w0 w8 w0.heap.size (w0.heap.size + 1 + 1) v8 (rows ++ [r]) L):=⟨by
         have hA:=HI2.out.more (ud (Below.refl W2.heap.size W2) (.cells #[.slice Al r.f0.length cl,.int .i64 r.f1,.int .u64 r.f2,.bool true,.string (Base.ofL []),.string (Base.ofL []),.string (Base.ofL [])] 55))
         exact ⟨HB8.out,Nat.le_refl _,u3g hA.fault HG8.out (Kd.R_ne hA.rows hA.fault (by decide)),HR8.out,u1a.bk_grown hA.book HG8.out (Kd.R_typed hA.rows)⟩⟩
        have hll:rows.length < 10000:=by omega
        go_roundg k1
        case rel => exact ⟨A2,c2,q,rows ++ [r],L,line + 1,rfl,by go_num,by omega,hqc,by omega,by omega,by simp;omega,HQ,⟨by rw [eq];exact hXe.out⟩,HI8⟩
        case measure => omega
    · have HRD:Aside0 (∀ W,Calls Tryz.prog 18 #[.string (Base.ofL S),.int .i64 now] W fun e W' => ∃ v:Value,e = .returned (.tuple #[.agg #[v,.int .i64 0,.int .u64 0,.bool false,.string m.1,.string m.2.1,.string m.2.2],.int .i64 0]) ∧ Kd.R k66 66 W' W.heap.size (fun _ => True) v [] ∧ Below W.heap.size W W'):=⟨fun W => u2j.read_at can hcan W S now (by omega) [] 0 0 0 false m.1 m.2.1 m.2.2 (by rw [hr];rfl) (by rw [hr];rfl) (by rw [hr];rfl) (by rw [hr];rfl) (by rw [hr]) (by rw [hr])⟩
      by_cases hm1:m.1 = Base.ofL []
      · have hXe:Aside0 (Tx.parseP can now k1 ((line:Int) + 1) rows (L.map u1a.me) (Tx.restL (Lib.bytesOf xs)) = X):=⟨by rw [← HX2.out,hr];simp [hm1]⟩
        have hme:m.1.toList.isEmpty = true:=by rw [hm1];exact hemp
        clear HX2 hr
        go_wp2_with (first
         | (go_at_call 17;(with_reducible refine (u3m.cut A c 1 xs _ _ (Kd.C_alloc (Kd.C_below HC.out HI.out.below) _) HLC.out HP.out HN.out ?hs).mono ?_);(case hs => exact (uj (ua.new_at _ _) 0).trans rfl);rintro e W1 ⟨A1,A2,c1,c2,p,q,f,rfl,hpq,hqc,hpl,hql,ep,eq,hb1⟩;have HI1:=Aside0.mk (HI.out.more (u1d (ud (Below.refl _ _) _) hb1));have HQ:=Aside0.mk (hpq _ HC.out).2;have hcv:=Kd.C_string Tryz.underlying22 Tryz.underlying5 Tryz.underlying9 (hpq _ (Kd.C_below HC.out HI1.out.below)).1 (c:=c1);rw [show strOfNums p = Base.ofL S from (by rw [← HSS.out,← ep];rfl)] at hcv;clear hpq hb1 ep)
         | (go_at_call 18;(with_reducible refine (HRD.out _).mono ?_);rintro e W2 ⟨v,rfl,hr2,hb2⟩;have HI2:=Aside0.mk (HI1.out.more hb2);obtain ⟨Al,cl,el⟩:=Kd.R_slice hr2;subst el;have HR2:=Aside0.mk hr2;clear hr2 hb2;obtain ⟨z0,z1,z2,z3⟩:=ua.look2 (ua.new_old HI2.out.fault (.cells #[.slice Al 0 cl,.int .i64 0,.int .u64 0,.bool false,.string m.1,.string m.2.1,.string m.2.2] 55))))
        go_roundg k1
        case rel => exact ⟨A2,c2,q,rows,L,line + 1,rfl,by go_num,by omega,hqc,by omega,by omega,hrw,HQ,⟨by rw [eq];exact hXe.out⟩,⟨HI2.out.more (ud (Below.refl _ _) _)⟩⟩
        case measure => omega
      · have hXe:Aside0 (Tx.parseP can now k1 ((line:Int) + 1) rows (Tx.noteP m (Tx.helpW.isPrefixOf S) (L.map u1a.me)) (Tx.restL (Lib.bytesOf xs)) = X):=⟨by rw [← HX2.out,hr];simp [hm1]⟩
        have hme:m.1.toList.isEmpty = false:=by
         cases h:m.1.toList with
         | nil => exact absurd (Base.ext_data (by rw [Base.ofL_data,← ByteArray.toList_eq];exact h)) hm1
         | cons _ _ => rfl
        clear HX2 hr
        go_wp2_with (first
         | (go_at_call 17;(with_reducible refine (u3m.cut A c 1 xs _ _ (Kd.C_alloc (Kd.C_below HC.out HI.out.below) _) HLC.out HP.out HN.out ?hs).mono ?_);(case hs => exact (uj (ua.new_at _ _) 0).trans rfl);rintro e W1 ⟨A1,A2,c1,c2,p,q,f,rfl,hpq,hqc,hpl,hql,ep,eq,hb1⟩;have HI1:=Aside0.mk (HI.out.more (u1d (ud (Below.refl _ _) _) hb1));have HQ:=Aside0.mk (hpq _ HC.out).2;have hcv:=Kd.C_string Tryz.underlying22 Tryz.underlying5 Tryz.underlying9 (hpq _ (Kd.C_below HC.out HI1.out.below)).1 (c:=c1);rw [show strOfNums p = Base.ofL S from (by rw [← HSS.out,← ep];rfl)] at hcv;clear hpq hb1 ep)
         | (go_at_call 18;(with_reducible refine (HRD.out _).mono ?_);rintro e W2 ⟨v,rfl,hr2,hb2⟩;have HI2:=Aside0.mk (HI1.out.more hb2);obtain ⟨Al,cl,el⟩:=Kd.R_slice hr2;subst el;have HR2:=Aside0.mk hr2;clear hr2 hb2;obtain ⟨z0,z1,z2,z3⟩:=ua.look2 (ua.new_old HI2.out.fault (.cells #[.slice Al 0 cl,.int .i64 0,.int .u64 0,.bool false,.string m.1,.string m.2.1,.string m.2.2] 55))))
        have HI3:=Aside0.mk (HI2.out.more (ud (Below.refl W2.heap.size W2) (.cells #[.slice Al 0 cl,.int .i64 0,.int .u64 0,.bool false,.string m.1,.string m.2.1,.string m.2.2] 55)))
        have HS3:=Aside0.mk (ua.new_at W2 (.cells #[.slice Al 0 cl,.int .i64 0,.int .u64 0,.bool false,.string m.1,.string m.2.1,.string m.2.2] 55))
        obtain ⟨⟨q0,q1,q2,q3,q4,q5,q6⟩,fq⟩:=uh.look7 HS3.out
        clear z0 z1 z2 z3
        generalize W2.alloc (.cells #[.slice Al 0 cl,.int .i64 0,.int .u64 0,.bool false,.string m.1,.string m.2.1,.string m.2.2] 55) = W3 at *
        generalize W2.heap.size = zz at *
        go_still_tail 5,(by kernel_rfl)
        still_call (u1a.help_same S _)
        refine wpStill_nil ?_
        change wpList _ _ _ _ _ W3.drew
        have HI4:=Aside0.mk (HI3.out.more (u2t (Below.refl W3.heap.size W3)))
        have HM:Aside0 ((u1a.un m).f0.size ≤ maxLen ∧ L.length ≤ 1000000000000):=⟨by show m.1.size ≤ _;unfold maxLen;omega,by omega⟩
        clear HI3 HS3 q0 q1 q2 q3 q4 q5 q6 fq
        generalize W3.drew = W4 at *
        have HNT:Aside0 (Calls Tryz.prog 19 #[.pointer (some ⟨w0.heap.size + 1 + 1,0,none⟩),.agg #[.string m.1,.string m.2.1,.string m.2.2],.bool (Tx.helpW.isPrefixOf S)] W4 fun e W' => e = .returned (.tuple #[]) ∧ um.Bk w0 W' (w0.heap.size + 1 + 1) (um.noteS (u1a.un m) (Tx.helpW.isPrefixOf S) L) ∧ Below w0.heap.size w0 W' ∧ um.Stay W4 W' ∧ W4.heap.size ≤ W'.heap.size):=⟨um.calls w0 _ (w0.heap.size + 1 + 1) L (u1a.un m) (Tx.helpW.isPrefixOf S) HI4.out.book HI4.out.below HM.out.1 HM.out.2⟩
        go_wp2_with (first
         | (go_at_call 19;(with_reducible refine HNT.out.mono ?_);rintro e W5 ⟨rfl,hbk,hbl,hst,hsz⟩;have HI5:=Aside0.mk (u1a.noted HI4.out hbk hbl hst);clear hbk hbl hst hsz))
        go_roundg k1
        case rel => exact ⟨A2,c2,q,rows,um.noteS (u1a.un m) (Tx.helpW.isPrefixOf S) L,line + 1,rfl,by go_num,by omega,hqc,by omega,Nat.le_trans (u1a.note_len _ _ _) (by omega),hrw,HQ,⟨by rw [eq,u1a.note_is];exact hXe.out⟩,HI5⟩
        case measure => omega
def u1a.f (a0:List Int) (a1:Int):Option (List S53 × List S34 × Int × Int):=if a0.length ≤ 1000000000000 then some ((Tx.parseP Laws.canB a1 (a0.length + 1) 1 [] [] (Lib.bytesOf a0)).1,(Tx.parseP Laws.canB a1 (a0.length + 1) 1 [] [] (Lib.bytesOf a0)).2.1.map u1a.un,(Tx.parseP Laws.canB a1 (a0.length + 1) 1 [] [] (Lib.bytesOf a0)).2.2.1,(Tx.parseP Laws.canB a1 (a0.length + 1) 1 [] [] (Lib.bytesOf a0)).2.2.2) else none
theorem u1a.calls (A0:Option Addr) (c0:Nat) (l0:List Int) (a1:Int) (r1:List S53) (r2:List S34) (r3 r4:Int) (w:World) (hr0:Kd.C (Kd.int .u8) w A0 l0.length l0) (hc0:l0.length ≤ c0) (h:u1a.f l0 a1 = some (r1,r2,r3,r4)) :
 Calls Tryz.prog 7 #[.slice A0 l0.length c0,.int .i64 a1] w fun e w' => ∃ v0_ v1_:Value,e = .returned (.tuple #[v0_,v1_,.agg #[.int .i64 r3,.int .i64 r4]]) ∧ Kd.R k53 53 w' w.heap.size (fun _ => True) v0_ r1 ∧ Kd.R k34 34 w' w.heap.size (fun _ => True) v1_ r2 ∧ Below w.heap.size w w':=by
 unfold u1a.f at h
 split at h
 · rename_i hm
   cases Option.some.inj h
   exact u1a.walk Laws.canB (fun l _ => (Laws.can_ev l).rounds) w A0 c0 l0 a1 hr0 hc0 hm
 · cases h
end Go.Proofs.YtmcpeifhapekoaaGreatDoor.PAll
