/- A text of this seat. -/
import Derived.Test.YtgnehcgaplnfkaaGreatDoorBv1
import Derived.Test.YtgnehcgaplnfkaaGreatDoorBv3
namespace Go.Proofs.YtgnehcgaplnfkaaGreatDoor.PAll
open Go.RowKit Go.Proofs.YtgnehcgaplnfkaaGreatDoorW.PrintWords Go.Proofs.YtgnehcgaplnfkaaGreatDoorW.PrintLast Go.Proofs.YtgnehcgaplnfkaaGreatDoorW.PrintMore
attribute [local go_sem] u3o u3n u3x u3w u3j u3i u3p u3q   -- for this text's walks alone
set_option linter.unusedVariables false
set_option linter.unusedSimpArgs false
-- uses labels_Can
def uo.one:List Int → Option (ByteArray × List Int)
 | [] => none
 | c :: r => if c ≤ (r.length:Int) then some (strOfNums (r.take c.toNat),r.drop c.toNat) else none
def uo.all:Nat → List Int → Option (List S111 × List Int)
 | 0,b => some ([],b)
 | n + 1,b => (uo.one b).bind fun x => (uo.one x.2).bind fun y => (uo.all n y.2).map fun z => (⟨x.1,y.1⟩ :: z.1,z.2)
def uo.okB (l0:List Int):Bool:=decide (l0.length ≤ 140737488355328) && l0.all (fun c => decide (0 ≤ c) && decide (c < 256))
def uo.f (k:Nat) (l0:List Int):Option (List S111 × List Int × Int):=if uo.okB l0 = true then (match l0 with
 | [] => some ([],[],3)
 | c :: r => match uo.all c.toNat r with
   | none => some ([],[],3)
   | some (l,q) => (u1s.f k l).bind fun b => if b = true then some (l,q,0) else some ([],[],5)) else none
theorem uo.infoL:(Tryz.prog.info? 111).map (fun i => (i.zero,i.size,i.bytes)) = some (some (.agg #[(.string ⟨#[]⟩),(.string ⟨#[]⟩)]),2,32):=by kernel_rfl
theorem uo.info:(Tryz.prog.info? 5).map (fun i => (i.zero,i.size,i.bytes)) = some (some (.int .u8 0),1,1):=by kernel_rfl
theorem uo.arr0 (s0 s1:Value) (w:World):(Instr.index 132 (.agg #[s0,s1]) (.int .i64 0)).run Tryz.prog w = .ok s0 w:=by
 have h:=run_underlying (P:=Tryz.prog) Tryz.underlying132
 simp [Instr.index,h,asIntOf,go_sem]
theorem uo.arr1 (s0 s1:Value) (w:World):(Instr.index 132 (.agg #[s0,s1]) (.int .i64 1)).run Tryz.prog w = .ok s1 w:=by
 have h:=run_underlying (P:=Tryz.prog) Tryz.underlying132
 simp [Instr.index,h,asIntOf,go_sem]
def uo.Rest (w:World) (r bs:List Int) (A':Option Addr) (c':Nat):Prop:=bs.length ≤ c' ∧ Kd.C (Kd.int .u8) w A' bs.length bs ∧ bs.length ≤ r.length ∧ bs.all (fun c => decide (0 ≤ c) && decide (c < 256)) = true
def uo.Mid (bs:List Int) (j:Nat) (cur:S111) (bs2:List Int):Prop:=(j = 0 ∧ bs2 = bs ∧ cur = z111) ∨ (j = 1 ∧ uo.one bs = some (cur.f0,bs2)) ∨ (j = 2 ∧ ∃ b1,uo.one bs = some (cur.f0,b1) ∧ uo.one b1 = some (cur.f1,bs2))
theorem uo.mid2 {bs bs2:List Int} {cur:S111} (h:uo.Mid bs 2 cur bs2):∃ b1,uo.one bs = some (cur.f0,b1) ∧ uo.one b1 = some (cur.f1,bs2):=by
 rcases h with ⟨h,_⟩ | ⟨h,_⟩ | ⟨_,h⟩
 · omega
 · omega
 · exact h
theorem uo.bad_mid {bs bs2:List Int} {j m:Nat} {cur:S111} (hj:j < 2) (h:uo.Mid bs j cur bs2) (hb:uo.one bs2 = none):uo.all (m + 1) bs = none:=by
 rcases h with ⟨_,h1,_⟩ | ⟨_,h1⟩ | ⟨h2,_⟩
 · subst h1
   simp [uo.all,hb]
 · simp [uo.all,h1,hb]
 · omega
theorem uo.fails {k n m:Nat} {r bs:List Int} {done r1:List S111} {r2:List Int} {r3:Int} (h:(match uo.all (n:Int).toNat r with
 | none => some (([]:List S111),([]:List Int),(3:Int))
 | some (l,q) => (u1s.f k l).bind fun b => if b = true then some (l,q,0) else some ([],[],5)) = some (r1,r2,r3)) (hn:uo.all n r = (uo.all m bs).map (fun z => (done ++ z.1,z.2))) (hb:uo.all m bs = none):r1 = [] ∧ r2 = [] ∧ r3 = 3:=by
 rw [hb] at hn
 rw [show (n:Int).toNat = n from rfl,hn] at h
 obtain ⟨h1,h2⟩:=Prod.mk.inj (Option.some.inj h)
 obtain ⟨h2,h3⟩:=Prod.mk.inj h2
 exact ⟨h1.symm,h2.symm,h3.symm⟩
theorem uo.one_cons {mb:Nat} {rb:List Int} (h:mb ≤ rb.length):uo.one ((mb:Int) :: rb) = some (strOfNums (rb.take mb),rb.drop mb):=by
 simp only [uo.one]
 rw [if_pos (by omega)]
 rfl
theorem uo.mid_0 {bs rb:List Int} {mb:Nat} {cur:S111} (h:uo.Mid bs 0 cur ((mb:Int) :: rb)) (hle:mb ≤ rb.length):uo.Mid bs 1 ⟨strOfNums (rb.take mb),cur.f1⟩ (rb.drop mb):=by
 rcases h with ⟨_,h1,_⟩ | ⟨h1,_⟩ | ⟨h1,_⟩
 · subst h1
   exact .inr (.inl ⟨rfl,uo.one_cons hle⟩)
 · omega
 · omega
theorem uo.mid_1 {bs rb:List Int} {mb:Nat} {cur:S111} (h:uo.Mid bs 1 cur ((mb:Int) :: rb)) (hle:mb ≤ rb.length):uo.Mid bs 2 ⟨cur.f0,strOfNums (rb.take mb)⟩ (rb.drop mb):=by
 rcases h with ⟨h1,_⟩ | ⟨_,h1⟩ | ⟨h1,_⟩
 · omega
 · exact .inr (.inr ⟨rfl,_,h1,uo.one_cons hle⟩)
 · omega
theorem uo.run_store_op {P:Program} {a:Act} {o:Oper} {w w1:World} {t:TypeId} {p x:Operand} {v u:Value} (ho:o.op = .store t p x) (hp:a.eval p = v) (hx:a.eval x = u) (h:(Instr.storeAt t v u).run P w = .ok () w1):(execOp a.eval o).run P w = .ok .skip w1:=by
 unfold execOp
 simp only [ho,hp,hx,Sem.run_bind,Sem.run_pure,Result.andThen_ok,h]
theorem uo.at_mid (done:List S111) (cur:S111) (q:List S111) (i:Nat) (h:done.length = i):u1r (done ++ cur :: q) (i:Int) = cur:=by
 subst h
 simp [u1r,List.getD_eq_getElem?_getD]
theorem uo.set_mid (done:List S111) (cur x:S111) (q:List S111) (i:Nat) (h:done.length = i):(done ++ cur :: q).set i x = done ++ x :: q:=by
 subst h
 simp
set_option maxRecDepth 100000 in
theorem uo.store_row {W w0:World} {base gb n cv:Nat} {xs:List S111} (i j:Nat) (s:ByteArray) (x':S111) (hj:j < 2) (HO:Kd.R k111 111 W base (fun _ => True) (.slice (some ⟨gb,0,none⟩) n cv) xs) (hi:i < n) (HB:Below base w0 W)
 (hx:x' = if j = 0 then ⟨s,(u1r xs (i:Int)).f1⟩ else ⟨(u1r xs (i:Int)).f0,s⟩) :
 (Instr.storeAt 9 (.pointer (some ⟨gb,i * 2 + j,none⟩)) (.string s)).run Tryz.prog W = .ok () (W.setCells gb (i * 2 + j) [.string s]) ∧ Kd.R k111 111 (W.setCells gb (i * 2 + j) [.string s]) base (fun _ => True) (.slice (some ⟨gb,0,none⟩) n cv) (xs.set i x') ∧ Below base w0 (W.setCells gb (i * 2 + j) [.string s]):=by
 have hnx:n = xs.length:=(Kd.R_reads' HO).1
 obtain ⟨ad,ea,q0,q1⟩:=at_T111 (Kd.R_reads' HO).2.2 (i:Int) (by omega) (by omega)
 obtain rfl:ad = ⟨gb,0,none⟩:=by injection ea with ea;exact ea.symm
 have hadd:(⟨gb,0,none⟩:Addr).add ((i:Int).toNat * 2) = ⟨gb,i * 2,none⟩:=by
  rw [show (i:Int).toNat = i from rfl]
  unfold Addr.add
  split
  · rename_i h0
    rw [h0]
  · simp
 rw [hadd] at q0 q1
 have hseg:=Kd.R_seg (okp:=fun k => k ≠ gb) (x':=x') (seg:=[.string s]) (c:=[.string (u1r xs (i:Int)).f0,.string (u1r xs (i:Int)).f1]) (j:=j) HO (i:Int) (by omega) (by omega) rfl (by
  intro j' u hu
  have e2:(i:Int).toNat * k111.sz = i * 2:=rfl
  rw [e2]
  match j',hu with
  | 0,hu => simp at hu;subst hu;exact q0
  | 1,hu => simp at hu;subst hu;exact q1) (by show j + 1 ≤ 2;omega) (by
  have h2:j = 0 ∨ j = 1:=by omega
  rcases h2 with rfl | rfl
  · rw [hx];exact k111_mkM _ _ _ _
  · rw [hx];exact k111_mkM _ _ _ _) (fun k hk => ⟨trivial,hk⟩)
 obtain ⟨hrow,hg⟩:=hseg
 have hbg:base ≤ gb:=Kd.R_base HO gb (by simp [Value.ownBlock])
 have e3:(i:Int).toNat * k111.sz + j = i * 2 + j:=rfl
 rw [e3] at hrow hg
 refine ⟨?_,hrow,HB.trans ⟨hg.os,hg.tape,hg.output,hg.size,fun k hk => ?_⟩⟩
 · obtain ⟨_,inner,hown,hr⟩:=HO
   rcases hown.2 with ⟨hv,_⟩ | ⟨g',cap',cur,hv,hb,hh,hnc,hcm,hcs,_⟩
   · cases hv
   injection hv with ha _ hc
   injection ha with ha
   injection ha with hg'
   subst hg';subst hc
   refine run_store_run 9 (.string s) [.string s] hh rfl (by kernel_rfl) ?_ (by simp [Value.oneCell'])
   have h2:cur.size = cv * 2:=hcs
   show i * 2 + j + 1 ≤ cur.size
   omega
 · have hlt:k < W.heap.size ∨ W.heap.size ≤ k:=Nat.lt_or_ge _ _
   rcases hlt with hlt | hge
   · exact hg.block k hlt (fun he => by injection he with he;omega)
   · exact setCells_far _ _ k (by have:=Kd.R_lt HO gb (by simp [Value.ownBlock]);omega)
theorem uo.form {α:Type} {d:Kd α} {e:Nat} {w:World} {base n c:Nat} {ok:Nat → Prop} {A:Option Addr} {xs:List α} (h:d.R e w base ok (.slice A n c) xs) (hn:0 < n):∃ g,A = some ⟨g,0,none⟩:=by
 obtain ⟨_,_,ho,_⟩:=h
 rcases ho.2 with ⟨hv,h0⟩ | ⟨g,cap,cur,hv,_⟩
 · injection hv with _ h1
   omega
 · injection hv with h1
   exact ⟨g,h1⟩
theorem uo.R_make {P:Program} {ops:Array Oper} {rest:List Oper} {o:Oper} {a:Act} {Q:Exit → Act → World → Prop} {α:Type} (d:Kd α) {w0 W:World} (base e:Nat) (hgd:o.guard = none) {N:Tmp} (hd:o.dst = some N) (t:TypeId) (x y:Operand) (ki:IntKind) (ho:o.op = .makeSlice t x y) (n:Int) (hx:a.eval x = .int ki n) (hy:a.eval y = .int ki n)
 (ht:P.underlying t = some (.slice e)) (z:Value) (bytes:Nat) (hinfo:(P.info? e).map (fun i => (i.zero,i.size,i.bytes)) = some (some z,d.sz,bytes)) (hz:z.cells.size = d.sz) (hs0:0 < d.sz) (hb0:0 < bytes)
 (z0:α) {ok okp:Nat → Prop} (hzero:d.M W base okp z0 z.cells.toList) (hok:∀ k,okp k → ok k) (hfresh:ok W.heap.size) (h0:0 ≤ n) (hl:n.toNat * bytes ≤ 281474976710656) (HB:Below base w0 W) (hbase:base ≤ W.heap.size)
 (h:∀ v1 w1,d.R e w1 base ok v1 (List.replicate n.toNat z0) → Below base w0 w1 → W.grownBy w1 none → (∃ b,v1.ownBlock = some b ∧ W.heap.size ≤ b) → wpList P ops Q rest (a.put o.dst v1) w1):wpList P ops Q (o :: rest) a W:=by
 obtain ⟨m,rfl⟩:=Int.eq_ofNat_of_zero_le h0
 simp only [Int.toNat_natCast] at hl h
 obtain ⟨i0,hi,hzz⟩:=Option.map_eq_some_iff.1 hinfo
 simp only [Prod.mk.injEq] at hzz
 obtain ⟨hz0,hz1,hz2⟩:=hzz
 have hm:m ≤ 281474976710656:=Nat.le_trans (Nat.le_mul_of_pos_right _ hb0) hl
 have hr:=run_make (P:=P) W t e i0 z ht hi hz0 ki ki (m:Int) (m:Int) (by omega) (by omega)
  (by
    have h3:((i0.bytes * m:Nat):Int) ≤ 281474976710656:=by rw [hz2,Nat.mul_comm];omega
    rwa [Int.natCast_mul] at h3) (by omega)
 simp only [Int.toNat_natCast] at hr
 rw [hz1] at hr
 refine Kd.R_lit d base e hgd hd (xs:=List.replicate m z0) (inner:=(madeCells z.cells (m * d.sz)).toList) (okp:=okp) (ok:=ok) ?_ (Kd.reps_made hz hs0 hzero m) hok hfresh HB hbase (by simp;omega) h
 simp [execOp,ho,hx,hy,hr]
set_option maxHeartbeats 8000000 in
set_option maxRecDepth 100000 in
theorem uo.calls (k:Nat) (A0:Option Addr) (c0:Nat) (l0:List Int) (r1:List S111) (r2:List Int) (r3:Int) (w:World) (hr0:Kd.C (Kd.int .u8) w A0 l0.length l0) (hc0:l0.length ≤ c0) (h:uo.f k l0 = some (r1,r2,r3)) :
 Calls Tryz.prog 56 #[.slice A0 l0.length c0] w fun e w' => ∃ v0_ v1_:Value,e = .returned (.tuple #[v0_,v1_,.int .i64 r3]) ∧ Kd.R k111 111 w' w.heap.size (fun _ => True) v0_ r1 ∧ Kd.R (Kd.int .u8) 5 w' w.heap.size (fun _ => True) v1_ r2 ∧ Below w.heap.size w w':=by
 unfold uo.f at h
 by_cases hok:uo.okB l0 = true
 · rw [if_pos hok] at h
   cases l0 with
   | nil =>
     simp only [Option.some.injEq,Prod.mk.injEq] at h
     obtain ⟨rfl,rfl,rfl⟩:=h
     clear hok hr0
     go_enter Tryz.func56,Tryz.ntmps56
     go_wp2
     go_ret3
     exact ⟨_,_,rfl,Kd.R_nil _ _ _ _ _,Kd.R_nil _ _ _ _ _,Below.refl _ _⟩
   | cons c r =>
     have HO:=Aside0.mk hok
     have H:=Aside0.mk h
     clear hok h
     obtain ⟨n,hn,hn2⟩:∃ n:Nat,c = (n:Int) ∧ n < 256:=by
      have h1:=HO.out
      simp only [uo.okB,Bool.and_eq_true,List.all_cons,decide_eq_true_eq] at h1
      exact ⟨c.toNat,by omega,by omega⟩
     subst hn
     have hrl:r.length + 1 ≤ 140737488355328:=by
      have h1:=HO.out
      simp only [uo.okB,Bool.and_eq_true,decide_eq_true_eq,List.length_cons] at h1
      exact h1.1
     have hrb:Aside0 (r.all (fun c => decide (0 ≤ c) && decide (c < 256)) = true):=⟨by
      have h1:=HO.out
      simp only [uo.okB,Bool.and_eq_true,List.all_cons] at h1
      exact h1.2.2⟩
     clear HO
     obtain ⟨ad,e,hx⟩:=Kd.at_int hr0 0 (by omega) (by simp)
     subst e
     have hx0:w.cell? ad = some (.int .u8 (n:Int)):=by simpa [rd,Addr.add] using hx
     clear hx
     have HR0:=Aside0.mk hr0
     clear hr0
     simp only [List.length_cons] at hc0
     go_enter Tryz.func56,Tryz.ntmps56
     go_wp2_with ((with_reducible refine u4a (N:=16) rfl ?_);refine uo.R_make k111 w.heap.size 111 rfl (N:=16) rfl 57 _ _ .u8 rfl (n:Int) rfl rfl Tryz.underlying57 (.agg #[(.string ⟨#[]⟩),(.string ⟨#[]⟩)]) 32 uo.infoL rfl (by decide) (by decide) z111 (ok:=fun _ => True) (okp:=fun _ => True) (k111_mkM _ _ _ z111) (fun _ hk => hk) trivial (by omega) (by omega) (Below.refl _ _) (Nat.le_refl _) ?_;intro v1 w1 hR1 hB1 hg1 hnew1;obtain ⟨Av,cv,ev⟩:=Kd.R_slice hR1;subst ev)
     all_goals
      have HC:Aside0 (uo.Rest w r r (if c0 = 1 then some ad else some ⟨ad.block,ad.off + 1,none⟩) (c0 - 1)):=⟨by
       have hd:=Kd.C_drop (m:=1) (c:=c0) HR0.out (by simp) (by simpa using hc0)
       have hsz:(Kd.int .u8).sz = 1:=rfl
       refine ⟨by omega,?_,Nat.le_refl _,hrb.out⟩
       simpa [h,hsz,Addr.add] using hd⟩
      rw [show (n:Int).toNat = n from rfl,List.length_replicate] at hR1
      have HR1:Aside0 (Kd.R k111 111 w1 w.heap.size (fun _ => True) (.slice Av n cv) ([] ++ List.replicate (n - 0) z111)):=⟨hR1⟩
      have HB1:=Aside0.mk hB1
      clear hnew1 hg1 hR1 hB1 hx0
      have HN:Aside0 (uo.all n r = (uo.all (n - 0) r).map (fun z => (([]:List S111) ++ z.1,z.2))):=⟨by simp⟩
      go_loopg [0,21] n (fun kq v0 v21 wr => ∃ (i:Nat) (A':Option Addr) (c':Nat) (bs:List Int) (done:List S111),i ≤ n ∧ v21 = .int .i64 i ∧ v0 = .slice A' bs.length c' ∧ done.length = i ∧ Aside0 (uo.Rest w r bs A' c') ∧ Aside0 (uo.all n r = (uo.all (n - i) bs).map (fun z => (done ++ z.1,z.2))) ∧ Aside0 (Kd.R k111 111 wr w.heap.size (fun _ => True) (.slice Av n cv) (done ++ List.replicate (n - i) z111)) ∧ n ≤ kq + i ∧ Aside0 (Below w.heap.size w wr))
      case atStart => exact ⟨0,_,_,r,[],by omega,rfl,by simp [h],rfl,HC,HN,HR1,by omega,HB1⟩
      case round =>
       clear HC HN HR1 HB1
       obtain ⟨i,A',c',bs,done,hi,rfl,rfl,hdl,HT,HN,HR,hk,HB⟩:=hrel
       by_cases hlt:i < n
       · obtain ⟨g1,rfl⟩:∃ g1,gk = g1 + 1:=⟨gk - 1,by omega⟩
         obtain ⟨gb,egb⟩:∃ gb,Av = some ⟨gb,0,none⟩:=uo.form HR.out (by omega)
         subst egb
         go_wp2_with (fail)
         go_quiet (fail)
         go_wp2_with (fail)
         obtain ⟨m,hm⟩:∃ m,n - i = m + 1:=⟨n - i - 1,by omega⟩
         have HRj:Aside0 (Kd.R k111 111 (wr.drewN nq) w.heap.size (fun _ => True) (.slice (some ⟨gb,0,none⟩) n cv) (done ++ z111 :: List.replicate m z111)):=⟨by
          have h1:=HR.out
          rw [hm,List.replicate_succ] at h1
          exact Kd.R_drewN h1 _⟩
         go_loopg [0,33] 2 (fun kj v0 v33 wq => ∃ (j:Nat) (A2:Option Addr) (c2:Nat) (bs2:List Int) (cur:S111),j ≤ 2 ∧ v33 = .int .i64 j ∧ v0 = .slice A2 bs2.length c2 ∧ Aside0 (uo.Rest w r bs2 A2 c2) ∧ Aside0 (uo.Mid bs j cur bs2) ∧ Aside0 (Kd.R k111 111 wq w.heap.size (fun _ => True) (.slice (some ⟨gb,0,none⟩) n cv) (done ++ cur :: List.replicate m z111)) ∧ 2 ≤ kj + j ∧ Aside0 (Below w.heap.size w wq))
         case atStart => exact ⟨0,_,_,bs,z111,by omega,rfl,rfl,HT,⟨.inl ⟨rfl,rfl,rfl⟩⟩,HRj,by omega,⟨ui HB.out _⟩⟩
         case round =>
          clear HRj HT HR HB
          obtain ⟨j,A2,c2,bs2,cur,hj,rfl,rfl,HT,HM,HR,hkj,HB⟩:=hrel
          have hj3:j = 0 ∨ j = 1 ∨ j = 2:=by omega
          rcases hj3 with rfl | rfl | rfl
          · skip
            obtain ⟨kj,rfl⟩:∃ kj',gk = kj' + 1:=⟨gk - 1,by omega⟩
            cases bs2 with
            | nil =>
              have hbad:=uo.bad_mid (by omega) HM.out (m:=m) rfl
              have hfin:=uo.fails H.out HN.out (by rw [hm];exact hbad)
              obtain ⟨hf1,hf2,hf3⟩:=hfin
              subst hf1 hf2 hf3
              go_wp2
              rw [uo.arr0]
              simp only [Result.andThen]
              rw [Oper.upon_value]
              go_wp2
              go_ret3
              exact ⟨_,_,rfl,Kd.R_nil _ _ _ _ _,Kd.R_nil _ _ _ _ _,HB.out⟩
            | cons cb rb =>
              obtain ⟨mb,hmb,hmb2⟩:∃ mb:Nat,cb = (mb:Int) ∧ mb < 256:=by
               have h1:=HT.out.2.2.2
               simp only [Bool.and_eq_true,List.all_cons,decide_eq_true_eq] at h1
               exact ⟨cb.toNat,by omega,by omega⟩
              subst hmb
              have hC:=Kd.C_below HT.out.2.1 HB.out
              obtain ⟨ae,e,hx⟩:=Kd.at_int hC 0 (by omega) (by simp)
              subst e
              have hx0:wr.cell? ae = some (.int .u8 (mb:Int)):=by simpa [rd,Addr.add] using hx
              clear hx hC
              have hcl:rb.length + 1 ≤ c2:=by simpa using HT.out.1
              have hrl2:rb.length + 1 ≤ r.length:=by simpa using HT.out.2.2.1
              (try (exfalso;omega))
              all_goals
               by_cases hle:mb ≤ rb.length
               · have hlt2:¬ rb.length < mb:=by omega
                 go_wp2
                 rw [uo.arr0]
                 simp only [Result.andThen]
                 rw [Oper.upon_value]
                 go_wp2
                 have hA3:Aside0 (Kd.C (Kd.int .u8) wr (if c2 = 1 then some ae else some ⟨ae.block,ae.off + 1,none⟩) mb (rb.take mb)):=⟨by
                  have hd:=Kd.C_drop (m:=1) (c:=c2) (Kd.C_below HT.out.2.1 HB.out) (by simp) (by simpa using hcl)
                  have hsz:(Kd.int .u8).sz = 1:=rfl
                  have hd2:=Kd.C_take (m:=mb) hd (by simpa using hle)
                  have hl3:(rb.take mb).length = mb:=by rw [List.length_take];omega
                  simp only [List.drop_succ_cons,List.drop_zero] at hd2
                  rw [hl3] at hd2
                  by_cases h9:c2 = 1
                  · simpa [h9,hsz,Addr.add] using hd2
                  · simpa [h9,hsz,Addr.add] using hd2⟩
                 have f0:(0:Int) ≤ 1 + (mb:Int):=by omega
                 have f1:1 + (mb:Int) ≤ (c2:Int):=by omega
                 have f2:(1:Int) ≤ max (1 + (mb:Int)) 0:=by omega
                 have f3:1 + (mb:Int) ≤ (rb.length:Int) + 1:=by omega
                 refine start_ (n:=11) (S:=fun w' => Kd.C (Kd.int .u8) w' _ mb (rb.take mb)) (ds:=[9]) #[false,false,false,false,false,false,false,false,false,false,false] (by kernel_rfl) rfl rfl (Kd.C_below hA3.out (ur (Below.refl _ _))) (fun hHeld => ?_)
                 refine pure_ (i:=0) (N:=some 54) (v:=?_) (a':=?_) #[true,false,false,false,false,false,false,false,false,false,false] rfl rfl (by kernel_rfl) (fun _ _ _ h => h) (Or.inl ⟨by rfl,?_⟩) ?_ ?_
                 rotate_left
                 · intro w'
                   go_simp
                   with_reducible rfl
                 rotate_left
                 · simp only [Act.put,List.setIfInBounds_toArray,List.set_cons_zero,List.set_cons_succ,i64_w,i32_w]
                   rfl
                 refine pure_ (i:=1) (N:=some 55) (v:=?_) (a':=?_) #[true,true,false,false,false,false,false,false,false,false,false] rfl rfl (by kernel_rfl) (fun _ _ _ h => h) (Or.inl ⟨by rfl,?_⟩) ?_ ?_
                 rotate_left
                 · intro w'
                   go_simp
                   with_reducible rfl
                 rotate_left
                 · simp only [Act.put,List.setIfInBounds_toArray,List.set_cons_zero,List.set_cons_succ,i64_w,i32_w]
                   rfl
                 refine pure_ (i:=2) (N:=some 56) (v:=?_) (a':=?_) #[true,true,true,false,false,false,false,false,false,false,false] rfl rfl (by kernel_rfl) (fun _ _ _ h => h) (Or.inl ⟨by rfl,?_⟩) ?_ ?_
                 rotate_left
                 · intro w'
                   go_simp
                   with_reducible rfl
                 rotate_left
                 · simp only [Act.put,List.setIfInBounds_toArray,List.set_cons_zero,List.set_cons_succ,i64_w,i32_w]
                   rfl
                 refine pure_ (i:=5) (N:=some 59) (v:=?_) (a':=?_) #[true,true,true,false,false,true,false,false,false,false,false] rfl rfl (by kernel_rfl) (fun _ _ _ h => h) (Or.inl ⟨by rfl,?_⟩) ?_ ?_
                 rotate_left
                 · intro w'
                   go_simp
                   with_reducible rfl
                 rotate_left
                 · simp only [Act.put,List.setIfInBounds_toArray,List.set_cons_zero,List.set_cons_succ,i64_w,i32_w]
                   rfl
                 refine pure_ (i:=6) (N:=some 60) (v:=?_) (a':=?_) #[true,true,true,false,false,true,true,false,false,false,false] rfl rfl (by kernel_rfl) (fun _ _ _ h => h) (Or.inl ⟨by rfl,?_⟩) ?_ ?_
                 rotate_left
                 · intro w'
                   go_simp
                   with_reducible rfl
                 rotate_left
                 · simp only [Act.put,List.setIfInBounds_toArray,List.set_cons_zero,List.set_cons_succ,i64_w,i32_w]
                   rfl
                 refine pure_ (i:=3) (N:=some 57) (v:=?_) (a':=?_) #[true,true,true,true,false,true,true,false,false,false,false] rfl rfl (by kernel_rfl) (fun _ _ _ h => h) (Or.inl ⟨by rfl,?_⟩) ?_ ?_
                 rotate_left
                 · intro w'
                   go_simp
                   with_reducible rfl
                 rotate_left
                 · simp only [Act.put,List.setIfInBounds_toArray,List.set_cons_zero,List.set_cons_succ,i64_w,i32_w]
                   rfl
                 refine pure_ (i:=7) (N:=some 61) (v:=?_) (a':=?_) #[true,true,true,true,false,true,true,true,false,false,false] rfl rfl (by kernel_rfl) (fun _ _ _ h => h) (Or.inl ⟨by rfl,?_⟩) ?_ ?_
                 rotate_left
                 · intro w'
                   go_simp
                   with_reducible rfl
                 rotate_left
                 · simp only [Act.put,List.setIfInBounds_toArray,List.set_cons_zero,List.set_cons_succ,i64_w,i32_w]
                   rfl
                 refine take_ (i:=4) (N:=some 58) (v:=?_) (a':=?_) #[true,true,true,true,true,true,true,true,false,false,false] rfl rfl (by kernel_rfl) (fun _ _ _ h => h) (Or.inl ⟨by rfl,?_⟩) hHeld ?_ ?_
                 rotate_left
                 · rintro w' hS'
                   go_simp
                   rw [show (1 + (mb:Int)).toNat - 1 = mb by omega]
                   (try rw [Kd.C_string (P:=Tryz.prog) Tryz.underlying22 Tryz.underlying5 Tryz.underlying9 hS'])
                   rw [Result.andThen_ok]
                 rotate_left
                 · simp only [Act.put,List.setIfInBounds_toArray,List.set_cons_zero,List.set_cons_succ,i64_w,i32_w]
                   rfl
                 refine pure_ (i:=8) (N:=some 62) (v:=?_) (a':=?_) #[true,true,true,true,true,true,true,true,true,false,false] rfl rfl (by kernel_rfl) (fun _ _ _ h => h) (Or.inl ⟨by rfl,?_⟩) ?_ ?_
                 rotate_left
                 · intro w'
                   go_simp
                   with_reducible rfl
                 rotate_left
                 · simp only [Act.put,List.setIfInBounds_toArray,List.set_cons_zero,List.set_cons_succ,i64_w,i32_w]
                   rfl
                 refine last_ (i:=9) (N:=none) #[true,true,true,true,true,true,true,true,true,true,false] rfl rfl (by kernel_rfl) (by decide) (fun K hK => ?_)
                 have hst:=uo.store_row (w0:=w) i 0 (strOfNums (rb.take mb)) ⟨strOfNums (rb.take mb),cur.f1⟩ (by omega) (Kd.R_drew HR.out) hlt (ur HB.out) (by rw [uo.at_mid done cur _ i hdl];rfl)
                 rw [uo.set_mid done cur _ _ i hdl] at hst
                 obtain ⟨hst1,hst2,hst3⟩:=hst
                 have HR2:=Aside0.mk hst2
                 have HB2:=Aside0.mk hst3
                 clear hst2 hst3
                 refine skip_ (w1:=wr.drew.setCells gb (i * 2 + 0) [.string (strOfNums (rb.take mb))]) (by rfl) rfl ?_ ?_
                 · exact uo.run_store_op rfl rfl rfl hst1
                 refine hK.out _ _ ?_
                 clear hK K hst1
                 refine pure_ (i:=10) (N:=some 0) (v:=?_) (a':=?_) #[true,true,true,true,true,true,true,true,true,true,true] rfl rfl (by kernel_rfl) (fun _ _ _ h => h) (Or.inl ⟨by rfl,?_⟩) ?_ ?_
                 rotate_left
                 · intro w'
                   go_simp
                   with_reducible rfl
                 rotate_left
                 · simp only [Act.put,List.setIfInBounds_toArray,List.set_cons_zero,List.set_cons_succ,i64_w,i32_w]
                   rfl
                 refine done_ (by kernel_rfl) ?_
                 try go_wp2
                 all_goals
                  have e5:(1 + (mb:Int)).toNat = 1 + mb:=by omega
                  have HT2:Aside0 (uo.Rest w r (rb.drop mb) (if c2 = 1 + mb then some ae else some (ae.add (1 + mb))) (c2 - (1 + mb))):=⟨by
                   have hd:=Kd.C_drop (m:=1 + mb) (c:=c2) HT.out.2.1 (by simp;omega) (by simpa using hcl)
                   have hsz:(Kd.int .u8).sz = 1:=rfl
                   rw [show 1 + mb = mb + 1 by omega,List.drop_succ_cons,hsz,Nat.mul_one] at hd
                   refine ⟨by rw [List.length_drop];omega,by rw [show 1 + mb = mb + 1 by omega];exact hd,by rw [List.length_drop];omega,?_⟩
                   have h1:=HT.out.2.2.2
                   simp only [List.all_cons,Bool.and_eq_true] at h1
                   exact List.all_eq_true.2 (fun x hx => List.all_eq_true.1 h1.2 x (List.mem_of_mem_drop hx))⟩
                  have HM2:Aside0 (uo.Mid bs 1 ⟨strOfNums (rb.take mb),cur.f1⟩ (rb.drop mb)):=⟨uo.mid_0 HM.out hle⟩
                  go_roundg kj
                  case rel => exact ⟨1,(if c2 = 1 + mb then some ae else some (ae.add (1 + mb))),c2 - (1 + mb),rb.drop mb,_,by omega,by go_num,(by rw [List.length_drop];by_cases hcc:c2 = 1 + mb <;> first | (exfalso;omega) | (simp only [e5,hcc,if_true,if_false];congr 1 <;> omega)),HT2,HM2,HR2,by omega,HB2⟩
                  case measure => omega
               · have hlt2:rb.length < mb:=by omega
                 have hone:uo.one ((mb:Int) :: rb) = none:=by simp only [uo.one];rw [if_neg (by omega)]
                 have hbad:=uo.bad_mid (by omega) HM.out (m:=m) hone
                 have hfin:=uo.fails H.out HN.out (by rw [hm];exact hbad)
                 obtain ⟨hf1,hf2,hf3⟩:=hfin
                 subst hf1 hf2 hf3
                 clear hone hbad
                 go_wp2
                 rw [uo.arr0]
                 simp only [Result.andThen]
                 rw [Oper.upon_value]
                 go_wp2
                 go_ret3
                 exact ⟨_,_,rfl,Kd.R_nil _ _ _ _ _,Kd.R_nil _ _ _ _ _,HB.out⟩
          · skip
            obtain ⟨kj,rfl⟩:∃ kj',gk = kj' + 1:=⟨gk - 1,by omega⟩
            cases bs2 with
            | nil =>
              have hbad:=uo.bad_mid (by omega) HM.out (m:=m) rfl
              have hfin:=uo.fails H.out HN.out (by rw [hm];exact hbad)
              obtain ⟨hf1,hf2,hf3⟩:=hfin
              subst hf1 hf2 hf3
              go_wp2
              rw [uo.arr1]
              simp only [Result.andThen]
              rw [Oper.upon_value]
              go_wp2
              go_ret3
              exact ⟨_,_,rfl,Kd.R_nil _ _ _ _ _,Kd.R_nil _ _ _ _ _,HB.out⟩
            | cons cb rb =>
              obtain ⟨mb,hmb,hmb2⟩:∃ mb:Nat,cb = (mb:Int) ∧ mb < 256:=by
               have h1:=HT.out.2.2.2
               simp only [Bool.and_eq_true,List.all_cons,decide_eq_true_eq] at h1
               exact ⟨cb.toNat,by omega,by omega⟩
              subst hmb
              have hC:=Kd.C_below HT.out.2.1 HB.out
              obtain ⟨ae,e,hx⟩:=Kd.at_int hC 0 (by omega) (by simp)
              subst e
              have hx0:wr.cell? ae = some (.int .u8 (mb:Int)):=by simpa [rd,Addr.add] using hx
              clear hx hC
              have hcl:rb.length + 1 ≤ c2:=by simpa using HT.out.1
              have hrl2:rb.length + 1 ≤ r.length:=by simpa using HT.out.2.2.1
              (try (exfalso;omega))
              all_goals
               by_cases hle:mb ≤ rb.length
               · have hlt2:¬ rb.length < mb:=by omega
                 go_wp2
                 rw [uo.arr1]
                 simp only [Result.andThen]
                 rw [Oper.upon_value]
                 go_wp2
                 have hA3:Aside0 (Kd.C (Kd.int .u8) wr (if c2 = 1 then some ae else some ⟨ae.block,ae.off + 1,none⟩) mb (rb.take mb)):=⟨by
                  have hd:=Kd.C_drop (m:=1) (c:=c2) (Kd.C_below HT.out.2.1 HB.out) (by simp) (by simpa using hcl)
                  have hsz:(Kd.int .u8).sz = 1:=rfl
                  have hd2:=Kd.C_take (m:=mb) hd (by simpa using hle)
                  have hl3:(rb.take mb).length = mb:=by rw [List.length_take];omega
                  simp only [List.drop_succ_cons,List.drop_zero] at hd2
                  rw [hl3] at hd2
                  by_cases h9:c2 = 1
                  · simpa [h9,hsz,Addr.add] using hd2
                  · simpa [h9,hsz,Addr.add] using hd2⟩
                 have f0:(0:Int) ≤ 1 + (mb:Int):=by omega
                 have f1:1 + (mb:Int) ≤ (c2:Int):=by omega
                 have f2:(1:Int) ≤ max (1 + (mb:Int)) 0:=by omega
                 have f3:1 + (mb:Int) ≤ (rb.length:Int) + 1:=by omega
                 refine start_ (n:=11) (S:=fun w' => Kd.C (Kd.int .u8) w' _ mb (rb.take mb)) (ds:=[9]) #[false,false,false,false,false,false,false,false,false,false,false] (by kernel_rfl) rfl rfl (Kd.C_below hA3.out (ur (Below.refl _ _))) (fun hHeld => ?_)
                 refine pure_ (i:=0) (N:=some 54) (v:=?_) (a':=?_) #[true,false,false,false,false,false,false,false,false,false,false] rfl rfl (by kernel_rfl) (fun _ _ _ h => h) (Or.inl ⟨by rfl,?_⟩) ?_ ?_
                 rotate_left
                 · intro w'
                   go_simp
                   with_reducible rfl
                 rotate_left
                 · simp only [Act.put,List.setIfInBounds_toArray,List.set_cons_zero,List.set_cons_succ,i64_w,i32_w]
                   rfl
                 refine pure_ (i:=1) (N:=some 55) (v:=?_) (a':=?_) #[true,true,false,false,false,false,false,false,false,false,false] rfl rfl (by kernel_rfl) (fun _ _ _ h => h) (Or.inl ⟨by rfl,?_⟩) ?_ ?_
                 rotate_left
                 · intro w'
                   go_simp
                   with_reducible rfl
                 rotate_left
                 · simp only [Act.put,List.setIfInBounds_toArray,List.set_cons_zero,List.set_cons_succ,i64_w,i32_w]
                   rfl
                 refine pure_ (i:=2) (N:=some 56) (v:=?_) (a':=?_) #[true,true,true,false,false,false,false,false,false,false,false] rfl rfl (by kernel_rfl) (fun _ _ _ h => h) (Or.inl ⟨by rfl,?_⟩) ?_ ?_
                 rotate_left
                 · intro w'
                   go_simp
                   with_reducible rfl
                 rotate_left
                 · simp only [Act.put,List.setIfInBounds_toArray,List.set_cons_zero,List.set_cons_succ,i64_w,i32_w]
                   rfl
                 refine pure_ (i:=5) (N:=some 59) (v:=?_) (a':=?_) #[true,true,true,false,false,true,false,false,false,false,false] rfl rfl (by kernel_rfl) (fun _ _ _ h => h) (Or.inl ⟨by rfl,?_⟩) ?_ ?_
                 rotate_left
                 · intro w'
                   go_simp
                   with_reducible rfl
                 rotate_left
                 · simp only [Act.put,List.setIfInBounds_toArray,List.set_cons_zero,List.set_cons_succ,i64_w,i32_w]
                   rfl
                 refine pure_ (i:=6) (N:=some 60) (v:=?_) (a':=?_) #[true,true,true,false,false,true,true,false,false,false,false] rfl rfl (by kernel_rfl) (fun _ _ _ h => h) (Or.inl ⟨by rfl,?_⟩) ?_ ?_
                 rotate_left
                 · intro w'
                   go_simp
                   with_reducible rfl
                 rotate_left
                 · simp only [Act.put,List.setIfInBounds_toArray,List.set_cons_zero,List.set_cons_succ,i64_w,i32_w]
                   rfl
                 refine pure_ (i:=3) (N:=some 57) (v:=?_) (a':=?_) #[true,true,true,true,false,true,true,false,false,false,false] rfl rfl (by kernel_rfl) (fun _ _ _ h => h) (Or.inl ⟨by rfl,?_⟩) ?_ ?_
                 rotate_left
                 · intro w'
                   go_simp
                   with_reducible rfl
                 rotate_left
                 · simp only [Act.put,List.setIfInBounds_toArray,List.set_cons_zero,List.set_cons_succ,i64_w,i32_w]
                   rfl
                 refine pure_ (i:=7) (N:=some 61) (v:=?_) (a':=?_) #[true,true,true,true,false,true,true,true,false,false,false] rfl rfl (by kernel_rfl) (fun _ _ _ h => h) (Or.inl ⟨by rfl,?_⟩) ?_ ?_
                 rotate_left
                 · intro w'
                   go_simp
                   with_reducible rfl
                 rotate_left
                 · simp only [Act.put,List.setIfInBounds_toArray,List.set_cons_zero,List.set_cons_succ,i64_w,i32_w]
                   rfl
                 refine take_ (i:=4) (N:=some 58) (v:=?_) (a':=?_) #[true,true,true,true,true,true,true,true,false,false,false] rfl rfl (by kernel_rfl) (fun _ _ _ h => h) (Or.inl ⟨by rfl,?_⟩) hHeld ?_ ?_
                 rotate_left
                 · rintro w' hS'
                   go_simp
                   rw [show (1 + (mb:Int)).toNat - 1 = mb by omega]
                   (try rw [Kd.C_string (P:=Tryz.prog) Tryz.underlying22 Tryz.underlying5 Tryz.underlying9 hS'])
                   rw [Result.andThen_ok]
                 rotate_left
                 · simp only [Act.put,List.setIfInBounds_toArray,List.set_cons_zero,List.set_cons_succ,i64_w,i32_w]
                   rfl
                 refine pure_ (i:=8) (N:=some 62) (v:=?_) (a':=?_) #[true,true,true,true,true,true,true,true,true,false,false] rfl rfl (by kernel_rfl) (fun _ _ _ h => h) (Or.inl ⟨by rfl,?_⟩) ?_ ?_
                 rotate_left
                 · intro w'
                   go_simp
                   with_reducible rfl
                 rotate_left
                 · simp only [Act.put,List.setIfInBounds_toArray,List.set_cons_zero,List.set_cons_succ,i64_w,i32_w]
                   rfl
                 refine last_ (i:=9) (N:=none) #[true,true,true,true,true,true,true,true,true,true,false] rfl rfl (by kernel_rfl) (by decide) (fun K hK => ?_)
                 have hst:=uo.store_row (w0:=w) i 1 (strOfNums (rb.take mb)) ⟨cur.f0,strOfNums (rb.take mb)⟩ (by omega) (Kd.R_drew HR.out) hlt (ur HB.out) (by rw [uo.at_mid done cur _ i hdl];rfl)
                 rw [uo.set_mid done cur _ _ i hdl] at hst
                 obtain ⟨hst1,hst2,hst3⟩:=hst
                 have HR2:=Aside0.mk hst2
                 have HB2:=Aside0.mk hst3
                 clear hst2 hst3
                 refine skip_ (w1:=wr.drew.setCells gb (i * 2 + 1) [.string (strOfNums (rb.take mb))]) (by rfl) rfl ?_ ?_
                 · exact uo.run_store_op rfl rfl rfl hst1
                 refine hK.out _ _ ?_
                 clear hK K hst1
                 refine pure_ (i:=10) (N:=some 0) (v:=?_) (a':=?_) #[true,true,true,true,true,true,true,true,true,true,true] rfl rfl (by kernel_rfl) (fun _ _ _ h => h) (Or.inl ⟨by rfl,?_⟩) ?_ ?_
                 rotate_left
                 · intro w'
                   go_simp
                   with_reducible rfl
                 rotate_left
                 · simp only [Act.put,List.setIfInBounds_toArray,List.set_cons_zero,List.set_cons_succ,i64_w,i32_w]
                   rfl
                 refine done_ (by kernel_rfl) ?_
                 try go_wp2
                 all_goals
                  have e5:(1 + (mb:Int)).toNat = 1 + mb:=by omega
                  have HT2:Aside0 (uo.Rest w r (rb.drop mb) (if c2 = 1 + mb then some ae else some (ae.add (1 + mb))) (c2 - (1 + mb))):=⟨by
                   have hd:=Kd.C_drop (m:=1 + mb) (c:=c2) HT.out.2.1 (by simp;omega) (by simpa using hcl)
                   have hsz:(Kd.int .u8).sz = 1:=rfl
                   rw [show 1 + mb = mb + 1 by omega,List.drop_succ_cons,hsz,Nat.mul_one] at hd
                   refine ⟨by rw [List.length_drop];omega,by rw [show 1 + mb = mb + 1 by omega];exact hd,by rw [List.length_drop];omega,?_⟩
                   have h1:=HT.out.2.2.2
                   simp only [List.all_cons,Bool.and_eq_true] at h1
                   exact List.all_eq_true.2 (fun x hx => List.all_eq_true.1 h1.2 x (List.mem_of_mem_drop hx))⟩
                  have HM2:Aside0 (uo.Mid bs 2 ⟨cur.f0,strOfNums (rb.take mb)⟩ (rb.drop mb)):=⟨uo.mid_1 HM.out hle⟩
                  go_roundg kj
                  case rel => exact ⟨2,(if c2 = 1 + mb then some ae else some (ae.add (1 + mb))),c2 - (1 + mb),rb.drop mb,_,by omega,by go_num,(by rw [List.length_drop];by_cases hcc:c2 = 1 + mb <;> first | (exfalso;omega) | (simp only [e5,hcc,if_true,if_false];congr 1 <;> omega)),HT2,HM2,HR2,by omega,HB2⟩
                  case measure => omega
               · have hlt2:rb.length < mb:=by omega
                 have hone:uo.one ((mb:Int) :: rb) = none:=by simp only [uo.one];rw [if_neg (by omega)]
                 have hbad:=uo.bad_mid (by omega) HM.out (m:=m) hone
                 have hfin:=uo.fails H.out HN.out (by rw [hm];exact hbad)
                 obtain ⟨hf1,hf2,hf3⟩:=hfin
                 subst hf1 hf2 hf3
                 clear hone hbad
                 go_wp2
                 rw [uo.arr1]
                 simp only [Result.andThen]
                 rw [Oper.upon_value]
                 go_wp2
                 go_ret3
                 exact ⟨_,_,rfl,Kd.R_nil _ _ _ _ _,Kd.R_nil _ _ _ _ _,HB.out⟩
          · obtain ⟨b1,hm1,hm2⟩:=uo.mid2 HM.out
            have HN2:Aside0 (uo.all n r = (uo.all (n - (i + 1)) bs2).map (fun z => ((done ++ [cur]) ++ z.1,z.2))):=⟨by
             rw [HN.out,hm,show n - (i + 1) = m by omega]
             simp only [uo.all,hm1,hm2,Option.bind_some,Option.map_map]
             congr 1
             funext z
             simp⟩
            clear HM hm1 hm2
            go_wp2
            go_roundg g1
            case rel => exact ⟨i + 1,_,_,bs2,done ++ [cur],by omega,by go_num,rfl,by simp;omega,HT,HN2,⟨by rw [show n - (i + 1) = m by omega,List.append_assoc];exact HR.out⟩,by omega,HB⟩
            case measure => omega
       · have hin:i = n:=by omega
         subst hin
         have hall:uo.all done.length r = some (done,bs):=by
          have h1:=HN.out
          rw [← hdl,Nat.sub_self] at h1
          simpa [uo.all] using h1
         have HRd:Aside0 (Kd.R k111 111 wr w.heap.size (fun _ => True) (.slice Av done.length cv) done):=⟨by
          have h1:=HR.out
          rw [← hdl,Nat.sub_self,List.replicate_zero,List.append_nil] at h1
          exact h1⟩
         have h2:=H.out
         rw [← hdl] at h2
         rw [show ((done.length:Nat):Int).toNat = done.length from rfl,hall] at h2
         obtain ⟨b,hb,h3⟩:=Option.bind_eq_some_iff.1 h2
         have HBc:=Aside0.mk hb
         have HCb:=Aside0.mk (Kd.C_below HT.out.2.1 HB.out)
         clear h2 hb hall HN HR
         subst hdl
         cases b with
         | false =>
           obtain ⟨e1,e2,e3⟩:r1 = [] ∧ r2 = [] ∧ 5 = r3:=by simpa using h3
           subst e1 e2 e3
           go_wp2_with (go_at_call 34;(with_reducible refine (u1s.calls k _ _ done false _ (Kd.R_reads' HRd.out).2.2 (Kd.R_reads' HRd.out).2.1 HBc.out).mono ?_);rintro e w6 ⟨rfl,hb6⟩)
           go_ret3
           exact ⟨_,_,rfl,Kd.R_nil _ _ _ _ _,Kd.R_nil _ _ _ _ _,u2k HB.out hb6⟩
         | true =>
           have HE:Aside0 (done = r1 ∧ bs = r2 ∧ 0 = r3):=⟨by simpa using h3⟩
           clear h3
           have hbs:bs.length ≤ 140737488355328:=by have:=HT.out.2.2.1;omega
           go_wp2_with (first
            | (go_at_call 34;(with_reducible refine (u1s.calls k _ _ done true _ (Kd.R_reads' HRd.out).2.2 (Kd.R_reads' HRd.out).2.1 HBc.out).mono ?_);rintro e w6 ⟨rfl,hb6⟩
               have HB6:=Aside0.mk (u2k HB.out hb6)
               have hlt6:∀ g,(Value.slice Av done.length cv).ownBlock = some g → g < w6.heap.size:=fun g hg => Nat.lt_of_lt_of_le (Kd.R_lt HRd.out g hg) hb6.size
               have ho0:=own_made w6 w.heap.size 5 .u8 0 HB6.out.size (by omega)
               rw [show madeCells #[Value.int .u8 0] 0 = #[] from by simp [madeCells]] at ho0
               have HO:Aside0 ((Kd.int .u8).R 5 (w6.alloc (.cells #[] 5)) w.heap.size (fun _ => True) (.slice (some ⟨w6.heap.size,0,none⟩) 0 0) []):=⟨Kd.R_of_own ho0 (fun _ _ => trivial)⟩
               have HC6:=Aside0.mk (Kd.C_below HT.out.2.1 (HB6.out.alloc HB6.out.size (.cells #[] 5)))
               have HR6:Aside0 (Kd.R k111 111 (w6.alloc (.cells #[] 5)) w.heap.size (fun _ => True) (.slice Av done.length cv) done):=⟨Kd.R_alloc (Kd.R_below HRd.out hb6) _⟩
               clear ho0 hb6)
            | (at_builtin;refine Kd.R_append_row (w0:=w) (Value.int .u8) (0:Int) (h1:=fun _ => rfl) w.heap.size rfl (.tmp 69) (.tmp 70) 22 5 (.int .u8 0) 1 rfl Tryz.underlying22 uo.info rfl (by decide) _ [] bs _ bs.length _ (fun _ => True) rfl rfl (fun _ _ => trivial) HO.out HC6.out (HB6.out.alloc HB6.out.size _) (Nat.le_trans HB6.out.size (by simp)) ?_ ?_))
           · simpa using hbs
           · intro v1 w7 hR7 hB7 hg7 _
             have HR7:=Aside0.mk hR7
             have HB7:=Aside0.mk hB7
             have HR8:=Aside0.mk (Kd.R_grown1 HR6.out rfl hg7 (fun he => Nat.lt_irrefl _ (hlt6 _ he.symm)))
             clear hR7 hB7 hg7
             go_wp2
             go_ret3
             obtain ⟨e1,e2,e3⟩:=HE.out
             subst e1 e2 e3
             exact ⟨_,_,rfl,HR8.out,HR7.out,HB7.out⟩
 · rw [if_neg hok] at h
   cases h
end Go.Proofs.YtgnehcgaplnfkaaGreatDoor.PAll
