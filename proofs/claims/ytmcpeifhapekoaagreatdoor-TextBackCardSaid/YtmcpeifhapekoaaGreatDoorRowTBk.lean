/- The row of the law TextBack, and its tied card: for every input the law returns true, and what came in reads as it read before. The package-level variables that the row lists (two tables of unicode/utf8) are tied to the program's text by the given tie. -/
import Derived.Test.YtmcpeifhapekoaaGreatDoorCards
import Derived.Test.YtmcpeifhapekoaaGreatDoorTie
import Derived.Test.YtmcpeifhapekoaaGreatDoorBk2
import Derived.Test.YtmcpeifhapekoaaGreatDoorBk7
import Derived.Test.YtmcpeifhapekoaaGreatDoorBk1
import Derived.WalkKit
import Derived.ProofKit
import Derived.OpenShut
import Derived.ShutString
import Derived.ChangeOld
import Derived.Below
import Derived.SizedLaws
import Derived.Carry
import Derived.JoinedCond
import Derived.LaidMore
import Derived.Lay
import Derived.SevenTiedAt
import Derived.Stop.Joined
import Derived.Handed
namespace Go.Proofs.YtmcpeifhapekoaaGreatDoor.textBack
open Go.ChangeShapes Go.WideShapes Go.ChangeAt Go.RowKit Go.Proofs.YtmcpeifhapekoaaGreatDoor.PAll Go.Proofs.YtmcpeifhapekoaaGreatDoorW.PrintWords Go.Proofs.YtmcpeifhapekoaaGreatDoorW.PrintLast
open Go.ChangeMaps (open_string shut_string)
set_option linter.unusedVariables false
theorem own:ownKnob Tryz.prog.godebug = none:=by kernel_rfl
theorem laidOut:laidOutB Tryz.prog = true:=by kernel_rfl
theorem walk (A0:Option Addr) (c0:Nat) (a0:List S53) (A1:Option Addr) (c1:Nat) (a1:List S34) (a2:Int) (w:World) (hr0:Kd.C k53 w A0 a0.length a0) (hc0:a0.length ≤ c0) (hr1:Kd.C k34 w A1 a1.length a1) (hc1:a1.length ≤ c1) (hG:u1k.Gd w) (b0:a0.length * 40 ≤ 140737488351232 ∧ ∀ y ∈ a0,((y.f0.length * 32 ≤ 140737488351232 ∧ ∀ z ∈ y.f0,z.f0.size ≤ 140737488351232 ∧ z.f1.size ≤ 140737488351232) ∧ (Lit.int .i64 y.f1).wf = true ∧ (Lit.int .u64 y.f2).wf = true)) (b1:a1.length * 48 ≤ 140737488351232 ∧ ∀ y ∈ a1,(y.f0.size ≤ 140737488351232 ∧ y.f1.size ≤ 140737488351232 ∧ y.f2.size ≤ 140737488351232)) (b2:(Lit.int .i64 a2).wf = true) :
 Calls Tryz.prog 5 #[.slice A0 a0.length c0,.slice A1 a1.length c1,.int .i64 a2] w fun e w' => e = .returned (.bool true) ∧ Below w.heap.size w w' :=
 Tx.back_walk A0 c0 a0 A1 c1 a1 a2 w hG hr0 hc0 hr1 hc1 b0 b1 b2
set_option maxRecDepth 100000 in
theorem lifted (os:Os) (started:os.Started) (H:Type) (enc:TypeId × Value → H) :
 ReturnsInHanded {} Tryz.checked os 5 .any (fun w args => (Rows.textBackSpec.pre enc Tryz.prog Tryz.f5 Rows.textBackRow.domain false w args ∧ laidMetH Tryz.prog Rows.textBackRow.laid w) ∧ sizedMet enc Tryz.prog Tryz.f5 (OpenSpec.ofChange Rows.textBackSpec) false w args)
  (Rows.textBackSpec.post enc Tryz.prog Tryz.f5 false true false false):=by
 refine Opens.returns_listed_shaped (C:=Tryz.checked) (X:=fun w _ => laidMetH Tryz.prog Rows.textBackRow.laid w) (fun _ _ _ hh h => h.of_heap hh) own started (by kernel_rfl) Tryz.func5
  (ChangeSpec.witness_shaped (enc:=enc) (C:=Tryz.checked) (os:=os) (X:=fun w _ => laidMetH Tryz.prog Rows.textBackRow.laid w) false (World.laidAll Tryz.prog os Rows.textBackRow.laid) #[.slice none 0 0,.slice none 0 0,.int .i64 0] 8 (World.laidAll_os _ _ _)
    (World.shaped_of_ZipB (by kernel_rfl) (by kernel_rfl)) (by kernel_rfl) (by kernel_rfl) (by kernel_rfl)
    (by rw [MakeChecks.laidMetH_plain _ _ _ (by kernel_rfl)];exact laidMet_laidAll _ (by kernel_rfl) (by kernel_rfl))) ?_
 intro W base args ds gs before hval0 hW hcnd hsz0 hLaid hShaped
 have hsz:(DataW.weightsEach Tryz.prog (Tryz.f5.params.toList ++ Rows.textBackSpec.plain.varTypes Tryz.prog) (ds ++ gs)).all (· ≤ reachBytes) = true:=hsz0
 have hval:∀ (j:Nat) t v,Tryz.f5.params[j]? = some t → args[j]? = some v → Value.okWide Tryz.prog W .any base t v:=hval0
 have hW':=hW
 obtain ⟨p,q,hA0,hV,rfl,hfz,hnd⟩:=hW
 have hA:DataW.TrodAll enc Tryz.prog W 0 (fun _ => true) true Tryz.f5.params.toList args.toList ds p:=hA0
 rw [Tryz.params5] at hA hval hsz
 obtain ⟨v0,vs0,d0,ds0,p0,q0,hargs,rfl,rfl,h0,r0⟩:=trodAll_cons hA
 obtain ⟨v1,vs1,d1,ds1,p1,q1,rfl,rfl,rfl,h1,r1⟩:=trodAll_cons r0
 obtain ⟨v2,vs2,d2,ds2,p2,q2,rfl,rfl,rfl,h2,r2⟩:=trodAll_cons r1
 obtain ⟨rfl,rfl,rfl⟩:=trodAll_nil r2
 obtain rfl:args = #[v0,v1,v2]:=by cases args;simp_all
 obtain ⟨rfl,rfl⟩:=trodVars_none hV
 have k0:=h0
 have lt0:∀ x ∈ p0,x.block < W.heap.size:=by obtain ⟨m,hm⟩:=k0;exact DataW.trod_lt m _ _ _ hm
 obtain ⟨A0,c0,a0,rfl,hc0,hm0,hr0,hq0⟩:=Opens.open_slice_arg (B:=40) (j:=0) Opens.opens_row Tryz.underlying24 (by kernel_rfl) (by kernel_rfl) hsz rfl rfl (hval 0 24 v0 rfl rfl) h0
 have k1:=h1
 have lt1:∀ x ∈ p1,x.block < W.heap.size:=by obtain ⟨m,hm⟩:=k1;exact DataW.trod_lt m _ _ _ hm
 obtain ⟨A1,c1,a1,rfl,hc1,hm1,hr1,hq1⟩:=Opens.open_slice_arg (B:=48) (j:=1) Opens.opens_meta Tryz.underlying25 (by kernel_rfl) (by kernel_rfl) hsz rfl rfl (hval 1 25 v1 rfl rfl) h1
 obtain ⟨a2,rfl,rfl,rfl,w2⟩:=open_int Tryz.underlying3 (hval 2 3 v2 rfl rfl) h2
 clear hA0 hval0 hsz0 hsz
 refine (walk A0 c0 a0 A1 c1 a1 a2 W hr0 hc0 hr1 hc1 (Opens.pow_of_row hLaid (by kernel_rfl) (by first | exact .head _ | exact .tail _ (.head _) | exact .tail _ (.tail _ (.head _)) | exact .tail _ (.tail _ (.tail _ (.head _))))) hq0 hq1 w2).mono fun e W' ⟨he,bel⟩ => ?_
 subst he
 exact ⟨_,rfl,_,_,_,[],_,[],hW',trodAll_mk1 (shut_bool Tryz.underlying4 _),(trodAll_cons_mk (Below.trod laidOut (by kernel_rfl) (of_decide_eq_true (by kernel_rfl)) k0 bel lt0) (trodAll_cons_mk (Below.trod laidOut (by kernel_rfl) (of_decide_eq_true (by kernel_rfl)) k1 bel lt1) (trodAll_cons_mk (shut_int Tryz.underlying3 w2) trodAll_mk0))),rfl,bel.frame _,fun h => by cases h⟩
theorem proved:Rows.TextBackSaid :=
 OpenClaim.holds_of_wide 5 Tryz.f5 rfl rfl rfl rfl rfl rfl rfl ⟨rfl,rfl,rfl,rfl,rfl⟩ rfl rfl rfl rfl rfl (by kernel_rfl) Tryz.func5 (by kernel_rfl)
  (of_decide_eq_true (by kernel_rfl)) (by unfold Func.isWrapper;first | (rw [if_pos (by decide +kernel)];kernel_rfl) | (rw [if_neg (by decide +kernel)];exact ⟨rfl,rfl⟩))
  (fun os started H enc _ => lifted os started H enc)
theorem card:Rows.TextBackCardSaid :=
 Claim7.holds_tied_plain_at .later [] [.data,.data,.data,.data,.pinned] true (true,"0c0f26bd08837d64039f6fe9a84a937952ffc94614706291c1520fe9dd8a5e6f") true proved (fun _ h => by cases h) (by kernel_rfl) (fun _ h => by cases h) textBack_row_tie rfl ⟨rfl,rfl⟩ (by kernel_rfl) rfl
  (fun f fn hf hfn => by
    obtain rfl:f = 5:=Option.some.inj ((show Tryz.prog.funcNamed "dryrot/dryrotlaw27.TextBack" = some 5 by kernel_rfl).symm.trans hf) |>.symm
    obtain rfl:fn = Tryz.f5:=(Option.some.inj (Tryz.func5.symm.trans hfn)).symm
    exact ⟨by kernel_rfl,fun j t ht => by
     rw [Tryz.params5] at ht
     have hm:t ∈ [24,25,3]:=by simpa using Array.mem_of_getElem? ht
     have hall:([24,25,3].all fun u => !Tryz.prog.wantsStandIn u) = true:=by kernel_rfl
     exact (show Tryz.prog.wantsStandIn t = false by simpa using List.all_eq_true.1 hall t hm)⟩)
  (by kernel_rfl)
end Go.Proofs.YtmcpeifhapekoaaGreatDoor.textBack
namespace Go.Proofs.YtmcpeifhapekoaaGreatDoor
theorem textBack_holds:Rows.TextBackCardSaid:=textBack.card
end Go.Proofs.YtmcpeifhapekoaaGreatDoor
