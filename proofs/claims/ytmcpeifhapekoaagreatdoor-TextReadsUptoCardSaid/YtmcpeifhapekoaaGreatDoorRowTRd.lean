/- For every text of bulk at most 1,048,576 (with the number): the law TextReads returns true, and what came in reads as it read before; and its tied card. Condition: the bulk, as the given second form has it. The package-level variables that the row lists (two tables of unicode/utf8) are tied to the program's text by the given tie. -/
import Derived.Test.YtmcpeifhapekoaaGreatDoorCards
import Derived.Test.YtmcpeifhapekoaaGreatDoorTie
import Derived.Test.YtmcpeifhapekoaaGreatDoorBr2
import Derived.Test.YtmcpeifhapekoaaGreatDoorBr6
import Derived.WalkKit
import Derived.ProofKit
import Derived.OpenShut
import Derived.ShutString
import Derived.ChangeOld
import Derived.Below
import Derived.SizedLaws
import Derived.Carry
import Derived.JoinedCond
import Derived.LaidMore
import Derived.Lay
import Derived.SevenTiedAt
import Derived.Stop.Joined
import Derived.Handed
namespace Go.Proofs.YtmcpeifhapekoaaGreatDoor.textReads
open Go.ChangeShapes Go.WideShapes Go.ChangeAt Go.RowKit Go.Proofs.YtmcpeifhapekoaaGreatDoor.PAll Go.Proofs.YtmcpeifhapekoaaGreatDoorW.PrintWords Go.Proofs.YtmcpeifhapekoaaGreatDoorW.PrintLast Go.Deep
open Go.ChangeMaps (open_string shut_string)
set_option linter.unusedVariables false
theorem own:ownKnob Tryz.prog.godebug = none:=by kernel_rfl
theorem laidOut:laidOutB Tryz.prog = true:=by kernel_rfl
set_option maxRecDepth 100000 in
theorem contract (H:Type) (enc:TypeId × Value → H) (W:World) (base:Nat) (args:Array Value) (ds gs:List (DataW H)) (before:List MemPlace)
 (hval:∀ (j:Nat) t v,Tryz.f3.params[j]? = some t → args[j]? = some v → Value.okWide Tryz.prog W .any base t v)
 (hW:DataW.Whole enc Tryz.prog Tryz.f3.params.toList Rows.textReadsSpec.vars false W args.toList ds gs before) (hk:Rows.uptoSmall H (ds ++ gs) = true) :
 Calls Tryz.prog 3 args W fun e W' => ∃ v,e = .returned v ∧ Rows.textReadsSpec.post enc Tryz.prog Tryz.f3 false true false false W args v W':=by
 have hW':=hW
 obtain ⟨p,q,hA0,hV,rfl,hfz,hnd⟩:=hW
 have hA:DataW.TrodAll enc Tryz.prog W 0 (fun _ => true) true Tryz.f3.params.toList args.toList ds p:=hA0
 rw [Tryz.params3] at hA hval
 obtain ⟨v0,vs0,d0,ds0,p0,q0,hargs,rfl,rfl,h0,r0⟩:=trodAll_cons hA
 obtain ⟨v1,vs1,d1,ds1,p1,q1,rfl,rfl,rfl,h1,r1⟩:=trodAll_cons r0
 obtain ⟨rfl,rfl,rfl⟩:=trodAll_nil r1
 obtain rfl:args = #[v0,v1]:=by cases args;simp_all
 obtain ⟨rfl,rfl⟩:=trodVars_none hV
 simp only [List.append_nil] at hk
 have hz:=Opens.small_two hk
 have k0:=h0
 have lt0:∀ x ∈ p0,x.block < W.heap.size:=by obtain ⟨m,hm⟩:=k0;exact DataW.trod_lt m _ _ _ hm
 obtain ⟨A0,c0,a0,rfl,hc0,hm0,hr0,hl0,hq0⟩:=Opens.openU_slice_arg (Opens.opensU_int Tryz.underlying5) Tryz.underlying22 (by kernel_rfl) hz.1 (hval 0 22 v0 rfl rfl) h0
 obtain ⟨x,rfl,rfl,rfl,wx⟩:=open_int Tryz.underlying3 (hval 1 3 v1 rfl rfl) h1
 clear hA0
 obtain ⟨k,hk9⟩:=(Tx.reads_ev a0 x hl0 (fun y hy => by have:=hq0 y hy;simp [Lit.wf,IntKind.min,IntKind.max,IntKind.bits,IntKind.signed] at this;omega)).rounds
 refine (u3o.calls k A0 c0 a0 x true rfl W hr0 hc0 hk9).mono fun e W' ⟨he,bel⟩ => ?_
 subst he
 exact ⟨_,rfl,_,_,_,[],_,[],hW',trodAll_mk1 (shut_bool Tryz.underlying4 _),(trodAll_cons_mk (Below.trod laidOut (by kernel_rfl) (of_decide_eq_true (by kernel_rfl)) k0 bel lt0) (trodAll_cons_mk (shut_int Tryz.underlying3 wx) trodAll_mk0)),rfl,bel.frame _,fun h => by cases h⟩
set_option maxRecDepth 100000 in
theorem lifted (os:Os) (started:os.Started) (H:Type) (enc:TypeId × Value → H) (F:Stop.Interp) :
 ReturnsInHanded {} Tryz.checked os 3 .any (fun w args => ((Rows.OpenSpec.upto Rows.textReadsSpec).pre enc Tryz.prog Tryz.f3 Rows.textReadsUptoRow.domain false w args ∧ laidMetH Tryz.prog Rows.textReadsUptoRow.laid w) ∧ sizedMet enc Tryz.prog Tryz.f3 (Rows.OpenSpec.upto Rows.textReadsSpec) false w args)
  (((Rows.OpenSpec.upto Rows.textReadsSpec).at F).post enc Tryz.prog Tryz.f3 false true false false):=by
 refine Opens.returns_upto_shaped (C:=Tryz.checked) (s:=Rows.OpenSpec.upto Rows.textReadsSpec) (k:=Rows.uptoSmall) rfl (X:=fun w _ => laidMetH Tryz.prog Rows.textReadsUptoRow.laid w) (fun _ _ _ hh h => h.of_heap hh) own started (by kernel_rfl) Tryz.func3
  (Opens.witness_upto (enc:=enc) (C:=Tryz.checked) (os:=os) (s:=Rows.OpenSpec.upto Rows.textReadsSpec) (k:=Rows.uptoSmall) rfl (X:=fun w _ => laidMetH Tryz.prog Rows.textReadsUptoRow.laid w) false (World.laidAll Tryz.prog os Rows.textReadsUptoRow.laid) #[.slice none 0 0,.int .i64 0] 8 (World.laidAll_os _ _ _)
    (World.shaped_of_ZipB (by kernel_rfl) (by kernel_rfl)) (by kernel_rfl) (x:=([.nil,.lit (.int .i64 0)],[],[])) (by kernel_rfl) rfl (by kernel_rfl) (by kernel_rfl)
    (by rw [MakeChecks.laidMetH_plain _ _ _ (by kernel_rfl)];exact laidMet_laidAll _ (by kernel_rfl) (by kernel_rfl))) ?_
 intro W base args ds gs before hval hW hk hLaid hShaped
 exact contract H enc W base args ds gs before hval hW hk
theorem proved:Rows.TextReadsUptoSaid :=
 OpenClaim.holds_of_cond 3 Tryz.f3 rfl rfl rfl rfl rfl rfl rfl ⟨rfl,rfl,rfl,rfl,rfl⟩ rfl rfl rfl rfl rfl (by kernel_rfl) Tryz.func3 (by kernel_rfl)
  (of_decide_eq_true (by kernel_rfl)) (by unfold Func.isWrapper;first | (rw [if_pos (by decide +kernel)];kernel_rfl) | (rw [if_neg (by decide +kernel)];exact ⟨rfl,rfl⟩))
  (fun os started H enc _ F => lifted os started H enc F)
theorem card:Rows.TextReadsUptoCardSaid :=
 Claim7.holds_tied_plain_at .later [] [.data,.pinned] true (true,"0c0f26bd08837d64039f6fe9a84a937952ffc94614706291c1520fe9dd8a5e6f") true proved (fun _ h => by cases h) (by kernel_rfl) (fun _ h => by cases h) textReadsUpto_row_tie rfl ⟨rfl,rfl⟩ (by kernel_rfl) rfl
  (fun f fn hf hfn => by
    obtain rfl:f = 3:=Option.some.inj ((show Tryz.prog.funcNamed "dryrot/dryrotlaw27.TextReads" = some 3 by kernel_rfl).symm.trans hf) |>.symm
    obtain rfl:fn = Tryz.f3:=(Option.some.inj (Tryz.func3.symm.trans hfn)).symm
    exact ⟨by kernel_rfl,fun j t ht => by
     rw [Tryz.params3] at ht
     have hm:t ∈ [22,3]:=by simpa using Array.mem_of_getElem? ht
     have hall:([22,3].all fun u => !Tryz.prog.wantsStandIn u) = true:=by kernel_rfl
     exact (show Tryz.prog.wantsStandIn t = false by simpa using List.all_eq_true.1 hall t hm)⟩)
  (by kernel_rfl)
end Go.Proofs.YtmcpeifhapekoaaGreatDoor.textReads
namespace Go.Proofs.YtmcpeifhapekoaaGreatDoor
theorem textReadsUpto_holds:Rows.TextReadsUptoCardSaid:=textReads.card
end Go.Proofs.YtmcpeifhapekoaaGreatDoor
