/- For every list of deletes and every ledger of bulk at most 1,048,576: the law TombBack returns true, and what came in reads as it read before; and its tied card. Condition: the bulk, as the given second form has it. The package-level variables that the row lists (two tables of unicode/utf8) are tied to the program's text by the given tie. -/
import Derived.Test.YtgnehcgaplnfkaaGreatDoorCards
import Derived.Test.YtgnehcgaplnfkaaGreatDoorTie
import Derived.Test.YtgnehcgaplnfkaaGreatDoorBt3
import Derived.Test.YtgnehcgaplnfkaaGreatDoorBt8
import Derived.WalkKit
import Derived.ProofKit
import Derived.OpenShut
import Derived.ShutString
import Derived.ChangeOld
import Derived.Below
import Derived.SizedLaws
import Derived.Carry
import Derived.JoinedCond
import Derived.LaidMore
import Derived.Lay
import Derived.SevenTiedAt
import Derived.Stop.Joined
import Derived.Handed
namespace Go.Proofs.YtgnehcgaplnfkaaGreatDoor.tombBack
open Go.ChangeShapes Go.WideShapes Go.ChangeAt Go.RowKit Go.Proofs.YtgnehcgaplnfkaaGreatDoor.PAll Go.Proofs.YtgnehcgaplnfkaaGreatDoorW.PrintWords Go.Proofs.YtgnehcgaplnfkaaGreatDoorW.PrintLast Go.Deep
open Go.ChangeMaps (open_string shut_string)
set_option linter.unusedVariables false
theorem own:ownKnob Tryz.prog.godebug = none:=by kernel_rfl
theorem laidOut:laidOutB Tryz.prog = true:=by kernel_rfl
instance:Inhabited S83:=⟨z83⟩
instance:Inhabited S48:=⟨z48⟩
theorem openU_delete:Opens.OpensU Tryz.prog 83 k83 (fun x => (x.f0.length ≤ 1048576 ∧ ∀ y ∈ x.f0,(Lit.int .i64 y.f0).wf = true ∧ y.f1.size ≤ 1048576 ∧ y.f2.size ≤ 1048576) ∧ (Lit.int .i64 x.f1).wf = true ∧ (Lit.int .i64 x.f2).wf = true ∧ (Lit.int .i64 x.f3).wf = true) :=
 Opens.opensU_iso (d:=Kd.pair (Kd.slice 79 k79) (Kd.pair (Kd.int .i64) (Kd.pair (Kd.int .i64) (Kd.int .i64)))) (fun x:S83 => (x.f0,x.f1,x.f2,x.f3)) (fun p => ⟨p.1,p.2.1,p.2.2.1,p.2.2.2⟩) (fun _ => rfl)
  (Opens.opensU_struct Tryz.underlying83 (Opens.opensFU_cons (Opens.opensU_slice _ Opens.openU_matcher Tryz.underlying24 (by kernel_rfl)) (Opens.opensFU_cons (Opens.opensU_int Tryz.underlying3) (Opens.opensFU_cons (Opens.opensU_int Tryz.underlying3) (Opens.opensFU_one (Opens.opensU_int Tryz.underlying3) rfl (by kernel_rfl)) rfl (by kernel_rfl)) rfl (by kernel_rfl)) rfl (by kernel_rfl)) (by kernel_rfl))
theorem openU_spot:Opens.OpensU Tryz.prog 48 k48 (fun x => x.f0.size ≤ 1048576 ∧ (Lit.int .i64 x.f1).wf = true) :=
 Opens.opensU_iso (d:=Kd.pair Kd.string (Kd.int .i64)) (fun x:S48 => (x.f0,x.f1)) (fun p => ⟨p.1,p.2⟩) (fun _ => rfl)
  (Opens.opensU_struct Tryz.underlying48 (Opens.opensFU_cons (Opens.opensU_string Tryz.underlying9) (Opens.opensFU_one (Opens.opensU_int Tryz.underlying3) rfl (by kernel_rfl)) rfl (by kernel_rfl)) (by kernel_rfl))
set_option maxRecDepth 100000 in
theorem contract (H:Type) (enc:TypeId × Value → H) (W:World) (base:Nat) (args:Array Value) (ds gs:List (DataW H)) (before:List MemPlace)
 (hval:∀ (j:Nat) t v,Tryz.f5.params[j]? = some t → args[j]? = some v → Value.okWide Tryz.prog W .any base t v)
 (hW:DataW.Whole enc Tryz.prog Tryz.f5.params.toList Rows.tombBackSpec.vars false W args.toList ds gs before) (hk:Rows.uptoSmall H (ds ++ gs) = true) (hG:strings_ToValidUTF8.Gd W) :
 Calls Tryz.prog 5 args W fun e W' => ∃ v,e = .returned v ∧ Rows.tombBackSpec.post enc Tryz.prog Tryz.f5 false true false false W args v W':=by
 have hW':=hW
 obtain ⟨p,q,hA0,hV,rfl,hfz,hnd⟩:=hW
 have hA:DataW.TrodAll enc Tryz.prog W 0 (fun _ => true) true Tryz.f5.params.toList args.toList ds p:=hA0
 rw [Tryz.params5] at hA hval
 obtain ⟨v0,vs0,d0,ds0,p0,q0,hargs,rfl,rfl,h0,r0⟩:=trodAll_cons hA
 obtain ⟨v1,vs1,d1,ds1,p1,q1,rfl,rfl,rfl,h1,r1⟩:=trodAll_cons r0
 obtain ⟨rfl,rfl,rfl⟩:=trodAll_nil r1
 obtain rfl:args = #[v0,v1]:=by cases args;simp_all
 obtain ⟨rfl,rfl⟩:=trodVars_none hV
 simp only [List.append_nil] at hk
 have hz:=Opens.small_two hk
 have k0:=h0
 have k1:=h1
 have lt0:∀ x ∈ p0,x.block < W.heap.size:=by obtain ⟨m,hm⟩:=k0;exact DataW.trod_lt m _ _ _ hm
 have lt1:∀ x ∈ p1,x.block < W.heap.size:=by obtain ⟨m,hm⟩:=k1;exact DataW.trod_lt m _ _ _ hm
 obtain ⟨A0,c0,l0,rfl,hc0,_,hr0,_,hq0⟩:=Opens.openU_slice_arg openU_delete Tryz.underlying40 (by kernel_rfl) hz.1 (hval 0 40 v0 rfl rfl) h0
 obtain ⟨A1,c1,l1,rfl,hc1,_,hr1,_,hq1⟩:=Opens.openU_slice_arg openU_spot Tryz.underlying41 (by kernel_rfl) hz.2 (hval 1 41 v1 rfl rfl) h1
 clear hA0
 refine (Laws.tback_walk A0 c0 l0 A1 c1 l1 W hG hr0 hc0 hr1 hc1 hq0).mono fun e W' ⟨he,bel⟩ => ?_
 subst he
 exact ⟨_,rfl,_,_,_,[],_,[],hW',trodAll_mk1 (shut_bool Tryz.underlying4 _),(trodAll_cons_mk (Below.trod laidOut (by kernel_rfl) (of_decide_eq_true (by kernel_rfl)) k0 bel lt0) (trodAll_cons_mk (Below.trod laidOut (by kernel_rfl) (of_decide_eq_true (by kernel_rfl)) k1 bel lt1) trodAll_mk0)),rfl,bel.frame _,fun h => by cases h⟩
set_option maxRecDepth 100000 in
theorem lifted (os:Os) (started:os.Started) (H:Type) (enc:TypeId × Value → H) (F:Stop.Interp) :
 ReturnsInHanded {} Tryz.checked os 5 .any (fun w args => ((Rows.OpenSpec.upto Rows.tombBackSpec).pre enc Tryz.prog Tryz.f5 Rows.tombBackUptoRow.domain false w args ∧ laidMetH Tryz.prog Rows.tombBackUptoRow.laid w) ∧ sizedMet enc Tryz.prog Tryz.f5 (Rows.OpenSpec.upto Rows.tombBackSpec) false w args)
  (((Rows.OpenSpec.upto Rows.tombBackSpec).at F).post enc Tryz.prog Tryz.f5 false true false false):=by
 refine Opens.returns_upto_shaped (C:=Tryz.checked) (s:=Rows.OpenSpec.upto Rows.tombBackSpec) (k:=Rows.uptoSmall) rfl (X:=fun w _ => laidMetH Tryz.prog Rows.tombBackUptoRow.laid w) (fun _ _ _ hh h => h.of_heap hh) own started (by kernel_rfl) Tryz.func5
  (Opens.witness_upto (enc:=enc) (C:=Tryz.checked) (os:=os) (s:=Rows.OpenSpec.upto Rows.tombBackSpec) (k:=Rows.uptoSmall) rfl (X:=fun w _ => laidMetH Tryz.prog Rows.tombBackUptoRow.laid w) false (World.laidAll Tryz.prog os Rows.tombBackUptoRow.laid) #[.slice none 0 0,.slice none 0 0] 8 (World.laidAll_os _ _ _)
    (World.shaped_of_ZipB (by kernel_rfl) (by kernel_rfl)) (by kernel_rfl) (x:=([.nil,.nil],[],[])) (by kernel_rfl) rfl (by kernel_rfl) (by kernel_rfl)
    (by rw [MakeChecks.laidMetH_plain _ _ _ (by kernel_rfl)];exact laidMet_laidAll _ (by kernel_rfl) (by kernel_rfl))) ?_
 intro W base args ds gs before hval hW hk hLaid hShaped
 exact contract H enc W base args ds gs before hval hW hk (Opens.gd_of_row hLaid (by kernel_rfl) hShaped (by first | exact .head _ | exact .tail _ (.head _) | exact .tail _ (.tail _ (.head _))) (by first | exact .head _ | exact .tail _ (.head _) | exact .tail _ (.tail _ (.head _))))
theorem proved:Rows.TombBackUptoSaid :=
 OpenClaim.holds_of_cond 5 Tryz.f5 rfl rfl rfl rfl rfl rfl rfl ⟨rfl,rfl,rfl,rfl,rfl⟩ rfl rfl rfl rfl rfl (by kernel_rfl) Tryz.func5 (by kernel_rfl)
  (of_decide_eq_true (by kernel_rfl)) (by unfold Func.isWrapper;first | (rw [if_pos (by decide +kernel)];kernel_rfl) | (rw [if_neg (by decide +kernel)];exact ⟨rfl,rfl⟩))
  (fun os started H enc _ F => lifted os started H enc F)
theorem card:Rows.TombBackUptoCardSaid :=
 Claim7.holds_tied_plain_at .later [] [.data,.pinned] true (true,"689019a5bcbe3025e8e712935a5fb244f9219a7736f183a11834497ec0d65d7e") true proved (fun _ h => by cases h) (by kernel_rfl) (fun _ h => by cases h) tombBackUpto_row_tie rfl ⟨rfl,rfl⟩ (by kernel_rfl) rfl
  (fun f fn hf hfn => by
    obtain rfl:f = 5:=Option.some.inj ((show Tryz.prog.funcNamed "dryrot/dryrotlaw14.TombBack" = some 5 by kernel_rfl).symm.trans hf) |>.symm
    obtain rfl:fn = Tryz.f5:=(Option.some.inj (Tryz.func5.symm.trans hfn)).symm
    exact ⟨by kernel_rfl,fun j t ht => by
     rw [Tryz.params5] at ht
     have hm:t ∈ [40,41]:=by simpa using Array.mem_of_getElem? ht
     have hall:([40,41].all fun u => !Tryz.prog.wantsStandIn u) = true:=by kernel_rfl
     exact (show Tryz.prog.wantsStandIn t = false by simpa using List.all_eq_true.1 hall t hm)⟩)
  (by kernel_rfl)
end Go.Proofs.YtgnehcgaplnfkaaGreatDoor.tombBack
namespace Go.Proofs.YtgnehcgaplnfkaaGreatDoor
theorem tombBackUpto_holds:Rows.TombBackUptoCardSaid:=tombBack.card
end Go.Proofs.YtgnehcgaplnfkaaGreatDoor
