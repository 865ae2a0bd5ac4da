/- The row of the law RecordOnce, and its tied card: for every input the law returns true, and what came in reads as it read before. The package-level variables that the row lists (two tables of unicode/utf8) are tied to the program's text by the given tie. -/
import Derived.Test.YtgnehcgaplnfkaaGreatDoorCards
import Derived.Test.YtgnehcgaplnfkaaGreatDoorTie
import Derived.Test.YtgnehcgaplnfkaaGreatDoorBu2
import Derived.Test.YtgnehcgaplnfkaaGreatDoorBu8
import Derived.WalkKit
import Derived.ProofKit
import Derived.OpenShut
import Derived.ShutString
import Derived.ChangeOld
import Derived.Below
import Derived.SizedLaws
import Derived.Carry
import Derived.JoinedCond
import Derived.LaidMore
import Derived.Lay
import Derived.SevenTiedAt
import Derived.Stop.Joined
import Derived.Handed
namespace Go.Proofs.YtgnehcgaplnfkaaGreatDoor.recordOnce
open Go.ChangeShapes Go.WideShapes Go.ChangeAt Go.RowKit Go.Proofs.YtgnehcgaplnfkaaGreatDoor.PAll Go.Proofs.YtgnehcgaplnfkaaGreatDoorW.PrintWords Go.Proofs.YtgnehcgaplnfkaaGreatDoorW.PrintLast
open Go.ChangeMaps (open_string shut_string)
set_option linter.unusedVariables false
theorem own:ownKnob Tryz.prog.godebug = none:=by kernel_rfl
theorem laidOut:laidOutB Tryz.prog = true:=by kernel_rfl
theorem walk (A0:Option Addr) (c0:Nat) (a0:List Int) (w:World) (hr0:Kd.C (Kd.int .u8) w A0 a0.length a0) (hc0:a0.length ≤ c0) (hG:strings_ToValidUTF8.Gd w) (b0:a0.length * 1 ≤ 140737488351232 ∧ ∀ y ∈ a0,(Lit.int .u8 y).wf = true) :
 Calls Tryz.prog 3 #[.slice A0 a0.length c0] w fun e w' => e = .returned (.bool true) ∧ Below w.heap.size w w' :=
 Laws.once_walk A0 c0 a0 w hG hr0 hc0 b0
set_option maxRecDepth 100000 in
theorem lifted (os:Os) (started:os.Started) (H:Type) (enc:TypeId × Value → H) :
 ReturnsInHanded {} Tryz.checked os 3 .any (fun w args => (Rows.recordOnceSpec.pre enc Tryz.prog Tryz.f3 Rows.recordOnceRow.domain false w args ∧ laidMetH Tryz.prog Rows.recordOnceRow.laid w) ∧ sizedMet enc Tryz.prog Tryz.f3 (OpenSpec.ofChange Rows.recordOnceSpec) false w args)
  (Rows.recordOnceSpec.post enc Tryz.prog Tryz.f3 false true false false):=by
 refine Opens.returns_listed_shaped (C:=Tryz.checked) (X:=fun w _ => laidMetH Tryz.prog Rows.recordOnceRow.laid w) (fun _ _ _ hh h => h.of_heap hh) own started (by kernel_rfl) Tryz.func3
  (ChangeSpec.witness_shaped (enc:=enc) (C:=Tryz.checked) (os:=os) (X:=fun w _ => laidMetH Tryz.prog Rows.recordOnceRow.laid w) false (World.laidAll Tryz.prog os Rows.recordOnceRow.laid) #[.slice none 0 0] 8 (World.laidAll_os _ _ _)
    (World.shaped_of_ZipB (by kernel_rfl) (by kernel_rfl)) (by kernel_rfl) (by kernel_rfl) (by kernel_rfl)
    (by rw [MakeChecks.laidMetH_plain _ _ _ (by kernel_rfl)];exact laidMet_laidAll _ (by kernel_rfl) (by kernel_rfl))) ?_
 intro W base args ds gs before hval0 hW hcnd hsz0 hLaid hShaped
 have hsz:(DataW.weightsEach Tryz.prog (Tryz.f3.params.toList ++ Rows.recordOnceSpec.plain.varTypes Tryz.prog) (ds ++ gs)).all (· ≤ reachBytes) = true:=hsz0
 have hval:∀ (j:Nat) t v,Tryz.f3.params[j]? = some t → args[j]? = some v → Value.okWide Tryz.prog W .any base t v:=hval0
 have hW':=hW
 obtain ⟨p,q,hA0,hV,rfl,hfz,hnd⟩:=hW
 have hA:DataW.TrodAll enc Tryz.prog W 0 (fun _ => true) true Tryz.f3.params.toList args.toList ds p:=hA0
 rw [Tryz.params3] at hA hval hsz
 obtain ⟨v0,vs0,d0,ds0,p0,q0,hargs,rfl,rfl,h0,r0⟩:=trodAll_cons hA
 obtain ⟨rfl,rfl,rfl⟩:=trodAll_nil r0
 obtain rfl:args = #[v0]:=by cases args;simp_all
 obtain ⟨rfl,rfl⟩:=trodVars_none hV
 have k0:=h0
 have lt0:∀ x ∈ p0,x.block < W.heap.size:=by obtain ⟨m,hm⟩:=k0;exact DataW.trod_lt m _ _ _ hm
 obtain ⟨A0,c0,a0,rfl,hc0,hm0,hr0,hq0⟩:=Opens.open_slice_arg (B:=1) (j:=0) Opens.opens_u8w Tryz.underlying22 (by kernel_rfl) (by kernel_rfl) hsz rfl rfl (hval 0 22 v0 rfl rfl) h0
 clear hA0 hval0 hsz0 hsz
 refine (walk A0 c0 a0 W hr0 hc0 (Opens.gd_of_row hLaid (by kernel_rfl) hShaped (by first | exact .head _ | exact .tail _ (.head _) | exact .tail _ (.tail _ (.head _))) (by first | exact .head _ | exact .tail _ (.head _) | exact .tail _ (.tail _ (.head _)))) hq0).mono fun e W' ⟨he,bel⟩ => ?_
 subst he
 exact ⟨_,rfl,_,_,_,[],_,[],hW',trodAll_mk1 (shut_bool Tryz.underlying4 _),(trodAll_cons_mk (Below.trod laidOut (by kernel_rfl) (of_decide_eq_true (by kernel_rfl)) k0 bel lt0) trodAll_mk0),rfl,bel.frame _,fun h => by cases h⟩
theorem proved:Rows.RecordOnceSaid :=
 OpenClaim.holds_of_wide 3 Tryz.f3 rfl rfl rfl rfl rfl rfl rfl ⟨rfl,rfl,rfl,rfl,rfl⟩ rfl rfl rfl rfl rfl (by kernel_rfl) Tryz.func3 (by kernel_rfl)
  (of_decide_eq_true (by kernel_rfl)) (by unfold Func.isWrapper;first | (rw [if_pos (by decide +kernel)];kernel_rfl) | (rw [if_neg (by decide +kernel)];exact ⟨rfl,rfl⟩))
  (fun os started H enc _ => lifted os started H enc)
theorem card:Rows.RecordOnceCardSaid :=
 Claim7.holds_tied_plain_at .later [] [.data,.pinned] true (true,"689019a5bcbe3025e8e712935a5fb244f9219a7736f183a11834497ec0d65d7e") true proved (fun _ h => by cases h) (by kernel_rfl) (fun _ h => by cases h) recordOnce_row_tie rfl ⟨rfl,rfl⟩ (by kernel_rfl) rfl
  (fun f fn hf hfn => by
    obtain rfl:f = 3:=Option.some.inj ((show Tryz.prog.funcNamed "dryrot/dryrotlaw10.RecordOnce" = some 3 by kernel_rfl).symm.trans hf) |>.symm
    obtain rfl:fn = Tryz.f3:=(Option.some.inj (Tryz.func3.symm.trans hfn)).symm
    exact ⟨by kernel_rfl,fun j t ht => by
     rw [Tryz.params3] at ht
     have hm:t ∈ [22]:=by simpa using Array.mem_of_getElem? ht
     have hall:([22].all fun u => !Tryz.prog.wantsStandIn u) = true:=by kernel_rfl
     exact (show Tryz.prog.wantsStandIn t = false by simpa using List.all_eq_true.1 hall t hm)⟩)
  (by kernel_rfl)
end Go.Proofs.YtgnehcgaplnfkaaGreatDoor.recordOnce
namespace Go.Proofs.YtgnehcgaplnfkaaGreatDoor
theorem recordOnce_holds:Rows.RecordOnceCardSaid:=recordOnce.card
end Go.Proofs.YtgnehcgaplnfkaaGreatDoor
