/- For every operation of bulk at most 1,048,576 (with its byte): the law RecordBack returns true, and what came in reads as it read before; and its tied card. Condition: the bulk, as the given second form has it. The package-level variables that the row lists (two tables of unicode/utf8) are tied to the program's text by the given tie. -/
import Derived.Test.YtgnehcgaplnfkaaGreatDoorCards
import Derived.Test.YtgnehcgaplnfkaaGreatDoorTie
import Derived.Test.YtgnehcgaplnfkaaGreatDoorBv2
import Derived.Test.YtgnehcgaplnfkaaGreatDoorBv8
import Derived.WalkKit
import Derived.ProofKit
import Derived.OpenShut
import Derived.ShutString
import Derived.ChangeOld
import Derived.Below
import Derived.SizedLaws
import Derived.Carry
import Derived.JoinedCond
import Derived.LaidMore
import Derived.Lay
import Derived.SevenTiedAt
import Derived.Stop.Joined
import Derived.Handed
namespace Go.Proofs.YtgnehcgaplnfkaaGreatDoor.recordBack
open Go.ChangeShapes Go.WideShapes Go.ChangeAt Go.RowKit Go.Proofs.YtgnehcgaplnfkaaGreatDoor.PAll Go.Proofs.YtgnehcgaplnfkaaGreatDoorW.PrintWords Go.Proofs.YtgnehcgaplnfkaaGreatDoorW.PrintLast Go.Deep
open Go.ChangeMaps (open_string shut_string)
set_option linter.unusedVariables false
theorem own:ownKnob Tryz.prog.godebug = none:=by kernel_rfl
theorem laidOut:laidOutB Tryz.prog = true:=by kernel_rfl
instance:Inhabited S59:=⟨z59⟩
theorem openU_row:Opens.OpensU Tryz.prog 59 k59 (fun x => (x.f0.length ≤ 1048576 ∧ ∀ z ∈ x.f0,z.f0.size ≤ 1048576 ∧ z.f1.size ≤ 1048576) ∧ (Lit.int .i64 x.f1).wf = true ∧ (Lit.int .u64 x.f2).wf = true) :=
 Opens.opensU_iso (d:=Kd.pair (Kd.slice 111 k111) (Kd.pair (Kd.int .i64) (Kd.int .u64))) (fun x:S59 => (x.f0,x.f1,x.f2)) (fun p => ⟨p.1,p.2.1,p.2.2⟩) (fun _ => rfl)
  (Opens.opensU_struct Tryz.underlying59 (Opens.opensFU_cons (Opens.opensU_slice _ Opens.openU_label Tryz.underlying57 (by kernel_rfl)) (Opens.opensFU_cons (Opens.opensU_int Tryz.underlying3) (Opens.opensFU_one (Opens.opensU_int Tryz.underlying55) rfl (by kernel_rfl)) rfl (by kernel_rfl)) rfl (by kernel_rfl)) (by kernel_rfl))
abbrev KOp:Kd (Int × List S59 × List S79 × Int × Int × Int):=Kd.pair (Kd.int .i64) (Kd.pair (Kd.slice 59 k59) (Kd.pair (Kd.slice 79 k79) (Kd.pair (Kd.int .i64) (Kd.pair (Kd.int .i64) (Kd.int .i64)))))
set_option maxRecDepth 100000 in
theorem openU_op:Opens.OpensU Tryz.prog 26 KOp (fun p => (Lit.int .i64 p.1).wf = true ∧ (p.2.1.length ≤ 1048576 ∧ ∀ y ∈ p.2.1,(y.f0.length ≤ 1048576 ∧ ∀ z ∈ y.f0,z.f0.size ≤ 1048576 ∧ z.f1.size ≤ 1048576) ∧ (Lit.int .i64 y.f1).wf = true ∧ (Lit.int .u64 y.f2).wf = true) ∧
 (p.2.2.1.length ≤ 1048576 ∧ ∀ y ∈ p.2.2.1,(Lit.int .i64 y.f0).wf = true ∧ y.f1.size ≤ 1048576 ∧ y.f2.size ≤ 1048576) ∧ (Lit.int .i64 p.2.2.2.1).wf = true ∧ (Lit.int .i64 p.2.2.2.2.1).wf = true ∧ (Lit.int .i64 p.2.2.2.2.2).wf = true) :=
 Opens.opensU_struct Tryz.underlying26 (Opens.opensFU_cons (Opens.opensU_int Tryz.underlying3) (Opens.opensFU_cons (Opens.opensU_slice _ openU_row Tryz.underlying23 (by kernel_rfl)) (Opens.opensFU_cons (Opens.opensU_slice _ Opens.openU_matcher Tryz.underlying24 (by kernel_rfl)) (Opens.opensFU_cons (Opens.opensU_int Tryz.underlying3) (Opens.opensFU_cons (Opens.opensU_int Tryz.underlying3) (Opens.opensFU_one (Opens.opensU_int Tryz.underlying3) rfl (by kernel_rfl)) rfl (by kernel_rfl)) rfl (by kernel_rfl)) rfl (by kernel_rfl)) rfl (by kernel_rfl)) rfl (by kernel_rfl)) (by kernel_rfl)
theorem op_cells {w:World} {p:Int × List S59 × List S79 × Int × Int × Int} {cs:Array Value} (h:KOp.K w p cs.toList):∃ A1 c1 A2 c2,cs = #[.int .i64 p.1,.slice A1 p.2.1.length c1,.slice A2 p.2.2.1.length c2,.int .i64 p.2.2.2.1,.int .i64 p.2.2.2.2.1,.int .i64 p.2.2.2.2.2] ∧ (p.2.1.length ≤ c1 ∧ Kd.C k59 w A1 p.2.1.length p.2.1) ∧ p.2.2.1.length ≤ c2 ∧ Kd.C k79 w A2 p.2.2.1.length p.2.2.1:=by
 obtain ⟨_,_,e0,rfl,_,_,e1,⟨A1,c1,rfl,h1,g1⟩,_,_,e2,⟨A2,c2,rfl,h2,g2⟩,_,_,e3,rfl,_,_,e4,rfl,rfl⟩:=h
 refine ⟨A1,c1,A2,c2,?_,⟨h1,g1⟩,h2,g2⟩
 apply Array.toList_inj.1
 rw [e0,e1,e2,e3,e4]
 rfl
set_option maxRecDepth 100000 in
theorem contract (H:Type) (enc:TypeId × Value → H) (W:World) (base:Nat) (args:Array Value) (ds gs:List (DataW H)) (before:List MemPlace)
 (hval:∀ (j:Nat) t v,Tryz.f4.params[j]? = some t → args[j]? = some v → Value.okWide Tryz.prog W .any base t v)
 (hW:DataW.Whole enc Tryz.prog Tryz.f4.params.toList Rows.recordBackSpec.vars false W args.toList ds gs before) (hk:Rows.uptoSmall H (ds ++ gs) = true) (hG:strings_ToValidUTF8.Gd W) :
 Calls Tryz.prog 4 args W fun e W' => ∃ v,e = .returned v ∧ Rows.recordBackSpec.post enc Tryz.prog Tryz.f4 false true false false W args v W':=by
 have hW':=hW
 obtain ⟨p,q,hA0,hV,rfl,hfz,hnd⟩:=hW
 have hA:DataW.TrodAll enc Tryz.prog W 0 (fun _ => true) true Tryz.f4.params.toList args.toList ds p:=hA0
 rw [Tryz.params4] at hA hval
 obtain ⟨v0,vs0,d0,ds0,p0,q0,hargs,rfl,rfl,h0,r0⟩:=trodAll_cons hA
 obtain ⟨v1,vs1,d1,ds1,p1,q1,rfl,rfl,rfl,h1,r1⟩:=trodAll_cons r0
 obtain ⟨rfl,rfl,rfl⟩:=trodAll_nil r1
 obtain rfl:args = #[v0,v1]:=by cases args;simp_all
 obtain ⟨rfl,rfl⟩:=trodVars_none hV
 simp only [List.append_nil] at hk
 have hz:=Opens.small_two hk
 have k0:=h0
 have lt0:∀ x ∈ p0,x.block < W.heap.size:=by obtain ⟨m,hm⟩:=k0;exact DataW.trod_lt m _ _ _ hm
 obtain ⟨cs,y,rfl,hK,hQ⟩:=Opens.openU_struct_arg openU_op Tryz.underlying26 hz.1 (hval 0 26 v0 rfl rfl) h0
 obtain ⟨A1,c1,A2,c2,rfl,⟨hc1,hr1⟩,hc2,hr2⟩:=op_cells hK
 obtain ⟨x,rfl,rfl,rfl,wx⟩:=open_int Tryz.underlying5 (hval 1 5 v1 rfl rfl) h1
 clear hA0
 refine (Laws.back_walk y.1 A1 c1 y.2.1 A2 c2 y.2.2.1 y.2.2.2.1 y.2.2.2.2.1 y.2.2.2.2.2 x W hG hr1 hc1 hr2 hc2 hQ.2.1 hQ.2.2.1 hQ.2.2.2.1 hQ.2.2.2.2.1 hQ.2.2.2.2.2 wx).mono fun e W' ⟨he,bel⟩ => ?_
 subst he
 exact ⟨_,rfl,_,_,_,[],_,[],hW',trodAll_mk1 (shut_bool Tryz.underlying4 _),(trodAll_cons_mk (Below.trod laidOut (by kernel_rfl) (of_decide_eq_true (by kernel_rfl)) k0 bel lt0) (trodAll_cons_mk (shut_int Tryz.underlying5 wx) trodAll_mk0)),rfl,bel.frame _,fun h => by cases h⟩
set_option maxRecDepth 100000 in
theorem lifted (os:Os) (started:os.Started) (H:Type) (enc:TypeId × Value → H) (F:Stop.Interp) :
 ReturnsInHanded {} Tryz.checked os 4 .any (fun w args => ((Rows.OpenSpec.upto Rows.recordBackSpec).pre enc Tryz.prog Tryz.f4 Rows.recordBackUptoRow.domain false w args ∧ laidMetH Tryz.prog Rows.recordBackUptoRow.laid w) ∧ sizedMet enc Tryz.prog Tryz.f4 (Rows.OpenSpec.upto Rows.recordBackSpec) false w args)
  (((Rows.OpenSpec.upto Rows.recordBackSpec).at F).post enc Tryz.prog Tryz.f4 false true false false):=by
 refine Opens.returns_upto_shaped (C:=Tryz.checked) (s:=Rows.OpenSpec.upto Rows.recordBackSpec) (k:=Rows.uptoSmall) rfl (X:=fun w _ => laidMetH Tryz.prog Rows.recordBackUptoRow.laid w) (fun _ _ _ hh h => h.of_heap hh) own started (by kernel_rfl) Tryz.func4
  (Opens.witness_upto (enc:=enc) (C:=Tryz.checked) (os:=os) (s:=Rows.OpenSpec.upto Rows.recordBackSpec) (k:=Rows.uptoSmall) rfl (X:=fun w _ => laidMetH Tryz.prog Rows.recordBackUptoRow.laid w) false (World.laidAll Tryz.prog os Rows.recordBackUptoRow.laid) #[.agg #[.int .i64 0,.slice none 0 0,.slice none 0 0,.int .i64 0,.int .i64 0,.int .i64 0],.int .u8 0] 8 (World.laidAll_os _ _ _)
    (World.shaped_of_ZipB (by kernel_rfl) (by kernel_rfl)) (by kernel_rfl) (x:=([.agg [.lit (.int .i64 0),.nil,.nil,.lit (.int .i64 0),.lit (.int .i64 0),.lit (.int .i64 0)],.lit (.int .u8 0)],[],[])) (by kernel_rfl) rfl (by kernel_rfl) (by kernel_rfl)
    (by rw [MakeChecks.laidMetH_plain _ _ _ (by kernel_rfl)];exact laidMet_laidAll _ (by kernel_rfl) (by kernel_rfl))) ?_
 intro W base args ds gs before hval hW hk hLaid hShaped
 exact contract H enc W base args ds gs before hval hW hk (Opens.gd_of_row hLaid (by kernel_rfl) hShaped (by first | exact .head _ | exact .tail _ (.head _) | exact .tail _ (.tail _ (.head _))) (by first | exact .head _ | exact .tail _ (.head _) | exact .tail _ (.tail _ (.head _))))
theorem proved:Rows.RecordBackUptoSaid :=
 OpenClaim.holds_of_cond 4 Tryz.f4 rfl rfl rfl rfl rfl rfl rfl ⟨rfl,rfl,rfl,rfl,rfl⟩ rfl rfl rfl rfl rfl (by kernel_rfl) Tryz.func4 (by kernel_rfl)
  (of_decide_eq_true (by kernel_rfl)) (by unfold Func.isWrapper;first | (rw [if_pos (by decide +kernel)];kernel_rfl) | (rw [if_neg (by decide +kernel)];exact ⟨rfl,rfl⟩))
  (fun os started H enc _ F => lifted os started H enc F)
theorem card:Rows.RecordBackUptoCardSaid :=
 Claim7.holds_tied_plain_at .later [] [.data,.pinned] true (true,"689019a5bcbe3025e8e712935a5fb244f9219a7736f183a11834497ec0d65d7e") true proved (fun _ h => by cases h) (by kernel_rfl) (fun _ h => by cases h) recordBackUpto_row_tie rfl ⟨rfl,rfl⟩ (by kernel_rfl) rfl
  (fun f fn hf hfn => by
    obtain rfl:f = 4:=Option.some.inj ((show Tryz.prog.funcNamed "dryrot/dryrotlaw10.RecordBack" = some 4 by kernel_rfl).symm.trans hf) |>.symm
    obtain rfl:fn = Tryz.f4:=(Option.some.inj (Tryz.func4.symm.trans hfn)).symm
    exact ⟨by kernel_rfl,fun j t ht => by
     rw [Tryz.params4] at ht
     have hm:t ∈ [26,5]:=by simpa using Array.mem_of_getElem? ht
     have hall:([26,5].all fun u => !Tryz.prog.wantsStandIn u) = true:=by kernel_rfl
     exact (show Tryz.prog.wantsStandIn t = false by simpa using List.all_eq_true.1 hall t hm)⟩)
  (by kernel_rfl)
end Go.Proofs.YtgnehcgaplnfkaaGreatDoor.recordBack
namespace Go.Proofs.YtgnehcgaplnfkaaGreatDoor
theorem recordBackUpto_holds:Rows.RecordBackUptoCardSaid:=recordBack.card
end Go.Proofs.YtgnehcgaplnfkaaGreatDoor
