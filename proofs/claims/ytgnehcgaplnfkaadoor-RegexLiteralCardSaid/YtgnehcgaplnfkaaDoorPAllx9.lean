-- Written by a program of this seat (wip/tools), out of the translation. Not trusted: Lean checks it.
import Derived.Test.YtgnehcgaplnfkaaDoorPAllx0
import Derived.Test.YtgnehcgaplnfkaaDoorPAllx4
import Derived.Test.YtgnehcgaplnfkaaDoorPAllx6
namespace Go.Proofs.YtgnehcgaplnfkaaDoor.PAll
open Go.RowKit Go.Proofs.YtgnehcgaplnfkaaDoorW.PrintWords Go.Proofs.YtgnehcgaplnfkaaDoorW.PrintLast Go.Proofs.YtgnehcgaplnfkaaDoorW.PrintMore
attribute [local go_sem] max2_int min2_int max_two min_two max_three min_three max_four min_four   -- for this text's walks alone
set_option linter.unusedVariables false
set_option linter.unusedSimpArgs false

/-! ### regex_coder_part: function 85 -/
-- uses regex_coder_take regex_inst
def regex_coder_part.f : Option Int := none
theorem regex_coder_part.St_below {w0 W W' : World} {g gp : Nat} {vc : Value} {s : regex_coder_take.CS} (h : regex_coder_take.St w0 W g gp vc s) (hb : Below W.heap.size W W') : regex_coder_take.St w0 W' g gp vc s where
  below := below_then h.below h.below.size hb
  base := h.base
  cells := by
    obtain ⟨A, c, h1, h2, h3⟩ := h.cells
    obtain ⟨cz, hcz⟩ := h3.1
    exact ⟨A, c, blk_below h1 hb, h2, h3.move ((blk_below hcz hb).trans hcz.symm)⟩
  code := Kd.R_below h.code hb
/-- The instructions' field is written. -/
theorem regex_coder_part.St_code {w0 W : World} {g gp : Nat} {vc vc' : Value} {p : List Int} {code' : List S62} {bad : Bool} {A : Option Addr} {c : Nat} (hbel : Below w0.heap.size w0 W) (hbase : w0.heap.size ≤ g)
    (hb : W.heap[g]? = some (.cells #[.slice A p.length c, vc, .bool bad] 90 (0, 0))) (hl : p.length ≤ c) (hr : regex_coder_take.Runes W gp A p) (hcode : Kd.R k62 62 W w0.heap.size (fun _ => True) vc' code') : regex_coder_take.St w0 (W.setCell ⟨g, 1, none⟩ vc') g gp vc' ⟨p, code', bad⟩ where
  below := hbel.setCell hbase _
  base := hbase
  cells := ⟨A, c, by rw [blk_set hb 1 _]; rfl, hl, hr.move (Below.heap_setCell _ _ _ _ (regex_coder_take.ne_gp hb hr))⟩
  code := Kd.R_set hcode hb (by intro q hq; rw [regex_inst.E_inst] at hq; simp at hq; omega) 1 _
set_option maxHeartbeats 2000000 in
set_option maxRecDepth 10000 in
theorem regex_coder_part.calls (w0 W : World) (g gp : Nat) (vc : Value) (s : regex_coder_take.CS) (m : Nat) (h : regex_coder_take.St w0 W g gp vc s) (hm : m ≤ s.code.length) (hsz : s.code.length ≤ 1000000) :
    Calls Tryd.prog 85 #[.pointer (some ⟨g, 0, none⟩), .int .i64 m] W fun e W' => ∃ v vc', e = .returned v ∧ Kd.R k62 62 W' w0.heap.size (fun _ => True) v (s.code.drop m) ∧ regex_coder_take.St w0 W' g gp vc' ⟨s.p, s.code.take m, s.bad⟩ ∧ (∀ k, v.ownBlock = some k → some k ≠ vc'.ownBlock) := by
  obtain ⟨p, code, bad⟩ := s
  obtain ⟨A, c, hb, hlc, hr⟩ := h.cells
  obtain ⟨Ac, cc, ec⟩ := Kd.R_slice h.code
  subst ec
  have h1 := blk_cell hb 1
  simp only [List.size_toArray, List.length_cons, List.length_nil, List.getElem?_toArray, List.getElem?_cons_zero, List.getElem?_cons_succ] at h1
  simp only at hm hsz
  have hcc : code.length ≤ cc := (Kd.R_reads' h.code).2.1
  obtain ⟨i0, hi0, hz0⟩ : ∃ i0, Tryd.prog.info? 62 = some i0 ∧ i0.size = 5 := by
    obtain ⟨i0, hi, hz⟩ := Option.map_eq_some_iff.1 regex_inst.info
    simp only [Prod.mk.injEq] at hz
    exact ⟨i0, hi, hz.2.1⟩
  obtain ⟨Av, hAv⟩ : ∃ Av, Aside0 ((if cc = m then Ac else Ac.map (·.add (m * 5))) = Av) := ⟨_, ⟨rfl⟩⟩
  obtain ⟨dr, hdr⟩ : ∃ dr, Aside0 (code.drop m = dr) := ⟨_, ⟨rfl⟩⟩
  have hl3 : dr.length = code.length - m := by rw [← hdr.out]; exact List.length_drop
  have hcut1 : ∀ W : World, (Instr.slice 56 (.slice Ac code.length cc) (some (.int .i64 (m : Int))) none none).run Tryd.prog W = .ok (.slice Av dr.length (cc - m)) W := fun W => by
    have h9 := cut_from (P := Tryd.prog) 56 62 .i64 Tryd.underlying56 hi0 5 hz0 Ac code.length cc (m : Int) (by omega) (by omega) W
    simp only [Int.toNat_natCast] at h9
    rw [hAv.out, ← hl3] at h9
    exact h9
  have hcut2 : ∀ W : World, (Instr.slice 56 (.slice Ac code.length cc) none (some (.int .i64 (m : Int))) none).run Tryd.prog W = .ok (.slice Ac m cc) W := fun W => by
    have h9 := cut_to (P := Tryd.prog) 56 62 .i64 Tryd.underlying56 hi0 Ac code.length cc (m : Int) (by omega) (by omega) hcc W
    simpa using h9
  have HRM : Aside0 (regex_inst.ReadsM w0 W Av dr) := ⟨by
    obtain ⟨A9, c9, e9, h9, h8⟩ := regex_inst.reads_M h.code
    injection e9 with e1 e2 e3
    subst e1 e3
    have h7 := h8.drop hm h9
    rw [hAv.out, hdr.out] at h7
    exact h7⟩
  have hlv : dr.length ≤ cc - m := by omega
  have hlz : dr.length ≤ 1000000 := by omega
  have HB := Aside0.mk hb
  have HS := Aside0.mk h
  have HR := Aside0.mk hr
  have HC := Aside0.mk hcc
  have HM := Aside0.mk hm
  have HL3 := Aside0.mk hl3
  clear hb hr h hAv hcc hm hl3 hi0 hz0 hsz
  go_enter Tryd.func85, Tryd.ntmps85
  go_wp2_with (go_at_call 112; (with_reducible refine (regex_inst.calls w0 W Av (cc - m) dr HS.out.below HRM.out hlv hlz).mono ?_); rintro e W1 ⟨v1, rfl, hR1, hB1, hN1⟩
               have hb1 := blk_below HB.out hB1
               have h3 := blk_cell hb1 1
               have f3 := blk_frozen hb1 1
               have HB1 := Aside0.mk hb1
               have HS1 := Aside0.mk (regex_coder_part.St_below HS.out hB1)
               obtain ⟨cz, hcz⟩ := HR.out.1
               have HR1 := Aside0.mk (HR.out.move ((blk_below hcz hB1).trans hcz.symm))
               have HV1 := Aside0.mk hR1
               have HN1 := Aside0.mk hN1
               clear hb1 hcz hR1 hB1 hN1
               simp only [List.size_toArray, List.length_cons, List.length_nil, List.getElem?_toArray, List.getElem?_cons_zero, List.getElem?_cons_succ] at h3)
  have hmt : (code.take m).length = m := by rw [List.length_take]; have := HM.out; omega
  have HT := Aside0.mk (Kd.R_take HS1.out.code HM.out)
  have HN : ∀ k, (Value.slice Ac m cc).ownBlock = some k → k < W.heap.size := fun k hk => Kd.R_lt HS.out.code k (by cases Ac <;> exact hk)
  go_ret
  refine ⟨v1, .slice Ac m cc, rfl, ?_, regex_coder_part.St_code HS1.out.below HS1.out.base HB1.out hlc HR1.out HT.out, fun k hk he => ?_⟩
  · rw [hdr.out]
    exact Kd.R_set HV1.out HB1.out (by intro q hq; rw [regex_inst.E_inst] at hq; simp at hq; omega) 1 _
  · have h8 := HN1.out k hk
    have h9 := HN k he.symm
    omega

end Go.Proofs.YtgnehcgaplnfkaaDoor.PAll
