-- Written by a program of this seat (wip/tools), out of the translation. Not trusted: Lean checks it.
import Derived.Test.YtgnehcgaplnfkaaDoorPAllx0
import Derived.Test.YtgnehcgaplnfkaaDoorPAllx4
namespace Go.Proofs.YtgnehcgaplnfkaaDoor.PAll
open Go.RowKit Go.Proofs.YtgnehcgaplnfkaaDoorW.PrintWords Go.Proofs.YtgnehcgaplnfkaaDoorW.PrintLast Go.Proofs.YtgnehcgaplnfkaaDoorW.PrintMore
attribute [local go_sem] max2_int min2_int max_two min_two max_three min_three max_four min_four   -- for this text's walks alone
set_option linter.unusedVariables false
set_option linter.unusedSimpArgs false

/-! ### regex_shifted: function 86 -/
-- uses regex_inst
def regex_shifted.f (l0 : List S62) (a1 : Int) : Option (List S62) := none
def regex_shifted.sh (by_ : Int) (x : S62) : S62 := ⟨x.f0, x.f1, x.f2, wrap64 (x.f3 + by_), wrap64 (x.f4 + by_)⟩
set_option maxHeartbeats 4000000 in
set_option maxRecDepth 10000 in
theorem regex_shifted.calls (w0 W : World) (A0 : Option Addr) (c0 : Nat) (l : List S62) (b : Int) (hbel : Below w0.heap.size w0 W) (hr : regex_inst.ReadsM w0 W A0 l) (hc0 : l.length ≤ c0) (hsz : l.length ≤ 1000000) :
    Calls Tryd.prog 86 #[.slice A0 l.length c0, .int .i64 b] W fun e W' => ∃ v : Value, e = .returned v ∧ Kd.R k62 62 W' w0.heap.size (fun _ => True) v (l.map (regex_shifted.sh b)) ∧ Below W.heap.size W W' ∧ (∀ k, v.ownBlock = some k → W.heap.size ≤ k) := by
  have HR := Aside0.mk hr
  have HL := Aside0.mk hbel
  have HSZ := Aside0.mk hsz
  clear hr hbel
  go_enter Tryd.func86, Tryd.ntmps86
  go_wp2_with (go_at_call 112; (with_reducible refine (regex_inst.calls w0 W A0 c0 l HL.out HR.out hc0 HSZ.out).mono ?_); rintro e w1 ⟨v1, rfl, hR1, hB1, hN1⟩; obtain ⟨A1, c1, e1⟩ := Kd.R_slice hR1; subst e1; have HR1 := Aside0.mk hR1; have HB1 := Aside0.mk hB1; have HN1 := Aside0.mk hN1; clear hR1 hB1 hN1)
  go_loopg [11] (l.length) (fun kq v11 wr => ∃ (i : Nat), i ≤ l.length ∧ v11 = .int .i64 i ∧ Aside0 (Kd.R k62 62 wr w0.heap.size (fun _ => True) (.slice A1 l.length c1) ((l.take i).map (regex_shifted.sh b) ++ l.drop i)) ∧ l.length ≤ kq + i ∧ Aside0 (Below W.heap.size W wr))
  case atStart => exact ⟨0, by omega, rfl, HR1, by omega, HB1⟩
  case round =>
    clear HR1 HB1
    obtain ⟨i, hi, rfl, HRi, hk, HBi⟩ := hrel
    by_cases hlt : i < l.length
    · obtain ⟨g1, rfl⟩ : ∃ g1, gk = g1 + 1 := ⟨gk - 1, by omega⟩
      obtain ⟨gb, eg⟩ := regex_inst.form HRi.out (by omega)
      subst eg
      obtain ⟨x, hx⟩ : ∃ x, Aside0 (l[i]? = some x) := ⟨l[i], ⟨List.getElem?_eq_getElem hlt⟩⟩
      have hlen : ((l.take i).map (regex_shifted.sh b)).length = i := by simp; omega
      have hat : ((l.take i).map (regex_shifted.sh b) ++ l.drop i)[i]? = some x := by
        rw [List.getElem?_append_right (by omega), hlen, Nat.sub_self, List.getElem?_drop, Nat.add_zero]
        exact hx.out
      obtain ⟨q1, q2, q3, q4⟩ := regex_inst.store (w0 := w0) i 3 (wrap64 (x.f3 + b)) (Or.inl rfl) HRi.out x hat ⟨x.f0, x.f1, x.f2, wrap64 (x.f3 + b), x.f4⟩ rfl
      have hset : ∀ y : S62, ((l.take i).map (regex_shifted.sh b) ++ l.drop i).set i y = (l.take i).map (regex_shifted.sh b) ++ y :: l.drop (i + 1) := by
        intro y
        rw [List.set_append_right _ _ (by omega), hlen, Nat.sub_self, List.drop_eq_getElem_cons hlt]
        rfl
      rw [hset] at q3
      have hat2 : ((l.take i).map (regex_shifted.sh b) ++ (⟨x.f0, x.f1, x.f2, wrap64 (x.f3 + b), x.f4⟩ : S62) :: l.drop (i + 1))[i]? = some ⟨x.f0, x.f1, x.f2, wrap64 (x.f3 + b), x.f4⟩ := by
        rw [List.getElem?_append_right (by omega), hlen, Nat.sub_self]
        rfl
      obtain ⟨p1, p2, p3, p4⟩ := regex_inst.store (w0 := w0) i 4 (wrap64 (x.f4 + b)) (Or.inr rfl) q3 _ hat2 (regex_shifted.sh b x) rfl
      have hset2 : ((l.take i).map (regex_shifted.sh b) ++ (⟨x.f0, x.f1, x.f2, wrap64 (x.f3 + b), x.f4⟩ : S62) :: l.drop (i + 1)).set i (regex_shifted.sh b x) = (l.take (i + 1)).map (regex_shifted.sh b) ++ l.drop (i + 1) := by
        rw [List.set_append_right _ _ (by omega), hlen, Nat.sub_self, List.take_succ_eq_append_getElem hlt]
        have hxe : l[i] = x := by have := hx.out; rw [List.getElem?_eq_getElem hlt] at this; exact Option.some.inj this
        simp [hxe]
      rw [hset2] at p3
      have hgb : W.heap.size ≤ gb := HN1.out gb rfl
      have HQ3 := Aside0.mk p3
      have HBq : Aside0 (Below W.heap.size W ((wr.setCell ⟨gb, i * 5 + 3, none⟩ (.int .i64 (wrap64 (x.f3 + b)))).setCell ⟨gb, i * 5 + 4, none⟩ (.int .i64 (wrap64 (x.f4 + b))))) := ⟨(HBi.out.setCell hgb _).setCell hgb _⟩
      simp only [if_true, if_false, show (4 : Nat) = 3 ↔ False from by decide] at q1 p1
      clear q3 q4 p3 p4 hset hset2 hat hat2 hlen hx
      go_wp2
      go_roundg g1
      case rel => exact ⟨i + 1, by omega, by go_num, HQ3, by omega, HBq⟩
      case measure => omega
    · have hil : i = l.length := by omega
      have hfin : Aside0 ((l.take i).map (regex_shifted.sh b) ++ l.drop i = l.map (regex_shifted.sh b)) := ⟨by rw [hil, List.take_length, List.drop_length, List.append_nil]⟩
      go_wp2
      go_ret
      exact ⟨_, rfl, by rw [← hfin.out]; exact HRi.out, HBi.out, HN1.out⟩

end Go.Proofs.YtgnehcgaplnfkaaDoor.PAll
