/- A text of this seat. -/
import Derived.Test.YtmcpeifhapekoaaDoorBl5
import Derived.Test.YtmcpeifhapekoaaDoorBl3
import Derived.Test.YtmcpeifhapekoaaDoorGx61Bl
namespace Go.Proofs.YtmcpeifhapekoaaDoor.Tx
open Go.RowKit Go.Proofs.YtmcpeifhapekoaaDoor.PAll Go.Proofs.YtmcpeifhapekoaaDoorW.PrintWords Go.Proofs.YtmcpeifhapekoaaDoorW.PrintLast
open Go.Proofs.YtmcpeifhapekoaaDoor.Laws (okFrom canB wrap_up at_byte no_byte word_ev)
set_option linter.unusedVariables false
set_option linter.unusedSimpArgs false
theorem same_l0 (m:List Lb) (hm:m.length ≤ 9223372036854775806):∀ (r:List Lb) (i:Nat),m.drop i = r → Ev (fun k => u2u.l0 k m m (m.length:Int) (i:Int)) true:=by
 intro r
 induction r with
 | nil =>
   intro i h
   have hi:m.length ≤ i:=List.drop_eq_nil_iff.1 h
   refine Ev.step (f:=fun _ => some true) (fun k => ?_) (Ev.now true)
   simp only [u2u.l0]
   rw [if_neg (by omega)]
 | cons x r ih =>
   intro i h
   obtain ⟨hx,hi,hr⟩:=Laws.rd_drop m i x r h
   have hw:=wrap_up i (by omega)
   refine Ev.step (fun k => ?_) (ih (i + 1) hr)
   simp only [u2u.l0]
   rw [if_pos (by omega),if_pos (by omega),if_pos (by omega),if_pos (by omega),hx,if_neg (by simp),hw]
theorem same_ls (m:List Lb) (hm:m.length ≤ 9223372036854775806):Ev (fun k => u2u.f k m m) true:=by
 refine Ev.congr (fun k => ?_) (same_l0 m hm m 0 rfl)
 show u2u.f k m m = _
 unfold u2u.f
 rw [if_pos rfl]
 rfl
theorem same_rows:∀ (l:List Rw),(∀ x ∈ l,x.f0.length ≤ 9223372036854775806) → Ev (fun k => u1q.all k l l) true
 | [],_ => Ev.now true
 | x :: l,h => by
   refine Ev.bind (a:=true) (g:=fun k => u1q.same k x x) ?_ ?_
   · refine Ev.bind (same_ls x.f0 (h x (List.mem_cons_self ..))) ?_
     exact Ev.congr (fun k => by simp) (Ev.now true)
   · exact Ev.congr (fun k => by simp) (same_rows l (fun y hy => h y (List.mem_cons_of_mem _ hy)))
theorem same_rowsf (l:List Rw) (hl:l.length ≤ 4611686018427387904) (h:∀ x ∈ l,x.f0.length ≤ 9223372036854775806):Ev (fun k => u1q.f k l l) true:=by
 refine Ev.congr (fun k => ?_) (same_rows l h)
 show u1q.f k l l = _
 unfold u1q.f
 rw [if_pos rfl,if_pos (by omega)]
theorem same27_ev (l:List Lb) (t v:Int) (hl:l.length ≤ 9223372036854775806):Ev (fun k => u2x.f k l t v l t v) true:=by
 refine Ev.bind (a:=true) (g:=fun k => u1q.f k [⟨l,t,v⟩] [⟨l,t,v⟩]) (same_rowsf [⟨l,t,v⟩] (by simp) (fun x hx => ?_)) (Ev.now true)
 rw [List.mem_singleton] at hx
 subst hx
 exact hl
theorem line_is (a0:ByteArray) (a1:Int) (h:a0.size ≤ 4611686018427387904):u2m.f a0 a1 = some (labO (readP canB a0.data.toList a1).1,timO (readP canB a0.data.toList a1).1,valO (readP canB a0.data.toList a1).1,(readP canB a0.data.toList a1).1.isSome,(readP canB a0.data.toList a1).2.2,0):=by
 unfold u2m.f
 rw [if_pos h]
 rfl
theorem awake27:u2v.f = some true:=by
 unfold u2v.f
 rw [line_is _ _ (by decide),show (⟨#[117,112,123,106,111,98,61,34,120,34,125,32,48,120,49,102,32,55]⟩:ByteArray).data.toList = [117,112,123,106,111,98,61,34,120,34,125,32,48,120,49,102,32,55] from rfl,awake_read]
 rfl
theorem read_len (s:B8) (now:Int):(labO (readP canB s now).1).length ≤ 8:=by
 unfold readP
 split
 · exact Nat.zero_le _
 · split
   · exact Nat.zero_le _
   · split
     · split <;> exact Nat.zero_le _
     · split
       · exact Nat.zero_le _
       · split
         · exact Nat.zero_le _
         · rename_i r h
           unfold sampleP at h
           cases hl:labsP s with
           | none => rw [hl] at h;cases h
           | some p =>
             rw [hl] at h
             simp only [Option.bind_some] at h
             split at h
             · rename_i hc
               cases he:endP p.2 now with
               | none => rw [he] at h;cases h
               | some q =>
                 rw [he] at h
                 cases Option.some.inj h
                 exact (can_names hc).1
             · cases h
theorem lines_ev (a0:ByteArray) (a1:Int) (b0:a0.size ≤ 140737488351232) (b1:(Lit.int .i64 a1).wf = true):Ev (fun k => u3d.f k a0 a1) true:=by
 have e:a0 = Base.ofL a0.data.toList:=Base.ext_data (Base.ofL_data _).symm
 have h:=rline_ev a0.data.toList a1
 rw [← e] at h
 have hl:=read_len a0.data.toList a1
 unfold u3d.f
 rw [line_is a0 a1 (by omega)]
 simp only [Option.bind_some]
 refine Ev.bind h (Ev.bind (same27_ev _ _ _ (by omega)) ?_)
 rw [awake27]
 exact Ev.congr (fun k => by simp) (Ev.now true)
end Go.Proofs.YtmcpeifhapekoaaDoor.Tx
