/- Texts of this seat, joined in the order in which they build. -/
import Derived.Test.YtgnehcgaplnfkaaGreatDoorBv1
import Derived.Test.YtgnehcgaplnfkaaGreatDoorBv2
import Derived.Test.YtgnehcgaplnfkaaGreatDoorGx21Bv
namespace Go.Proofs.YtgnehcgaplnfkaaGreatDoor.PAll
open Go.RowKit Go.Proofs.YtgnehcgaplnfkaaGreatDoorW.PrintWords Go.Proofs.YtgnehcgaplnfkaaGreatDoorW.PrintLast Go.Proofs.YtgnehcgaplnfkaaGreatDoorW.PrintMore
attribute [local go_sem] u3o u3n u3x u3w u3j u3i u3p u3q
set_option linter.unusedVariables false
set_option linter.unusedSimpArgs false
def regex_coder_atom.f:Option Int:=none
abbrev regex_coder_atom.CS:=uf.CS
def regex_coder_atom.put (s:regex_coder_atom.CS) (l:List S164):regex_coder_atom.CS:={ s with code:=s.code ++ l }
def regex_coder_atom.close (s:regex_coder_atom.CS):regex_coder_atom.CS:=(uf.step ⟨s.p,s.code,s.bad || u2r.nx s != 41⟩).2
def regex_coder_atom.atomM (alts:Nat → regex_coder_atom.CS → regex_coder_atom.CS) (d:Nat) (s:regex_coder_atom.CS):regex_coder_atom.CS :=
 if uu.am ⟨#[42,43,63,124,41,93]⟩ s = true then { s with bad:=true }
 else if (uf.step s).1 = 46 then regex_coder_atom.put (uf.step s).2 [⟨1,[],true,0,0⟩]
 else if (uf.step s).1 = 91 then uh.cls (uf.step s).2
 else if (uf.step s).1 = 40 then
  if (uf.step s).2.bad = true ∨ 10 ≤ d then { (uf.step s).2 with bad:=true }
  else regex_coder_atom.close (alts (d + 1) (uf.step s).2)
 else if (uf.step s).1 = 92 then regex_coder_atom.put (uf.step (uf.step s).2).2 [⟨1,[⟨(uf.step (uf.step s).2).1,(uf.step (uf.step s).2).1⟩],false,0,0⟩]
 else regex_coder_atom.put (uf.step s).2 [⟨1,[⟨(uf.step s).1,(uf.step s).1⟩],false,0,0⟩]
def regex_coder_atom.qual (n:Nat) (s:regex_coder_atom.CS):regex_coder_atom.CS :=
 if s.bad = false ∧ uu.am ⟨#[42,43,63]⟩ s = true then
  if (uf.step { s with code:=s.code.take n }).1 = 42 then regex_coder_atom.put (regex_coder_atom.put (regex_coder_atom.put (uf.step { s with code:=s.code.take n }).2 [⟨2,[],false,(n:Int) + 1,(n:Int) + ((s.code.drop n).length:Int) + 2⟩]) ((s.code.drop n).map (u2c.sh 1))) [⟨3,[],false,n,0⟩]
  else if (uf.step { s with code:=s.code.take n }).1 = 43 then regex_coder_atom.put (regex_coder_atom.put (uf.step { s with code:=s.code.take n }).2 (s.code.drop n)) [⟨2,[],false,n,(n:Int) + ((s.code.drop n).length:Int) + 1⟩]
  else regex_coder_atom.put (regex_coder_atom.put (uf.step { s with code:=s.code.take n }).2 [⟨2,[],false,(n:Int) + 1,(n:Int) + ((s.code.drop n).length:Int) + 1⟩]) ((s.code.drop n).map (u2c.sh 1))
 else s
def regex_coder_atom.bar (n:Nat) (s:regex_coder_atom.CS):regex_coder_atom.CS :=
 regex_coder_atom.put (regex_coder_atom.put (regex_coder_atom.put { (uf.step s).2 with code:=s.code.take n } [⟨2,[],false,(n:Int) + 1,(n:Int) + ((s.code.drop n).length:Int) + 2⟩]) ((s.code.drop n).map (u2c.sh 1))) [⟨3,[],false,0,0⟩]
def regex_coder_atom.aim (j:Nat) (s:regex_coder_atom.CS):regex_coder_atom.CS:=match s.code[j]? with
 | some x => { s with code:=s.code.set j ⟨x.f0,x.f1,x.f2,(s.code.length:Int),x.f4⟩ }
 | none => s
def regex_coder_atom.M:Nat → Nat → Nat → regex_coder_atom.CS → regex_coder_atom.CS
 | 0,_,_,s => s
 | f + 1,0,d,s => regex_coder_atom.atomM (fun d' s' => regex_coder_atom.M f 2 d' s') d s
 | f + 1,1,d,s => if u2l.mo s = true ∧ uu.am ⟨#[124,41]⟩ s = false then regex_coder_atom.M f 1 d (regex_coder_atom.qual s.code.length (regex_coder_atom.M f 0 d s)) else s
 | f + 1,_ + 2,d,s =>
   if u2l.mo (regex_coder_atom.M f 1 d s) = true ∧ u2r.nx (regex_coder_atom.M f 1 d s) = 124 then
    regex_coder_atom.aim (s.code.length + 1 + ((regex_coder_atom.M f 1 d s).code.drop s.code.length).length) (regex_coder_atom.M f 2 d (regex_coder_atom.bar s.code.length (regex_coder_atom.M f 1 d s)))
   else regex_coder_atom.M f 1 d s
def regex_coder_atom.need (k:Nat) (n:Nat):Nat:=4 * n + 1 + k
theorem regex_coder_atom.step_ne {s:regex_coder_atom.CS} (h:s.p ≠ []):(uf.step s).2.p.length + 1 = s.p.length ∧ (uf.step s).2.bad = s.bad ∧ (uf.step s).2.code = s.code:=by
 obtain ⟨p,code,bad⟩:=s
 cases p with
 | nil => exact absurd rfl h
 | cons r q => exact ⟨rfl,rfl,rfl⟩
theorem regex_coder_atom.am_ne {m:ByteArray} {s:regex_coder_atom.CS} (h:uu.am m s = true):s.p ≠ []:=by
 intro h0
 unfold uu.am at h
 rw [h0] at h
 cases h
theorem regex_coder_atom.mo_ne {s:regex_coder_atom.CS} (h:u2l.mo s = true):s.p ≠ [] ∧ s.bad = false:=by
 unfold u2l.mo at h
 refine ⟨?_,?_⟩
 · rintro h0
   rw [h0] at h
   simp at h
 · cases hb:s.bad with
   | false => rfl
   | true => rw [hb] at h;simp at h
theorem regex_coder_atom.cls_dec (s:regex_coder_atom.CS):(uh.cls s).p.length ≤ s.p.length ∧ (uh.cls s).code.length = s.code.length + 1:=by
 unfold uh.cls
 dsimp only
 have h3:=uh.step_code (uh.loopM ((if uh.neg s = true then (uf.step s).2 else s).p.length + 2) true (if uh.neg s = true then (uf.step s).2 else s) []).2
 have h4:=(uh.step_dec (uh.loopM ((if uh.neg s = true then (uf.step s).2 else s).p.length + 2) true (if uh.neg s = true then (uf.step s).2 else s) []).2).1
 obtain ⟨h1,h2⟩:=uh.loopM_code ((if uh.neg s = true then (uf.step s).2 else s).p.length + 2) true (if uh.neg s = true then (uf.step s).2 else s) []
 have h5:(if uh.neg s = true then (uf.step s).2 else s).p.length ≤ s.p.length ∧ (if uh.neg s = true then (uf.step s).2 else s).code = s.code:=by
  split
  · exact ⟨(uh.step_dec s).1,uh.step_code s⟩
  · exact ⟨Nat.le_refl _,rfl⟩
 refine ⟨by omega,?_⟩
 rw [List.length_append,h3,h1,h5.2]
 rfl
theorem regex_coder_atom.close_dec (s:regex_coder_atom.CS):(regex_coder_atom.close s).p.length ≤ s.p.length ∧ (regex_coder_atom.close s).code = s.code :=
 ⟨(uh.step_dec ⟨s.p,s.code,s.bad || u2r.nx s != 41⟩).1,uh.step_code ⟨s.p,s.code,s.bad || u2r.nx s != 41⟩⟩
structure regex_coder_atom.Dec (s s':regex_coder_atom.CS):Prop where
 p:s'.p.length ≤ s.p.length
 code:s.code.length ≤ s'.code.length
 both:s'.code.length + 2 * s'.p.length ≤ s.code.length + 2 * s.p.length
theorem regex_coder_atom.Dec.refl (s:regex_coder_atom.CS):regex_coder_atom.Dec s s:=⟨Nat.le_refl _,Nat.le_refl _,Nat.le_refl _⟩
theorem regex_coder_atom.Dec.trans {s s' s'':regex_coder_atom.CS} (h:regex_coder_atom.Dec s s') (h':regex_coder_atom.Dec s' s''):regex_coder_atom.Dec s s'':=⟨Nat.le_trans h'.p h.p,Nat.le_trans h.code h'.code,Nat.le_trans h'.both h.both⟩
theorem regex_coder_atom.qual_dec {n:Nat} {s:regex_coder_atom.CS} (hn:n ≤ s.code.length):(regex_coder_atom.qual n s).p.length ≤ s.p.length ∧ n ≤ (regex_coder_atom.qual n s).code.length ∧ (regex_coder_atom.qual n s).code.length + 2 * (regex_coder_atom.qual n s).p.length ≤ s.code.length + 2 * s.p.length ∧ (s.bad = true → (regex_coder_atom.qual n s).bad = true):=by
 unfold regex_coder_atom.qual
 by_cases hc:s.bad = false ∧ uu.am ⟨#[42,43,63]⟩ s = true
 · rw [if_pos hc]
   obtain ⟨h1,h2,h3⟩:=regex_coder_atom.step_ne (s:={ s with code:=s.code.take n }) (regex_coder_atom.am_ne hc.2)
   simp only at h1 h2 h3
   have hl:(uf.step { s with code:=s.code.take n }).2.code.length = n:=by rw [h3,List.length_take];omega
   refine ⟨?_,?_,?_,fun h => absurd h (by rw [hc.1];decide)⟩
   all_goals (split;(simp only [regex_coder_atom.put,List.length_append,List.length_map,List.length_drop,List.length_cons,List.length_nil,hl];omega);split;(simp only [regex_coder_atom.put,List.length_append,List.length_map,List.length_drop,List.length_cons,List.length_nil,hl];omega);(simp only [regex_coder_atom.put,List.length_append,List.length_map,List.length_drop,List.length_cons,List.length_nil,hl];omega))
 · rw [if_neg hc]
   exact ⟨Nat.le_refl _,hn,Nat.le_refl _,fun h => h⟩
theorem regex_coder_atom.bar_dec {n:Nat} {s:regex_coder_atom.CS} (hn:n ≤ s.code.length) (hp:s.p ≠ []):regex_coder_atom.Dec s (regex_coder_atom.bar n s) ∧ (regex_coder_atom.bar n s).p.length + 1 = s.p.length ∧ (regex_coder_atom.bar n s).code.length = s.code.length + 2:=by
 obtain ⟨h1,h2,h3⟩:=regex_coder_atom.step_ne hp
 have hl:(regex_coder_atom.bar n s).code.length = s.code.length + 2:=by
  simp only [regex_coder_atom.bar,regex_coder_atom.put,List.length_append,List.length_map,List.length_drop,List.length_cons,List.length_nil,List.length_take]
  omega
 have hq:(regex_coder_atom.bar n s).p.length + 1 = s.p.length:=h1
 exact ⟨⟨by omega,by omega,by omega⟩,hq,hl⟩
theorem regex_coder_atom.aim_len (j:Nat) (s:regex_coder_atom.CS):(regex_coder_atom.aim j s).code.length = s.code.length ∧ (regex_coder_atom.aim j s).p = s.p ∧ (regex_coder_atom.aim j s).bad = s.bad:=by
 unfold regex_coder_atom.aim
 split
 · exact ⟨List.length_set,rfl,rfl⟩
 · exact ⟨rfl,rfl,rfl⟩
theorem regex_coder_atom.M_dec (f:Nat):∀ (k d:Nat) (s:regex_coder_atom.CS),(k = 0 → s.p ≠ []) → regex_coder_atom.Dec s (regex_coder_atom.M f k d s) ∧ (k = 0 → 0 < f → (regex_coder_atom.M f k d s).bad = true ∨ (regex_coder_atom.M f k d s).p.length + 1 ≤ s.p.length):=by
 induction f with
 | zero => exact fun k d s _ => ⟨regex_coder_atom.Dec.refl s,fun _ h => absurd h (by omega)⟩
 | succ f ih =>
   intro k d s hk
   match k with
   | 0 =>
     obtain ⟨a1,a2,a3⟩:=regex_coder_atom.step_ne (hk rfl)
     simp only [regex_coder_atom.M]
     unfold regex_coder_atom.atomM
     by_cases c1:uu.am ⟨#[42,43,63,124,41,93]⟩ s = true
     · rw [if_pos c1]
       exact ⟨⟨Nat.le_refl _,Nat.le_refl _,Nat.le_refl _⟩,fun _ _ => Or.inl rfl⟩
     rw [if_neg c1]
     by_cases c2:(uf.step s).1 = 46
     · rw [if_pos c2]
       refine ⟨⟨?_,?_,?_⟩,fun _ _ => Or.inr ?_⟩
       all_goals simp only [regex_coder_atom.put,List.length_append,List.length_cons,List.length_nil,a3]
       all_goals omega
     rw [if_neg c2]
     by_cases c3:(uf.step s).1 = 91
     · rw [if_pos c3]
       obtain ⟨b1,b2⟩:=regex_coder_atom.cls_dec (uf.step s).2
       rw [a3] at b2
       exact ⟨⟨by omega,by omega,by omega⟩,fun _ _ => Or.inr (by omega)⟩
     rw [if_neg c3]
     by_cases c4:(uf.step s).1 = 40
     · rw [if_pos c4]
       by_cases c5:(uf.step s).2.bad = true ∨ 10 ≤ d
       · rw [if_pos c5]
         refine ⟨⟨?_,?_,?_⟩,fun _ _ => Or.inl rfl⟩
         all_goals simp only [a3]
         all_goals omega
       · rw [if_neg c5]
         obtain ⟨⟨b1,b2,b3⟩,_⟩:=ih 2 (d + 1) (uf.step s).2 (fun h => absurd h (by decide))
         dsimp only
         obtain ⟨e2,e1⟩:=regex_coder_atom.close_dec (regex_coder_atom.M f 2 (d + 1) (uf.step s).2)
         rw [a3] at b2 b3
         refine ⟨⟨?_,?_,?_⟩,fun _ _ => Or.inr ?_⟩
         all_goals first | rw [e1] | skip
         all_goals omega
     rw [if_neg c4]
     by_cases c5:(uf.step s).1 = 92
     · rw [if_pos c5]
       have e1:=uh.step_code (uf.step s).2
       have e2:=(uh.step_dec (uf.step s).2).1
       refine ⟨⟨?_,?_,?_⟩,fun _ _ => Or.inr ?_⟩
       all_goals simp only [regex_coder_atom.put,List.length_append,List.length_cons,List.length_nil,e1,a3]
       all_goals omega
     · rw [if_neg c5]
       refine ⟨⟨?_,?_,?_⟩,fun _ _ => Or.inr ?_⟩
       all_goals simp only [regex_coder_atom.put,List.length_append,List.length_cons,List.length_nil,a3]
       all_goals omega
   | 1 =>
     refine ⟨?_,fun h => absurd h (by decide)⟩
     simp only [regex_coder_atom.M]
     split
     · rename_i hc
       have hp:=(regex_coder_atom.mo_ne hc.1).1
       obtain ⟨⟨b1,b2,b3⟩,_⟩:=ih 0 d s (fun _ => hp)
       obtain ⟨e1,e2,e3,_⟩:=regex_coder_atom.qual_dec b2
       obtain ⟨⟨g1,g2,g3⟩,_⟩:=ih 1 d (regex_coder_atom.qual s.code.length (regex_coder_atom.M f 0 d s)) (fun h => absurd h (by decide))
       exact ⟨by omega,by omega,by omega⟩
     · exact regex_coder_atom.Dec.refl s
   | k + 2 =>
     refine ⟨?_,fun h => absurd h (by omega)⟩
     simp only [regex_coder_atom.M]
     obtain ⟨hb,_⟩:=ih 1 d s (fun h => absurd h (by decide))
     split
     · rename_i hc
       have hp:=(regex_coder_atom.mo_ne hc.1).1
       obtain ⟨hd,_,_⟩:=regex_coder_atom.bar_dec hb.code hp
       obtain ⟨hl,_⟩:=ih 2 d (regex_coder_atom.bar s.code.length (regex_coder_atom.M f 1 d s)) (fun h => absurd h (by decide))
       obtain ⟨i1,i2,i3⟩:=regex_coder_atom.aim_len (s.code.length + 1 + ((regex_coder_atom.M f 1 d s).code.drop s.code.length).length) (regex_coder_atom.M f 2 d (regex_coder_atom.bar s.code.length (regex_coder_atom.M f 1 d s)))
       obtain ⟨j1,j2,j3⟩:=hb.trans (hd.trans hl)
       exact ⟨by rw [i2];exact j1,by rw [i1];exact j2,by rw [i1,i2];exact j3⟩
     · exact hb
def regex_coder_atom.Sp (n k f:Nat):Prop:=∀ (w0 W:World) (g gp:Nat) (vc:Value) (s:regex_coder_atom.CS) (d:Nat),uf.St w0 W g gp vc s → d ≤ 10 → (s.bad = true ∨ regex_coder_atom.need k s.p.length ≤ f) → s.code.length + 2 * s.p.length ≤ 1000 → (k = 0 → s.bad = false ∧ s.p ≠ []) →
 Calls Tryz.prog n #[.pointer (some ⟨g,0,none⟩),.int .i64 (d:Int)] W fun e W' => e = .returned (.tuple #[]) ∧ ∃ vc',uf.St w0 W' g gp vc' (regex_coder_atom.M f k d s)
set_option maxHeartbeats 4000000 in
set_option maxRecDepth 10000 in
theorem regex_coder_atom.calls (f:Nat) (hL:regex_coder_atom.Sp 102 2 f):regex_coder_atom.Sp 133 0 (f + 1):=by
 intro w0 W g gp vc s d h hd hneed hsz hk
 obtain ⟨hbad,hp⟩:=hk rfl
 obtain ⟨A,c,⟨h0,h1,h2⟩,⟨f0,f1,f2⟩,hl,hb,hr⟩:=h.look
 obtain ⟨am1,ham⟩:∃ am1,Aside0 (uu.am ⟨#[42,43,63,124,41,93]⟩ s = am1):=⟨_,⟨rfl⟩⟩
 have HM:Aside0 (regex_coder_atom.M (f + 1) 0 d s = regex_coder_atom.atomM (fun d' s' => regex_coder_atom.M f 2 d' s') d s):=⟨rfl⟩
 have HS:=Aside0.mk h
 have HN:Aside0 (4 * s.p.length + 1 ≤ f + 1):=⟨by
  have:=hneed.resolve_left (by simp [hbad])
  simpa [regex_coder_atom.need] using this⟩
 cases am1 with
 | true =>
   have HB:Aside0 (uf.St w0 (W.setCell ⟨g,2,none⟩ (.bool true)) g gp vc { s with bad:=true }):=⟨h.set hb rfl hl hr rfl⟩
   have HM2:Aside0 (regex_coder_atom.M (f + 1) 0 d s = { s with bad:=true }):=⟨by
    rw [HM.out]
    unfold regex_coder_atom.atomM
    rw [if_pos ham.out]⟩
   clear h hb hr hl hneed hk hp hbad
   go_enter Tryz.func133,Tryz.ntmps133
   go_wp2_with (go_at_call 132;(with_reducible refine (uu.calls w0 W g gp vc s _ HS.out).mono ?_);rintro e W1 ⟨rfl,hW1⟩;rw [hW1,ham.out])
   (try simp only [Exit.inBlock,Exit.then]);refine bodyPost_ret (results_none rfl _ _ _) rfl ?_
   exact ⟨rfl,vc,by rw [HM2.out];exact HB.out⟩
 | false =>
   obtain ⟨a1,a2,a3⟩:=regex_coder_atom.step_ne hp
   obtain ⟨x1,hx1⟩:∃ x1,Aside0 (uf.step s = x1):=⟨_,⟨rfl⟩⟩
   obtain ⟨r1,s1⟩:=x1
   rw [hx1.out] at a1 a2 a3
   rw [hbad] at a2
   have A1:=Aside0.mk a1
   have A2:=Aside0.mk a2
   have A3:=Aside0.mk (congrArg List.length a3)
   have HM2:Aside0 (regex_coder_atom.M (f + 1) 0 d s = if r1 = 46 then regex_coder_atom.put s1 [⟨1,[],true,0,0⟩] else if r1 = 91 then uh.cls s1 else if r1 = 40 then if s1.bad = true ∨ 10 ≤ d then { s1 with bad:=true } else regex_coder_atom.close (regex_coder_atom.M f 2 (d + 1) s1) else if r1 = 92 then regex_coder_atom.put (uf.step s1).2 [⟨1,[⟨(uf.step s1).1,(uf.step s1).1⟩],false,0,0⟩] else regex_coder_atom.put s1 [⟨1,[⟨r1,r1⟩],false,0,0⟩]):=⟨by
    rw [HM.out]
    unfold regex_coder_atom.atomM
    rw [if_neg (by rw [ham.out];decide),hx1.out]⟩
   have HK:Aside0 (d ≤ 10 ∧ s.code.length + 2 * s.p.length ≤ 1000):=⟨hd,hsz⟩
   clear h hb hr hl hneed hk hp hbad a1 a2 a3 HM hd hsz
   by_cases c46:r1 = 46
   · subst c46
     rw [if_pos rfl] at HM2
     go_enter Tryz.func133,Tryz.ntmps133
     go_wp2_with (first
      | (go_at_call 132;(with_reducible refine (uu.calls w0 W g gp vc s _ HS.out).mono ?_);rintro e W1 ⟨rfl,hW1⟩;rw [hW1,ham.out])
      | (go_at_call 121;(with_reducible refine (uf.calls w0 W g gp vc s HS.out).mono ?_);rintro e W1 ⟨rfl,hS1,hK1⟩;rw [hx1.out] at hS1 ⊢;have HS1:=Aside0.mk hS1;clear hS1 hK1)
      | (go_at_call 103;(with_reducible refine (u1n.put1 HS1.out (Kd.R_nil _ _ _ _ _) (by have:=A3.out;have:=HK.out.2;omega)).mono ?_);rintro e W3 ⟨rfl,vc3,hS3,hF3⟩;have HS3:=Aside0.mk hS3;clear hS3 hF3))
     (try simp only [Exit.inBlock,Exit.then]);refine bodyPost_ret (results_none rfl _ _ _) rfl ?_
     exact ⟨rfl,_,by rw [HM2.out];exact HS3.out⟩
   rw [if_neg c46] at HM2
   by_cases c91:r1 = 91
   · subst c91
     rw [if_pos rfl] at HM2
     go_enter Tryz.func133,Tryz.ntmps133
     go_wp2_with (first
      | (go_at_call 132;(with_reducible refine (uu.calls w0 W g gp vc s _ HS.out).mono ?_);rintro e W1 ⟨rfl,hW1⟩;rw [hW1,ham.out])
      | (go_at_call 121;(with_reducible refine (uf.calls w0 W g gp vc s HS.out).mono ?_);rintro e W1 ⟨rfl,hS1,hK1⟩;rw [hx1.out] at hS1 ⊢;have HS1:=Aside0.mk hS1;clear hS1 hK1)
      | (go_at_call 144;(with_reducible refine (uh.calls w0 W1 g gp vc s1 HS1.out (by have:=A1.out;have:=A3.out;have:=HK.out.2;omega)).mono ?_);rintro e W3 ⟨rfl,vc3,hS3⟩;have HS3:=Aside0.mk hS3;clear hS3))
     (try simp only [Exit.inBlock,Exit.then]);refine bodyPost_ret (results_none rfl _ _ _) rfl ?_
     exact ⟨rfl,_,by rw [HM2.out];exact HS3.out⟩
   rw [if_neg c91] at HM2
   by_cases c40:r1 = 40
   · subst c40
     rw [if_pos rfl] at HM2
     by_cases hd10:10 ≤ d
     · rw [if_pos (Or.inr hd10)] at HM2
       have hdd:decide (10 ≤ (d:Int)) = true:=by simp;omega
       go_enter Tryz.func133,Tryz.ntmps133
       go_wp2_with (first
        | (go_at_call 132;(with_reducible refine (uu.calls w0 W g gp vc s _ HS.out).mono ?_);rintro e W1 ⟨rfl,hW1⟩;rw [hW1,ham.out])
        | (go_at_call 121;(with_reducible refine (uf.calls w0 W g gp vc s HS.out).mono ?_);rintro e W1 ⟨rfl,hS1,hK1⟩;rw [hx1.out] at hS1 ⊢
           obtain ⟨B1,c1,⟨k0,k1,k2⟩,⟨q0,q1,q2⟩,kl,kb,kr⟩:=hS1.look
           rw [A2.out] at k2
           have HT1:Aside0 (uf.St w0 (W1.setCell ⟨g,2,none⟩ (.bool true)) g gp vc { s1 with bad:=true }):=⟨hS1.set kb rfl kl kr rfl⟩
           clear hS1 hK1 kb kr kl))
       (try simp only [Exit.inBlock,Exit.then]);refine bodyPost_ret (results_none rfl _ _ _) rfl ?_
       exact ⟨rfl,_,by rw [HM2.out];exact HT1.out⟩
     · rw [if_neg (by rw [A2.out];simp;omega)] at HM2
       have hdd:decide (10 ≤ (d:Int)) = false:=by simp;omega
       obtain ⟨s2,hs2⟩:∃ s2,Aside0 (regex_coder_atom.M f 2 (d + 1) s1 = s2):=⟨_,⟨rfl⟩⟩
       rw [hs2.out] at HM2
       have hw:Aside0 (((d + 1:Nat):Int) = (d:Int) + 1):=⟨by omega⟩
       by_cases hn2:u2r.nx s2 = 41
       · have HC:Aside0 (regex_coder_atom.close s2 = (uf.step s2).2):=⟨by
          unfold regex_coder_atom.close
          rw [hn2]
          obtain ⟨p,code,bad⟩:=s2
          cases bad <;> rfl⟩
         have HN2:=Aside0.mk hn2
         clear hn2
         obtain ⟨x3,hx3⟩:∃ x3,Aside0 (uf.step s2 = x3):=⟨_,⟨rfl⟩⟩
         obtain ⟨r3,s3⟩:=x3
         go_enter Tryz.func133,Tryz.ntmps133
         go_wp2_with (first
          | (go_at_call 132;(with_reducible refine (uu.calls w0 W g gp vc s _ HS.out).mono ?_);rintro e W1 ⟨rfl,hW1⟩;rw [hW1,ham.out])
          | (go_at_call 121;(with_reducible refine (uf.calls w0 W g gp vc s HS.out).mono ?_);rintro e W1 ⟨rfl,hS1,hK1⟩;rw [hx1.out] at hS1 ⊢
             obtain ⟨B1,c1,⟨k0,k1,k2⟩,⟨q0,q1,q2⟩,kl,kb,kr⟩:=hS1.look
             rw [A2.out] at k2
             have HT1:Aside0 (uf.St w0 (W1.setCell ⟨g,2,none⟩ (.bool false)) g gp vc s1):=⟨hS1.set kb (by rw [A2.out];rfl) kl kr rfl⟩
             clear hS1 hK1 kb kr kl)
          | (go_at_call 102
             have hLd:=hL w0 (W1.setCell ⟨g,2,none⟩ (.bool false)) g gp vc s1 (d + 1) HT1.out (by omega) (Or.inr (by have:=A1.out;have:=HN.out;unfold regex_coder_atom.need;omega)) (by have:=A1.out;have:=A3.out;have:=HK.out.2;omega) (fun h => absurd h (by decide))
             rw [hw.out,hs2.out] at hLd
             (with_reducible refine hLd.mono ?_)
             rintro e W2 ⟨rfl,vc2,hS2⟩
             have HS2:=Aside0.mk hS2
             clear hS2 hLd)
          | (go_at_call 120;(with_reducible refine (u2r.calls w0 W2 g gp vc2 s2 HS2.out).mono ?_);rintro e W3 ⟨rfl,hW3⟩;rw [hW3,HN2.out])
          | (go_at_call 121;(with_reducible refine (uf.calls w0 W2 g gp vc2 s2 HS2.out).mono ?_);rintro e W3 ⟨rfl,hS3,hK3⟩;rw [hx3.out] at hS3 ⊢;have HS3:=Aside0.mk hS3;clear hS3 hK3))
         (try simp only [Exit.inBlock,Exit.then]);refine bodyPost_ret (results_none rfl _ _ _) rfl ?_
         exact ⟨rfl,_,by rw [HM2.out,HC.out,hx3.out];exact HS3.out⟩
       · have HC:Aside0 (regex_coder_atom.close s2 = (uf.step ⟨s2.p,s2.code,true⟩).2):=⟨by
          unfold regex_coder_atom.close
          rw [show (u2r.nx s2 != 41) = true from by simpa using hn2,Bool.or_true]⟩
         obtain ⟨n2,HN2⟩:∃ n2,Aside0 (u2r.nx s2 = n2):=⟨_,⟨rfl⟩⟩
         rw [HN2.out] at hn2
         have hn3:(n2 != 41) = true:=by simpa using hn2
         clear hn2
         obtain ⟨x3,hx3⟩:∃ x3,Aside0 (uf.step ⟨s2.p,s2.code,true⟩ = x3):=⟨_,⟨rfl⟩⟩
         obtain ⟨r3,s3⟩:=x3
         go_enter Tryz.func133,Tryz.ntmps133
         go_wp2_with (first
          | (go_at_call 132;(with_reducible refine (uu.calls w0 W g gp vc s _ HS.out).mono ?_);rintro e W1 ⟨rfl,hW1⟩;rw [hW1,ham.out])
          | (go_at_call 121;(with_reducible refine (uf.calls w0 W g gp vc s HS.out).mono ?_);rintro e W1 ⟨rfl,hS1,hK1⟩;rw [hx1.out] at hS1 ⊢
             obtain ⟨B1,c1,⟨k0,k1,k2⟩,⟨q0,q1,q2⟩,kl,kb,kr⟩:=hS1.look
             rw [A2.out] at k2
             have HT1:Aside0 (uf.St w0 (W1.setCell ⟨g,2,none⟩ (.bool false)) g gp vc s1):=⟨hS1.set kb (by rw [A2.out];rfl) kl kr rfl⟩
             clear hS1 hK1 kb kr kl)
          | (go_at_call 102
             have hLd:=hL w0 (W1.setCell ⟨g,2,none⟩ (.bool false)) g gp vc s1 (d + 1) HT1.out (by omega) (Or.inr (by have:=A1.out;have:=HN.out;unfold regex_coder_atom.need;omega)) (by have:=A1.out;have:=A3.out;have:=HK.out.2;omega) (fun h => absurd h (by decide))
             rw [hw.out,hs2.out] at hLd
             (with_reducible refine hLd.mono ?_)
             rintro e W2 ⟨rfl,vc2,hS2⟩
             obtain ⟨B2,c2,⟨z0,z1,z2⟩,⟨y0,y1,y2⟩,kl,kb,kr⟩:=hS2.look
             have HS2:=Aside0.mk hS2
             have HT2:Aside0 (uf.St w0 (W2.setCell ⟨g,2,none⟩ (.bool true)) g gp vc2 ⟨s2.p,s2.code,true⟩):=⟨hS2.set kb rfl kl kr rfl⟩
             clear hS2 hLd kl kb kr z0 z1)
          | (go_at_call 120;(with_reducible refine (u2r.calls w0 W2 g gp vc2 s2 HS2.out).mono ?_);rintro e W3 ⟨rfl,hW3⟩;rw [hW3,HN2.out])
          | (go_at_call 121;(with_reducible refine (uf.calls w0 (W2.setCell ⟨g,2,none⟩ (.bool true)) g gp vc2 ⟨s2.p,s2.code,true⟩ HT2.out).mono ?_);rintro e W3 ⟨rfl,hS3,hK3⟩;rw [hx3.out] at hS3 ⊢;have HS3:=Aside0.mk hS3;clear hS3 hK3))
         (try simp only [Exit.inBlock,Exit.then]);refine bodyPost_ret (results_none rfl _ _ _) rfl ?_
         exact ⟨rfl,_,by rw [HM2.out,HC.out,hx3.out];exact HS3.out⟩
   rw [if_neg c40] at HM2
   by_cases c92:r1 = 92
   · subst c92
     rw [if_pos rfl] at HM2
     obtain ⟨x2,hx2⟩:∃ x2,Aside0 (uf.step s1 = x2):=⟨_,⟨rfl⟩⟩
     obtain ⟨r2,s2⟩:=x2
     rw [hx2.out] at HM2
     have A4:Aside0 (s2.code.length = s1.code.length):=⟨by
      have h9:=uh.step_code s1
      rw [hx2.out] at h9
      exact congrArg List.length h9⟩
     go_enter Tryz.func133,Tryz.ntmps133
     go_wp2_with (first
      | (go_at_call 132;(with_reducible refine (uu.calls w0 W g gp vc s _ HS.out).mono ?_);rintro e W1 ⟨rfl,hW1⟩;rw [hW1,ham.out])
      | (go_at_call 121;(with_reducible refine (uf.calls w0 W g gp vc s HS.out).mono ?_);rintro e W1 ⟨rfl,hS1,hK1⟩;rw [hx1.out] at hS1 ⊢;have HS1:=Aside0.mk hS1;clear hS1 hK1)
      | (go_at_call 121;(with_reducible refine (uf.calls w0 W1 g gp vc s1 HS1.out).mono ?_);rintro e W2 ⟨rfl,hS2,hK2⟩;rw [hx2.out] at hS2 ⊢;have HS2:=Aside0.mk hS2;clear hS2 hK2)
      | (go_at_call 103;(with_reducible refine (u1n.put1a (by simp) (u3c.St_below HS2.out (uj (Below.refl _ _) _)) (u1n.span1 rfl HS2.out.below) (by have:=A3.out;have:=A4.out;have:=HK.out.2;omega)).mono ?_);rintro e W3 ⟨rfl,vc3,hS3,hF3⟩;have HS3:=Aside0.mk hS3;clear hS3 hF3))
     go_end0
     exact ⟨rfl,_,by rw [HM2.out];exact HS3.out⟩
   · rw [if_neg c92] at HM2
     have b46:(r1 == 46) = false:=by simp [c46]
     have b91:(r1 == 91) = false:=by simp [c91]
     have b40:(r1 == 40) = false:=by simp [c40]
     have b92:(r1 == 92) = false:=by simp [c92]
     clear c46 c91 c40 c92
     go_enter Tryz.func133,Tryz.ntmps133
     go_wp2_with (first
      | (go_at_call 132;(with_reducible refine (uu.calls w0 W g gp vc s _ HS.out).mono ?_);rintro e W1 ⟨rfl,hW1⟩;rw [hW1,ham.out])
      | (go_at_call 121;(with_reducible refine (uf.calls w0 W g gp vc s HS.out).mono ?_);rintro e W1 ⟨rfl,hS1,hK1⟩;rw [hx1.out] at hS1 ⊢;have HS1:=Aside0.mk hS1;clear hS1 hK1)
      | (go_at_call 103;(with_reducible refine (u1n.put1a (by simp) (u3c.St_below HS1.out (uj (Below.refl _ _) _)) (u1n.span1 rfl HS1.out.below) (by have:=A3.out;have:=HK.out.2;omega)).mono ?_);rintro e W3 ⟨rfl,vc3,hS3,hF3⟩;have HS3:=Aside0.mk hS3;clear hS3 hF3))
     go_end0
     exact ⟨rfl,_,by rw [HM2.out];exact HS3.out⟩
def u1e.l0:Nat → ByteArray → Int → Option (Bool)
 | 0,_,_ => none
 | k + 1,x0,x3 => if x3 < (x0.size:Int) then (if 0 ≤ x3 then (if (bt x0 x3) ≥ 97 then (if (bt x0 x3) ≤ 122 then (u1e.l0 k x0 (wrap64 (x3 + 1))) else (if (bt x0 x3) ≥ 65 then (if (bt x0 x3) ≤ 90 then (u1e.l0 k x0 (wrap64 (x3 + 1))) else (if ((bt x0 x3) = 95) then (u1e.l0 k x0 (wrap64 (x3 + 1))) else (if x3 = 0 then (some false) else (if (bt x0 x3) < 48 then (some false) else (if (bt x0 x3) > 57 then (some false) else (u1e.l0 k x0 (wrap64 (x3 + 1)))))))) else (if ((bt x0 x3) = 95) then (u1e.l0 k x0 (wrap64 (x3 + 1))) else (if x3 = 0 then (some false) else (if (bt x0 x3) < 48 then (some false) else (if (bt x0 x3) > 57 then (some false) else (u1e.l0 k x0 (wrap64 (x3 + 1))))))))) else (if (bt x0 x3) ≥ 65 then (if (bt x0 x3) ≤ 90 then (u1e.l0 k x0 (wrap64 (x3 + 1))) else (if ((bt x0 x3) = 95) then (u1e.l0 k x0 (wrap64 (x3 + 1))) else (if x3 = 0 then (some false) else (if (bt x0 x3) < 48 then (some false) else (if (bt x0 x3) > 57 then (some false) else (u1e.l0 k x0 (wrap64 (x3 + 1)))))))) else (if ((bt x0 x3) = 95) then (u1e.l0 k x0 (wrap64 (x3 + 1))) else (if x3 = 0 then (some false) else (if (bt x0 x3) < 48 then (some false) else (if (bt x0 x3) > 57 then (some false) else (u1e.l0 k x0 (wrap64 (x3 + 1))))))))) else (none)) else (if (x0.size:Int) ≥ 1 then (some (decide ((x0.size:Int) ≤ 24))) else (some false))
def u1e.f (k:Nat) (a0:ByteArray):Option (Bool):=u1e.l0 k a0 0
set_option maxHeartbeats 8000000 in
set_option maxRecDepth 100000 in
theorem u1e.calls (k:Nat) (a0:ByteArray) (r:Bool) (w:World) (h:u1e.f k a0 = some r) :
 Calls Tryz.prog 69 #[.string a0] w fun e w' => e = .returned (.bool r) ∧ u1v w w':=by
 have H:(u1e.l0 k a0 0) = some r:=h
 clear h
 have H':=Aside0.mk H
 clear H
 go_enter Tryz.func69,Tryz.ntmps69
 go_wp2
 go_loopg [3] k (fun kq v3 w' => ∃ (x3_1:Int),v3 = .int .i64 x3_1 ∧ Aside0 (u1e.l0 kq a0 x3_1 = some r) ∧ Aside0 (kq ≤ k) ∧ u1v w w')
 case atStart => exact ⟨(0),(by first | rfl | (simp;done) | (simp [*];done)),H',⟨Nat.le_refl _⟩,by repeat (first | exact u1v.refl _ | apply u1v.step)⟩
 case round =>
  clear H'
  obtain ⟨x3_1,rfl,HA,HK1,⟨m1,rfl⟩⟩:=hrel
  cases gk with
  | zero => exact absurd HA.out (by simp [u1e.l0])
  | succ k1 =>
    have H:=HA.out
    clear HA
    simp only [u1e.l0] at H
    by_cases c2:x3_1 < (a0.size:Int)
    · rw [if_pos c2] at H
      have c2b0:decide (x3_1 < (a0.size:Int)) = true:=decide_eq_true c2
      clear c2
      by_cases c3:0 ≤ x3_1
      · rw [if_pos c3] at H
        have c3b0:decide (0 ≤ x3_1) = true:=decide_eq_true c3
        clear c3
        by_cases c5:(bt a0 x3_1) ≥ 97
        · rw [if_pos c5] at H
          have c5b0:decide (97 ≤ (bt a0 x3_1)) = true:=decide_eq_true c5
          clear c5
          by_cases c6:(bt a0 x3_1) ≤ 122
          · rw [if_pos c6] at H
            have c6b0:decide ((bt a0 x3_1) ≤ 122) = true:=decide_eq_true c6
            clear c6
            have H':=Aside0.mk H
            clear H
            have p4:0 ≤ (x3_1:Int):=of_decide_eq_true (by first | (with_reducible assumption) | assumption)
            have q4:x3_1 < (a0.size:Int):=of_decide_eq_true (by first | (with_reducible assumption) | assumption)
            have hx4:=bt_at a0 x3_1
            replace p4:=eq_true p4
            replace q4:=eq_true q4
            go_wp2
            go_roundg k1
            case measure => have:=HK1.out;omega
            case rel => exact ⟨(wrap64 (x3_1 + 1)),(by first | rfl | (simp;done) | (simp [*];done)),H',⟨by have:=HK1.out;omega⟩,by repeat (first | exact u1v.refl _ | apply u1v.step)⟩
          · rw [if_neg c6] at H
            have c6b0:decide ((bt a0 x3_1) ≤ 122) = false:=decide_eq_false c6
            clear c6
            by_cases c7:(bt a0 x3_1) ≥ 65
            · rw [if_pos c7] at H
              have c7b0:decide (65 ≤ (bt a0 x3_1)) = true:=decide_eq_true c7
              clear c7
              by_cases c8:(bt a0 x3_1) ≤ 90
              · rw [if_pos c8] at H
                have c8b0:decide ((bt a0 x3_1) ≤ 90) = true:=decide_eq_true c8
                clear c8
                have H':=Aside0.mk H
                clear H
                have p4:0 ≤ (x3_1:Int):=of_decide_eq_true (by first | (with_reducible assumption) | assumption)
                have q4:x3_1 < (a0.size:Int):=of_decide_eq_true (by first | (with_reducible assumption) | assumption)
                have hx4:=bt_at a0 x3_1
                replace p4:=eq_true p4
                replace q4:=eq_true q4
                go_wp2
                go_roundg k1
                case measure => have:=HK1.out;omega
                case rel => exact ⟨(wrap64 (x3_1 + 1)),(by first | rfl | (simp;done) | (simp [*];done)),H',⟨by have:=HK1.out;omega⟩,by repeat (first | exact u1v.refl _ | apply u1v.step)⟩
              · rw [if_neg c8] at H
                have c8b0:decide ((bt a0 x3_1) ≤ 90) = false:=decide_eq_false c8
                clear c8
                by_cases c9:((bt a0 x3_1) = 95)
                · rw [if_pos c9] at H
                  have c9b0:((bt a0 x3_1) == 95) = true:=beq_iff_eq.mpr c9
                  have c9b1:((bt a0 x3_1) != 95) = false:=bne_eq_false_iff_eq.mpr c9
                  clear c9
                  have H':=Aside0.mk H
                  clear H
                  have p4:0 ≤ (x3_1:Int):=of_decide_eq_true (by first | (with_reducible assumption) | assumption)
                  have q4:x3_1 < (a0.size:Int):=of_decide_eq_true (by first | (with_reducible assumption) | assumption)
                  have hx4:=bt_at a0 x3_1
                  replace p4:=eq_true p4
                  replace q4:=eq_true q4
                  go_wp2
                  go_roundg k1
                  case measure => have:=HK1.out;omega
                  case rel => exact ⟨(wrap64 (x3_1 + 1)),(by first | rfl | (simp;done) | (simp [*];done)),H',⟨by have:=HK1.out;omega⟩,by repeat (first | exact u1v.refl _ | apply u1v.step)⟩
                · rw [if_neg c9] at H
                  have c9b0:((bt a0 x3_1) == 95) = false:=beq_eq_false_iff_ne.mpr c9
                  have c9b1:((bt a0 x3_1) != 95) = true:=bne_iff_ne.mpr c9
                  by_cases c10:x3_1 = 0
                  · rw [if_pos c10] at H
                    have c10b0:(x3_1 == 0) = true:=beq_iff_eq.mpr c10
                    have c10b1:(x3_1 != 0) = false:=bne_eq_false_iff_eq.mpr c10
                    clear c10
                    obtain rfl:=Option.some.inj H
                    have p4:0 ≤ (x3_1:Int):=of_decide_eq_true (by first | (with_reducible assumption) | assumption)
                    have q4:x3_1 < (a0.size:Int):=of_decide_eq_true (by first | (with_reducible assumption) | assumption)
                    have hx4:=bt_at a0 x3_1
                    replace p4:=eq_true p4
                    replace q4:=eq_true q4
                    go_wp2
                    go_ret
                    exact ⟨by first | rfl | (simp;done) | (simp [*];done),by repeat (first | exact u1v.refl _ | apply u1v.step)⟩
                  · rw [if_neg c10] at H
                    have c10b0:(x3_1 == 0) = false:=beq_eq_false_iff_ne.mpr c10
                    have c10b1:(x3_1 != 0) = true:=bne_iff_ne.mpr c10
                    by_cases c11:(bt a0 x3_1) < 48
                    · rw [if_pos c11] at H
                      have c11b0:decide ((bt a0 x3_1) < 48) = true:=decide_eq_true c11
                      clear c11
                      obtain rfl:=Option.some.inj H
                      have p4:0 ≤ (x3_1:Int):=of_decide_eq_true (by first | (with_reducible assumption) | assumption)
                      have q4:x3_1 < (a0.size:Int):=of_decide_eq_true (by first | (with_reducible assumption) | assumption)
                      have hx4:=bt_at a0 x3_1
                      replace p4:=eq_true p4
                      replace q4:=eq_true q4
                      go_wp2
                      go_ret
                      exact ⟨by first | rfl | (simp;done) | (simp [*];done),by repeat (first | exact u1v.refl _ | apply u1v.step)⟩
                    · rw [if_neg c11] at H
                      have c11b0:decide ((bt a0 x3_1) < 48) = false:=decide_eq_false c11
                      clear c11
                      by_cases c12:(bt a0 x3_1) > 57
                      · rw [if_pos c12] at H
                        have c12b0:decide (57 < (bt a0 x3_1)) = true:=decide_eq_true c12
                        clear c12
                        obtain rfl:=Option.some.inj H
                        have p4:0 ≤ (x3_1:Int):=of_decide_eq_true (by first | (with_reducible assumption) | assumption)
                        have q4:x3_1 < (a0.size:Int):=of_decide_eq_true (by first | (with_reducible assumption) | assumption)
                        have hx4:=bt_at a0 x3_1
                        replace p4:=eq_true p4
                        replace q4:=eq_true q4
                        go_wp2
                        go_ret
                        exact ⟨by first | rfl | (simp;done) | (simp [*];done),by repeat (first | exact u1v.refl _ | apply u1v.step)⟩
                      · rw [if_neg c12] at H
                        have c12b0:decide (57 < (bt a0 x3_1)) = false:=decide_eq_false c12
                        clear c12
                        have H':=Aside0.mk H
                        clear H
                        have p4:0 ≤ (x3_1:Int):=of_decide_eq_true (by first | (with_reducible assumption) | assumption)
                        have q4:x3_1 < (a0.size:Int):=of_decide_eq_true (by first | (with_reducible assumption) | assumption)
                        have hx4:=bt_at a0 x3_1
                        replace p4:=eq_true p4
                        replace q4:=eq_true q4
                        go_wp2
                        go_roundg k1
                        case measure => have:=HK1.out;omega
                        case rel => exact ⟨(wrap64 (x3_1 + 1)),(by first | rfl | (simp;done) | (simp [*];done)),H',⟨by have:=HK1.out;omega⟩,by repeat (first | exact u1v.refl _ | apply u1v.step)⟩
            · rw [if_neg c7] at H
              have c7b0:decide (65 ≤ (bt a0 x3_1)) = false:=decide_eq_false c7
              clear c7
              by_cases c13:((bt a0 x3_1) = 95)
              · rw [if_pos c13] at H
                have c13b0:((bt a0 x3_1) == 95) = true:=beq_iff_eq.mpr c13
                have c13b1:((bt a0 x3_1) != 95) = false:=bne_eq_false_iff_eq.mpr c13
                clear c13
                have H':=Aside0.mk H
                clear H
                have p4:0 ≤ (x3_1:Int):=of_decide_eq_true (by first | (with_reducible assumption) | assumption)
                have q4:x3_1 < (a0.size:Int):=of_decide_eq_true (by first | (with_reducible assumption) | assumption)
                have hx4:=bt_at a0 x3_1
                replace p4:=eq_true p4
                replace q4:=eq_true q4
                go_wp2
                go_roundg k1
                case measure => have:=HK1.out;omega
                case rel => exact ⟨(wrap64 (x3_1 + 1)),(by first | rfl | (simp;done) | (simp [*];done)),H',⟨by have:=HK1.out;omega⟩,by repeat (first | exact u1v.refl _ | apply u1v.step)⟩
              · rw [if_neg c13] at H
                have c13b0:((bt a0 x3_1) == 95) = false:=beq_eq_false_iff_ne.mpr c13
                have c13b1:((bt a0 x3_1) != 95) = true:=bne_iff_ne.mpr c13
                by_cases c14:x3_1 = 0
                · rw [if_pos c14] at H
                  have c14b0:(x3_1 == 0) = true:=beq_iff_eq.mpr c14
                  have c14b1:(x3_1 != 0) = false:=bne_eq_false_iff_eq.mpr c14
                  clear c14
                  obtain rfl:=Option.some.inj H
                  have p4:0 ≤ (x3_1:Int):=of_decide_eq_true (by first | (with_reducible assumption) | assumption)
                  have q4:x3_1 < (a0.size:Int):=of_decide_eq_true (by first | (with_reducible assumption) | assumption)
                  have hx4:=bt_at a0 x3_1
                  replace p4:=eq_true p4
                  replace q4:=eq_true q4
                  go_wp2
                  go_ret
                  exact ⟨by first | rfl | (simp;done) | (simp [*];done),by repeat (first | exact u1v.refl _ | apply u1v.step)⟩
                · rw [if_neg c14] at H
                  have c14b0:(x3_1 == 0) = false:=beq_eq_false_iff_ne.mpr c14
                  have c14b1:(x3_1 != 0) = true:=bne_iff_ne.mpr c14
                  by_cases c15:(bt a0 x3_1) < 48
                  · rw [if_pos c15] at H
                    have c15b0:decide ((bt a0 x3_1) < 48) = true:=decide_eq_true c15
                    clear c15
                    obtain rfl:=Option.some.inj H
                    have p4:0 ≤ (x3_1:Int):=of_decide_eq_true (by first | (with_reducible assumption) | assumption)
                    have q4:x3_1 < (a0.size:Int):=of_decide_eq_true (by first | (with_reducible assumption) | assumption)
                    have hx4:=bt_at a0 x3_1
                    replace p4:=eq_true p4
                    replace q4:=eq_true q4
                    go_wp2
                    go_ret
                    exact ⟨by first | rfl | (simp;done) | (simp [*];done),by repeat (first | exact u1v.refl _ | apply u1v.step)⟩
                  · rw [if_neg c15] at H
                    have c15b0:decide ((bt a0 x3_1) < 48) = false:=decide_eq_false c15
                    clear c15
                    by_cases c16:(bt a0 x3_1) > 57
                    · rw [if_pos c16] at H
                      have c16b0:decide (57 < (bt a0 x3_1)) = true:=decide_eq_true c16
                      clear c16
                      obtain rfl:=Option.some.inj H
                      have p4:0 ≤ (x3_1:Int):=of_decide_eq_true (by first | (with_reducible assumption) | assumption)
                      have q4:x3_1 < (a0.size:Int):=of_decide_eq_true (by first | (with_reducible assumption) | assumption)
                      have hx4:=bt_at a0 x3_1
                      replace p4:=eq_true p4
                      replace q4:=eq_true q4
                      go_wp2
                      go_ret
                      exact ⟨by first | rfl | (simp;done) | (simp [*];done),by repeat (first | exact u1v.refl _ | apply u1v.step)⟩
                    · rw [if_neg c16] at H
                      have c16b0:decide (57 < (bt a0 x3_1)) = false:=decide_eq_false c16
                      clear c16
                      have H':=Aside0.mk H
                      clear H
                      have p4:0 ≤ (x3_1:Int):=of_decide_eq_true (by first | (with_reducible assumption) | assumption)
                      have q4:x3_1 < (a0.size:Int):=of_decide_eq_true (by first | (with_reducible assumption) | assumption)
                      have hx4:=bt_at a0 x3_1
                      replace p4:=eq_true p4
                      replace q4:=eq_true q4
                      go_wp2
                      go_roundg k1
                      case measure => have:=HK1.out;omega
                      case rel => exact ⟨(wrap64 (x3_1 + 1)),(by first | rfl | (simp;done) | (simp [*];done)),H',⟨by have:=HK1.out;omega⟩,by repeat (first | exact u1v.refl _ | apply u1v.step)⟩
        · rw [if_neg c5] at H
          have c5b0:decide (97 ≤ (bt a0 x3_1)) = false:=decide_eq_false c5
          clear c5
          by_cases c17:(bt a0 x3_1) ≥ 65
          · rw [if_pos c17] at H
            have c17b0:decide (65 ≤ (bt a0 x3_1)) = true:=decide_eq_true c17
            clear c17
            by_cases c18:(bt a0 x3_1) ≤ 90
            · rw [if_pos c18] at H
              have c18b0:decide ((bt a0 x3_1) ≤ 90) = true:=decide_eq_true c18
              clear c18
              have H':=Aside0.mk H
              clear H
              have p4:0 ≤ (x3_1:Int):=of_decide_eq_true (by first | (with_reducible assumption) | assumption)
              have q4:x3_1 < (a0.size:Int):=of_decide_eq_true (by first | (with_reducible assumption) | assumption)
              have hx4:=bt_at a0 x3_1
              replace p4:=eq_true p4
              replace q4:=eq_true q4
              go_wp2
              go_roundg k1
              case measure => have:=HK1.out;omega
              case rel => exact ⟨(wrap64 (x3_1 + 1)),(by first | rfl | (simp;done) | (simp [*];done)),H',⟨by have:=HK1.out;omega⟩,by repeat (first | exact u1v.refl _ | apply u1v.step)⟩
            · rw [if_neg c18] at H
              have c18b0:decide ((bt a0 x3_1) ≤ 90) = false:=decide_eq_false c18
              clear c18
              by_cases c19:((bt a0 x3_1) = 95)
              · rw [if_pos c19] at H
                have c19b0:((bt a0 x3_1) == 95) = true:=beq_iff_eq.mpr c19
                have c19b1:((bt a0 x3_1) != 95) = false:=bne_eq_false_iff_eq.mpr c19
                clear c19
                have H':=Aside0.mk H
                clear H
                have p4:0 ≤ (x3_1:Int):=of_decide_eq_true (by first | (with_reducible assumption) | assumption)
                have q4:x3_1 < (a0.size:Int):=of_decide_eq_true (by first | (with_reducible assumption) | assumption)
                have hx4:=bt_at a0 x3_1
                replace p4:=eq_true p4
                replace q4:=eq_true q4
                go_wp2
                go_roundg k1
                case measure => have:=HK1.out;omega
                case rel => exact ⟨(wrap64 (x3_1 + 1)),(by first | rfl | (simp;done) | (simp [*];done)),H',⟨by have:=HK1.out;omega⟩,by repeat (first | exact u1v.refl _ | apply u1v.step)⟩
              · rw [if_neg c19] at H
                have c19b0:((bt a0 x3_1) == 95) = false:=beq_eq_false_iff_ne.mpr c19
                have c19b1:((bt a0 x3_1) != 95) = true:=bne_iff_ne.mpr c19
                by_cases c20:x3_1 = 0
                · rw [if_pos c20] at H
                  have c20b0:(x3_1 == 0) = true:=beq_iff_eq.mpr c20
                  have c20b1:(x3_1 != 0) = false:=bne_eq_false_iff_eq.mpr c20
                  clear c20
                  obtain rfl:=Option.some.inj H
                  have p4:0 ≤ (x3_1:Int):=of_decide_eq_true (by first | (with_reducible assumption) | assumption)
                  have q4:x3_1 < (a0.size:Int):=of_decide_eq_true (by first | (with_reducible assumption) | assumption)
                  have hx4:=bt_at a0 x3_1
                  replace p4:=eq_true p4
                  replace q4:=eq_true q4
                  go_wp2
                  go_ret
                  exact ⟨by first | rfl | (simp;done) | (simp [*];done),by repeat (first | exact u1v.refl _ | apply u1v.step)⟩
                · rw [if_neg c20] at H
                  have c20b0:(x3_1 == 0) = false:=beq_eq_false_iff_ne.mpr c20
                  have c20b1:(x3_1 != 0) = true:=bne_iff_ne.mpr c20
                  by_cases c21:(bt a0 x3_1) < 48
                  · rw [if_pos c21] at H
                    have c21b0:decide ((bt a0 x3_1) < 48) = true:=decide_eq_true c21
                    clear c21
                    obtain rfl:=Option.some.inj H
                    have p4:0 ≤ (x3_1:Int):=of_decide_eq_true (by first | (with_reducible assumption) | assumption)
                    have q4:x3_1 < (a0.size:Int):=of_decide_eq_true (by first | (with_reducible assumption) | assumption)
                    have hx4:=bt_at a0 x3_1
                    replace p4:=eq_true p4
                    replace q4:=eq_true q4
                    go_wp2
                    go_ret
                    exact ⟨by first | rfl | (simp;done) | (simp [*];done),by repeat (first | exact u1v.refl _ | apply u1v.step)⟩
                  · rw [if_neg c21] at H
                    have c21b0:decide ((bt a0 x3_1) < 48) = false:=decide_eq_false c21
                    clear c21
                    by_cases c22:(bt a0 x3_1) > 57
                    · rw [if_pos c22] at H
                      have c22b0:decide (57 < (bt a0 x3_1)) = true:=decide_eq_true c22
                      clear c22
                      obtain rfl:=Option.some.inj H
                      have p4:0 ≤ (x3_1:Int):=of_decide_eq_true (by first | (with_reducible assumption) | assumption)
                      have q4:x3_1 < (a0.size:Int):=of_decide_eq_true (by first | (with_reducible assumption) | assumption)
                      have hx4:=bt_at a0 x3_1
                      replace p4:=eq_true p4
                      replace q4:=eq_true q4
                      go_wp2
                      go_ret
                      exact ⟨by first | rfl | (simp;done) | (simp [*];done),by repeat (first | exact u1v.refl _ | apply u1v.step)⟩
                    · rw [if_neg c22] at H
                      have c22b0:decide (57 < (bt a0 x3_1)) = false:=decide_eq_false c22
                      clear c22
                      have H':=Aside0.mk H
                      clear H
                      have p4:0 ≤ (x3_1:Int):=of_decide_eq_true (by first | (with_reducible assumption) | assumption)
                      have q4:x3_1 < (a0.size:Int):=of_decide_eq_true (by first | (with_reducible assumption) | assumption)
                      have hx4:=bt_at a0 x3_1
                      replace p4:=eq_true p4
                      replace q4:=eq_true q4
                      go_wp2
                      go_roundg k1
                      case measure => have:=HK1.out;omega
                      case rel => exact ⟨(wrap64 (x3_1 + 1)),(by first | rfl | (simp;done) | (simp [*];done)),H',⟨by have:=HK1.out;omega⟩,by repeat (first | exact u1v.refl _ | apply u1v.step)⟩
          · rw [if_neg c17] at H
            have c17b0:decide (65 ≤ (bt a0 x3_1)) = false:=decide_eq_false c17
            clear c17
            by_cases c23:((bt a0 x3_1) = 95)
            · rw [if_pos c23] at H
              have c23b0:((bt a0 x3_1) == 95) = true:=beq_iff_eq.mpr c23
              have c23b1:((bt a0 x3_1) != 95) = false:=bne_eq_false_iff_eq.mpr c23
              clear c23
              have H':=Aside0.mk H
              clear H
              have p4:0 ≤ (x3_1:Int):=of_decide_eq_true (by first | (with_reducible assumption) | assumption)
              have q4:x3_1 < (a0.size:Int):=of_decide_eq_true (by first | (with_reducible assumption) | assumption)
              have hx4:=bt_at a0 x3_1
              replace p4:=eq_true p4
              replace q4:=eq_true q4
              go_wp2
              go_roundg k1
              case measure => have:=HK1.out;omega
              case rel => exact ⟨(wrap64 (x3_1 + 1)),(by first | rfl | (simp;done) | (simp [*];done)),H',⟨by have:=HK1.out;omega⟩,by repeat (first | exact u1v.refl _ | apply u1v.step)⟩
            · rw [if_neg c23] at H
              have c23b0:((bt a0 x3_1) == 95) = false:=beq_eq_false_iff_ne.mpr c23
              have c23b1:((bt a0 x3_1) != 95) = true:=bne_iff_ne.mpr c23
              by_cases c24:x3_1 = 0
              · rw [if_pos c24] at H
                have c24b0:(x3_1 == 0) = true:=beq_iff_eq.mpr c24
                have c24b1:(x3_1 != 0) = false:=bne_eq_false_iff_eq.mpr c24
                clear c24
                obtain rfl:=Option.some.inj H
                have p4:0 ≤ (x3_1:Int):=of_decide_eq_true (by first | (with_reducible assumption) | assumption)
                have q4:x3_1 < (a0.size:Int):=of_decide_eq_true (by first | (with_reducible assumption) | assumption)
                have hx4:=bt_at a0 x3_1
                replace p4:=eq_true p4
                replace q4:=eq_true q4
                go_wp2
                go_ret
                exact ⟨by first | rfl | (simp;done) | (simp [*];done),by repeat (first | exact u1v.refl _ | apply u1v.step)⟩
              · rw [if_neg c24] at H
                have c24b0:(x3_1 == 0) = false:=beq_eq_false_iff_ne.mpr c24
                have c24b1:(x3_1 != 0) = true:=bne_iff_ne.mpr c24
                by_cases c25:(bt a0 x3_1) < 48
                · rw [if_pos c25] at H
                  have c25b0:decide ((bt a0 x3_1) < 48) = true:=decide_eq_true c25
                  clear c25
                  obtain rfl:=Option.some.inj H
                  have p4:0 ≤ (x3_1:Int):=of_decide_eq_true (by first | (with_reducible assumption) | assumption)
                  have q4:x3_1 < (a0.size:Int):=of_decide_eq_true (by first | (with_reducible assumption) | assumption)
                  have hx4:=bt_at a0 x3_1
                  replace p4:=eq_true p4
                  replace q4:=eq_true q4
                  go_wp2
                  go_ret
                  exact ⟨by first | rfl | (simp;done) | (simp [*];done),by repeat (first | exact u1v.refl _ | apply u1v.step)⟩
                · rw [if_neg c25] at H
                  have c25b0:decide ((bt a0 x3_1) < 48) = false:=decide_eq_false c25
                  clear c25
                  by_cases c26:(bt a0 x3_1) > 57
                  · rw [if_pos c26] at H
                    have c26b0:decide (57 < (bt a0 x3_1)) = true:=decide_eq_true c26
                    clear c26
                    obtain rfl:=Option.some.inj H
                    have p4:0 ≤ (x3_1:Int):=of_decide_eq_true (by first | (with_reducible assumption) | assumption)
                    have q4:x3_1 < (a0.size:Int):=of_decide_eq_true (by first | (with_reducible assumption) | assumption)
                    have hx4:=bt_at a0 x3_1
                    replace p4:=eq_true p4
                    replace q4:=eq_true q4
                    go_wp2
                    go_ret
                    exact ⟨by first | rfl | (simp;done) | (simp [*];done),by repeat (first | exact u1v.refl _ | apply u1v.step)⟩
                  · rw [if_neg c26] at H
                    have c26b0:decide (57 < (bt a0 x3_1)) = false:=decide_eq_false c26
                    clear c26
                    have H':=Aside0.mk H
                    clear H
                    have p4:0 ≤ (x3_1:Int):=of_decide_eq_true (by first | (with_reducible assumption) | assumption)
                    have q4:x3_1 < (a0.size:Int):=of_decide_eq_true (by first | (with_reducible assumption) | assumption)
                    have hx4:=bt_at a0 x3_1
                    replace p4:=eq_true p4
                    replace q4:=eq_true q4
                    go_wp2
                    go_roundg k1
                    case measure => have:=HK1.out;omega
                    case rel => exact ⟨(wrap64 (x3_1 + 1)),(by first | rfl | (simp;done) | (simp [*];done)),H',⟨by have:=HK1.out;omega⟩,by repeat (first | exact u1v.refl _ | apply u1v.step)⟩
      · rw [if_neg c3] at H
        exact absurd H (by simp)
    · rw [if_neg c2] at H
      have c2b0:decide (x3_1 < (a0.size:Int)) = false:=decide_eq_false c2
      clear c2
      by_cases c27:(a0.size:Int) ≥ 1
      · rw [if_pos c27] at H
        have c27b0:decide (1 ≤ (a0.size:Int)) = true:=decide_eq_true c27
        have c27b1:decide (1 ≤ a0.size) = true:=decide_eq_true (by omega)
        clear c27
        obtain rfl:=Option.some.inj H
        go_wp2
        go_ret
        exact ⟨by first | rfl | (simp;done) | (simp [*];done),by repeat (first | exact u1v.refl _ | apply u1v.step)⟩
      · rw [if_neg c27] at H
        have c27b0:decide (1 ≤ (a0.size:Int)) = false:=decide_eq_false c27
        have c27b1:decide (1 ≤ a0.size) = false:=decide_eq_false (by omega)
        clear c27
        obtain rfl:=Option.some.inj H
        go_wp2
        go_ret
        exact ⟨by first | rfl | (simp;done) | (simp [*];done),by repeat (first | exact u1v.refl _ | apply u1v.step)⟩
mutual
def u1s.j0:Nat → List (S111) → Bool → Option (Bool)
 | 0,_,_ => none
 | k + 1,x0,x13 => if x13 = true then (some false) else (u1s.l0 k (⟨#[]⟩:ByteArray) x0 (x0.length:Int) 0)
def u1s.l0:Nat → ByteArray → List (S111) → Int → Int → Option (Bool)
 | 0,_,_,_,_ => none
 | k + 1,x3,x14,x15,x16 => if x16 < x15 then (if 0 ≤ x16 then (if x16 < (x14.length:Int) then ((u2f.f ((u1r x14 x16).f0)).bind fun t103 => (if t103 = true then ((u3l.f ((u1r x14 x16).f1)).bind fun t104 => (if t104 = true then (if ((Op.bytesLess x3.toList (((u1r x14 x16).f0).toList)) = true) then (u1s.l0 k ((u1r x14 x16).f0) x14 x15 (wrap64 (x16 + 1))) else (some false)) else (some false))) else (some false))) else (none)) else (none)) else (some true)
end
def u1s.f (k:Nat) (l0:List (S111)):Option (Bool):=if (l0.length:Int) = 0 then (u1s.j0 k l0 true) else (u1s.j0 k l0 (decide ((l0.length:Int) > 8)))
set_option maxHeartbeats 8000000 in
set_option maxRecDepth 100000 in
theorem u1s.calls (k:Nat) (A0:Option Addr) (c0:Nat) (l0:List (S111)) (r:Bool) (w:World) (hr0:Kd.C k111 w A0 l0.length l0) (hc0:l0.length ≤ c0) (h:u1s.f k l0 = some r) :
 Calls Tryz.prog 34 #[.slice A0 l0.length c0] w fun e w' => e = .returned (.bool r) ∧ Below w.heap.size w w':=by
 have hu111:=Tryz.underlying111
 have HR0:=Aside0.mk hr0
 have HC0:=Aside0.mk hc0
 clear hr0 hc0
 have HB:=Aside0.mk (Below.refl w.heap.size w)
 have H:(if (l0.length:Int) = 0 then (u1s.j0 k l0 true) else (u1s.j0 k l0 (decide ((l0.length:Int) > 8)))) = some r:=h
 clear h
 have HC2:=Aside0.mk H
 clear H
 go_enter Tryz.func34,Tryz.ntmps34
 go_upto_region 1 with (fail)
 go_cut [13] (fun v13 wc => ∃ (kq:Nat) (x13_1:Bool),v13 = .bool x13_1 ∧ Aside0 (u1s.j0 kq l0 x13_1 = some r) ∧ Aside0 (kq ≤ k) ∧ Aside0 (Below w.heap.size w wc))
 case first =>
  have H:=HC2.out
  clear HC2
  by_cases c3:(l0.length:Int) = 0
  · rw [if_pos c3] at H
    have c3b0:((l0.length:Int) == 0) = true:=beq_iff_eq.mpr c3
    have c3b1:((l0.length:Int) != 0) = false:=bne_eq_false_iff_eq.mpr c3
    clear c3
    (first | rw [c3b0] | (simp only [i64_w,i32_w];rw [c3b0]) | skip)
    have H':=Aside0.mk H
    clear H
    go_wp2
    go_meet
    case rel => exact ⟨_,(true),(by first | rfl | (simp;done) | (simp [*];done)),H',⟨by first | omega | exact Nat.le_refl _⟩,⟨by repeat (first | (with_reducible first | exact HB.out | apply uj | apply ui | apply ur) | exact HB.out)⟩⟩
  · rw [if_neg c3] at H
    have c3b0:((l0.length:Int) == 0) = false:=beq_eq_false_iff_ne.mpr c3
    have c3b1:((l0.length:Int) != 0) = true:=bne_iff_ne.mpr c3
    have c3b2:¬ (l0 = []):=fun h_ => c3 (by rw [h_];rfl)
    (first | rw [c3b0] | (simp only [i64_w,i32_w];rw [c3b0]) | skip)
    have H':=Aside0.mk H
    clear H
    go_wp2
    go_meet
    case rel => exact ⟨_,(decide ((l0.length:Int) > 8)),(by first | rfl | (simp;done) | (simp [*];done)),H',⟨by first | omega | exact Nat.le_refl _⟩,⟨by repeat (first | (with_reducible first | exact HB.out | apply uj | apply ui | apply ur) | exact HB.out)⟩⟩
 case rest =>
  clear HC2
  try clear p2
  try clear c3
  try clear c3b0
  try clear c3b1
  try clear c3b2
  obtain ⟨kq,x13_1,rfl,HA,HJ1,HB⟩:=hcut
  cases kq with
  | zero => exact absurd HA.out (by simp [u1s.j0])
  | succ kj1 =>
    have H:=HA.out
    clear HA
    simp only [u1s.j0] at H
    by_cases c4:x13_1 = true
    · subst c4
      have H1:(some false) = some r:=by rw [if_pos rfl] at H;exact H
      clear H
      have H:=H1
      clear H1
      obtain rfl:=Option.some.inj H
      go_wp2
      go_ret
      exact ⟨by first | rfl | (simp [u2i,u2j] <;> rfl) | (simp [*,u2i,u2j] <;> rfl),by repeat (first | (with_reducible first | exact HB.out | apply uj | apply ui | apply ur) | exact HB.out)⟩
    · replace c4:=Bool.eq_false_iff.mpr c4
      subst c4
      have H1:(u1s.l0 kj1 (⟨#[]⟩:ByteArray) l0 (l0.length:Int) 0) = some r:=by rw [if_neg (show ¬ (false = true) by decide)] at H;exact H
      clear H
      have H:=H1
      clear H1
      have H':=Aside0.mk H
      clear H
      go_wp2
      go_loopg [3,16] kj1 (fun kq v3 v16 w' => ∃ (x3_2:ByteArray) (x16_2:Int),v3 = .string x3_2 ∧ v16 = .int .i64 x16_2 ∧ Aside0 (u1s.l0 kq x3_2 l0 (l0.length:Int) x16_2 = some r) ∧ Aside0 (kq ≤ kj1) ∧ Aside0 (Below w.heap.size w w'))
      case atStart => exact ⟨((⟨#[]⟩:ByteArray)),(0),(by first | rfl | (simp;done) | (simp [*];done)),(by first | rfl | (simp;done) | (simp [*];done)),H',⟨Nat.le_refl _⟩,⟨by repeat (first | (with_reducible first | exact HB.out | apply uj | apply ui | apply ur) | exact HB.out)⟩⟩
      case round =>
       clear H'
       try clear p2
       try clear c3
       try clear c3b0
       try clear c3b1
       try clear c3b2
       try clear c4
       try clear p2
       obtain ⟨x3_2,x16_2,rfl,rfl,HA,HK2,HB⟩:=hrel
       cases gk with
       | zero => exact absurd HA.out (by simp [u1s.l0])
       | succ k2 =>
         have H:=HA.out
         clear HA
         simp only [u1s.l0] at H
         by_cases c5:x16_2 < (l0.length:Int)
         · rw [if_pos c5] at H
           have c5b0:decide (x16_2 < (l0.length:Int)) = true:=decide_eq_true c5
           clear c5
           by_cases c6:0 ≤ x16_2
           · rw [if_pos c6] at H
             have c6b0:decide (0 ≤ x16_2) = true:=decide_eq_true c6
             clear c6
             by_cases c7:x16_2 < (l0.length:Int)
             · rw [if_pos c7] at H
               have c7b0:decide (x16_2 < (l0.length:Int)) = true:=decide_eq_true c7
               clear c7
               replace H:=Option.bind_eq_some_iff.mp H
               obtain ⟨t103,A80,H⟩:=H
               replace H:(if t103 = true then ((u3l.f ((u1r l0 x16_2).f1)).bind fun t104 => (if t104 = true then (if ((Op.bytesLess x3_2.toList (((u1r l0 x16_2).f0).toList)) = true) then (u1s.l0 k2 ((u1r l0 x16_2).f0) l0 (l0.length:Int) (wrap64 (x16_2 + 1))) else (some false)) else (some false))) else (some false)) = some r:=H
               have A8:=Aside0.mk A80
               clear A80
               by_cases c9:t103 = true
               · subst c9
                 have H1:((u3l.f ((u1r l0 x16_2).f1)).bind fun t104 => (if t104 = true then (if ((Op.bytesLess x3_2.toList (((u1r l0 x16_2).f0).toList)) = true) then (u1s.l0 k2 ((u1r l0 x16_2).f0) l0 (l0.length:Int) (wrap64 (x16_2 + 1))) else (some false)) else (some false))) = some r:=by rw [if_pos rfl] at H;exact H
                 clear H
                 have H:=H1
                 clear H1
                 replace H:=Option.bind_eq_some_iff.mp H
                 obtain ⟨t104,A100,H⟩:=H
                 replace H:(if t104 = true then (if ((Op.bytesLess x3_2.toList (((u1r l0 x16_2).f0).toList)) = true) then (u1s.l0 k2 ((u1r l0 x16_2).f0) l0 (l0.length:Int) (wrap64 (x16_2 + 1))) else (some false)) else (some false)) = some r:=H
                 have A10:=Aside0.mk A100
                 clear A100
                 by_cases c11:t104 = true
                 · subst c11
                   have H1:(if ((Op.bytesLess x3_2.toList (((u1r l0 x16_2).f0).toList)) = true) then (u1s.l0 k2 ((u1r l0 x16_2).f0) l0 (l0.length:Int) (wrap64 (x16_2 + 1))) else (some false)) = some r:=by rw [if_pos rfl] at H;exact H
                   clear H
                   have H:=H1
                   clear H1
                   by_cases c12:((Op.bytesLess x3_2.toList (((u1r l0 x16_2).f0).toList)) = true)
                   · rw [if_pos c12] at H
                     have c12b0:(Op.bytesLess x3_2.toList (((u1r l0 x16_2).f0).toList)) = true:=c12
                     clear c12
                     have H':=Aside0.mk H
                     clear H
                     have p101:0 ≤ (x16_2:Int):=of_decide_eq_true (by first | (with_reducible assumption) | assumption)
                     have q101:x16_2 < (l0.length:Int):=of_decide_eq_true (by first | (with_reducible assumption) | assumption)
                     obtain ⟨ad101,e101,hx101_0,hx101_1⟩:=at_T111 HR0.out x16_2 p101 q101
                     cases e101
                     replace hx101_0:=(HB.out.cell (World.block_lt_of_cell? w _ hx101_0)).trans hx101_0
                     replace hx101_1:=(HB.out.cell (World.block_lt_of_cell? w _ hx101_1)).trans hx101_1
                     replace p101:=eq_true p101
                     replace q101:=eq_true q101
                     go_wp2_with (first | ((with_reducible refine u4a (N:=5) rfl ?_);(try (refine gate_guard (by rfl) ?_;dsimp only));refine u4c ?hg (N:=5) ?hd (cs:=#[.string (⟨#[]⟩:ByteArray),.string (⟨#[]⟩:ByteArray)]) (t:=111) ?hr ?_;(case hd => rfl);(case hg => rfl);(case hr => first | (go_simp;done) | (go_simp;rfl));intro gb102 hg w13 hbox hb;have n0_:=Aside0.mk (u2k (by repeat (first | (with_reducible first | exact HB.out | apply uj | apply ui | apply ur) | exact HB.out)) hb);have n1_:=Aside0.mk (hbox);have n2_:=Aside0.mk ((by rw [hg];exact (u2p (by repeat (first | (with_reducible first | exact HB.out | apply uj | apply ui | apply ur) | exact HB.out))):w.heap.size ≤ gb102));have n3_:=Aside0.mk ((by rw [hg];exact (u2p (by repeat (first | (with_reducible first | exact HB.out | apply uj | apply ui | apply ur) | exact HB.out))):w.heap.size ≤ gb102));clear HB;have HB:=n0_;have BK102:=n1_;have GW102:=n2_;have GE102:=n3_;clear n0_ n1_ n2_ n3_;clear hb hbox hg;have hcz14_0:w13.cell? ⟨gb102,0,none⟩ = some (.string (⟨#[]⟩:ByteArray)):=(uk BK102.out 0).trans rfl;have hcz14_1:w13.cell? ⟨gb102,1,none⟩ = some (.string (⟨#[]⟩:ByteArray)):=(uk BK102.out 1).trans rfl;have hfz14_0:=uq BK102.out 0;have hfz14_1:=uq BK102.out 1) | ((with_reducible refine u3m (f:=63) rfl ?_);refine goesL_ (some 22) rfl rfl Tryz.func63 (by kernel_rfl) rfl #[.string ((u1r l0 x16_2).f0)] rfl (by (try simp only [List.map_toArray,List.map_cons,List.map_nil]);first | done | rfl | (simp only [List.length_drop,List.length_take];rfl)) ?_;(with_reducible refine (u2f.calls ((u1r l0 x16_2).f0) true _ A8.out).mono ?_);rintro e w15 ⟨rfl,hb⟩;refine ⟨_,rfl,?_⟩;have n0_:=Aside0.mk (u1a (g:=gb102) (o:=.cells #[.string ((u1r l0 x16_2).f0),.string ((u1r l0 x16_2).f1)] 111 (0,0)) (by (with_reducible repeat (first | refine u2b ?_ _ | refine u1z ?_ | refine u1k ?_ _));refine blk_put (cs:=#[.string ((u1r l0 x16_2).f0),.string (⟨#[]⟩:ByteArray)]) ?_ 1 _ rfl;(with_reducible repeat (first | refine u2b ?_ _ | refine u1z ?_ | refine u1k ?_ _));refine blk_put (cs:=#[.string (⟨#[]⟩:ByteArray),.string (⟨#[]⟩:ByteArray)]) ?_ 0 _ rfl;(with_reducible repeat (first | refine u2b ?_ _ | refine u1z ?_ | refine u1k ?_ _));exact BK102.out) hb);have n1_:=Aside0.mk (u2k (by repeat (first | (with_reducible first | exact HB.out | apply uj | apply ui | apply ur | refine u1y ?_ GE102.out) | exact HB.out)) hb);clear BK102;clear HB;have BK102:=n0_;have HB:=n1_;clear n0_ n1_;(try clear hb);(try clear hb2);(try clear hk);(try clear hi);have hcz16_0:w15.cell? ⟨gb102,0,none⟩ = some (.string ((u1r l0 x16_2).f0)):=(uk BK102.out 0).trans rfl;have hcz16_1:w15.cell? ⟨gb102,1,none⟩ = some (.string ((u1r l0 x16_2).f1)):=(uk BK102.out 1).trans rfl;have hfz16_0:=uq BK102.out 0;have hfz16_1:=uq BK102.out 1) | (go_at_call 64;(with_reducible refine (u3l.calls ((u1r l0 x16_2).f1) true _ A10.out).mono ?_);rintro e w17 ⟨rfl,hb⟩;have n0_:=Aside0.mk (u1a (g:=gb102) (o:=.cells #[.string ((u1r l0 x16_2).f0),.string ((u1r l0 x16_2).f1)] 111 (0,0)) (by (with_reducible repeat (first | refine u2b ?_ _ | refine u1z ?_ | refine u1k ?_ _));exact BK102.out) hb);have n1_:=Aside0.mk (u2k (by repeat (first | (with_reducible first | exact HB.out | apply uj | apply ui | apply ur | refine u1y ?_ GE102.out) | exact HB.out)) hb);clear BK102;clear HB;have BK102:=n0_;have HB:=n1_;clear n0_ n1_;(try clear hb);(try clear hb2);(try clear hk);(try clear hi);have hcz18_0:w17.cell? ⟨gb102,0,none⟩ = some (.string ((u1r l0 x16_2).f0)):=(uk BK102.out 0).trans rfl;have hcz18_1:w17.cell? ⟨gb102,1,none⟩ = some (.string ((u1r l0 x16_2).f1)):=(uk BK102.out 1).trans rfl;have hfz18_0:=uq BK102.out 0;have hfz18_1:=uq BK102.out 1))
                     go_roundg k2
                     case measure => have:=HJ1.out;have:=HK2.out;omega
                     case rel => exact ⟨((u1r l0 x16_2).f0),(wrap64 (x16_2 + 1)),(by first | rfl | (simp;done) | (simp [*];done)),(by first | rfl | (simp;done) | (simp [*];done)),H',⟨by have:=HJ1.out;have:=HK2.out;omega⟩,⟨by repeat (first | (with_reducible first | exact HB.out | apply uj | apply ui | apply ur | refine u1y ?_ GE102.out) | exact HB.out)⟩⟩
                   · rw [if_neg c12] at H
                     have c12b0:(Op.bytesLess x3_2.toList (((u1r l0 x16_2).f0).toList)) = false:=by simpa using c12
                     clear c12
                     obtain rfl:=Option.some.inj H
                     have p101:0 ≤ (x16_2:Int):=of_decide_eq_true (by first | (with_reducible assumption) | assumption)
                     have q101:x16_2 < (l0.length:Int):=of_decide_eq_true (by first | (with_reducible assumption) | assumption)
                     obtain ⟨ad101,e101,hx101_0,hx101_1⟩:=at_T111 HR0.out x16_2 p101 q101
                     cases e101
                     replace hx101_0:=(HB.out.cell (World.block_lt_of_cell? w _ hx101_0)).trans hx101_0
                     replace hx101_1:=(HB.out.cell (World.block_lt_of_cell? w _ hx101_1)).trans hx101_1
                     replace p101:=eq_true p101
                     replace q101:=eq_true q101
                     go_wp2_with (first | ((with_reducible refine u4a (N:=5) rfl ?_);(try (refine gate_guard (by rfl) ?_;dsimp only));refine u4c ?hg (N:=5) ?hd (cs:=#[.string (⟨#[]⟩:ByteArray),.string (⟨#[]⟩:ByteArray)]) (t:=111) ?hr ?_;(case hd => rfl);(case hg => rfl);(case hr => first | (go_simp;done) | (go_simp;rfl));intro gb102 hg w19 hbox hb;have n0_:=Aside0.mk (u2k (by repeat (first | (with_reducible first | exact HB.out | apply uj | apply ui | apply ur) | exact HB.out)) hb);have n1_:=Aside0.mk (hbox);have n2_:=Aside0.mk ((by rw [hg];exact (u2p (by repeat (first | (with_reducible first | exact HB.out | apply uj | apply ui | apply ur) | exact HB.out))):w.heap.size ≤ gb102));have n3_:=Aside0.mk ((by rw [hg];exact (u2p (by repeat (first | (with_reducible first | exact HB.out | apply uj | apply ui | apply ur) | exact HB.out))):w.heap.size ≤ gb102));clear HB;have HB:=n0_;have BK102:=n1_;have GW102:=n2_;have GE102:=n3_;clear n0_ n1_ n2_ n3_;clear hb hbox hg;have hcz20_0:w19.cell? ⟨gb102,0,none⟩ = some (.string (⟨#[]⟩:ByteArray)):=(uk BK102.out 0).trans rfl;have hcz20_1:w19.cell? ⟨gb102,1,none⟩ = some (.string (⟨#[]⟩:ByteArray)):=(uk BK102.out 1).trans rfl;have hfz20_0:=uq BK102.out 0;have hfz20_1:=uq BK102.out 1) | ((with_reducible refine u3m (f:=63) rfl ?_);refine goesL_ (some 22) rfl rfl Tryz.func63 (by kernel_rfl) rfl #[.string ((u1r l0 x16_2).f0)] rfl (by (try simp only [List.map_toArray,List.map_cons,List.map_nil]);first | done | rfl | (simp only [List.length_drop,List.length_take];rfl)) ?_;(with_reducible refine (u2f.calls ((u1r l0 x16_2).f0) true _ A8.out).mono ?_);rintro e w21 ⟨rfl,hb⟩;refine ⟨_,rfl,?_⟩;have n0_:=Aside0.mk (u1a (g:=gb102) (o:=.cells #[.string ((u1r l0 x16_2).f0),.string ((u1r l0 x16_2).f1)] 111 (0,0)) (by (with_reducible repeat (first | refine u2b ?_ _ | refine u1z ?_ | refine u1k ?_ _));refine blk_put (cs:=#[.string ((u1r l0 x16_2).f0),.string (⟨#[]⟩:ByteArray)]) ?_ 1 _ rfl;(with_reducible repeat (first | refine u2b ?_ _ | refine u1z ?_ | refine u1k ?_ _));refine blk_put (cs:=#[.string (⟨#[]⟩:ByteArray),.string (⟨#[]⟩:ByteArray)]) ?_ 0 _ rfl;(with_reducible repeat (first | refine u2b ?_ _ | refine u1z ?_ | refine u1k ?_ _));exact BK102.out) hb);have n1_:=Aside0.mk (u2k (by repeat (first | (with_reducible first | exact HB.out | apply uj | apply ui | apply ur | refine u1y ?_ GE102.out) | exact HB.out)) hb);clear BK102;clear HB;have BK102:=n0_;have HB:=n1_;clear n0_ n1_;(try clear hb);(try clear hb2);(try clear hk);(try clear hi);have hcz22_0:w21.cell? ⟨gb102,0,none⟩ = some (.string ((u1r l0 x16_2).f0)):=(uk BK102.out 0).trans rfl;have hcz22_1:w21.cell? ⟨gb102,1,none⟩ = some (.string ((u1r l0 x16_2).f1)):=(uk BK102.out 1).trans rfl;have hfz22_0:=uq BK102.out 0;have hfz22_1:=uq BK102.out 1) | (go_at_call 64;(with_reducible refine (u3l.calls ((u1r l0 x16_2).f1) true _ A10.out).mono ?_);rintro e w23 ⟨rfl,hb⟩;have n0_:=Aside0.mk (u1a (g:=gb102) (o:=.cells #[.string ((u1r l0 x16_2).f0),.string ((u1r l0 x16_2).f1)] 111 (0,0)) (by (with_reducible repeat (first | refine u2b ?_ _ | refine u1z ?_ | refine u1k ?_ _));exact BK102.out) hb);have n1_:=Aside0.mk (u2k (by repeat (first | (with_reducible first | exact HB.out | apply uj | apply ui | apply ur | refine u1y ?_ GE102.out) | exact HB.out)) hb);clear BK102;clear HB;have BK102:=n0_;have HB:=n1_;clear n0_ n1_;(try clear hb);(try clear hb2);(try clear hk);(try clear hi);have hcz24_0:w23.cell? ⟨gb102,0,none⟩ = some (.string ((u1r l0 x16_2).f0)):=(uk BK102.out 0).trans rfl;have hcz24_1:w23.cell? ⟨gb102,1,none⟩ = some (.string ((u1r l0 x16_2).f1)):=(uk BK102.out 1).trans rfl;have hfz24_0:=uq BK102.out 0;have hfz24_1:=uq BK102.out 1))
                     go_ret
                     exact ⟨by first | rfl | (simp [u2i,u2j] <;> rfl) | (simp [*,u2i,u2j] <;> rfl),by repeat (first | (with_reducible first | exact HB.out | apply uj | apply ui | apply ur | refine u1y ?_ GE102.out) | exact HB.out)⟩
                 · replace c11:=Bool.eq_false_iff.mpr c11
                   subst c11
                   have H1:(some false) = some r:=by rw [if_neg (show ¬ (false = true) by decide)] at H;exact H
                   clear H
                   have H:=H1
                   clear H1
                   obtain rfl:=Option.some.inj H
                   have p101:0 ≤ (x16_2:Int):=of_decide_eq_true (by first | (with_reducible assumption) | assumption)
                   have q101:x16_2 < (l0.length:Int):=of_decide_eq_true (by first | (with_reducible assumption) | assumption)
                   obtain ⟨ad101,e101,hx101_0,hx101_1⟩:=at_T111 HR0.out x16_2 p101 q101
                   cases e101
                   replace hx101_0:=(HB.out.cell (World.block_lt_of_cell? w _ hx101_0)).trans hx101_0
                   replace hx101_1:=(HB.out.cell (World.block_lt_of_cell? w _ hx101_1)).trans hx101_1
                   replace p101:=eq_true p101
                   replace q101:=eq_true q101
                   go_wp2_with (first | ((with_reducible refine u4a (N:=5) rfl ?_);(try (refine gate_guard (by rfl) ?_;dsimp only));refine u4c ?hg (N:=5) ?hd (cs:=#[.string (⟨#[]⟩:ByteArray),.string (⟨#[]⟩:ByteArray)]) (t:=111) ?hr ?_;(case hd => rfl);(case hg => rfl);(case hr => first | (go_simp;done) | (go_simp;rfl));intro gb102 hg w25 hbox hb;have n0_:=Aside0.mk (u2k (by repeat (first | (with_reducible first | exact HB.out | apply uj | apply ui | apply ur) | exact HB.out)) hb);have n1_:=Aside0.mk (hbox);have n2_:=Aside0.mk ((by rw [hg];exact (u2p (by repeat (first | (with_reducible first | exact HB.out | apply uj | apply ui | apply ur) | exact HB.out))):w.heap.size ≤ gb102));have n3_:=Aside0.mk ((by rw [hg];exact (u2p (by repeat (first | (with_reducible first | exact HB.out | apply uj | apply ui | apply ur) | exact HB.out))):w.heap.size ≤ gb102));clear HB;have HB:=n0_;have BK102:=n1_;have GW102:=n2_;have GE102:=n3_;clear n0_ n1_ n2_ n3_;clear hb hbox hg;have hcz26_0:w25.cell? ⟨gb102,0,none⟩ = some (.string (⟨#[]⟩:ByteArray)):=(uk BK102.out 0).trans rfl;have hcz26_1:w25.cell? ⟨gb102,1,none⟩ = some (.string (⟨#[]⟩:ByteArray)):=(uk BK102.out 1).trans rfl;have hfz26_0:=uq BK102.out 0;have hfz26_1:=uq BK102.out 1) | ((with_reducible refine u3m (f:=63) rfl ?_);refine goesL_ (some 22) rfl rfl Tryz.func63 (by kernel_rfl) rfl #[.string ((u1r l0 x16_2).f0)] rfl (by (try simp only [List.map_toArray,List.map_cons,List.map_nil]);first | done | rfl | (simp only [List.length_drop,List.length_take];rfl)) ?_;(with_reducible refine (u2f.calls ((u1r l0 x16_2).f0) true _ A8.out).mono ?_);rintro e w27 ⟨rfl,hb⟩;refine ⟨_,rfl,?_⟩;have n0_:=Aside0.mk (u1a (g:=gb102) (o:=.cells #[.string ((u1r l0 x16_2).f0),.string ((u1r l0 x16_2).f1)] 111 (0,0)) (by (with_reducible repeat (first | refine u2b ?_ _ | refine u1z ?_ | refine u1k ?_ _));refine blk_put (cs:=#[.string ((u1r l0 x16_2).f0),.string (⟨#[]⟩:ByteArray)]) ?_ 1 _ rfl;(with_reducible repeat (first | refine u2b ?_ _ | refine u1z ?_ | refine u1k ?_ _));refine blk_put (cs:=#[.string (⟨#[]⟩:ByteArray),.string (⟨#[]⟩:ByteArray)]) ?_ 0 _ rfl;(with_reducible repeat (first | refine u2b ?_ _ | refine u1z ?_ | refine u1k ?_ _));exact BK102.out) hb);have n1_:=Aside0.mk (u2k (by repeat (first | (with_reducible first | exact HB.out | apply uj | apply ui | apply ur | refine u1y ?_ GE102.out) | exact HB.out)) hb);clear BK102;clear HB;have BK102:=n0_;have HB:=n1_;clear n0_ n1_;(try clear hb);(try clear hb2);(try clear hk);(try clear hi);have hcz28_0:w27.cell? ⟨gb102,0,none⟩ = some (.string ((u1r l0 x16_2).f0)):=(uk BK102.out 0).trans rfl;have hcz28_1:w27.cell? ⟨gb102,1,none⟩ = some (.string ((u1r l0 x16_2).f1)):=(uk BK102.out 1).trans rfl;have hfz28_0:=uq BK102.out 0;have hfz28_1:=uq BK102.out 1) | (go_at_call 64;(with_reducible refine (u3l.calls ((u1r l0 x16_2).f1) false _ A10.out).mono ?_);rintro e w29 ⟨rfl,hb⟩;have n0_:=Aside0.mk (u1a (g:=gb102) (o:=.cells #[.string ((u1r l0 x16_2).f0),.string ((u1r l0 x16_2).f1)] 111 (0,0)) (by (with_reducible repeat (first | refine u2b ?_ _ | refine u1z ?_ | refine u1k ?_ _));exact BK102.out) hb);have n1_:=Aside0.mk (u2k (by repeat (first | (with_reducible first | exact HB.out | apply uj | apply ui | apply ur | refine u1y ?_ GE102.out) | exact HB.out)) hb);clear BK102;clear HB;have BK102:=n0_;have HB:=n1_;clear n0_ n1_;(try clear hb);(try clear hb2);(try clear hk);(try clear hi)))
                   go_ret
                   exact ⟨by first | rfl | (simp [u2i,u2j] <;> rfl) | (simp [*,u2i,u2j] <;> rfl),by repeat (first | (with_reducible first | exact HB.out | apply uj | apply ui | apply ur | refine u1y ?_ GE102.out) | exact HB.out)⟩
               · replace c9:=Bool.eq_false_iff.mpr c9
                 subst c9
                 have H1:(some false) = some r:=by rw [if_neg (show ¬ (false = true) by decide)] at H;exact H
                 clear H
                 have H:=H1
                 clear H1
                 obtain rfl:=Option.some.inj H
                 have p101:0 ≤ (x16_2:Int):=of_decide_eq_true (by first | (with_reducible assumption) | assumption)
                 have q101:x16_2 < (l0.length:Int):=of_decide_eq_true (by first | (with_reducible assumption) | assumption)
                 obtain ⟨ad101,e101,hx101_0,hx101_1⟩:=at_T111 HR0.out x16_2 p101 q101
                 cases e101
                 replace hx101_0:=(HB.out.cell (World.block_lt_of_cell? w _ hx101_0)).trans hx101_0
                 replace hx101_1:=(HB.out.cell (World.block_lt_of_cell? w _ hx101_1)).trans hx101_1
                 replace p101:=eq_true p101
                 replace q101:=eq_true q101
                 go_wp2_with (first | ((with_reducible refine u4a (N:=5) rfl ?_);(try (refine gate_guard (by rfl) ?_;dsimp only));refine u4c ?hg (N:=5) ?hd (cs:=#[.string (⟨#[]⟩:ByteArray),.string (⟨#[]⟩:ByteArray)]) (t:=111) ?hr ?_;(case hd => rfl);(case hg => rfl);(case hr => first | (go_simp;done) | (go_simp;rfl));intro gb102 hg w30 hbox hb;have n0_:=Aside0.mk (u2k (by repeat (first | (with_reducible first | exact HB.out | apply uj | apply ui | apply ur) | exact HB.out)) hb);have n1_:=Aside0.mk (hbox);have n2_:=Aside0.mk ((by rw [hg];exact (u2p (by repeat (first | (with_reducible first | exact HB.out | apply uj | apply ui | apply ur) | exact HB.out))):w.heap.size ≤ gb102));have n3_:=Aside0.mk ((by rw [hg];exact (u2p (by repeat (first | (with_reducible first | exact HB.out | apply uj | apply ui | apply ur) | exact HB.out))):w.heap.size ≤ gb102));clear HB;have HB:=n0_;have BK102:=n1_;have GW102:=n2_;have GE102:=n3_;clear n0_ n1_ n2_ n3_;clear hb hbox hg;have hcz31_0:w30.cell? ⟨gb102,0,none⟩ = some (.string (⟨#[]⟩:ByteArray)):=(uk BK102.out 0).trans rfl;have hcz31_1:w30.cell? ⟨gb102,1,none⟩ = some (.string (⟨#[]⟩:ByteArray)):=(uk BK102.out 1).trans rfl;have hfz31_0:=uq BK102.out 0;have hfz31_1:=uq BK102.out 1) | ((with_reducible refine u3m (f:=63) rfl ?_);refine goesL_ (some 22) rfl rfl Tryz.func63 (by kernel_rfl) rfl #[.string ((u1r l0 x16_2).f0)] rfl (by (try simp only [List.map_toArray,List.map_cons,List.map_nil]);first | done | rfl | (simp only [List.length_drop,List.length_take];rfl)) ?_;(with_reducible refine (u2f.calls ((u1r l0 x16_2).f0) false _ A8.out).mono ?_);rintro e w32 ⟨rfl,hb⟩;refine ⟨_,rfl,?_⟩;have n0_:=Aside0.mk (u1a (g:=gb102) (o:=.cells #[.string ((u1r l0 x16_2).f0),.string ((u1r l0 x16_2).f1)] 111 (0,0)) (by (with_reducible repeat (first | refine u2b ?_ _ | refine u1z ?_ | refine u1k ?_ _));refine blk_put (cs:=#[.string ((u1r l0 x16_2).f0),.string (⟨#[]⟩:ByteArray)]) ?_ 1 _ rfl;(with_reducible repeat (first | refine u2b ?_ _ | refine u1z ?_ | refine u1k ?_ _));refine blk_put (cs:=#[.string (⟨#[]⟩:ByteArray),.string (⟨#[]⟩:ByteArray)]) ?_ 0 _ rfl;(with_reducible repeat (first | refine u2b ?_ _ | refine u1z ?_ | refine u1k ?_ _));exact BK102.out) hb);have n1_:=Aside0.mk (u2k (by repeat (first | (with_reducible first | exact HB.out | apply uj | apply ui | apply ur | refine u1y ?_ GE102.out) | exact HB.out)) hb);clear BK102;clear HB;have BK102:=n0_;have HB:=n1_;clear n0_ n1_;(try clear hb);(try clear hb2);(try clear hk);(try clear hi)))
                 go_ret
                 exact ⟨by first | rfl | (simp [u2i,u2j] <;> rfl) | (simp [*,u2i,u2j] <;> rfl),by repeat (first | (with_reducible first | exact HB.out | apply uj | apply ui | apply ur | refine u1y ?_ GE102.out) | exact HB.out)⟩
             · rw [if_neg c7] at H
               exact absurd H (by simp)
           · rw [if_neg c6] at H
             exact absurd H (by simp)
         · rw [if_neg c5] at H
           have c5b0:decide (x16_2 < (l0.length:Int)) = false:=decide_eq_false c5
           clear c5
           obtain rfl:=Option.some.inj H
           go_wp2
           go_ret
           exact ⟨by first | rfl | (simp [u2i,u2j] <;> rfl) | (simp [*,u2i,u2j] <;> rfl),by repeat (first | (with_reducible first | exact HB.out | apply uj | apply ui | apply ur) | exact HB.out)⟩
end Go.Proofs.YtgnehcgaplnfkaaGreatDoor.PAll
namespace Go.Proofs.YtgnehcgaplnfkaaGreatDoor.Laws
open Go.RowKit Go.Proofs.YtgnehcgaplnfkaaGreatDoor.PAll Go.Proofs.YtgnehcgaplnfkaaGreatDoorW.PrintWords Go.Proofs.YtgnehcgaplnfkaaGreatDoorW.PrintLast
set_option linter.unusedVariables false
set_option linter.unusedSimpArgs false
def okFrom:List UInt8 → List S111 → Bool
 | _,[] => true
 | last,x :: r => Base.nameB x.f0 && Base.valueB x.f1 && Op.bytesLess last x.f0.data.toList && okFrom x.f0.data.toList r
def canB (l:List S111):Bool:=decide (1 ≤ l.length) && decide (l.length ≤ 8) && okFrom [] l
theorem rd_drop (l:List S111) (i:Nat) (x:S111) (r:List S111) (h:l.drop i = x :: r):u1r l (i:Int) = x ∧ i < l.length ∧ l.drop (i + 1) = r:=by
 have hlt:i < l.length:=by
  rcases Nat.lt_or_ge i l.length with h1 | h1
  · exact h1
  · rw [List.drop_eq_nil_of_le h1] at h
    cases h
 rw [List.drop_eq_getElem_cons hlt] at h
 obtain ⟨h1,h2⟩:=List.cons.inj h
 refine ⟨?_,hlt,h2⟩
 rw [← h1]
 simp [u1r,List.getD_eq_getElem?_getD,hlt]
theorem can_l0 (l:List S111) (hl:l.length ≤ 8):∀ (r:List S111) (i:Nat) (last:ByteArray),l.drop i = r →
 Ev (fun k => u1s.l0 k last l (l.length:Int) (i:Int)) (okFrom last.data.toList r):=by
 intro r
 induction r with
 | nil =>
   intro i last h
   have hi:l.length ≤ i:=by
    rcases Nat.lt_or_ge i l.length with h1 | h1
    · rw [List.drop_eq_getElem_cons h1] at h
      cases h
    · exact h1
   refine Ev.step (f:=fun _ => some true) (fun k => ?_) (Ev.now _)
   simp only [u1s.l0]
   rw [if_neg (by omega)]
 | cons x r ih =>
   intro i last h
   obtain ⟨hx,hi,hr⟩:=rd_drop l i x r h
   have hw:wrap64 ((i:Int) + 1) = ((i + 1:Nat):Int):=Base.wrap_nat i (by omega)
   have h1:((i:Int) < (l.length:Int)):=by omega
   have h0:((0:Int) ≤ (i:Int)):=by omega
   cases hn:Base.nameB x.f0 with
   | false =>
     refine Ev.step (f:=fun _ => some false) (fun k => ?_) ?_
     · simp only [u1s.l0]
       rw [if_pos h1,if_pos h0,if_pos h1,hx]
       simp [u2f.f,hn]
     · have:okFrom last.data.toList (x :: r) = false:=by simp [okFrom,hn]
       rw [this]
       exact Ev.now _
   | true =>
     cases hv:Base.valueB x.f1 with
     | false =>
       refine Ev.step (f:=fun _ => some false) (fun k => ?_) ?_
       · simp only [u1s.l0]
         rw [if_pos h1,if_pos h0,if_pos h1,hx]
         simp [u2f.f,u3l.f,hn,hv]
       · have:okFrom last.data.toList (x :: r) = false:=by simp [okFrom,hn,hv]
         rw [this]
         exact Ev.now _
     | true =>
       cases hb:Op.bytesLess last.data.toList x.f0.data.toList with
       | false =>
         refine Ev.step (f:=fun _ => some false) (fun k => ?_) ?_
         · simp only [u1s.l0]
           rw [if_pos h1,if_pos h0,if_pos h1,hx]
           simp [u2f.f,u3l.f,hn,hv,ByteArray.toList_eq,hb]
         · have:okFrom last.data.toList (x :: r) = false:=by simp [okFrom,hn,hv,hb]
           rw [this]
           exact Ev.now _
       | true =>
         have ih2:=ih (i + 1) x.f0 hr
         refine Ev.step (f:=fun k => u1s.l0 k x.f0 l (l.length:Int) ((i + 1:Nat):Int)) (fun k => ?_) ?_
         · simp only [u1s.l0]
           rw [if_pos h1,if_pos h0,if_pos h1,hx,hw]
           simp [u2f.f,u3l.f,hn,hv,ByteArray.toList_eq,hb]
         · have:okFrom last.data.toList (x :: r) = okFrom x.f0.data.toList r:=by simp [okFrom,hn,hv,hb]
           rw [this]
           exact ih2
theorem can_ev (l:List S111):Ev (fun k => u1s.f k l) (canB l):=by
 by_cases h0:l.length = 0
 · have hc:canB l = false:=by simp [canB,h0]
   rw [hc]
   refine Ev.congr (f:=fun k => u1s.j0 k l true) (fun k => ?_) ?_
   · simp only [u1s.f]
     rw [if_pos (by omega)]
   · refine Ev.step (f:=fun _ => some false) (fun k => ?_) (Ev.now _)
     simp only [u1s.j0]
     simp
 · refine Ev.congr (f:=fun k => u1s.j0 k l (decide ((l.length:Int) > 8))) (fun k => ?_) ?_
   · simp only [u1s.f]
     rw [if_neg (by omega)]
   · by_cases h8:l.length ≤ 8
     · have hc:canB l = okFrom [] l:=by
        have h1:1 ≤ l.length:=by omega
        simp [canB,h1,h8]
       rw [hc]
       refine Ev.step (f:=fun k => u1s.l0 k (⟨#[]⟩:ByteArray) l (l.length:Int) 0) (fun k => ?_) (can_l0 l h8 l 0 ⟨#[]⟩ rfl)
       simp only [u1s.j0]
       rw [if_neg (by simp;omega)]
     · have hc:canB l = false:=by simp [canB,h8]
       rw [hc]
       refine Ev.step (f:=fun _ => some false) (fun k => ?_) (Ev.now _)
       simp only [u1s.j0]
       rw [if_pos (by simp;omega)]
theorem nameB_size {s:ByteArray} (h:Base.nameB s = true):1 ≤ s.size ∧ s.size ≤ 24:=by
 simp only [Base.nameB,Bool.and_eq_true,decide_eq_true_eq] at h
 omega
theorem valueB_size {s:ByteArray} (h:Base.valueB s = true):1 ≤ s.size ∧ s.size ≤ 40:=by
 simp only [Base.valueB,Bool.and_eq_true,decide_eq_true_eq] at h
 omega
theorem okFrom_mem:∀ (l:List S111) (last:List UInt8),okFrom last l = true → ∀ x ∈ l,Base.nameB x.f0 = true ∧ Base.valueB x.f1 = true:=by
 intro l
 induction l with
 | nil => intro _ _ x hx;cases hx
 | cons y r ih =>
   intro last h x hx
   simp only [okFrom,Bool.and_eq_true] at h
   rcases List.mem_cons.1 hx with rfl | hx
   · exact ⟨h.1.1.1,h.1.1.2⟩
   · exact ih _ h.2 x hx
end Go.Proofs.YtgnehcgaplnfkaaGreatDoor.Laws
namespace Go.Proofs.YtgnehcgaplnfkaaGreatDoor.Laws
open Go.RowKit Go.Proofs.YtgnehcgaplnfkaaGreatDoor.PAll Go.Proofs.YtgnehcgaplnfkaaGreatDoorW.PrintWords Go.Proofs.YtgnehcgaplnfkaaGreatDoorW.PrintLast
end Go.Proofs.YtgnehcgaplnfkaaGreatDoor.Laws
namespace Go.Proofs.YtgnehcgaplnfkaaGreatDoor.PAll
open Go.RowKit Go.Proofs.YtgnehcgaplnfkaaGreatDoorW.PrintWords Go.Proofs.YtgnehcgaplnfkaaGreatDoorW.PrintLast Go.Proofs.YtgnehcgaplnfkaaGreatDoorW.PrintMore
attribute [local go_sem] u3o u3n u3x u3w u3j u3i u3p u3q
set_option linter.unusedVariables false
set_option linter.unusedSimpArgs false
def us.piece (s:ByteArray):List Int:=(s.size:Int) % 256 :: u3g s
def us.pieces (x:S111):List Int:=us.piece x.f0 ++ us.piece x.f1
def us.enc (l:List S111):List Int:=(l.length:Int) % 256 :: l.flatMap us.pieces
def us.f (k:Nat) (l0:List S111):Option (List Int × Int):=(u1s.f k l0).bind fun b => if b = true then (if (us.enc l0).length ≤ 140737488355328 then some (us.enc l0,0) else none) else some ([],1)
theorem us.info:(Tryz.prog.info? 5).map (fun i => (i.zero,i.size,i.bytes)) = some (some (.int .u8 0),1,1):=by kernel_rfl
theorem us.own_len {w:World} {base n:Nat} {v:Value} {xs ys:List Int} (h:w.ownsRow base 5 1 v n (nums .u8 ys)) (hn:n = xs.length) (hy:ys = xs):Kd.R (Kd.int .u8) 5 w base (fun _ => True) v xs:=by
 subst hn hy
 exact Kd.R_of_own h (fun _ _ => trivial)
theorem us.arr0 (s0 s1:ByteArray) (w:World):(Instr.index 112 (.agg #[.string s0,.string s1]) (.int .i64 0)).run Tryz.prog w = .ok (.string s0) w:=by
 have h:=run_underlying (P:=Tryz.prog) Tryz.underlying112
 simp [Instr.index,h,asIntOf,go_sem]
theorem us.arr1 (s0 s1:ByteArray) (w:World):(Instr.index 112 (.agg #[.string s0,.string s1]) (.int .i64 1)).run Tryz.prog w = .ok (.string s1) w:=by
 have h:=run_underlying (P:=Tryz.prog) Tryz.underlying112
 simp [Instr.index,h,asIntOf,go_sem]
theorem us.take_more (l0:List S111) (x:Nat) (h:x < l0.length):l0.take (x + 1) = l0.take x ++ [u1r l0 x]:=by
 rw [List.take_succ_eq_append_getElem h]
 simp [u1r,List.getD_eq_getElem?_getD,h]
theorem us.enc_len (l0:List S111) (x:Nat) (h:x < l0.length):((l0.length:Int) % 256 :: (l0.take x).flatMap us.pieces).length + 2 + (u1r l0 x).f0.size + (u1r l0 x).f1.size ≤ (us.enc l0).length:=by
 have h1:l0 = l0.take x ++ u1r l0 x :: l0.drop (x + 1):=by
  conv => lhs;rw [← List.take_append_drop x l0,List.drop_eq_getElem_cons h]
  simp [u1r,List.getD_eq_getElem?_getD,h]
 have h2:(l0.flatMap us.pieces).length = ((l0.take x).flatMap us.pieces).length + ((us.pieces (u1r l0 x)).length + ((l0.drop (x + 1)).flatMap us.pieces).length):=by
  conv => lhs;rw [h1]
  rw [List.flatMap_append,List.flatMap_cons,List.length_append,List.length_append]
 simp only [us.enc,List.length_cons]
 rw [h2]
 simp only [us.pieces,us.piece,List.length_append,List.length_cons,u2x]
 omega
set_option maxHeartbeats 8000000 in
set_option maxRecDepth 100000 in
theorem us.calls (k:Nat) (A0:Option Addr) (c0:Nat) (l0:List (S111)) (r1:List Int) (r2:Int) (w:World) (hr0:Kd.C k111 w A0 l0.length l0) (hc0:l0.length ≤ c0) (h:us.f k l0 = some (r1,r2)) :
 Calls Tryz.prog 29 #[.slice A0 l0.length c0] w fun e w' => ∃ v0_:Value,e = .returned (.tuple #[v0_,.int .i64 r2]) ∧ Kd.R (Kd.int .u8) 5 w' w.heap.size (fun _ => True) v0_ r1 ∧ Below w.heap.size w w':=by
 have hm0:=hr0.2.1
 obtain ⟨b,hb,h2⟩:=Option.bind_eq_some_iff.1 h
 have HBc:=Aside0.mk hb
 clear hb h
 have HR0:=Aside0.mk hr0
 have HC0:=Aside0.mk hc0
 clear hr0 hc0
 have hu41:=Tryz.underlying111
 cases b with
 | false =>
   obtain ⟨e1,e2⟩:=Prod.mk.inj (Option.some.inj (by simpa using h2))
   subst e1 e2
   clear h2
   go_enter Tryz.func29,Tryz.ntmps29
   go_wp2_with (go_at_call 34;(with_reducible refine (u1s.calls k _ _ l0 false _ HR0.out HC0.out HBc.out).mono ?_);rintro e w1 ⟨rfl,hb1⟩)
   go_ret2
   exact ⟨_,rfl,Kd.R_nil _ _ _ _ _,hb1⟩
 | true =>
   have h3:(if (us.enc l0).length ≤ 140737488355328 then some (us.enc l0,(0:Int)) else none) = some (r1,r2):=by simpa using h2
   clear h2
   by_cases hlim:(us.enc l0).length ≤ 140737488355328
   · rw [if_pos hlim] at h3
     obtain ⟨e1,e2⟩:=Prod.mk.inj (Option.some.inj h3)
     subst e1 e2
     clear h3
     have HL:=Aside0.mk hlim
     clear hlim
     go_enter Tryz.func29,Tryz.ntmps29
     go_wp2_with (go_at_call 34;(with_reducible refine (u1s.calls k _ _ l0 true _ HR0.out HC0.out HBc.out).mono ?_);rintro e w1 ⟨rfl,hb1⟩)
     have HB:=Aside0.mk hb1
     clear hb1
     have HR1:Aside0 (Kd.R (Kd.int .u8) 5 (w1.alloc (.cells #[.int .u8 ((l0.length:Int) % 256)] 5)) w.heap.size (fun _ => True) (.slice (some ⟨w1.heap.size,0,none⟩) 1 1) [(l0.length:Int) % 256]):=⟨us.own_len (own_lit w1 w.heap.size 5 .u8 [(l0.length:Int) % 256] HB.out.size (by simp)) rfl rfl⟩
     go_loopg [4,18] (l0.length) (fun kq v4 v18 wr => ∃ (x:Nat),x ≤ l0.length ∧ v18 = .int .i64 x ∧ Aside0 (Kd.R (Kd.int .u8) 5 wr w.heap.size (fun _ => True) v4 ((l0.length:Int) % 256 :: (l0.take x).flatMap us.pieces)) ∧ l0.length ≤ kq + x ∧ Aside0 (Below w.heap.size w wr))
     case atStart => exact ⟨0,by omega,rfl,HR1,by omega,⟨uj HB.out _⟩⟩
     case round =>
      obtain ⟨x,hx,rfl,HR,hk,HBx⟩:=hrel
      by_cases hlt:x < l0.length
      · obtain ⟨ad,e,hc0,hc1⟩:=at_T111 HR0.out (x:Int) (by omega) (by omega)
        subst e
        have hd0:wr.cell? (ad.add (x * 2)) = some (.string (u1r l0 x).f0):=(HBx.out.cell (World.block_lt_of_cell? w _ (by simpa using hc0))).trans (by simpa using hc0)
        have hd1:wr.cell? ⟨(ad.add (x * 2)).block,(ad.add (x * 2)).off + 1,none⟩ = some (.string (u1r l0 x).f1):=(HBx.out.cell (World.block_lt_of_cell? w _ (by simpa using hc1))).trans (by simpa using hc1)
        clear hc0 hc1
        obtain ⟨g1,rfl⟩:∃ g1,gk = g1 + 1:=⟨gk - 1,by omega⟩
        obtain ⟨pre,hpre⟩:∃ pre:List Int,pre = (l0.length:Int) % 256 :: (l0.take x).flatMap us.pieces:=⟨_,rfl⟩
        have hnext:Aside0 (pre ++ [((u1r l0 x).f0.size:Int) % 256] ++ u3g (u1r l0 x).f0 ++ [((u1r l0 x).f1.size:Int) % 256] ++ u3g (u1r l0 x).f1 = (l0.length:Int) % 256 :: (l0.take (x + 1)).flatMap us.pieces):=⟨by
         rw [hpre,us.take_more l0 x hlt]
         simp [us.pieces,us.piece]⟩
        have hlen:pre.length + 2 + (u1r l0 x).f0.size + (u1r l0 x).f1.size ≤ 140737488355328:=by
         have h1:=HL.out
         have h2:=us.enc_len l0 x hlt
         rw [hpre]
         omega
        rw [← hpre] at HR
        clear hpre
        generalize (u1r l0 x).f0 = s0 at hd0 hnext hlen
        generalize (u1r l0 x).f1 = s1 at hd1 hnext hlen
        go_wp2
        have HR1:Aside0 (Kd.R (Kd.int .u8) 5 (wr.alloc (.cells #[.string s0,.string s1] 111)) w.heap.size (fun _ => True) u4 pre):=⟨Kd.R_alloc HR.out _⟩
        have HB1:Aside0 (Below w.heap.size w (wr.alloc (.cells #[.string s0,.string s1] 111))):=⟨uj HBx.out _⟩
        clear HR HBx
        obtain ⟨wx,hwx⟩:∃ wx,Aside0 (wr.alloc (.cells #[.string s0,.string s1] 111) = wx):=⟨_,⟨rfl⟩⟩
        rw [hwx.out] at HR1 HB1
        rw [hwx.out]
        refine wp_loop_rounds 3 ?_
        rw [rounds_succ]
        go_wp2
        rw [us.arr0]
        simp only [Result.andThen]
        rw [Oper.upon_value]
        go_wp2_with (at_builtin;refine print_append_num (w0:=w) w.heap.size rfl (.tmp 30) (.tmp 34) 22 5 .u8 1 rfl Tryz.underlying22 us.info (by decide) _ pre ((s0.size:Int) % 256) rfl rfl (by exact Kd.own_of_R HR1.out) (by exact HB1.out) ?_ ?_ ?_)
        · exact HB1.out.size
        · (try simp only [List.length_append,List.length_cons,List.length_nil,u2x])
          omega
        intro v1a w1a hown hBa hga hata
        have HR1a:Aside0 (Kd.R (Kd.int .u8) 5 w1a w.heap.size (fun _ => True) v1a (pre ++ [(s0.size:Int) % 256])):=⟨by
         refine us.own_len hown ?_ ?_
         · first | rfl | (simp only [List.length_append,List.length_cons,List.length_nil,u2x];done) | (simp only [List.length_append,List.length_cons,List.length_nil,u2x];omega) | (simp;omega)
         · first | rfl | simp⟩
        have HB1a:=Aside0.mk hBa
        clear hown hga hata hBa
        go_wp2_with (at_builtin;refine print_append_str (w0:=w) w.heap.size rfl (.tmp 35) (.tmp 36) 22 9 5 rfl Tryz.underlying22 Tryz.underlying9 us.info _ (pre ++ [(s0.size:Int) % 256]) s0 rfl rfl (by exact Kd.own_of_R HR1a.out) (by exact HB1a.out) ?_ ?_ ?_)
        · exact HB1a.out.size
        · (try simp only [List.length_append,List.length_cons,List.length_nil,u2x])
          omega
        intro v1b w1b hown hBa hga
        have HR1b:Aside0 (Kd.R (Kd.int .u8) 5 w1b w.heap.size (fun _ => True) v1b (pre ++ [(s0.size:Int) % 256] ++ u3g s0)):=⟨by
         refine us.own_len hown ?_ ?_
         · first | rfl | (simp only [List.length_append,List.length_cons,List.length_nil,u2x];done) | (simp only [List.length_append,List.length_cons,List.length_nil,u2x];omega) | (simp;omega)
         · first | rfl | simp⟩
        have HB1b:=Aside0.mk hBa
        clear hown hga hBa
        go_wp2
        rw [rounds_succ]
        go_wp2
        rw [us.arr1]
        simp only [Result.andThen]
        rw [Oper.upon_value]
        go_wp2_with (at_builtin;refine print_append_num (w0:=w) w.heap.size rfl (.tmp 30) (.tmp 34) 22 5 .u8 1 rfl Tryz.underlying22 us.info (by decide) _ (pre ++ [(s0.size:Int) % 256] ++ u3g s0) ((s1.size:Int) % 256) rfl rfl (by exact Kd.own_of_R HR1b.out) (by exact HB1b.out) ?_ ?_ ?_)
        · exact HB1b.out.size
        · (try simp only [List.length_append,List.length_cons,List.length_nil,u2x])
          omega
        intro v2a w2a hown hBa hga hata
        have HR2a:Aside0 (Kd.R (Kd.int .u8) 5 w2a w.heap.size (fun _ => True) v2a (pre ++ [(s0.size:Int) % 256] ++ u3g s0 ++ [(s1.size:Int) % 256])):=⟨by
         refine us.own_len hown ?_ ?_
         · first | rfl | (simp only [List.length_append,List.length_cons,List.length_nil,u2x];done) | (simp only [List.length_append,List.length_cons,List.length_nil,u2x];omega) | (simp;omega)
         · first | rfl | simp⟩
        have HB2a:=Aside0.mk hBa
        clear hown hga hata hBa
        go_wp2_with (at_builtin;refine print_append_str (w0:=w) w.heap.size rfl (.tmp 35) (.tmp 36) 22 9 5 rfl Tryz.underlying22 Tryz.underlying9 us.info _ ((pre ++ [(s0.size:Int) % 256] ++ u3g s0) ++ [(s1.size:Int) % 256]) s1 rfl rfl (by exact Kd.own_of_R HR2a.out) (by exact HB2a.out) ?_ ?_ ?_)
        · exact HB2a.out.size
        · (try simp only [List.length_append,List.length_cons,List.length_nil,u2x])
          omega
        intro v2b w2b hown hBa hga
        have HR2b:Aside0 (Kd.R (Kd.int .u8) 5 w2b w.heap.size (fun _ => True) v2b (pre ++ [(s0.size:Int) % 256] ++ u3g s0 ++ [(s1.size:Int) % 256] ++ u3g s1)):=⟨by
         refine us.own_len hown ?_ ?_
         · first | rfl | (simp only [List.length_append,List.length_cons,List.length_nil,u2x];done) | (simp only [List.length_append,List.length_cons,List.length_nil,u2x];omega) | (simp;omega)
         · first | rfl | simp⟩
        have HB2b:=Aside0.mk hBa
        clear hown hga hBa
        go_wp2
        rw [rounds_succ]
        go_wp2
        go_roundg g1
        case rel => exact ⟨x + 1,by omega,by go_num,⟨by rw [← hnext.out];exact HR2b.out⟩,by omega,HB2b⟩
        case measure => omega
      · have hxe:x = l0.length:=by omega
        have hfin:Aside0 ((l0.length:Int) % 256 :: (l0.take x).flatMap us.pieces = us.enc l0):=⟨by rw [hxe,List.take_length];rfl⟩
        go_wp2
        go_ret2
        exact ⟨_,rfl,by rw [← hfin.out];exact HR.out,HBx.out⟩
   · rw [if_neg hlim] at h3
     cases h3
end Go.Proofs.YtgnehcgaplnfkaaGreatDoor.PAll
