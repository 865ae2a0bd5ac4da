/- Texts of this seat, joined in the order in which they build. -/
import Derived.Test.YtmcpeifhapekoaaDoorBo1
import Derived.Deep.Slices
import Derived.ChangeSame
import Derived.WideShapes
import Derived.OpenShut
import Derived.SizedLaws
import Derived.Laws.Cover4
import Derived.Lib.MapLaws
namespace Go.Proofs.YtmcpeifhapekoaaDoor.PAll
open Go.RowKit Go.Proofs.YtmcpeifhapekoaaDoorW.PrintWords Go.Proofs.YtmcpeifhapekoaaDoorW.PrintLast Go.Proofs.YtmcpeifhapekoaaDoorW.PrintMore
attribute [local go_sem] max2_int min2_int max_two min_two max_three min_three max_four min_four
set_option linter.unusedVariables false
set_option linter.unusedSimpArgs false
def u1m.f (a0:ByteArray):Option Bool:=some (Base.nameB a0)
theorem u1m.letter_is (x:Int):labels_letter.f x = some (Base.letterB x):=by
 unfold labels_letter.f Base.letterB
 by_cases h1:x = 95
 · simp [h1]
 · rw [if_neg h1]
   by_cases h2:Go.bits .or .u8 x 32 ≥ 97
   · rw [if_pos h2]
     simp only [ge_iff_le] at h2
     simp [h1,h2]
   · rw [if_neg h2]
     simp only [ge_iff_le] at h2
     simp [h1,h2]
theorem u1m.digit_is (x:Int):labels_digit.f x = some (Base.digitB x):=by
 unfold labels_digit.f Base.digitB
 by_cases h1:x ≥ 48
 · rw [if_pos h1]
   simp only [ge_iff_le] at h1
   simp [h1]
 · rw [if_neg h1]
   simp only [ge_iff_le] at h1
   simp [h1]
def u1m.badB (c:Int):Bool:=!Base.letterB c && !Base.digitB c
set_option maxHeartbeats 400000 in
theorem u1m.test (c:Int) (w:World):Calls Tryd.prog 98 #[.int .u8 c] w fun e w' => e = .returned (.bool (u1m.badB c)) ∧ ux w w':=by
 unfold u1m.badB
 cases hl:Base.letterB c with
 | true =>
   go_enter Tryd.func98,Tryd.ntmps98
   go_wp2_with (go_at_call 97;refine (labels_letter.calls _ _ _ (u1m.letter_is _)).mono ?_;rintro e W1 ⟨rfl,⟨nd,rfl⟩⟩)
   go_ret
   exact ⟨rfl,⟨nd,rfl⟩⟩
 | false =>
   go_enter Tryd.func98,Tryd.ntmps98
   go_wp2_with (first | (go_at_call 97;refine (labels_letter.calls _ _ _ (u1m.letter_is _)).mono ?_;rintro e W1 ⟨rfl,⟨nd,rfl⟩⟩) | (go_at_call 99;refine (labels_digit.calls _ _ _ (u1m.digit_is _)).mono ?_;rintro e W2 ⟨rfl,⟨md,rfl⟩⟩))
   go_ret
   exact ⟨rfl,⟨_,rfl⟩⟩
set_option maxHeartbeats 1000000 in
theorem u1m.index (A:Option Addr) (c:Nat) (l:List Int) (w:World) (hr:Kd.C (Kd.int .u8) w A l.length l) (hm:l.length ≤ 140737488355328) :
 Calls Tryd.prog 101 #[.slice A l.length c,.func (.func 98) #[] #[]] w fun e w' => (∃ i:Int,e = .returned (.int .i64 i) ∧ decide (0 ≤ i) = l.any u1m.badB) ∧ ux w w':=by
 have HR:=Aside0.mk hr
 clear hr
 go_enter Tryd.func101,Tryd.ntmps101
 go_wp2
 go_loopg [8] (l.length) (fun kq v8 w' => ∃ (x:Nat),x ≤ l.length ∧ v8 = .int .i64 x ∧ Aside0 ((l.take x).any u1m.badB = false) ∧ l.length ≤ kq + x ∧ ux w w')
 case atStart => exact ⟨0,by omega,rfl,⟨rfl⟩,by omega,ux.refl _⟩
 case round =>
  obtain ⟨x,hx,rfl,HN,hk,⟨m1,rfl⟩⟩:=hrel
  by_cases hlt:x < l.length
  · obtain ⟨ad,e,hc⟩:=Kd.at_int HR.out (x:Int) (by omega) (by omega)
    subst e
    have hc2:w.cell? (ad.add x) = some (.int .u8 (rd l x)):=by simpa using hc
    clear hc
    have htk:l.take (x + 1) = l.take x ++ [rd l x]:=by
     rw [List.take_succ_eq_append_getElem hlt]
     simp [rd,List.getD_eq_getElem?_getD,hlt]
    have HT:=Aside0.mk htk
    clear htk
    cases hb:u1m.badB (rd l x) with
    | true =>
      go_wp2_with (go_at_call 98;refine (u1m.test _ _).mono ?_;rintro e W1 ⟨rfl,⟨nd,rfl⟩⟩)
      go_ret
      refine ⟨⟨_,rfl,?_⟩,⟨_,rfl⟩⟩
      have h1:l.any u1m.badB = true:=by
       rw [List.any_eq_true]
       refine ⟨rd l x,?_,hb⟩
       have h2:rd l x ∈ l.take (x + 1):=by rw [HT.out];simp
       exact List.mem_of_mem_take h2
      rw [h1]
      simp
    | false =>
      go_wp2_with (go_at_call 98;refine (u1m.test _ _).mono ?_;rintro e W1 ⟨rfl,⟨nd,rfl⟩⟩)
      obtain ⟨g1,rfl⟩:∃ g1,gk = g1 + 1:=⟨gk - 1,by omega⟩
      go_roundg g1
      case rel =>
       refine ⟨x + 1,by omega,by go_num,⟨?_⟩,by omega,⟨_,rfl⟩⟩
       rw [HT.out,List.any_append,HN.out]
       simp [hb]
      case measure => omega
  · go_wp2
    go_ret
    refine ⟨⟨_,rfl,?_⟩,⟨_,rfl⟩⟩
    have h1:=HN.out
    rw [List.take_of_length_le (by omega)] at h1
    rw [h1]
    simp
theorem u1m.contains (A:Option Addr) (c:Nat) (l:List Int) (w:World) (hr:Kd.C (Kd.int .u8) w A l.length l) (hm:l.length ≤ 140737488355328) :
 Calls Tryd.prog 79 #[.slice A l.length c,.func (.func 98) #[] #[]] w fun e w' => e = .returned (.bool (l.any u1m.badB)) ∧ ux w w':=by
 go_enter Tryd.func79,Tryd.ntmps79
 go_wp2_with (go_at_call 101;refine (u1m.index _ _ _ _ hr hm).mono ?_;rintro e W1 ⟨⟨i,rfl,hi⟩,⟨nd,rfl⟩⟩)
 go_ret
 exact ⟨by simp,⟨_,rfl⟩⟩
theorem u1m.contains_n (A:Option Addr) (c n:Nat) (l:List Int) (w:World) (hn:l.length = n) (hr:Kd.C (Kd.int .u8) w A n l) (hm:n ≤ 140737488355328) :
 Calls Tryd.prog 79 #[.slice A n c,.func (.func 98) #[] #[]] w fun e w' => e = .returned (.bool (l.any u1m.badB)) ∧ ux w w':=by
 subst hn
 exact u1m.contains A c l w hr hm
set_option maxHeartbeats 1000000 in
theorem u1m.calls (a0:ByteArray) (r:Bool) (w:World) (h:u1m.f a0 = some r) :
 Calls Tryd.prog 77 #[.string a0] w fun e w' => e = .returned (.bool r) ∧ Below w.heap.size w w':=by
 obtain rfl:Base.nameB a0 = r:=by simpa [u1m.f] using h
 clear h
 by_cases h0:a0.size = 0
 · have he:a0.toList = []:=(Base.toList_nil a0).2 h0
   have hv:Aside0 (Base.nameB a0 = false):=⟨by simp [Base.nameB,h0]⟩
   have hi:a0.toList.isEmpty = true:=by rw [he];rfl
   clear he h0
   go_enter Tryd.func77,Tryd.ntmps77
   go_wp2
   go_ret
   exact ⟨by rw [hv.out];rfl,Below.refl _ _⟩
 · have he:a0.toList.isEmpty = false:=by
    cases hl:a0.toList with
    | nil => exact absurd ((Base.toList_nil a0).1 hl) h0
    | cons _ _ => rfl
   have hen:¬ a0.toList = []:=by intro hl;rw [hl] at he;simp at he
   by_cases h24:a0.size ≤ 24
   · have hp:0 < a0.size:=by omega
     have hbt:((a0[0]'hp).toNat:Int) = bt a0 0:=by simpa using bt_at a0 0 (by simpa using hp)
     have hh:(bytesOf a0).headD 0 = bt a0 0:=by
      rw [← rd_bytesOf]
      cases bytesOf a0 <;> rfl
     have HH:=Aside0.mk hh
     clear hh
     cases hl:Base.letterB (bt a0 0) with
     | false =>
       have hv:Aside0 (Base.nameB a0 = false):=⟨by unfold Base.nameB;rw [HH.out,hl];simp⟩
       go_enter Tryd.func77,Tryd.ntmps77
       go_wp2_with (go_at_call 97;refine (labels_letter.calls _ _ _ (u1m.letter_is _)).mono ?_;rintro e W1 ⟨rfl,⟨nd,rfl⟩⟩)
       go_ret
       exact ⟨by rw [hv.out];rfl,ub (Below.refl _ _) nd⟩
     | true =>
       have kb:=fun W => print_bytes (P:=Tryd.prog) 9 42 5 Tryd.underlying9 Tryd.underlying42 Tryd.underlying5 a0 W
       have hv:Aside0 (Base.nameB a0 = !(bytesOf a0).any u1m.badB):=⟨by
        have h1:(bytesOf a0).all (fun c => Base.letterB c || Base.digitB c) = !(bytesOf a0).any u1m.badB:=by
         rw [List.all_eq_not_any_not]
         congr 2
         funext c
         simp [u1m.badB]
        unfold Base.nameB
        rw [HH.out,hl,h1]
        simp [hp,h24]⟩
       go_enter Tryd.func77,Tryd.ntmps77
       go_wp2_with (go_at_call 97;refine (labels_letter.calls _ _ _ (u1m.letter_is _)).mono ?_;rintro e W1 ⟨rfl,⟨nd,rfl⟩⟩)
       have hr:=bytes_reads (w.drewN nd) 5 a0 (by omega)
       have hc:Kd.C (Kd.int .u8) (Lib.bytesWorld (w.drewN nd) 5 a0) (some ⟨w.heap.size,0,none⟩) a0.size (bytesOf a0):=Kd.C_of_reads (d:=(0:Int)) (h1:=fun _ => rfl) hr
       refine (u1m.contains_n _ _ _ _ _ (bytesOf_length a0) hc (by omega)).mono ?_
       rintro e W2 ⟨rfl,⟨md,rfl⟩⟩
       clear hr hc
       go_wp2
       go_ret
       exact ⟨by rw [hv.out];rfl,ub (bytes_below (ub (Below.refl _ _) nd) (by simp) _ _) md⟩
   · have hv:Aside0 (Base.nameB a0 = false):=⟨by simp [Base.nameB,h24]⟩
     go_enter Tryd.func77,Tryd.ntmps77
     go_wp2
     go_ret
     exact ⟨by rw [hv.out];rfl,Below.refl _ _⟩
end Go.Proofs.YtmcpeifhapekoaaDoor.PAll
namespace Go.Proofs.YtmcpeifhapekoaaDoor.Opens
open Go.Deep Go.Proofs.YtmcpeifhapekoaaDoor.PAll Go.Proofs.YtmcpeifhapekoaaDoorW.PrintWords Go.Proofs.YtmcpeifhapekoaaDoorW.PrintLast Go.ChangeShapes
set_option linter.unusedVariables false
def Opens {α:Type} (P:Program) (t:TypeId) (d:Kd α) (Q:α → Prop):Prop :=
 ∀ (H:Type) (enc:TypeId × Value → H) (w:World) (fuel:Nat) (cs:List Value) (x:DataW H × List MemPlace),
   DataW.trod enc P w 0 (fun _ => true) true fuel t cs = some x → (∀ n ∈ x.1.weights P t,n ≤ reachBytes) → ∃ v,d.K w v cs ∧ Q v
theorem opens_string {P:Program} {t:TypeId} (ht:P.underlying t = some .string):Opens P t Kd.string (fun s => s.size ≤ 140737488351232):=by
 intro H enc w fuel cs x h hz
 obtain ⟨s,rfl,rfl,hs⟩:=DataW.trod_string ht h
 refine ⟨s,rfl,?_⟩
 have:=hz s.data.toList.length (by simp [DataW.weights])
 rwa [u2h] at this
theorem opens_iso {α β:Type} {P:Program} {t:TypeId} {d:Kd α} {Q:α → Prop} (f:β → α) (g:α → β) (hg:∀ a,f (g a) = a) (hd:Opens P t d Q):Opens P t (Kd.iso d f) (fun x => Q (f x)):=by
 intro H enc w fuel cs x h hz
 obtain ⟨v,h1,h2⟩:=hd H enc w fuel cs x h hz
 exact ⟨g v,by show d.K w (f (g v)) cs;rw [hg];exact h1,by show Q (f (g v));rw [hg];exact h2⟩
def OpensF {α:Type} (P:Program) (fs:List Field) (o:Nat) (d:Kd α) (Q:α → Prop):Prop :=
 ∀ (H:Type) (enc:TypeId × Value → H) (w:World) (fuel:Nat) (cs:List Value) (ys:List (DataW H × List MemPlace)),
   cs.length = o + d.sz → ys.length = fs.length → (∀ (i:Nat) (f:Field),fs[i]? = some f → DataW.trod enc P w 0 (fun _ => true) true fuel f.type ((cs.drop f.offset).take (P.cellsOf f.type)) = ys[i]?) →
   (∀ n ∈ DataW.weightsEach P (fs.map (·.type)) (ys.map (·.1)),n ≤ reachBytes) → ∃ v,d.K w v (cs.drop o) ∧ Q v
theorem opensF_one {α:Type} {P:Program} {f:Field} {o:Nat} {d:Kd α} {Q:α → Prop} (hd:Opens P f.type d Q) (ho:f.offset = o) (hc:P.cellsOf f.type = d.sz):OpensF P [f] o d Q:=by
 intro H enc w fuel cs ys hl hy h hz
 match ys,hy with
 | [y],_ =>
   have h0:=h 0 f rfl
   simp only [List.getElem?_cons_zero] at h0
   rw [ho,hc,List.take_of_length_le (by rw [List.length_drop];omega)] at h0
   exact hd H enc w fuel _ y h0 (fun n hn => hz n (by simp [DataW.weightsEach,hn]))
theorem opensF_cons {α β:Type} {P:Program} {f:Field} {fs:List Field} {o:Nat} {d0:Kd α} {d1:Kd β} {Q0:α → Prop} {Q1:β → Prop} (h0:Opens P f.type d0 Q0) (h1:OpensF P fs (o + d0.sz) d1 Q1) (ho:f.offset = o) (hc:P.cellsOf f.type = d0.sz) :
 OpensF P (f :: fs) o (Kd.pair d0 d1) (fun p => Q0 p.1 ∧ Q1 p.2):=by
 intro H enc w fuel cs ys hl hy h hz
 have hsz:(Kd.pair d0 d1).sz = d0.sz + d1.sz:=rfl
 rw [hsz] at hl
 match ys,hy with
 | y :: ys,hy =>
   have g0:=h 0 f rfl
   simp only [List.getElem?_cons_zero] at g0
   rw [ho,hc] at g0
   obtain ⟨v0,k0,q0⟩:=h0 H enc w fuel _ y g0 (fun n hn => hz n (by simp [DataW.weightsEach,hn]))
   obtain ⟨v1,k1,q1⟩:=h1 H enc w fuel cs ys (by omega) (by simpa using hy) (fun i g hg => by
    have:=h (i + 1) g (by simpa using hg)
    simpa using this) (fun n hn => hz n (by simp only [List.map_cons,DataW.weightsEach,List.mem_append];exact Or.inr hn))
   refine ⟨(v0,v1),⟨_,_,?_,k0,k1⟩,q0,q1⟩
   rw [← List.drop_drop,List.take_append_drop]
theorem opens_struct {α:Type} {P:Program} {t:TypeId} {fs:List Field} {d:Kd α} {Q:α → Prop} (ht:P.underlying t = some (.struct fs.toArray)) (h:OpensF P fs 0 d Q) (hc:P.cellsOf t = d.sz):Opens P t d Q:=by
 intro H enc w fuel cs x hx hz
 obtain ⟨xs,n,_,rfl,hl,hlen,hf⟩:=DataW.trod_struct ht hx
 have h2:=h H enc w n cs xs (by omega) (by simpa using hlen) (fun i f hi => hf i f (by simpa using hi)) (fun m hm => hz m (by simp only [DataW.weights,ht];simpa using hm))
 simpa using h2
theorem weightsAll_mem {H:Type} {P:Program} {e:TypeId}:∀ {l:List (DataW H)} {d:DataW H},d ∈ l → ∀ n ∈ d.weights P e,n ∈ DataW.weightsAll P e l
 | a :: l,d,hd,n,hn => by
   simp only [DataW.weightsAll,List.mem_append]
   rcases List.mem_cons.1 hd with rfl | hd
   · exact Or.inl hn
   · exact Or.inr (weightsAll_mem hd n hn)
theorem opens_slice_at {α:Type} [Inhabited α] {P:Program} {t e:TypeId} {d:Kd α} {Q:α → Prop} {B:Nat} (hd:Opens P e d Q) (ht:P.underlying t = some (.slice e)) (hsz:P.cellsOf e = d.sz) (hB:P.bytesOf e = B)
 {H:Type} {enc:TypeId × Value → H} {w:World} {fuel:Nat} {cs:List Value} {x:DataW H × List MemPlace} (h:DataW.trod enc P w 0 (fun _ => true) true fuel t cs = some x) (hz:∀ n ∈ x.1.weights P t,n ≤ reachBytes) :
 ∃ (A:Option Addr) (c:Nat) (xs:List α),cs = [.slice A xs.length c] ∧ xs.length ≤ c ∧ c ≤ maxLen ∧ d.C w A xs.length xs ∧ xs.length * B ≤ 140737488351232 ∧ ∀ y ∈ xs,Q y:=by
 rcases open_slice ht h with ⟨rfl,_⟩ | ⟨a,len,cap,m,n,D,Pl,rfl,hb,hl,hm,hme,hx,hel⟩
 · exact ⟨none,0,[],rfl,Nat.le_refl _,Nat.zero_le _,⟨rfl,Nat.zero_le _,fun h => absurd h (by simp)⟩,by simp,fun y hy => by cases hy⟩
 · have hlm:len ≤ m:=by
    rw [hme]
    simp
    exact hl
   subst hx
   simp only [DataW.weights,ht] at hz
   obtain ⟨V,hV⟩:=choose_lt (α:=α) (n:=len) (p:=fun i v => Q v ∧ ∃ cs',w.cells? 0 (a.add (i * P.cellsOf e)) (P.cellsOf e) = some cs' ∧ d.K w v cs') (fun i hi => by
    obtain ⟨cs',h1,h2⟩:=hel i (by omega)
    obtain ⟨v,hv,hq⟩:=hd _ _ _ _ _ _ h2 (fun k hk => hz k (List.mem_cons_of_mem _ (List.mem_append_left _ (weightsAll_mem (List.mem_map.2 ⟨i,List.mem_range.2 hi,rfl⟩) k hk))))
    exact ⟨v,hq,cs',h1,hv⟩)
   have hlen:((List.range len).map V).length = len:=by simp
   have hbulk:len * B ≤ 140737488351232:=by
    have h9:=hz _ (List.mem_cons_self ..)
    rw [hB] at h9
    have h8:len ≤ ((List.range len).map D).length + ((List.range (m - len)).map fun j => D (len + j)).length:=by simp
    exact Nat.le_trans (Nat.mul_le_mul_right _ h8) h9
   refine ⟨some a,cap,(List.range len).map V,by rw [hlen],by rw [hlen];exact hl,hm,?_,by rw [hlen];exact hbulk,?_⟩
   · refine ⟨rfl,by rw [hlen];have:maxLen ≤ 9223372036854775807:=by decide
                    omega,fun _ => ⟨a,rfl,fun j p hp => ?_⟩⟩
     have hj:j < len:=by
      have:=(List.getElem?_eq_some_iff.1 hp).1
      omega
     simp [hj] at hp
     subst hp
     obtain ⟨_,cs',h1,h2⟩:=hV j hj
     obtain ⟨_,hl',hc⟩:=World.cells?_some h1
     refine ⟨cs',by rw [hl',hsz],h2,fun i u hu => ?_⟩
     have hi:i < P.cellsOf e:=by
      have:=(List.getElem?_eq_some_iff.1 hu).1
      omega
     have e2:=hc i hi
     rw [hu] at e2
     rw [← e2,← hsz,Go.Deep.add_add]
   · intro y hy
     simp only [List.mem_map,List.mem_range] at hy
     obtain ⟨i,hi,rfl⟩:=hy
     exact (hV i hi).1
theorem open_slice_arg {α:Type} [Inhabited α] {P:Program} {t e:TypeId} {d:Kd α} {Q:α → Prop} {B:Nat} (hd:Opens P e d Q) (ht:P.underlying t = some (.slice e)) (hsz:P.cellsOf e = d.sz) (hB:P.bytesOf e = B)
 {H:Type} {enc:TypeId × Value → H} {W w:World} {r:Reach} {b0:Nat} {v:Value} {x:DataW H} {p:List MemPlace} {ts:List TypeId} {ds:List (DataW H)} {j:Nat}
 (hsized:(DataW.weightsEach P ts ds).all (· ≤ reachBytes) = true) (hj:ts[j]? = some t) (hx:ds[j]? = some x) (hval:Value.okWide P W r b0 t v) (h:DataW.Trod enc P w 0 (fun _ => true) true t v x p) :
 ∃ (A:Option Addr) (c:Nat) (xs:List α),v = .slice A xs.length c ∧ xs.length ≤ c ∧ c ≤ maxLen ∧ d.C w A xs.length xs ∧ xs.length * B ≤ 140737488351232 ∧ ∀ y ∈ xs,Q y:=by
 obtain ⟨a,len,cap,rfl⟩:=Go.WideShapes.okWide_slice ht hval
 obtain ⟨fuel,h⟩:=h
 obtain ⟨A,c,xs,e,h1,h2,h3,h4,h5⟩:=opens_slice_at hd ht hsz hB h (fun n hn => by
  have h9:=List.all_eq_true.1 hsized n (DataW.weights_mem_each hj hx n hn)
  simpa using h9)
 injection e with e
 exact ⟨A,c,xs,e,h1,h2,h3,h4,h5⟩
instance:Inhabited S37:=⟨z37⟩
theorem opens_label:Opens Tryd.prog 37 k37 (fun x => x.f0.size ≤ 140737488351232 ∧ x.f1.size ≤ 140737488351232) :=
 opens_iso (d:=Kd.pair Kd.string Kd.string) (fun x:S37 => (x.f0,x.f1)) (fun p => ⟨p.1,p.2⟩) (fun _ => rfl)
  (opens_struct Tryd.underlying37 (opensF_cons (opens_string Tryd.underlying9) (opensF_one (opens_string Tryd.underlying9) rfl (by kernel_rfl)) rfl (by kernel_rfl)) (by kernel_rfl))
end Go.Proofs.YtmcpeifhapekoaaDoor.Opens
namespace Go.Proofs.YtmcpeifhapekoaaDoor.PAll
open Go.RowKit Go.Proofs.YtmcpeifhapekoaaDoorW.PrintWords Go.Proofs.YtmcpeifhapekoaaDoorW.PrintLast Go.Proofs.YtmcpeifhapekoaaDoorW.PrintMore
attribute [local go_sem] max2_int min2_int max_two min_two max_three min_three max_four min_four
set_option linter.unusedVariables false
set_option linter.unusedSimpArgs false
attribute [local go_sem high] eqA37
def u2j.l0:Nat → List (S37) → List (S37) → Int → Int → Option (Bool)
 | 0,_,_,_,_ => none
 | k + 1,x0,x1,x12,x13 => if x13 < x12 then (if 0 ≤ x13 then (if x13 < (x0.length:Int) then (if x13 < (x1.length:Int) then (if (!((((uq x0 x13).f0).toList) == (((uq x1 x13).f0).toList)) || (!((((uq x0 x13).f1).toList) == (((uq x1 x13).f1).toList)))) = true then (some false) else (u2j.l0 k x0 x1 x12 (wrap64 (x13 + 1)))) else (none)) else (none)) else (none)) else (some true)
def u2j.f (k:Nat) (l0:List (S37)) (l1:List (S37)):Option (Bool):=if (l0.length:Int) = (l1.length:Int) then (u2j.l0 k l0 l1 (l0.length:Int) 0) else (some false)
set_option maxHeartbeats 8000000 in
set_option maxRecDepth 100000 in
theorem u2j.calls (k:Nat) (A0:Option Addr) (c0:Nat) (l0:List (S37)) (A1:Option Addr) (c1:Nat) (l1:List (S37)) (r:Bool) (w:World) (hr0:Kd.C k37 w A0 l0.length l0) (hc0:l0.length ≤ c0) (hr1:Kd.C k37 w A1 l1.length l1) (hc1:l1.length ≤ c1) (h:u2j.f k l0 l1 = some r) :
 Calls Tryd.prog 27 #[.slice A0 l0.length c0,.slice A1 l1.length c1] w fun e w' => e = .returned (.bool r) ∧ ux w w':=by
 have hu37:=Tryd.underlying37
 have HR0:=Aside0.mk hr0
 have HC0:=Aside0.mk hc0
 clear hr0 hc0
 have HR1:=Aside0.mk hr1
 have HC1:=Aside0.mk hc1
 clear hr1 hc1
 have H:(if (l0.length:Int) = (l1.length:Int) then (u2j.l0 k l0 l1 (l0.length:Int) 0) else (some false)) = some r:=h
 clear h
 by_cases c3:(l0.length:Int) = (l1.length:Int)
 · rw [if_pos c3] at H
   have c3b0:((l0.length:Int) == (l1.length:Int)) = true:=beq_iff_eq.mpr c3
   have c3b1:((l0.length:Int) != (l1.length:Int)) = false:=bne_eq_false_iff_eq.mpr c3
   have c3b2:(l0.length == l1.length) = true:=by first | simpa using c3 | (simp at c3 ⊢;omega)
   clear c3
   have H':=Aside0.mk H
   clear H
   go_enter Tryd.func27,Tryd.ntmps27
   go_wp2
   repeat (go_quiet (fail);try go_wp2)
   go_loopg [13] k (fun kq v13 w' => ∃ (x13_1:Int),v13 = .int .i64 x13_1 ∧ Aside0 (u2j.l0 kq l0 l1 (l0.length:Int) x13_1 = some r) ∧ Aside0 (kq ≤ k) ∧ ux w w')
   case atStart => exact ⟨(0),(by first | rfl | (simp;done) | (simp [*];done)),H',⟨Nat.le_refl _⟩,by repeat (first | exact ux.refl _ | apply ux.step)⟩
   case round =>
    clear H'
    try clear c1
    try clear c2
    try clear p2
    try clear c3
    try clear c3b0
    try clear c3b1
    try clear c3b2
    obtain ⟨x13_1,rfl,HA,HK1,⟨m1,rfl⟩⟩:=hrel
    cases gk with
    | zero => exact absurd HA.out (by simp [u2j.l0])
    | succ k1 =>
      have H:=HA.out
      clear HA
      simp only [u2j.l0] at H
      by_cases c4:x13_1 < (l0.length:Int)
      · rw [if_pos c4] at H
        have c4b0:decide (x13_1 < (l0.length:Int)) = true:=decide_eq_true c4
        clear c4
        by_cases c5:0 ≤ x13_1
        · rw [if_pos c5] at H
          have c5b0:decide (0 ≤ x13_1) = true:=decide_eq_true c5
          clear c5
          by_cases c6:x13_1 < (l0.length:Int)
          · rw [if_pos c6] at H
            have c6b0:decide (x13_1 < (l0.length:Int)) = true:=decide_eq_true c6
            clear c6
            by_cases c7:x13_1 < (l1.length:Int)
            · rw [if_pos c7] at H
              have c7b0:decide (x13_1 < (l1.length:Int)) = true:=decide_eq_true c7
              clear c7
              by_cases c8:(!((((uq l0 x13_1).f0).toList) == (((uq l1 x13_1).f0).toList)) || (!((((uq l0 x13_1).f1).toList) == (((uq l1 x13_1).f1).toList)))) = true
              · rw [if_pos c8] at H
                have c8b0:(!((((uq l0 x13_1).f0).toList) == (((uq l1 x13_1).f0).toList)) || (!((((uq l0 x13_1).f1).toList) == (((uq l1 x13_1).f1).toList)))) = true:=c8
                clear c8
                obtain rfl:=Option.some.inj H
                have p250:0 ≤ (x13_1:Int):=of_decide_eq_true (by first | (with_reducible assumption) | assumption)
                have q250:x13_1 < (l0.length:Int):=of_decide_eq_true (by first | (with_reducible assumption) | assumption)
                obtain ⟨ad250,e250,hx250_0,hx250_1⟩:=at_T37 HR0.out x13_1 p250 q250
                cases e250
                replace p250:=eq_true p250
                replace q250:=eq_true q250
                have p251:0 ≤ (x13_1:Int):=of_decide_eq_true (by first | (with_reducible assumption) | assumption)
                have q251:x13_1 < (l1.length:Int):=of_decide_eq_true (by first | (with_reducible assumption) | assumption)
                obtain ⟨ad251,e251,hx251_0,hx251_1⟩:=at_T37 HR1.out x13_1 p251 q251
                cases e251
                replace p251:=eq_true p251
                replace q251:=eq_true q251
                go_wp2
                repeat (go_quiet (fail);try go_wp2)
                go_ret
                exact ⟨by first | rfl | (simp;done) | (simp [*];done),by repeat (first | exact ux.refl _ | apply ux.step)⟩
              · rw [if_neg c8] at H
                have c8b0:(!((((uq l0 x13_1).f0).toList) == (((uq l1 x13_1).f0).toList)) || (!((((uq l0 x13_1).f1).toList) == (((uq l1 x13_1).f1).toList)))) = false:=by simpa using c8
                clear c8
                have H':=Aside0.mk H
                clear H
                have p250:0 ≤ (x13_1:Int):=of_decide_eq_true (by first | (with_reducible assumption) | assumption)
                have q250:x13_1 < (l0.length:Int):=of_decide_eq_true (by first | (with_reducible assumption) | assumption)
                obtain ⟨ad250,e250,hx250_0,hx250_1⟩:=at_T37 HR0.out x13_1 p250 q250
                cases e250
                replace p250:=eq_true p250
                replace q250:=eq_true q250
                have p251:0 ≤ (x13_1:Int):=of_decide_eq_true (by first | (with_reducible assumption) | assumption)
                have q251:x13_1 < (l1.length:Int):=of_decide_eq_true (by first | (with_reducible assumption) | assumption)
                obtain ⟨ad251,e251,hx251_0,hx251_1⟩:=at_T37 HR1.out x13_1 p251 q251
                cases e251
                replace p251:=eq_true p251
                replace q251:=eq_true q251
                go_wp2
                repeat (go_quiet (fail);try go_wp2)
                go_roundg k1
                case measure => have:=HK1.out;omega
                case rel => exact ⟨(wrap64 (x13_1 + 1)),(by first | rfl | (simp;done) | (simp [*];done)),H',⟨by have:=HK1.out;omega⟩,by repeat (first | exact ux.refl _ | apply ux.step)⟩
            · rw [if_neg c7] at H
              exact absurd H (by simp)
          · rw [if_neg c6] at H
            exact absurd H (by simp)
        · rw [if_neg c5] at H
          exact absurd H (by simp)
      · rw [if_neg c4] at H
        have c4b0:decide (x13_1 < (l0.length:Int)) = false:=decide_eq_false c4
        clear c4
        obtain rfl:=Option.some.inj H
        go_wp2
        repeat (go_quiet (fail);try go_wp2)
        go_ret
        exact ⟨by first | rfl | (simp;done) | (simp [*];done),by repeat (first | exact ux.refl _ | apply ux.step)⟩
 · rw [if_neg c3] at H
   have c3b0:((l0.length:Int) == (l1.length:Int)) = false:=beq_eq_false_iff_ne.mpr c3
   have c3b1:((l0.length:Int) != (l1.length:Int)) = true:=bne_iff_ne.mpr c3
   have c3b2:(l0.length == l1.length) = false:=by first | simpa using c3 | (simp at c3 ⊢;omega)
   obtain rfl:=Option.some.inj H
   go_enter Tryd.func27,Tryd.ntmps27
   go_wp2
   repeat (go_quiet (fail);try go_wp2)
   go_ret
   exact ⟨by first | rfl | (simp;done) | (simp [*];done),by repeat (first | exact ux.refl _ | apply ux.step)⟩
end Go.Proofs.YtmcpeifhapekoaaDoor.PAll
namespace Go.Proofs.YtmcpeifhapekoaaDoor.PAll
open Go.RowKit Go.Proofs.YtmcpeifhapekoaaDoorW.PrintWords Go.Proofs.YtmcpeifhapekoaaDoorW.PrintLast Go.Proofs.YtmcpeifhapekoaaDoorW.PrintMore
attribute [local go_sem] max2_int min2_int max_two min_two max_three min_three max_four min_four
set_option linter.unusedVariables false
set_option linter.unusedSimpArgs false
def u1r.l0:Nat → Int → ByteArray → Option (ByteArray)
 | 0,_,_ => none
 | k + 1,x0,x3 => if x0 ≥ 10 then (if 0 ≤ (Int.tmod x0 10) then (if (Int.tmod x0 10) ≤ (IntKind.u64.wrap ((Int.tmod x0 10) + 1)) then (if (IntKind.u64.wrap ((Int.tmod x0 10) + 1)) ≤ 10 then (if ((⟨#[48,49,50,51,52,53,54,55,56,57]⟩:ByteArray).extract ((Int.tmod x0 10):Int).toNat ((IntKind.u64.wrap ((Int.tmod x0 10) + 1)):Int).toNat).size + x3.size ≤ 9223372036854775807 then (u1r.l0 k (IntKind.u64.wrap (Int.tdiv x0 10)) (((⟨#[48,49,50,51,52,53,54,55,56,57]⟩:ByteArray).extract ((Int.tmod x0 10):Int).toNat ((IntKind.u64.wrap ((Int.tmod x0 10) + 1)):Int).toNat) ++ x3)) else (none)) else (none)) else (none)) else (none)) else (if 0 ≤ x0 then (if x0 ≤ (IntKind.u64.wrap (x0 + 1)) then (if (IntKind.u64.wrap (x0 + 1)) ≤ 10 then (if ((⟨#[48,49,50,51,52,53,54,55,56,57]⟩:ByteArray).extract (x0:Int).toNat ((IntKind.u64.wrap (x0 + 1)):Int).toNat).size + x3.size ≤ 9223372036854775807 then (some (((⟨#[48,49,50,51,52,53,54,55,56,57]⟩:ByteArray).extract (x0:Int).toNat ((IntKind.u64.wrap (x0 + 1)):Int).toNat) ++ x3)) else (none)) else (none)) else (none)) else (none))
def u1r.f (k:Nat) (a0:Int):Option (ByteArray):=u1r.l0 k a0 (⟨#[]⟩:ByteArray)
set_option maxHeartbeats 8000000 in
set_option maxRecDepth 100000 in
theorem u1r.calls (k:Nat) (a0:Int) (r:ByteArray) (w:World) (h:u1r.f k a0 = some r) :
 Calls Tryd.prog 20 #[.int .u64 a0] w fun e w' => e = .returned (.string r) ∧ ux w w':=by
 have H:(u1r.l0 k a0 (⟨#[]⟩:ByteArray)) = some r:=h
 clear h
 have H':=Aside0.mk H
 clear H
 go_enter Tryd.func20,Tryd.ntmps20
 go_wp2
 go_loopg [0,3] k (fun kq v0 v3 w' => ∃ (x0_1:Int) (x3_1:ByteArray),v0 = .int .u64 x0_1 ∧ v3 = .string x3_1 ∧ Aside0 (u1r.l0 kq x0_1 x3_1 = some r) ∧ Aside0 (kq ≤ k) ∧ ux w w')
 case atStart => exact ⟨(a0),((⟨#[]⟩:ByteArray)),(by first | rfl | (simp;done) | (simp [*];done)),(by first | rfl | (simp;done) | (simp [*];done)),H',⟨Nat.le_refl _⟩,by repeat (first | exact ux.refl _ | apply ux.step)⟩
 case round =>
  clear H'
  obtain ⟨x0_1,x3_1,rfl,rfl,HA,HK1,⟨m1,rfl⟩⟩:=hrel
  cases gk with
  | zero => exact absurd HA.out (by simp [u1r.l0])
  | succ k1 =>
    have H:=HA.out
    clear HA
    simp only [u1r.l0] at H
    by_cases c2:x0_1 ≥ 10
    · rw [if_pos c2] at H
      have c2b0:decide (10 ≤ x0_1) = true:=decide_eq_true c2
      clear c2
      obtain ⟨ji3,hji3⟩:∃ j_:Int,(Int.tmod x0_1 10) = j_:=⟨_,rfl⟩
      replace H:(if 0 ≤ (ji3) then (if (ji3) ≤ (IntKind.u64.wrap ((ji3) + 1)) then (if (IntKind.u64.wrap ((ji3) + 1)) ≤ 10 then (if ((⟨#[48,49,50,51,52,53,54,55,56,57]⟩:ByteArray).extract ((ji3):Int).toNat ((IntKind.u64.wrap ((ji3) + 1)):Int).toNat).size + x3_1.size ≤ 9223372036854775807 then (u1r.l0 k1 (IntKind.u64.wrap (Int.tdiv x0_1 10)) (((⟨#[48,49,50,51,52,53,54,55,56,57]⟩:ByteArray).extract ((ji3):Int).toNat ((IntKind.u64.wrap ((ji3) + 1)):Int).toNat) ++ x3_1)) else (none)) else (none)) else (none)) else (none)) = some r:=by first | (rw [hji3] at H;exact H) | (simp only [hji3] at H ⊢;exact H)
      by_cases c4:0 ≤ (ji3)
      · rw [if_pos c4] at H
        have c4b0:=eq_true c4
        have c4b1:decide (0 ≤ (ji3)) = true:=decide_eq_true c4
        clear c4
        by_cases c5:(ji3) ≤ (IntKind.u64.wrap ((ji3) + 1))
        · rw [if_pos c5] at H
          have c5b0:=eq_true c5
          have c5b1:decide ((ji3) ≤ (IntKind.u64.wrap ((ji3) + 1))) = true:=decide_eq_true c5
          by_cases c6:(IntKind.u64.wrap ((ji3) + 1)) ≤ 10
          · rw [if_pos c6] at H
            have c6b0:=eq_true c6
            have c6b1:decide ((IntKind.u64.wrap ((ji3) + 1)) ≤ 10) = true:=decide_eq_true c6
            by_cases c7:((⟨#[48,49,50,51,52,53,54,55,56,57]⟩:ByteArray).extract ((ji3):Int).toNat ((IntKind.u64.wrap ((ji3) + 1)):Int).toNat).size + x3_1.size ≤ 9223372036854775807
            · rw [if_pos c7] at H
              have c7b0:=eq_true c7
              have c7b1:decide (((⟨#[48,49,50,51,52,53,54,55,56,57]⟩:ByteArray).extract ((ji3):Int).toNat ((IntKind.u64.wrap ((ji3) + 1)):Int).toNat).size + x3_1.size ≤ 9223372036854775807) = true:=decide_eq_true c7
              try have c7b2:(9223372036854775807 < ((⟨#[48,49,50,51,52,53,54,55,56,57]⟩:ByteArray).extract ((ji3):Int).toNat ((IntKind.u64.wrap ((ji3) + 1)):Int).toNat).size + x3_1.size) = False:=eq_false (Nat.not_lt.2 c7)
              try (have c7b3:=c7b2;simp only [ByteArray.size_append,Base.size1,(show ∀ a_ b_:UInt8,(⟨#[a_,b_]⟩:ByteArray).size = 2 from fun _ _ => rfl)] at c7b3)
              have H':=Aside0.mk H
              clear H
              go_wp2
              go_roundg k1
              case measure => have:=HK1.out;omega
              case rel => exact ⟨(IntKind.u64.wrap (Int.tdiv x0_1 10)),(((⟨#[48,49,50,51,52,53,54,55,56,57]⟩:ByteArray).extract ((ji3):Int).toNat ((IntKind.u64.wrap ((ji3) + 1)):Int).toNat) ++ x3_1),(by first | rfl | (simp;done) | (simp [*];done)),(by first | rfl | (simp;done) | (simp only [← hji3] <;> (first | rfl | simp)) | (simp [*];done)),H',⟨by have:=HK1.out;omega⟩,by repeat (first | exact ux.refl _ | apply ux.step)⟩
            · rw [if_neg c7] at H
              exact absurd H (by simp)
          · rw [if_neg c6] at H
            exact absurd H (by simp)
        · rw [if_neg c5] at H
          exact absurd H (by simp)
      · rw [if_neg c4] at H
        exact absurd H (by simp)
    · rw [if_neg c2] at H
      have c2b0:decide (10 ≤ x0_1) = false:=decide_eq_false c2
      clear c2
      by_cases c8:0 ≤ x0_1
      · rw [if_pos c8] at H
        have c8b0:=eq_true c8
        have c8b1:decide (0 ≤ x0_1) = true:=decide_eq_true c8
        clear c8
        by_cases c9:x0_1 ≤ (IntKind.u64.wrap (x0_1 + 1))
        · rw [if_pos c9] at H
          have c9b0:=eq_true c9
          have c9b1:decide (x0_1 ≤ (IntKind.u64.wrap (x0_1 + 1))) = true:=decide_eq_true c9
          by_cases c10:(IntKind.u64.wrap (x0_1 + 1)) ≤ 10
          · rw [if_pos c10] at H
            have c10b0:=eq_true c10
            have c10b1:decide ((IntKind.u64.wrap (x0_1 + 1)) ≤ 10) = true:=decide_eq_true c10
            by_cases c11:((⟨#[48,49,50,51,52,53,54,55,56,57]⟩:ByteArray).extract (x0_1:Int).toNat ((IntKind.u64.wrap (x0_1 + 1)):Int).toNat).size + x3_1.size ≤ 9223372036854775807
            · rw [if_pos c11] at H
              have c11b0:=eq_true c11
              have c11b1:decide (((⟨#[48,49,50,51,52,53,54,55,56,57]⟩:ByteArray).extract (x0_1:Int).toNat ((IntKind.u64.wrap (x0_1 + 1)):Int).toNat).size + x3_1.size ≤ 9223372036854775807) = true:=decide_eq_true c11
              try have c11b2:(9223372036854775807 < ((⟨#[48,49,50,51,52,53,54,55,56,57]⟩:ByteArray).extract (x0_1:Int).toNat ((IntKind.u64.wrap (x0_1 + 1)):Int).toNat).size + x3_1.size) = False:=eq_false (Nat.not_lt.2 c11)
              try (have c11b3:=c11b2;simp only [ByteArray.size_append,Base.size1,(show ∀ a_ b_:UInt8,(⟨#[a_,b_]⟩:ByteArray).size = 2 from fun _ _ => rfl)] at c11b3)
              obtain rfl:=Option.some.inj H
              go_wp2
              go_ret
              exact ⟨by first | rfl | (simp;done) | (simp [*];done),by repeat (first | exact ux.refl _ | apply ux.step)⟩
            · rw [if_neg c11] at H
              exact absurd H (by simp)
          · rw [if_neg c10] at H
            exact absurd H (by simp)
        · rw [if_neg c9] at H
          exact absurd H (by simp)
      · rw [if_neg c8] at H
        exact absurd H (by simp)
def u2g.f (k:Nat) (a0:Int):Option (ByteArray):=(u1r.f k a0).bind fun t293 => (some t293)
set_option maxHeartbeats 8000000 in
set_option maxRecDepth 100000 in
theorem u2g.calls (k:Nat) (a0:Int) (r:ByteArray) (w:World) (h:u2g.f k a0 = some r) :
 Calls Tryd.prog 12 #[.int .u64 a0] w fun e w' => e = .returned (.string r) ∧ ux w w':=by
 have H:((u1r.f k a0).bind fun t293 => (some t293)) = some r:=h
 clear h
 replace H:=Option.bind_eq_some_iff.mp H
 obtain ⟨t293,A20,H⟩:=H
 replace H:(some t293) = some r:=H
 have A2:=Aside0.mk A20
 clear A20
 obtain rfl:=Option.some.inj H
 go_enter Tryd.func12,Tryd.ntmps12
 go_wp2_with (first | ((with_reducible refine u1s (f:=20) rfl ?_);refine u2q (some 4) rfl rfl Tryd.func20 (by kernel_rfl) rfl #[.int .u64 a0] rfl (by (try simp only [List.map_toArray,List.map_cons,List.map_nil]);first | done | rfl | (simp only [List.length_drop,List.length_take];rfl)) ?_;(with_reducible refine (u1r.calls k a0 t293 _ A2.out).mono ?_);rintro e w' ⟨rfl,⟨nd,rfl⟩⟩;refine ⟨_,rfl,?_⟩))
 go_ret
 exact ⟨by first | rfl | (simp;done) | (simp [*];done),by repeat (first | exact ux.refl _ | apply ux.step)⟩
def u1e.same (k:Nat) (x y:S25):Option Bool:=(u2j.f k x.f0 y.f0).bind fun b => some (b && (x.f1 == y.f1) && (x.f2 == y.f2))
def u1e.all (k:Nat):List S25 → List S25 → Option Bool
 | [],_ => some true
 | _ :: _,[] => some true
 | x :: r,y :: q => (u1e.same k x y).bind fun b => if b = true then u1e.all k r q else some false
def u1e.f (k:Nat) (l0 l1:List S25):Option Bool:=if l0.length = l1.length then (if l0.length ≤ 4611686018427387904 then u1e.all k l0 l1 else none) else some false
set_option maxHeartbeats 4000000 in
set_option maxRecDepth 100000 in
theorem u1e.calls_one (k:Nat) (x y:S25) (A0 A1:Option Addr) (c0 c1:Nat) (b:Bool) (w:World) (hx:x.f0.length ≤ c0) (gx:Kd.C k37 w A0 x.f0.length x.f0) (hy:y.f0.length ≤ c1) (gy:Kd.C k37 w A1 y.f0.length y.f0) (h:u1e.same k x y = some b) :
 Calls Tryd.prog 26 #[.agg #[.slice A0 x.f0.length c0,.int .i64 x.f1,.int .u64 x.f2],.agg #[.slice A1 y.f0.length c1,.int .i64 y.f1,.int .u64 y.f2]] w fun e w' => e = .returned (.bool b) ∧ Below w.heap.size w w':=by
 obtain ⟨c,hc,h2⟩:=Option.bind_eq_some_iff.1 h
 have HCc:=Aside0.mk hc
 have H2:=Aside0.mk (Option.some.inj h2)
 have GX:=Aside0.mk gx
 have GY:=Aside0.mk gy
 have HX:=Aside0.mk hx
 have HY:=Aside0.mk hy
 clear hc h2 h gx gy hx hy
 cases c with
 | false =>
   have hb:false = b:=by simpa using H2.out
   subst hb
   go_enter Tryd.func26,Tryd.ntmps26
   go_wp2_with (go_at_call 27;(with_reducible refine (u2j.calls k _ _ x.f0 _ _ y.f0 false _ (Kd.C_alloc (Kd.C_alloc GX.out _) _) HX.out (Kd.C_alloc (Kd.C_alloc GY.out _) _) HY.out HCc.out).mono ?_);rintro e w3 ⟨rfl,⟨nd,rfl⟩⟩)
   all_goals
    go_ret
    refine ⟨?_,by repeat (first | exact Below.refl _ _ | apply uc | apply ub)⟩
    first | rfl | (rw [← H2.out];simp [*];done) | (rw [← H2.out];simp [*];rfl)
 | true =>
   go_enter Tryd.func26,Tryd.ntmps26
   go_wp2_with (go_at_call 27;(with_reducible refine (u2j.calls k _ _ x.f0 _ _ y.f0 true _ (Kd.C_alloc (Kd.C_alloc GX.out _) _) HX.out (Kd.C_alloc (Kd.C_alloc GY.out _) _) HY.out HCc.out).mono ?_);rintro e w3 ⟨rfl,⟨nd,rfl⟩⟩)
   all_goals
    go_ret
    refine ⟨?_,by repeat (first | exact Below.refl _ _ | apply uc | apply ub)⟩
    first | rfl | (rw [← H2.out];simp [*];done) | (rw [← H2.out];simp [*];rfl)
theorem u1e.calls (k:Nat) (A0:Option Addr) (c0:Nat) (l0:List S25) (A1:Option Addr) (c1:Nat) (l1:List S25) (r:Bool) (w:World) (hr0:Kd.C k25 w A0 l0.length l0) (hc0:l0.length ≤ c0) (hr1:Kd.C k25 w A1 l1.length l1) (hc1:l1.length ≤ c1) (h:u1e.f k l0 l1 = some r) :
 Calls Tryd.prog 15 #[.slice A0 l0.length c0,.slice A1 l1.length c1] w fun e w' => e = .returned (.bool r) ∧ Below w.heap.size w w':=by
 have HR0:=Aside0.mk hr0
 have HR1:=Aside0.mk hr1
 clear hr0 hr1
 unfold u1e.f at h
 by_cases hlen:l0.length = l1.length
 · rw [if_pos hlen] at h
   by_cases hmax:l0.length ≤ 4611686018427387904
   · rw [if_pos hmax] at h
     have H:=Aside0.mk h
     clear h
     go_enter Tryd.func15,Tryd.ntmps15
     go_wp2_with (go_in)
     go_loopg [17] (l0.length) (fun kq v17 wr => ∃ (i:Nat) (ra rb:List S25),i ≤ l0.length ∧ v17 = .int .i64 i ∧ Aside0 (l0.drop i = ra ∧ l1.drop i = rb ∧ u1e.all k ra rb = some r) ∧ l0.length ≤ kq + i ∧ Aside0 (Below w.heap.size w wr))
     case atStart => exact ⟨0,l0,l1,by omega,rfl,⟨rfl,rfl,H.out⟩,by omega,⟨Below.refl _ _⟩⟩
     case round =>
      clear H
      obtain ⟨i,ra,rb,hi,rfl,HA,hk,HB⟩:=hrel
      by_cases hlt:i < l0.length
      · obtain ⟨g1,rfl⟩:∃ g1,gk = g1 + 1:=⟨gk - 1,by omega⟩
        obtain ⟨x,ra2,hx⟩:∃ x ra2,Aside0 (ra = x :: ra2 ∧ rd_T25 l0 (i:Int) = x):=by
         have h1:=HA.out.1
         rw [List.drop_eq_getElem_cons hlt] at h1
         exact ⟨_,_,⟨h1.symm,by simp [rd_T25,List.getD_eq_getElem?_getD,hlt]⟩⟩
        obtain ⟨y,rb2,hy⟩:∃ y rb2,Aside0 (rb = y :: rb2 ∧ rd_T25 l1 (i:Int) = y):=by
         have h1:=HA.out.2.1
         have hlt2:i < l1.length:=by omega
         rw [List.drop_eq_getElem_cons hlt2] at h1
         exact ⟨_,_,⟨h1.symm,by simp [rd_T25,List.getD_eq_getElem?_getD,hlt2]⟩⟩
        obtain ⟨b,hb,HA2⟩:∃ b,Aside0 (u1e.same k x y = some b) ∧ Aside0 ((if b = true then u1e.all k ra2 rb2 else some false) = some r):=by
         have h1:=HA.out.2.2
         rw [hx.out.1,hy.out.1] at h1
         obtain ⟨b,h2,h3⟩:=Option.bind_eq_some_iff.1 h1
         exact ⟨b,⟨h2⟩,⟨h3⟩⟩
        have HD:Aside0 (l0.drop (i + 1) = ra2 ∧ l1.drop (i + 1) = rb2):=⟨by
         have h1:=HA.out
         rw [hx.out.1,hy.out.1] at h1
         rw [← List.drop_drop,← List.drop_drop,h1.1,h1.2.1]
         exact ⟨rfl,rfl⟩⟩
        obtain ⟨ad0,B0,d0,e0,f00,f01,f02,g00,g01⟩:=at_T25 (Kd.C_below HR0.out HB.out) (i:Int) (by omega) (by omega)
        subst e0
        obtain ⟨ad1,B1,d1,e1,f10,f11,f12,g10,g11⟩:=at_T25 (Kd.C_below HR1.out HB.out) (i:Int) (by omega) (by omega)
        subst e1
        rw [hx.out.2] at f00 f01 f02 g00 g01
        rw [hy.out.2] at f10 f11 f12 g10 g11
        simp only [Int.toNat_natCast] at f00 f01 f02 f10 f11 f12
        have hlt1:i < l1.length:=by omega
        have q0:∀ o:Obj,(wr.alloc o).cell? _ = some _:=fun o => ((uc (Below.refl wr.heap.size wr) o).cell (World.block_lt_of_cell? wr _ f10)).trans f10
        have q1:∀ o:Obj,(wr.alloc o).cell? _ = some _:=fun o => ((uc (Below.refl wr.heap.size wr) o).cell (World.block_lt_of_cell? wr _ f11)).trans f11
        have q2:∀ o:Obj,(wr.alloc o).cell? _ = some _:=fun o => ((uc (Below.refl wr.heap.size wr) o).cell (World.block_lt_of_cell? wr _ f12)).trans f12
        have GX:=Aside0.mk g01
        have GY:=Aside0.mk g11
        have HX:=Aside0.mk g00
        have HY:=Aside0.mk g10
        clear g00 g01 g10 g11 HA hx hy
        cases b with
        | false =>
          have hr:Aside0 (r = false):=⟨by simpa using HA2.out.symm⟩
          go_wp2_with (go_at_call 26;(with_reducible refine (u1e.calls_one k x y _ _ _ _ false _ HX.out (Kd.C_alloc (Kd.C_alloc GX.out _) _) HY.out (Kd.C_alloc (Kd.C_alloc GY.out _) _) hb.out).mono ?_);rintro e w3 ⟨rfl,hb3⟩;have HB3:=Aside0.mk (uw (uc (uc HB.out _) _) hb3);clear hb3)
          go_ret
          exact ⟨by rw [hr.out];rfl,HB3.out⟩
        | true =>
          have HA3:Aside0 (u1e.all k ra2 rb2 = some r):=⟨by simpa using HA2.out⟩
          go_wp2_with (go_at_call 26;(with_reducible refine (u1e.calls_one k x y _ _ _ _ true _ HX.out (Kd.C_alloc (Kd.C_alloc GX.out _) _) HY.out (Kd.C_alloc (Kd.C_alloc GY.out _) _) hb.out).mono ?_);rintro e w3 ⟨rfl,hb3⟩;have HB3:=Aside0.mk (uw (uc (uc HB.out _) _) hb3);clear hb3)
          go_roundg g1
          case rel => exact ⟨i + 1,ra2,rb2,by omega,by go_num,⟨HD.out.1,HD.out.2,HA3.out⟩,by omega,HB3⟩
          case measure => omega
      · have hr:Aside0 (r = true):=⟨by
         have h1:=HA.out
         rw [List.drop_eq_nil_of_le (by omega)] at h1
         rw [← h1.1] at h1
         simpa [u1e.all] using h1.2.2.symm⟩
        go_wp2
        go_ret
        exact ⟨by rw [hr.out];rfl,HB.out⟩
   · rw [if_neg hmax] at h
     cases h
 · rw [if_neg hlen] at h
   obtain rfl:=Option.some.inj h
   have hne:¬ (l0.length:Int) = (l1.length:Int):=by omega
   go_enter Tryd.func15,Tryd.ntmps15
   go_wp2_with (go_in)
   go_ret
   exact ⟨rfl,Below.refl _ _⟩
end Go.Proofs.YtmcpeifhapekoaaDoor.PAll
namespace Go.Proofs.YtmcpeifhapekoaaDoor.Tx
open Go.RowKit Go.Proofs.YtmcpeifhapekoaaDoor.PAll Go.Proofs.YtmcpeifhapekoaaDoorW.PrintWords Go.Proofs.YtmcpeifhapekoaaDoorW.PrintLast
set_option linter.unusedVariables false
set_option linter.unusedSimpArgs false
abbrev Lb:=S37
abbrev B8:=List UInt8
def wordC (c:UInt8):Bool:=Base.letterB (c.toNat:Int) || Base.digitB (c.toNat:Int)
def blankC (c:UInt8):Bool:=decide (c = 32) || decide (c = 9)
def decC (c:UInt8):Bool:=decide (48 ≤ c.toNat) && decide (c.toNat ≤ 57)
def hexC (c:UInt8):Bool:=decC c || (decide (97 ≤ c.toNat) && decide (c.toNat ≤ 102))
def digC (h:Bool) (c:UInt8):Bool:=if h then hexC c else decC c
def digV (c:UInt8):Int:=if 97 ≤ c.toNat then (c.toNat:Int) - 87 else (c.toNat:Int) - 48
def numL (base:Int):B8 → Int → Option Int
 | [],n => some n
 | c :: r,n => if n ≤ (18446744073709551615 - digV c) / base then numL base r (n * base + digV c) else none
def digitsP (h:Bool) (most:Nat) (s:B8):Option (B8 × B8) :=
 if (s.takeWhile (digC h)) ≠ [] ∧ (s.takeWhile (digC h)).length ≤ most then some (s.takeWhile (digC h),s.dropWhile (digC h)) else none
def valueD (h:Bool) (most:Nat) (base:Int) (s:B8):Option (Int × B8):=(digitsP h most s).bind fun p => (numL base p.1 0).map fun n => (n,p.2)
def valueP (s:B8):Option (Int × B8):=match s with
 | 48 :: 120 :: r => valueD true 16 16 r
 | _ => valueD false 20 10 s
def timeP (s:B8):Option (Int × B8):=match s with
 | 45 :: r => (valueD false 19 10 r).bind fun p => if p.1 ≤ 9223372036854775808 then some (-p.1,p.2) else none
 | _ => (valueD false 19 10 s).bind fun p => if p.1 < 9223372036854775808 then some p else none
def nameP (s:B8):Option (ByteArray × B8):=if Base.nameB (Base.ofL (s.takeWhile wordC)) = true then some (Base.ofL (s.takeWhile wordC),s.dropWhile wordC) else none
def expectP (p:B8) (s:B8):Option B8:=if p.isPrefixOf s = true then some (s.drop p.length) else none
def quotedP (s:B8):Option (ByteArray × B8):=match s with
 | [] => none
 | c :: r => if c = 34 then (Base.unqL r []).map fun p => (Base.ofL p.1,p.2) else none
def valP (s:B8):Option (ByteArray × B8):=(expectP [61] s).bind quotedP
def labelP (s:B8):Option (Lb × B8):=(nameP s).bind fun p => (valP p.2).map fun q => (⟨p.1,q.1⟩,q.2)
def labelsP:Nat → List Lb → B8 → Option (List Lb × B8)
 | 0,_,_ => none
 | n + 1,acc,s => match s with
   | 44 :: r => if acc.length ≤ 8 then (labelP r).bind fun p => labelsP n (acc ++ [p.1]) p.2 else none
   | _ => some (acc,s)
def bracesP (s:B8):Option (List Lb × B8):=(expectP [123] s).bind fun r => (labelP r).bind fun p => (labelsP s.length [p.1] p.2).bind fun q => (expectP [125] q.2).map fun t => (q.1,t)
def less (a b:ByteArray):Bool:=Op.bytesLess a.data.toList b.data.toList
def insR (x:Lb):List Lb → List Lb
 | [] => [x]
 | y :: r => if less x.f0 y.f0 = true then y :: insR x r else x :: y :: r
def sortP (l:List Lb):List Lb:=(l.foldl (fun r x => insR x r) []).reverse
def metric:ByteArray:=Base.ofL [95,95,110,97,109,101,95,95]
def headP (s:B8):Option (List Lb × B8):=match s with
 | [] => some ([],[])
 | c :: r => if wordC c = true then (nameP s).map fun p => ([⟨metric,p.1⟩],p.2) else some ([],s)
def restP (l:List Lb) (s:B8):Option (List Lb × B8):=match s with
 | 123 :: _ => (bracesP s).map fun q => (l ++ q.1,q.2)
 | _ => some (l,s)
def labsP (s:B8):Option (List Lb × B8):=(headP s).bind fun p => restP p.1 p.2
def endP (s:B8) (now:Int):Option (Int × Int) :=
 if s.takeWhile blankC = [] then none else (valueP (s.dropWhile blankC)).bind fun p =>
  if p.2.dropWhile blankC = [] then some (now,p.1) else if p.2.takeWhile blankC = [] then none else
   (timeP (p.2.dropWhile blankC)).bind fun q => if q.2.dropWhile blankC = [] then some (q.1,p.1) else none
abbrev Rw:=S25
abbrev Me:=ByteArray × ByteArray × ByteArray
def helpW:B8:=[35,32,72,69,76,80,32]
def typeW:B8:=[35,32,84,89,80,69,32]
def kinds:List B8:=[[99,111,117,110,116,101,114],[103,97,117,103,101],[104,105,115,116,111,103,114,97,109],[115,117,109,109,97,114,121],[117,110,116,121,112,101,100]]
def knownL (s:B8):Bool:=kinds.contains s
def plainL (s:B8):Bool:=s.all fun c => decide (32 ≤ c.toNat)
def me0:Me:=(Base.ofL [],Base.ofL [],Base.ofL [])
def remarkP (s:B8):Option Me:=if (helpW.isPrefixOf s || typeW.isPrefixOf s) = true then
    (nameP (s.drop 7)).bind fun p => (expectP [32] p.2).bind fun r => if typeW.isPrefixOf s = true then (if knownL r = true then some (p.1,Base.ofL r,Base.ofL []) else none) else if plainL r = true then some (p.1,Base.ofL [],Base.ofL r) else none
 else some me0
def sampleP (can:List Lb → Bool) (s:B8) (now:Int):Option Rw:=(labsP s).bind fun p => if can (sortP p.1) = true then (endP p.2 now).map fun q => ⟨sortP p.1,q.1,q.2⟩ else none
def readP (can:List Lb → Bool) (s:B8) (now:Int):Option Rw × Me × Int :=
 if s.length > 1000 then (none,me0,4) else if s.contains 10 = true then (none,me0,280) else match s with
  | 35 :: _ => (match remarkP s with | none => (none,me0,280) | some m => (none,m,0))
  | _ => if s.all blankC = true then (none,me0,0) else match sampleP can s now with | none => (none,me0,280) | some r => (some r,me0,0)
theorem tw_step {α:Type} (p:α → Bool):∀ (s:List α) (i:Nat) (h:i ≤ (s.takeWhile p).length) (hi:i < s.length),(p s[i] = true → i + 1 ≤ (s.takeWhile p).length) ∧ (p s[i] = false → i = (s.takeWhile p).length)
 | c :: s,i,h,hi => by
   by_cases hc:p c = true
   · rw [List.takeWhile_cons,if_pos hc,List.length_cons] at h ⊢
     cases i with
     | zero => exact ⟨fun _ => by omega,fun h9 => by rw [List.getElem_cons_zero,hc] at h9;cases h9⟩
     | succ i =>
       obtain ⟨g1,g2⟩:=tw_step p s i (by omega) (by rw [List.length_cons] at hi;omega)
       rw [List.getElem_cons_succ]
       exact ⟨fun h9 => by have:=g1 h9;omega,fun h9 => by have:=g2 h9;omega⟩
   · rw [List.takeWhile_cons,if_neg hc,List.length_nil] at h ⊢
     obtain rfl:i = 0:=by omega
     rw [List.getElem_cons_zero]
     exact ⟨fun h9 => absurd h9 hc,fun _ => rfl⟩
theorem tw_le {α:Type} (p:α → Bool):∀ s:List α,(s.takeWhile p).length ≤ s.length
 | [] => Nat.le_refl _
 | c :: s => by
   have:=tw_le p s
   rw [List.takeWhile_cons]
   split
   · rw [List.length_cons,List.length_cons]
     omega
   · exact Nat.zero_le _
theorem tw_take {α:Type} (p:α → Bool):∀ s:List α,s.take (s.takeWhile p).length = s.takeWhile p ∧ s.drop (s.takeWhile p).length = s.dropWhile p
 | [] => ⟨rfl,rfl⟩
 | c :: s => by
   obtain ⟨h1,h2⟩:=tw_take p s
   rw [List.takeWhile_cons,List.dropWhile_cons]
   by_cases hc:p c = true
   · rw [if_pos hc,if_pos hc,List.length_cons,List.take_succ_cons,List.drop_succ_cons,h1,h2]
     exact ⟨rfl,rfl⟩
   · rw [if_neg hc,if_neg hc]
     exact ⟨rfl,rfl⟩
theorem cut_ofL (s:B8) (n:Nat) (h:n ≤ s.length):(Base.ofL s).extract 0 n = Base.ofL (s.take n) ∧ (Base.ofL s).extract n (Base.ofL s).size = Base.ofL (s.drop n) ∧ (Base.ofL s).size = s.length:=by
 refine ⟨Base.ext_data ?_,Base.ext_data ?_,?_⟩
 · rw [Base.extract_list,Base.ofL_data,Base.ofL_data,List.drop_zero,Nat.sub_zero]
 · rw [Base.extract_rest,Base.ofL_data,Base.ofL_data]
 · rw [← u2h,Base.ofL_data]
theorem insR_pass (x:Lb):∀ (A R:List Lb),(∀ y ∈ A,less x.f0 y.f0 = true) → insR x (A ++ R) = A ++ insR x R
 | [],R,_ => rfl
 | y :: A,R,h => by
   rw [List.cons_append,List.cons_append]
   conv => lhs;unfold insR
   rw [if_pos (h y (List.mem_cons_self ..)),insR_pass x A R (fun z hz => h z (List.mem_cons_of_mem _ hz))]
theorem insR_stop (x:Lb) (R:List Lb) (h:∀ y,R.head? = some y → ¬ less x.f0 y.f0 = true):insR x R = x :: R:=by
 cases R with
 | nil => rfl
 | cons y R =>
   unfold insR
   rw [if_neg (h y rfl)]
def sortedTo (l:List Lb) (i:Nat):List Lb:=((l.take i).foldl (fun r x => insR x r) []).reverse
theorem sortedTo_all (l:List Lb):sortedTo l l.length = sortP l:=by
 unfold sortedTo sortP
 rw [List.take_length]
theorem sortedTo_next (l:List Lb) (i:Nat) (hi:i < l.length) (a b:List Lb) (hab:sortedTo l i = a ++ b) (hb:∀ y ∈ b,less l[i].f0 y.f0 = true) (ha:∀ y,a.getLast? = some y → ¬ less l[i].f0 y.f0 = true):sortedTo l (i + 1) = a ++ l[i] :: b:=by
 unfold sortedTo at hab ⊢
 rw [List.take_succ_eq_append_getElem hi,List.foldl_append]
 have e:(l.take i).foldl (fun r x => insR x r) [] = b.reverse ++ a.reverse:=by
  rw [← List.reverse_append,← hab,List.reverse_reverse]
 rw [e]
 show (insR l[i] (b.reverse ++ a.reverse)).reverse = _
 rw [insR_pass _ _ _ (fun y hy => hb y (List.mem_reverse.1 hy)),insR_stop _ _ (fun y hy => ha y (by rw [List.head?_reverse] at hy;exact hy))]
 simp
theorem sortedTo_len (l:List Lb) (i:Nat) (hi:i ≤ l.length):(sortedTo l i).length = i:=by
 have ins_len:∀ (x:Lb) (r:List Lb),(insR x r).length = r.length + 1:=fun x r => by
  induction r with
  | nil => rfl
  | cons y r ih =>
    unfold insR
    split
    · rw [List.length_cons,ih,List.length_cons]
    · rfl
 have:∀ (m r:List Lb),(m.foldl (fun r x => insR x r) r).length = r.length + m.length:=fun m => by
  induction m with
  | nil => exact fun r => rfl
  | cons x m ih =>
    intro r
    rw [List.foldl_cons,ih,ins_len,List.length_cons]
    omega
 unfold sortedTo
 rw [List.length_reverse,this,List.length_take,List.length_nil]
 omega
theorem vr_nat (s:ByteArray) (pos:Nat):∃ c:Nat,((Utf8.decode s pos).1:Int) = (c:Int) ∧ c ≤ 1114111 ∧ (c < 55296 ∨ 57344 ≤ c):=by
 refine ⟨_,rfl,?_⟩
 rw [Lib.decode_N]
 rcases Lib.decodeN_shape (s.data.toList.length - pos) (s.data.toList.getD pos 0).toNat (s.data.toList.getD (pos + 1) 0).toNat (s.data.toList.getD (pos + 2) 0).toNat (s.data.toList.getD (pos + 3) 0).toNat with ⟨c,e⟩ | ⟨c1,c2,c3,cv,e⟩ | ⟨c1,c2,c3,c4,cv,cs,e⟩ | ⟨c1,c2,c3,c4,c5,cv,cw,e⟩ | e
 all_goals (rw [e];dsimp only;omega)
theorem of_nat (n:Nat) (h:n < 256):(UInt8.ofNat n).toNat = n:=by
 rw [UInt8.toNat_ofNat']
 omega
theorem rune_bytes {c:Nat} (h1:c ≤ 1114111) (h2:c < 55296 ∨ 57344 ≤ c) (h0:32 ≤ c):∀ b ∈ Lib.encodeRune (c:Int),32 ≤ b.toNat:=by
 intro b hb
 unfold Lib.encodeRune at hb
 have hl:∀ (l:List Int),b ∈ l.map (fun n => UInt8.ofNat n.toNat) → (∀ n ∈ l,32 ≤ n ∧ n < 256) → 32 ≤ b.toNat:=by
  intro l h g
  obtain ⟨n,hn,rfl⟩:=List.mem_map.1 h
  have:=g n hn
  rw [of_nat _ (by omega)]
  omega
 by_cases c1:c < 128
 · rw [Lib.encodeRuneZ_one (by omega) (by omega)] at hb
   exact hl _ hb (fun n hn => by simp at hn;omega)
 · by_cases c2:c < 2048
   · rw [Lib.encodeRuneZ_two (by omega) (by omega)] at hb
     exact hl _ hb (fun n hn => by simp at hn;omega)
   · by_cases c3:c < 65536
     · rw [Lib.encodeRuneZ_three (by omega)] at hb
       exact hl _ hb (fun n hn => by simp at hn;omega)
     · rw [Lib.encodeRuneZ_four (by omega) (by omega)] at hb
       exact hl _ hb (fun n hn => by simp at hn;omega)
theorem plain_from (s:ByteArray):∀ (f pos:Nat),s.size - pos ≤ f → (∀ r ∈ Base.runesFrom s f pos,32 ≤ r ∧ r ≠ 65533) → ∀ b ∈ s.data.toList.drop pos,32 ≤ b.toNat:=by
 intro f
 induction f with
 | zero =>
   intro pos h hn b hb
   rw [List.drop_eq_nil_of_le (by rw [u2h];omega)] at hb
   cases hb
 | succ f ih =>
   intro pos h hn b hb
   by_cases hlt:pos < s.size
   · have hw:=Base.width_pos s pos hlt
     rw [Base.runesFrom_step s f pos hlt] at hn
     have hr:=hn _ (List.mem_cons_self ..)
     have hne:s.data.toList.drop pos ≠ []:=fun h9 => by
      have:=List.drop_eq_nil_iff.1 h9
      rw [u2h] at this
      omega
     have h1:=Lib.encode_decode (s.data.toList.drop pos) hne (fun h9 => hr.2 (by rw [Lib.decodeL_drop] at h9;rw [h9.1];rfl))
     rw [Lib.decodeL_drop] at h1
     obtain ⟨c,hc,hc1,hc2⟩:=vr_nat s pos
     rw [← List.take_append_drop (Utf8.decode s pos).2 (s.data.toList.drop pos),← h1] at hb
     rcases List.mem_append.1 hb with hb | hb
     · rw [hc] at hb hr
       exact rune_bytes hc1 hc2 (by omega) b hb
     · rw [List.drop_drop] at hb
       exact ih _ (by omega) (fun r hr => hn r (List.mem_cons_of_mem _ hr)) b hb
   · rw [List.drop_eq_nil_of_le (by rw [u2h];omega)] at hb
     cases hb
theorem value_bytes {s:ByteArray} (h:Base.valueB s = true):∀ b ∈ s.data.toList,32 ≤ b.toNat:=by
 unfold Base.valueB at h
 rw [Bool.and_eq_true,Bool.and_eq_true,List.all_eq_true] at h
 have:=plain_from s s.size 0 (by omega) (fun r hr => by
  have h9:=h.1.1 r hr
  unfold Base.plainB at h9
  simp only [Bool.and_eq_true,decide_eq_true_eq,Bool.not_eq_true',decide_eq_false_iff_not] at h9
  exact ⟨h9.1.1,h9.2⟩)
 simpa using this
end Go.Proofs.YtmcpeifhapekoaaDoor.Tx
namespace Go.Proofs.YtmcpeifhapekoaaDoor.PAll
open Go.RowKit Go.Proofs.YtmcpeifhapekoaaDoorW.PrintWords Go.Proofs.YtmcpeifhapekoaaDoorW.PrintLast Go.Proofs.YtmcpeifhapekoaaDoorW.PrintMore
attribute [local go_sem] max2_int min2_int max_two min_two max_three min_three max_four min_four
set_option linter.unusedVariables false
set_option linter.unusedSimpArgs false
def u2l.badB (c:Int):Bool:=decide (c < 32)
theorem u2l.test (c:Int) (w:World):Calls Tryd.prog 80 #[.int .u8 c] w fun e w' => e = .returned (.bool (u2l.badB c)) ∧ ux w w':=by
 unfold u2l.badB
 go_enter Tryd.func80,Tryd.ntmps80
 go_wp2
 go_ret
 exact ⟨rfl,⟨0,rfl⟩⟩
set_option maxHeartbeats 1000000 in
theorem u2l.index (A:Option Addr) (c:Nat) (l:List Int) (w:World) (hr:Kd.C (Kd.int .u8) w A l.length l) (hm:l.length ≤ 140737488355328) :
 Calls Tryd.prog 101 #[.slice A l.length c,.func (.func 80) #[] #[]] w fun e w' => (∃ i:Int,e = .returned (.int .i64 i) ∧ decide (0 ≤ i) = l.any u2l.badB) ∧ ux w w':=by
 have HR:=Aside0.mk hr
 clear hr
 go_enter Tryd.func101,Tryd.ntmps101
 go_wp2
 go_loopg [8] (l.length) (fun kq v8 w' => ∃ (x:Nat),x ≤ l.length ∧ v8 = .int .i64 x ∧ Aside0 ((l.take x).any u2l.badB = false) ∧ l.length ≤ kq + x ∧ ux w w')
 case atStart => exact ⟨0,by omega,rfl,⟨rfl⟩,by omega,ux.refl _⟩
 case round =>
  obtain ⟨x,hx,rfl,HN,hk,⟨m1,rfl⟩⟩:=hrel
  by_cases hlt:x < l.length
  · obtain ⟨ad,e,hc⟩:=Kd.at_int HR.out (x:Int) (by omega) (by omega)
    subst e
    have hc2:w.cell? (ad.add x) = some (.int .u8 (rd l x)):=by simpa using hc
    clear hc
    have htk:l.take (x + 1) = l.take x ++ [rd l x]:=by
     rw [List.take_succ_eq_append_getElem hlt]
     simp [rd,List.getD_eq_getElem?_getD,hlt]
    have HT:=Aside0.mk htk
    clear htk
    cases hb:u2l.badB (rd l x) with
    | true =>
      go_wp2_with (go_at_call 80;refine (u2l.test _ _).mono ?_;rintro e W1 ⟨rfl,⟨nd,rfl⟩⟩)
      go_ret
      refine ⟨⟨_,rfl,?_⟩,⟨_,rfl⟩⟩
      have h1:l.any u2l.badB = true:=by
       rw [List.any_eq_true]
       refine ⟨rd l x,?_,hb⟩
       have h2:rd l x ∈ l.take (x + 1):=by rw [HT.out];simp
       exact List.mem_of_mem_take h2
      rw [h1]
      simp
    | false =>
      go_wp2_with (go_at_call 80;refine (u2l.test _ _).mono ?_;rintro e W1 ⟨rfl,⟨nd,rfl⟩⟩)
      obtain ⟨g1,rfl⟩:∃ g1,gk = g1 + 1:=⟨gk - 1,by omega⟩
      go_roundg g1
      case rel =>
       refine ⟨x + 1,by omega,by go_num,⟨?_⟩,by omega,⟨_,rfl⟩⟩
       rw [HT.out,List.any_append,HN.out]
       simp [hb]
      case measure => omega
  · go_wp2
    go_ret
    refine ⟨⟨_,rfl,?_⟩,⟨_,rfl⟩⟩
    have h1:=HN.out
    rw [List.take_of_length_le (by omega)] at h1
    rw [h1]
    simp
theorem u2l.contains (A:Option Addr) (c:Nat) (l:List Int) (w:World) (hr:Kd.C (Kd.int .u8) w A l.length l) (hm:l.length ≤ 140737488355328) :
 Calls Tryd.prog 79 #[.slice A l.length c,.func (.func 80) #[] #[]] w fun e w' => e = .returned (.bool (l.any u2l.badB)) ∧ ux w w':=by
 go_enter Tryd.func79,Tryd.ntmps79
 go_wp2_with (go_at_call 101;refine (u2l.index _ _ _ _ hr hm).mono ?_;rintro e W1 ⟨⟨i,rfl,hi⟩,⟨nd,rfl⟩⟩)
 go_ret
 exact ⟨by simp,⟨_,rfl⟩⟩
theorem u2l.contains_n (A:Option Addr) (c n:Nat) (l:List Int) (w:World) (hn:l.length = n) (hr:Kd.C (Kd.int .u8) w A n l) (hm:n ≤ 140737488355328) :
 Calls Tryd.prog 79 #[.slice A n c,.func (.func 80) #[] #[]] w fun e w' => e = .returned (.bool (l.any u2l.badB)) ∧ ux w w':=by
 subst hn
 exact u2l.contains A c l w hr hm
set_option maxHeartbeats 1000000 in
theorem u2l.calls (s:List UInt8) (hl:s.length ≤ 1000) (w:World) :
 Calls Tryd.prog 47 #[.string (Base.ofL s)] w fun e w' => e = .returned (.bool (Tx.plainL s)) ∧ Below w.heap.size w w':=by
 obtain ⟨a0,ha⟩:∃ a0,a0 = Base.ofL s:=⟨_,rfl⟩
 have hsz:a0.size = s.length:=by rw [ha];exact (Tx.cut_ofL s 0 (by omega)).2.2
 have HV:Aside0 (Tx.plainL s = !(bytesOf a0).any u2l.badB):=⟨by
  unfold Tx.plainL bytesOf
  rw [ha,Base.ofL_data,List.all_eq_not_any_not,List.any_map]
  congr 2
  funext c
  unfold u2l.badB
  simp only [Function.comp]
  rw [Bool.eq_iff_iff]
  simp
  omega⟩
 rw [← ha,HV.out]
 clear HV ha
 have hsz2:a0.size ≤ 1000:=by omega
 clear hsz hl
 have kb:=fun W => print_bytes (P:=Tryd.prog) 9 42 5 Tryd.underlying9 Tryd.underlying42 Tryd.underlying5 a0 W
 have hr:=Aside0.mk (bytes_reads w 5 a0 (by omega))
 have hc:Aside0 (Kd.C (Kd.int .u8) (Lib.bytesWorld w 5 a0) (some ⟨w.heap.size,0,none⟩) a0.size (bytesOf a0)):=⟨Kd.C_of_reads (d:=(0:Int)) (h1:=fun _ => rfl) hr.out⟩
 go_enter Tryd.func47,Tryd.ntmps47
 go_wp2_with (go_at_call 79;refine (u2l.contains_n _ _ _ _ _ (bytesOf_length a0) hc.out (by omega)).mono ?_;rintro e W2 ⟨rfl,⟨md,rfl⟩⟩)
 go_ret
 exact ⟨rfl,ub (bytes_below (Below.refl _ _) (Nat.le_refl _) _ _) md⟩
theorem u1b.fin_named:∀ n:Fin 256,text_named.f (n.val:Int) = some (Tx.wordC (UInt8.ofNat n.val)):=by decide +kernel
theorem u1b.fin_blank:∀ n:Fin 256,text_blank.f (n.val:Int) = some (Tx.blankC (UInt8.ofNat n.val)):=by decide +kernel
theorem u1b.is_named (c:UInt8):text_named.f (c.toNat:Int) = some (Tx.wordC c):=by
 have:=u1b.fin_named ⟨c.toNat,c.toNat_lt⟩
 rwa [UInt8.ofNat_toNat] at this
theorem u1b.is_blank (c:UInt8):text_blank.f (c.toNat:Int) = some (Tx.blankC c):=by
 have:=u1b.fin_blank ⟨c.toNat,c.toNat_lt⟩
 rwa [UInt8.ofNat_toNat] at this
theorem u1b.test_named (c:UInt8) (z:Int) (hz:(c.toNat:Int) = z) (W:World):Calls Tryd.prog 55 #[.int .u8 z] W fun e W' => e = .returned (.bool (Tx.wordC c)) ∧ ux W W':=by
 subst hz
 exact text_named.calls _ _ _ (u1b.is_named c)
theorem u1b.test_blank (c:UInt8) (z:Int) (hz:(c.toNat:Int) = z) (W:World):Calls Tryd.prog 62 #[.int .u8 z] W fun e W' => e = .returned (.bool (Tx.blankC c)) ∧ ux W W':=by
 subst hz
 exact text_blank.calls _ _ _ (u1b.is_blank c)
set_option maxRecDepth 100000 in
theorem u1b.test_dig (hxb:Bool) (hb:Nat) (c:UInt8) (z:Int) (hz:(c.toNat:Int) = z) (W:World) (hcb:W.heap[hb]? = some (.cells #[.bool hxb] 4 (0,0))):Calls Tryd.prog 109 #[.int .u8 z,.pointer (some ⟨hb,0,none⟩)] W fun e W' => e = .returned (.bool (Tx.digC hxb c)) ∧ ux W W':=by
 subst hz
 have h0:=un hcb 0
 simp only [List.size_toArray,List.length_cons,List.length_nil,List.getElem?_toArray,List.getElem?_cons_zero] at h0
 clear hcb
 obtain ⟨n,hn⟩:∃ n:Nat,n = c.toNat:=⟨_,rfl⟩
 have HB:Aside0 (Tx.digC hxb c = if hxb = true then ((decide (48 ≤ n) && decide (n ≤ 57)) || (decide (97 ≤ n) && decide (n ≤ 102))) else (decide (48 ≤ n) && decide (n ≤ 57))):=⟨by rw [hn];rfl⟩
 rw [HB.out,← hn]
 clear hn HB
 by_cases h1:48 ≤ n
 · by_cases h2:n ≤ 57
   · have h3:¬ 97 ≤ n:=by omega
     cases hxb <;> (go_enter Tryd.func109,Tryd.ntmps109;go_wp2;go_ret;exact ⟨by first | (simp [h1,h2];done) | (simp [h1,h2];omega),0,rfl⟩)
   · by_cases h3:97 ≤ n
     · by_cases h4:n ≤ 102
       · cases hxb <;> (go_enter Tryd.func109,Tryd.ntmps109;go_wp2;go_ret;exact ⟨by first | (simp [h1,h2,h3,h4];done) | (simp [h1,h2,h3,h4];omega),0,rfl⟩)
       · cases hxb <;> (go_enter Tryd.func109,Tryd.ntmps109;go_wp2;go_ret;exact ⟨by first | (simp [h1,h2,h3,h4];done) | (simp [h1,h2,h3,h4];omega),0,rfl⟩)
     · cases hxb <;> (go_enter Tryd.func109,Tryd.ntmps109;go_wp2;go_ret;exact ⟨by first | (simp [h1,h2,h3];done) | (simp [h1,h2,h3];omega),0,rfl⟩)
 · have h3:¬ 97 ≤ n:=by omega
   cases hxb <;> (go_enter Tryd.func109,Tryd.ntmps109;go_wp2;go_ret;exact ⟨by first | (simp [h1,h3];done) | (simp [h1,h3];omega),0,rfl⟩)
theorem u1b.fin (p:UInt8 → Bool) {w0 W:World} {g:Nat} {s:List UInt8} (h:ua.St w0 W g s) (x n:Nat) (hx:x = (s.takeWhile p).length):Ending.returned (.string ((Base.ofL s).extract 0 x)) = .returned (.string (Base.ofL (s.takeWhile p))) ∧
 ua.St w0 ((W.drewN n).setCell ⟨g,0,none⟩ (.string ((Base.ofL s).extract x s.length))) g (s.dropWhile p) ∧ u1l W ((W.drewN n).setCell ⟨g,0,none⟩ (.string ((Base.ofL s).extract x s.length))) g none:=by
 have hle:=Tx.tw_le p s
 obtain ⟨c1,c2,c3⟩:=Tx.cut_ofL s x (by omega)
 obtain ⟨t1,t2⟩:=Tx.tw_take p s
 rw [← hx] at t1 t2
 rw [c3] at c2
 rw [c1,c2,t1,t2]
 exact ⟨rfl,(h.drew n).set _,(u1l.of_below (ub (Below.refl _ _) n) g none).set_ 0 _⟩
set_option maxHeartbeats 1000000 in
set_option maxRecDepth 100000 in
theorem u1b.calls_named (w0 W:World) (g:Nat) (s:List UInt8) (hl:s.length ≤ 4611686018427387904) (h:ua.St w0 W g s) :
 Calls Tryd.prog 61 #[.pointer (some ⟨g,0,none⟩),.func (.func 55) #[] #[]] W fun e W' => e = .returned (.string (Base.ofL (s.takeWhile Tx.wordC))) ∧ ua.St w0 W' g (s.dropWhile Tx.wordC) ∧ u1l W W' g none:=by
 have HS:=Aside0.mk h
 obtain ⟨h0,f0⟩:=h.look
 clear h
 have hsz:(Base.ofL s).size = s.length:=(Tx.cut_ofL s 0 (by omega)).2.2
 go_enter Tryd.func61,Tryd.ntmps61
 go_wp2
 go_loopg [5] (s.length) (fun kq vn wr => ∃ (x:Nat),x ≤ (s.takeWhile Tx.wordC).length ∧ vn = .int .i64 x ∧ s.length ≤ kq + x ∧ ux W wr)
 case atStart => exact ⟨0,by omega,rfl,by omega,ux.refl _⟩
 case round =>
  obtain ⟨x,hx,rfl,hk,⟨m1,rfl⟩⟩:=hrel
  have hle:=Tx.tw_le Tx.wordC s
  by_cases hlt:x < s.length
  · have hst:=Tx.tw_step Tx.wordC s x hx hlt
    obtain ⟨z,HZ⟩:∃ z:Int,Aside0 ((s[x].toNat:Int) = z):=⟨_,⟨rfl⟩⟩
    have hbt:(((Base.ofL s)[x]'(by rw [hsz];exact hlt)).toNat:Int) = z:=HZ.out
    cases hp:Tx.wordC s[x] with
    | true =>
      have hx1:=hst.1 hp
      clear hst
      go_wp2_with (go_at_call 55;refine (u1b.test_named _ _ HZ.out _).mono ?_;rintro e W1 ⟨rfl,⟨nd,rfl⟩⟩)
      obtain ⟨g1,rfl⟩:∃ g1,gk = g1 + 1:=⟨gk - 1,by omega⟩
      go_roundg g1
      case rel => exact ⟨x + 1,hx1,by go_num,by omega,⟨_,rfl⟩⟩
      case measure => omega
    | false =>
      have HX:=Aside0.mk (hst.2 hp)
      clear hst
      go_wp2_with (go_at_call 55;refine (u1b.test_named _ _ HZ.out _).mono ?_;rintro e W1 ⟨rfl,⟨nd,rfl⟩⟩)
      go_ret
      exact u1b.fin Tx.wordC HS.out x _ HX.out
  · have HX:Aside0 (x = (s.takeWhile Tx.wordC).length):=⟨by omega⟩
    go_wp2
    go_ret
    exact u1b.fin Tx.wordC HS.out x _ HX.out
set_option maxHeartbeats 1000000 in
set_option maxRecDepth 100000 in
theorem u1b.calls_blank (w0 W:World) (g:Nat) (s:List UInt8) (hl:s.length ≤ 4611686018427387904) (h:ua.St w0 W g s) :
 Calls Tryd.prog 61 #[.pointer (some ⟨g,0,none⟩),.func (.func 62) #[] #[]] W fun e W' => e = .returned (.string (Base.ofL (s.takeWhile Tx.blankC))) ∧ ua.St w0 W' g (s.dropWhile Tx.blankC) ∧ u1l W W' g none:=by
 have HS:=Aside0.mk h
 obtain ⟨h0,f0⟩:=h.look
 clear h
 have hsz:(Base.ofL s).size = s.length:=(Tx.cut_ofL s 0 (by omega)).2.2
 go_enter Tryd.func61,Tryd.ntmps61
 go_wp2
 go_loopg [5] (s.length) (fun kq vn wr => ∃ (x:Nat),x ≤ (s.takeWhile Tx.blankC).length ∧ vn = .int .i64 x ∧ s.length ≤ kq + x ∧ ux W wr)
 case atStart => exact ⟨0,by omega,rfl,by omega,ux.refl _⟩
 case round =>
  obtain ⟨x,hx,rfl,hk,⟨m1,rfl⟩⟩:=hrel
  have hle:=Tx.tw_le Tx.blankC s
  by_cases hlt:x < s.length
  · have hst:=Tx.tw_step Tx.blankC s x hx hlt
    obtain ⟨z,HZ⟩:∃ z:Int,Aside0 ((s[x].toNat:Int) = z):=⟨_,⟨rfl⟩⟩
    have hbt:(((Base.ofL s)[x]'(by rw [hsz];exact hlt)).toNat:Int) = z:=HZ.out
    cases hp:Tx.blankC s[x] with
    | true =>
      have hx1:=hst.1 hp
      clear hst
      go_wp2_with (go_at_call 62;refine (u1b.test_blank _ _ HZ.out _).mono ?_;rintro e W1 ⟨rfl,⟨nd,rfl⟩⟩)
      obtain ⟨g1,rfl⟩:∃ g1,gk = g1 + 1:=⟨gk - 1,by omega⟩
      go_roundg g1
      case rel => exact ⟨x + 1,hx1,by go_num,by omega,⟨_,rfl⟩⟩
      case measure => omega
    | false =>
      have HX:=Aside0.mk (hst.2 hp)
      clear hst
      go_wp2_with (go_at_call 62;refine (u1b.test_blank _ _ HZ.out _).mono ?_;rintro e W1 ⟨rfl,⟨nd,rfl⟩⟩)
      go_ret
      exact u1b.fin Tx.blankC HS.out x _ HX.out
  · have HX:Aside0 (x = (s.takeWhile Tx.blankC).length):=⟨by omega⟩
    go_wp2
    go_ret
    exact u1b.fin Tx.blankC HS.out x _ HX.out
set_option maxHeartbeats 1000000 in
set_option maxRecDepth 100000 in
theorem u1b.calls_dig (hxb:Bool) (hb:Nat) (w0 W:World) (g:Nat) (s:List UInt8) (hl:s.length ≤ 4611686018427387904) (hcb:W.heap[hb]? = some (.cells #[.bool hxb] 4 (0,0))) (hbg:hb ≠ g) (h:ua.St w0 W g s) :
 Calls Tryd.prog 61 #[.pointer (some ⟨g,0,none⟩),.func (.func 109) #[] #[.pointer (some ⟨hb,0,none⟩)]] W fun e W' => e = .returned (.string (Base.ofL (s.takeWhile (Tx.digC hxb)))) ∧ ua.St w0 W' g (s.dropWhile (Tx.digC hxb)) ∧ u1l W W' g none:=by
 have HS:=Aside0.mk h
 have HB:=Aside0.mk hcb
 clear hcb
 obtain ⟨h0,f0⟩:=h.look
 clear h
 have hsz:(Base.ofL s).size = s.length:=(Tx.cut_ofL s 0 (by omega)).2.2
 go_enter Tryd.func61,Tryd.ntmps61
 go_wp2
 go_loopg [5] (s.length) (fun kq vn wr => ∃ (x:Nat),x ≤ (s.takeWhile (Tx.digC hxb)).length ∧ vn = .int .i64 x ∧ s.length ≤ kq + x ∧ ux W wr)
 case atStart => exact ⟨0,by omega,rfl,by omega,ux.refl _⟩
 case round =>
  obtain ⟨x,hx,rfl,hk,⟨m1,rfl⟩⟩:=hrel
  have hle:=Tx.tw_le (Tx.digC hxb) s
  by_cases hlt:x < s.length
  · have hst:=Tx.tw_step (Tx.digC hxb) s x hx hlt
    obtain ⟨z,HZ⟩:∃ z:Int,Aside0 ((s[x].toNat:Int) = z):=⟨_,⟨rfl⟩⟩
    have hbt:(((Base.ofL s)[x]'(by rw [hsz];exact hlt)).toNat:Int) = z:=HZ.out
    cases hp:(Tx.digC hxb) s[x] with
    | true =>
      have hx1:=hst.1 hp
      clear hst
      go_wp2_with (go_at_call 109;refine (u1b.test_dig hxb hb _ _ HZ.out _ (by exact HB.out)).mono ?_;rintro e W1 ⟨rfl,⟨nd,rfl⟩⟩)
      obtain ⟨g1,rfl⟩:∃ g1,gk = g1 + 1:=⟨gk - 1,by omega⟩
      go_roundg g1
      case rel => exact ⟨x + 1,hx1,by go_num,by omega,⟨_,rfl⟩⟩
      case measure => omega
    | false =>
      have HX:=Aside0.mk (hst.2 hp)
      clear hst
      go_wp2_with (go_at_call 109;refine (u1b.test_dig hxb hb _ _ HZ.out _ (by exact HB.out)).mono ?_;rintro e W1 ⟨rfl,⟨nd,rfl⟩⟩)
      go_ret
      exact u1b.fin (Tx.digC hxb) HS.out x _ HX.out
  · have HX:Aside0 (x = (s.takeWhile (Tx.digC hxb)).length):=⟨by omega⟩
    go_wp2
    go_ret
    exact u1b.fin (Tx.digC hxb) HS.out x _ HX.out
theorem u2c.calls_ok (w0 W:World) (g:Nat) (s:List UInt8) (hl:s.length ≤ 4611686018427387904) (n:ByteArray) (r:List UInt8) (hn:Tx.nameP s = some (n,r)) (h:ua.St w0 W g s) :
 Calls Tryd.prog 43 #[.pointer (some ⟨g,0,none⟩)] W fun e W' => e = .returned (.string n) ∧ ua.St w0 W' g r ∧ u1l W W' g none:=by
 unfold Tx.nameP at hn
 split at hn
 · rename_i hN
   obtain ⟨rfl,rfl⟩:=Prod.mk.inj (Option.some.inj hn)
   have HS:=Aside0.mk h
   have HN:Aside0 (u1m.f (Base.ofL (s.takeWhile Tx.wordC)) = some true):=⟨congrArg some hN⟩
   clear h hN hn
   go_enter Tryd.func43,Tryd.ntmps43
   go_wp2_with (first
    | (go_at_call 61;(with_reducible refine (u1b.calls_named w0 _ g s hl HS.out).mono ?_);rintro e W1 ⟨rfl,hs1,hk1⟩;have HS1:=Aside0.mk hs1;have HK1:=Aside0.mk hk1;clear hs1 hk1)
    | (go_at_call 77;(with_reducible refine (u1m.calls _ true _ HN.out).mono ?_);rintro e W2 ⟨rfl,hb⟩;have HB:=Aside0.mk hb;clear hb)
    | (go_at_call 45;(with_reducible refine (u1x.calls_ok _).mono ?_);rintro e W3 ⟨rfl,rfl⟩))
   go_ret
   exact ⟨rfl,HS1.out.more HB.out,HK1.out.trans (u1l.of_below HB.out g none) (Or.inl rfl)⟩
 · cases hn
theorem u2c.calls_no (w0 W:World) (g:Nat) (s:List UInt8) (hl:s.length ≤ 4611686018427387904) (hn:Tx.nameP s = none) (h:ua.St w0 W g s) :
 Calls Tryd.prog 43 #[.pointer (some ⟨g,0,none⟩)] W fun e W' => e = .panicked (u2d.chain 280) ∧ Below w0.heap.size w0 W':=by
 unfold Tx.nameP at hn
 split at hn
 · cases hn
 · rename_i hN
   have HS:=Aside0.mk h
   have HN:Aside0 (u1m.f (Base.ofL (s.takeWhile Tx.wordC)) = some false):=⟨congrArg some (show Base.nameB (Base.ofL (s.takeWhile Tx.wordC)) = false by simpa using hN)⟩
   clear h hN hn
   go_enter Tryd.func43,Tryd.ntmps43
   go_wp2_with (first
    | (go_at_call 61;(with_reducible refine (u1b.calls_named w0 _ g s hl HS.out).mono ?_);rintro e W1 ⟨rfl,hs1,hk1⟩;have HS1:=Aside0.mk hs1;clear hs1 hk1)
    | (go_at_call 77;(with_reducible refine (u1m.calls _ false _ HN.out).mono ?_);rintro e W2 ⟨rfl,hb⟩;have HB:=Aside0.mk hb;clear hb)
    | (go_at_call 45;(with_reducible refine (u1x.calls_no _).mono ?_);rintro e W3 ⟨rfl,rfl⟩))
   exact ⟨rfl,rfl,(HS1.out.more HB.out).below⟩
theorem u1f.txt (d:List UInt8):(Base.ofL d).size = d.length ∧ (d ≠ [] → (Base.ofL d).toList.isEmpty = false ∧ ¬ (Base.ofL d).toList = []) ∧ (d = [] → (Base.ofL d).toList.isEmpty = true ∧ (Base.ofL d).toList = []):=by
 refine ⟨(Tx.cut_ofL d 0 (by omega)).2.2,fun h => ?_,fun h => ?_⟩
 · rw [ByteArray.toList_eq,Base.ofL_data]
   cases d with
   | nil => exact absurd rfl h
   | cons c r => exact ⟨rfl,fun e => by cases e⟩
 · rw [ByteArray.toList_eq,Base.ofL_data,h]
   exact ⟨rfl,rfl⟩
set_option maxRecDepth 100000 in
set_option maxHeartbeats 1000000 in
theorem u1f.calls_ok (w0 W:World) (g:Nat) (hxb:Bool) (most:Nat) (s:List UInt8) (hl:s.length ≤ 1000) (hm:most ≤ 1000) (d r:List UInt8) (hd:Tx.digitsP hxb most s = some (d,r)) (h:ua.St w0 W g s) :
 Calls Tryd.prog 90 #[.pointer (some ⟨g,0,none⟩),.int .i64 (most:Int),.bool hxb] W fun e W' => e = .returned (.string (Base.ofL d)) ∧ ua.St w0 W' g r ∧ u1l W W' g none:=by
 have hmf:∀ (fn:Fn) (first cap:Array Value) (w:World),(Instr.makeFunc fn first cap).run Tryd.prog w = .ok (.func fn first cap) w:=fun _ _ _ _ => rfl
 unfold Tx.digitsP at hd
 split at hd
 · rename_i hc
   obtain ⟨rfl,rfl⟩:=Prod.mk.inj (Option.some.inj hd)
   have HS:=Aside0.mk h
   have HG:=Aside0.mk h.lt
   obtain ⟨t1,t2,_⟩:=u1f.txt (s.takeWhile (Tx.digC hxb))
   obtain ⟨t3,t4⟩:=t2 hc.1
   have t5:decide (((s.takeWhile (Tx.digC hxb)).length:Int) ≤ (most:Int)) = true:=decide_eq_true (by have:=hc.2;omega)
   have t6:decide ((s.takeWhile (Tx.digC hxb)).length ≤ most) = true:=decide_eq_true hc.2
   clear h hd t2 hc
   go_enter Tryd.func90,Tryd.ntmps90
   go_wp2_with (first
    | (go_at_call 61;(with_reducible refine (u1b.calls_dig hxb W.heap.size w0 _ g s (by omega) (by exact ua.new_at W _) (by have:=HG.out;omega) (by exact HS.out.one_more _)).mono ?_);rintro e W1 ⟨rfl,hs1,hk1⟩;have HS1:=Aside0.mk hs1;have HK1:=Aside0.mk hk1;clear hs1 hk1)
    | (go_at_call 45;(with_reducible refine (u1x.calls_ok _).mono ?_);rintro e W3 ⟨rfl,rfl⟩))
   go_ret
   exact ⟨rfl,HS1.out,ua.keep_from HK1.out⟩
 · cases hd
set_option maxRecDepth 100000 in
set_option maxHeartbeats 1000000 in
theorem u1f.calls_no (w0 W:World) (g:Nat) (hxb:Bool) (most:Nat) (s:List UInt8) (hl:s.length ≤ 1000) (hm:most ≤ 1000) (hd:Tx.digitsP hxb most s = none) (h:ua.St w0 W g s) :
 Calls Tryd.prog 90 #[.pointer (some ⟨g,0,none⟩),.int .i64 (most:Int),.bool hxb] W fun e W' => e = .panicked (u2d.chain 280) ∧ Below w0.heap.size w0 W':=by
 have hmf:∀ (fn:Fn) (first cap:Array Value) (w:World),(Instr.makeFunc fn first cap).run Tryd.prog w = .ok (.func fn first cap) w:=fun _ _ _ _ => rfl
 unfold Tx.digitsP at hd
 split at hd
 · cases hd
 · rename_i hc
   have HS:=Aside0.mk h
   have HG:=Aside0.mk h.lt
   clear h hd
   by_cases he:s.takeWhile (Tx.digC hxb) = []
   · obtain ⟨t1,_,t2⟩:=u1f.txt (s.takeWhile (Tx.digC hxb))
     obtain ⟨t3,t4⟩:=t2 he
     clear t2 t1 hc he
     go_enter Tryd.func90,Tryd.ntmps90
     go_wp2_with (first
      | (go_at_call 61;(with_reducible refine (u1b.calls_dig hxb W.heap.size w0 _ g s (by omega) (by exact ua.new_at W _) (by have:=HG.out;omega) (by exact HS.out.one_more _)).mono ?_);rintro e W1 ⟨rfl,hs1,hk1⟩;have HS1:=Aside0.mk hs1;clear hs1 hk1)
      | (go_at_call 45;(with_reducible refine (u1x.calls_no _).mono ?_);rintro e W3 ⟨rfl,rfl⟩))
     exact ⟨rfl,rfl,HS1.out.below⟩
   · obtain ⟨t1,t2,_⟩:=u1f.txt (s.takeWhile (Tx.digC hxb))
     obtain ⟨t3,t4⟩:=t2 he
     have hgt:¬ (s.takeWhile (Tx.digC hxb)).length ≤ most:=fun h9 => hc ⟨he,h9⟩
     have t5:decide (((s.takeWhile (Tx.digC hxb)).length:Int) ≤ (most:Int)) = false:=decide_eq_false (by omega)
     have t6:decide ((s.takeWhile (Tx.digC hxb)).length ≤ most) = false:=decide_eq_false hgt
     clear t2 hc he
     go_enter Tryd.func90,Tryd.ntmps90
     go_wp2_with (first
      | (go_at_call 61;(with_reducible refine (u1b.calls_dig hxb W.heap.size w0 _ g s (by omega) (by exact ua.new_at W _) (by have:=HG.out;omega) (by exact HS.out.one_more _)).mono ?_);rintro e W1 ⟨rfl,hs1,hk1⟩;have HS1:=Aside0.mk hs1;clear hs1 hk1)
      | (go_at_call 45;(with_reducible refine (u1x.calls_no _).mono ?_);rintro e W3 ⟨rfl,rfl⟩))
     exact ⟨rfl,rfl,HS1.out.below⟩
theorem u1f.ok_at (most:Nat) (mi:Int) (hmi:(most:Int) = mi) (w0 W:World) (g:Nat) (hxb:Bool) (s:List UInt8) (hl:s.length ≤ 1000) (hm:most ≤ 1000) (d r:List UInt8) (hd:Tx.digitsP hxb most s = some (d,r)) (h:ua.St w0 W g s) :
 Calls Tryd.prog 90 #[.pointer (some ⟨g,0,none⟩),.int .i64 mi,.bool hxb] W fun e W' => e = .returned (.string (Base.ofL d)) ∧ ua.St w0 W' g r ∧ u1l W W' g none:=by
 subst hmi
 exact u1f.calls_ok w0 W g hxb most s hl hm d r hd h
theorem u1f.no_at (most:Nat) (mi:Int) (hmi:(most:Int) = mi) (w0 W:World) (g:Nat) (hxb:Bool) (s:List UInt8) (hl:s.length ≤ 1000) (hm:most ≤ 1000) (hd:Tx.digitsP hxb most s = none) (h:ua.St w0 W g s) :
 Calls Tryd.prog 90 #[.pointer (some ⟨g,0,none⟩),.int .i64 mi,.bool hxb] W fun e W' => e = .panicked (u2d.chain 280) ∧ Below w0.heap.size w0 W':=by
 subst hmi
 exact u1f.calls_no w0 W g hxb most s hl hm hd h
def uy.dig (z:Int):Int:=if 97 ≤ z then z - 87 else z - 48
def uy.num (base:Int):List Int → Int → Option Int
 | [],n => some n
 | c :: r,n => if n ≤ (18446744073709551615 - uy.dig c) / base then uy.num base r (n * base + uy.dig c) else none
theorem uy.u64_id (x:Int) (h0:0 ≤ x) (h1:x ≤ 18446744073709551615):IntKind.u64.wrap x = x:=by
 unfold IntKind.wrap
 simp only [IntKind.signed,IntKind.bits,Bool.false_and,Bool.false_eq_true,if_false]
 omega
theorem uy.quo {base d:Int} (hb:base = 10 ∨ base = 16) (h0:0 ≤ d) (h1:d ≤ 15):IntKind.u64.wrap ((18446744073709551615 - d).tdiv base) = (18446744073709551615 - d) / base:=by
 rw [Int.tdiv_eq_ediv_of_nonneg (by omega)]
 rcases hb with rfl | rfl <;> exact uy.u64_id _ (by omega) (by omega)
theorem uy.fits {base d m:Int} (hb:base = 10 ∨ base = 16) (h0:0 ≤ d) (h1:d ≤ 15) (hm:0 ≤ m) (h:m ≤ (18446744073709551615 - d) / base):0 ≤ m * base + d ∧ m * base + d ≤ 18446744073709551615 ∧ IntKind.u64.wrap (m * base) = m * base ∧ IntKind.u64.wrap (m * base + d) = m * base + d:=by
 rcases hb with rfl | rfl <;> exact ⟨by omega,by omega,uy.u64_id _ (by omega) (by omega),uy.u64_id _ (by omega) (by omega)⟩
theorem uy.rd_at (l:List Int) (x:Nat) (h:x < l.length):rd l (x:Int) ∈ l ∧ l.drop x = rd l (x:Int) :: l.drop (x + 1):=by
 have e:rd l (x:Int) = l[x]:=by simp [rd,List.getD_eq_getElem?_getD,h]
 rw [e]
 exact ⟨List.getElem_mem h,List.drop_eq_getElem_cons h⟩
theorem uy.add_at (b x:Nat):(⟨b,0,none⟩:Addr).add ((x:Int).toNat) = ⟨b,x,none⟩:=by
 rw [show (x:Int).toNat = x from rfl]
 unfold Addr.add
 split
 · rename_i h
   rw [h]
 · simp
set_option maxRecDepth 100000 in
set_option maxHeartbeats 1000000 in
theorem uy.calls_ok (s:ByteArray) (base:Int) (hb:base = 10 ∨ base = 16) (hs:s.size ≤ 1000) (hd:∀ c ∈ bytesOf s,(48 ≤ c ∧ c ≤ 57) ∨ (97 ≤ c ∧ c ≤ 102)) (n:Int) (hn:uy.num base (bytesOf s) 0 = some n) (w:World) :
 Calls Tryd.prog 89 #[.string s,.int .u64 base] w fun e w' => e = .returned (.int .u64 n) ∧ Below w.heap.size w w':=by
 have kb:=fun W => print_bytes (P:=Tryd.prog) 9 42 5 Tryd.underlying9 Tryd.underlying42 Tryd.underlying5 s W
 have HD:=Aside0.mk hd
 have HN:=Aside0.mk hn
 have HBs:=Aside0.mk hb
 have hlen:=bytesOf_length s
 have HR:=Aside0.mk (bytes_reads w 5 s (by omega))
 have h0b:(base == 0) = false:=beq_eq_false_iff_ne.2 (by omega)
 have h0c:¬ base = 0:=by omega
 clear hd hn hb
 go_enter Tryd.func89,Tryd.ntmps89
 go_wp2
 go_loopg [5,12] (s.size) (fun kq v5 v12 wr => ∃ (x:Nat) (m:Int),x ≤ s.size ∧ v12 = .int .i64 x ∧ v5 = .int .u64 m ∧ Aside0 (uy.num base ((bytesOf s).drop x) m = some n) ∧ Aside0 (0 ≤ m ∧ m ≤ 18446744073709551615) ∧ s.size ≤ kq + x ∧ ux (Lib.bytesWorld w 5 s) wr)
 case atStart => exact ⟨0,0,by omega,rfl,rfl,⟨by simpa using HN.out⟩,⟨by omega⟩,by omega,ux.refl _⟩
 case round =>
  clear HN
  obtain ⟨x,m,hx,rfl,rfl,HN,HM,hk,⟨m1,rfl⟩⟩:=hrel
  by_cases hlt:x < s.size
  · obtain ⟨ad,e,hc⟩:=Kd.at_int (Kd.C_of_reads (d:=(0:Int)) (h1:=fun _ => rfl) HR.out) (x:Int) (by omega) (by omega)
    obtain rfl:ad = ⟨w.heap.size,0,none⟩:=by injection e with e;exact e.symm
    clear e
    obtain ⟨hmem,hdrop⟩:=uy.rd_at (bytesOf s) x (by omega)
    obtain ⟨z,HZ⟩:∃ z:Int,Aside0 (rd (bytesOf s) (x:Int) = z):=⟨_,⟨rfl⟩⟩
    rw [HZ.out] at hc hdrop hmem
    rw [uy.add_at] at hc
    have hz:=HD.out z hmem
    rw [hdrop] at HN
    clear hdrop hmem
    by_cases h97:97 ≤ z
    · have h102:z ≤ 102:=by omega
      have h48:48 ≤ z:=by omega
      have hdz:uy.dig z = (z - 97 + 10):=by unfold uy.dig;rw [if_pos h97];omega
      have hq:=uy.quo (d:=(z - 97 + 10)) HBs.out (by omega) (by omega)
      unfold uy.num at HN
      rw [hdz] at HN
      have HQ:=Aside0.mk hq
      clear hz hdz hq
      by_cases hle:m ≤ (18446744073709551615 - (z - 97 + 10)) / base
      · have HF:=Aside0.mk (uy.fits (d:=(z - 97 + 10)) HBs.out (by omega) (by omega) HM.out.1 hle)
        have HT:Aside0 (decide (m ≤ IntKind.u64.wrap ((18446744073709551615 - (z - 97 + 10)).tdiv base)) = true):=⟨by rw [HQ.out];exact decide_eq_true hle⟩
        rw [if_pos hle] at HN
        clear hle
        go_wp2_with (go_at_call 45;(with_reducible refine (u1x.calls_yes _ HT.out _).mono ?_);rintro e W3 ⟨rfl,rfl⟩)
        obtain ⟨g1,rfl⟩:∃ g1,gk = g1 + 1:=⟨gk - 1,by omega⟩
        go_roundg g1
        case rel =>
         obtain ⟨f1,f2,f3,f4⟩:=HF.out
         exact ⟨x + 1,m * base + (z - 97 + 10),by omega,by go_num,by first | (rw [f3,f4];done) | (rw [f4];done) | (simp only [f3,f4];done),HN,⟨⟨f1,f2⟩⟩,by omega,⟨_,rfl⟩⟩
        case measure => omega
      · have HT:Aside0 (decide (m ≤ IntKind.u64.wrap ((18446744073709551615 - (z - 97 + 10)).tdiv base)) = false):=⟨by rw [HQ.out];exact decide_eq_false hle⟩
        rw [if_neg hle] at HN
        clear hle
        cases HN.out
    · have h102:z ≤ 57:=by omega
      have h48:48 ≤ z:=by omega
      have hdz:uy.dig z = (z - 48):=by unfold uy.dig;rw [if_neg h97]
      have hq:=uy.quo (d:=(z - 48)) HBs.out (by omega) (by omega)
      unfold uy.num at HN
      rw [hdz] at HN
      have HQ:=Aside0.mk hq
      clear hz hdz hq
      by_cases hle:m ≤ (18446744073709551615 - (z - 48)) / base
      · have HF:=Aside0.mk (uy.fits (d:=(z - 48)) HBs.out (by omega) (by omega) HM.out.1 hle)
        have HT:Aside0 (decide (m ≤ IntKind.u64.wrap ((18446744073709551615 - (z - 48)).tdiv base)) = true):=⟨by rw [HQ.out];exact decide_eq_true hle⟩
        rw [if_pos hle] at HN
        clear hle
        go_wp2_with (go_at_call 45;(with_reducible refine (u1x.calls_yes _ HT.out _).mono ?_);rintro e W3 ⟨rfl,rfl⟩)
        obtain ⟨g1,rfl⟩:∃ g1,gk = g1 + 1:=⟨gk - 1,by omega⟩
        go_roundg g1
        case rel =>
         obtain ⟨f1,f2,f3,f4⟩:=HF.out
         exact ⟨x + 1,m * base + (z - 48),by omega,by go_num,by first | (rw [f3,f4];done) | (rw [f4];done) | (simp only [f3,f4];done),HN,⟨⟨f1,f2⟩⟩,by omega,⟨_,rfl⟩⟩
        case measure => omega
      · have HT:Aside0 (decide (m ≤ IntKind.u64.wrap ((18446744073709551615 - (z - 48)).tdiv base)) = false):=⟨by rw [HQ.out];exact decide_eq_false hle⟩
        rw [if_neg hle] at HN
        clear hle
        cases HN.out
  · have HE:Aside0 (m = n):=⟨by
     have h1:=HN.out
     rw [List.drop_eq_nil_of_le (by omega)] at h1
     exact Option.some.inj h1⟩
    go_wp2
    go_ret
    exact ⟨by rw [HE.out];rfl,ub (bytes_below (Below.refl _ _) (Nat.le_refl _) _ _) m1⟩
set_option maxRecDepth 100000 in
set_option maxHeartbeats 1000000 in
theorem uy.calls_no (s:ByteArray) (base:Int) (hb:base = 10 ∨ base = 16) (hs:s.size ≤ 1000) (hd:∀ c ∈ bytesOf s,(48 ≤ c ∧ c ≤ 57) ∨ (97 ≤ c ∧ c ≤ 102)) (hn:uy.num base (bytesOf s) 0 = none) (w:World) :
 Calls Tryd.prog 89 #[.string s,.int .u64 base] w fun e w' => e = .panicked (u2d.chain 280) ∧ Below w.heap.size w w':=by
 have kb:=fun W => print_bytes (P:=Tryd.prog) 9 42 5 Tryd.underlying9 Tryd.underlying42 Tryd.underlying5 s W
 have HD:=Aside0.mk hd
 have HN:=Aside0.mk hn
 have HBs:=Aside0.mk hb
 have hlen:=bytesOf_length s
 have HR:=Aside0.mk (bytes_reads w 5 s (by omega))
 have h0b:(base == 0) = false:=beq_eq_false_iff_ne.2 (by omega)
 have h0c:¬ base = 0:=by omega
 clear hd hn hb
 go_enter Tryd.func89,Tryd.ntmps89
 go_wp2
 go_loopg [5,12] (s.size) (fun kq v5 v12 wr => ∃ (x:Nat) (m:Int),x ≤ s.size ∧ v12 = .int .i64 x ∧ v5 = .int .u64 m ∧ Aside0 (uy.num base ((bytesOf s).drop x) m = none) ∧ Aside0 (0 ≤ m ∧ m ≤ 18446744073709551615) ∧ s.size ≤ kq + x ∧ ux (Lib.bytesWorld w 5 s) wr)
 case atStart => exact ⟨0,0,by omega,rfl,rfl,⟨by simpa using HN.out⟩,⟨by omega⟩,by omega,ux.refl _⟩
 case round =>
  clear HN
  obtain ⟨x,m,hx,rfl,rfl,HN,HM,hk,⟨m1,rfl⟩⟩:=hrel
  by_cases hlt:x < s.size
  · obtain ⟨ad,e,hc⟩:=Kd.at_int (Kd.C_of_reads (d:=(0:Int)) (h1:=fun _ => rfl) HR.out) (x:Int) (by omega) (by omega)
    obtain rfl:ad = ⟨w.heap.size,0,none⟩:=by injection e with e;exact e.symm
    clear e
    obtain ⟨hmem,hdrop⟩:=uy.rd_at (bytesOf s) x (by omega)
    obtain ⟨z,HZ⟩:∃ z:Int,Aside0 (rd (bytesOf s) (x:Int) = z):=⟨_,⟨rfl⟩⟩
    rw [HZ.out] at hc hdrop hmem
    rw [uy.add_at] at hc
    have hz:=HD.out z hmem
    rw [hdrop] at HN
    clear hdrop hmem
    by_cases h97:97 ≤ z
    · have h102:z ≤ 102:=by omega
      have h48:48 ≤ z:=by omega
      have hdz:uy.dig z = (z - 97 + 10):=by unfold uy.dig;rw [if_pos h97];omega
      have hq:=uy.quo (d:=(z - 97 + 10)) HBs.out (by omega) (by omega)
      unfold uy.num at HN
      rw [hdz] at HN
      have HQ:=Aside0.mk hq
      clear hz hdz hq
      by_cases hle:m ≤ (18446744073709551615 - (z - 97 + 10)) / base
      · have HF:=Aside0.mk (uy.fits (d:=(z - 97 + 10)) HBs.out (by omega) (by omega) HM.out.1 hle)
        have HT:Aside0 (decide (m ≤ IntKind.u64.wrap ((18446744073709551615 - (z - 97 + 10)).tdiv base)) = true):=⟨by rw [HQ.out];exact decide_eq_true hle⟩
        rw [if_pos hle] at HN
        clear hle
        go_wp2_with (go_at_call 45;(with_reducible refine (u1x.calls_yes _ HT.out _).mono ?_);rintro e W3 ⟨rfl,rfl⟩)
        obtain ⟨g1,rfl⟩:∃ g1,gk = g1 + 1:=⟨gk - 1,by omega⟩
        go_roundg g1
        case rel =>
         obtain ⟨f1,f2,f3,f4⟩:=HF.out
         exact ⟨x + 1,m * base + (z - 97 + 10),by omega,by go_num,by first | (rw [f3,f4];done) | (rw [f4];done) | (simp only [f3,f4];done),HN,⟨⟨f1,f2⟩⟩,by omega,⟨_,rfl⟩⟩
        case measure => omega
      · have HT:Aside0 (decide (m ≤ IntKind.u64.wrap ((18446744073709551615 - (z - 97 + 10)).tdiv base)) = false):=⟨by rw [HQ.out];exact decide_eq_false hle⟩
        rw [if_neg hle] at HN
        clear hle
        go_wp2_with (go_at_call 45;(with_reducible refine (u1x.calls_not _ HT.out _).mono ?_);rintro e W3 ⟨rfl,rfl⟩)
        exact ⟨rfl,rfl,ub (bytes_below (Below.refl _ _) (Nat.le_refl _) _ _) m1⟩
    · have h102:z ≤ 57:=by omega
      have h48:48 ≤ z:=by omega
      have hdz:uy.dig z = (z - 48):=by unfold uy.dig;rw [if_neg h97]
      have hq:=uy.quo (d:=(z - 48)) HBs.out (by omega) (by omega)
      unfold uy.num at HN
      rw [hdz] at HN
      have HQ:=Aside0.mk hq
      clear hz hdz hq
      by_cases hle:m ≤ (18446744073709551615 - (z - 48)) / base
      · have HF:=Aside0.mk (uy.fits (d:=(z - 48)) HBs.out (by omega) (by omega) HM.out.1 hle)
        have HT:Aside0 (decide (m ≤ IntKind.u64.wrap ((18446744073709551615 - (z - 48)).tdiv base)) = true):=⟨by rw [HQ.out];exact decide_eq_true hle⟩
        rw [if_pos hle] at HN
        clear hle
        go_wp2_with (go_at_call 45;(with_reducible refine (u1x.calls_yes _ HT.out _).mono ?_);rintro e W3 ⟨rfl,rfl⟩)
        obtain ⟨g1,rfl⟩:∃ g1,gk = g1 + 1:=⟨gk - 1,by omega⟩
        go_roundg g1
        case rel =>
         obtain ⟨f1,f2,f3,f4⟩:=HF.out
         exact ⟨x + 1,m * base + (z - 48),by omega,by go_num,by first | (rw [f3,f4];done) | (rw [f4];done) | (simp only [f3,f4];done),HN,⟨⟨f1,f2⟩⟩,by omega,⟨_,rfl⟩⟩
        case measure => omega
      · have HT:Aside0 (decide (m ≤ IntKind.u64.wrap ((18446744073709551615 - (z - 48)).tdiv base)) = false):=⟨by rw [HQ.out];exact decide_eq_false hle⟩
        rw [if_neg hle] at HN
        clear hle
        go_wp2_with (go_at_call 45;(with_reducible refine (u1x.calls_not _ HT.out _).mono ?_);rintro e W3 ⟨rfl,rfl⟩)
        exact ⟨rfl,rfl,ub (bytes_below (Below.refl _ _) (Nat.le_refl _) _ _) m1⟩
  · have h1:=HN.out
    rw [List.drop_eq_nil_of_le (by omega)] at h1
    cases h1
theorem uy.num_is (base:Int):∀ (d:List UInt8) (n:Int),uy.num base (d.map fun c => (c.toNat:Int)) n = Tx.numL base d n
 | [],n => rfl
 | c :: d,n => by
   have e:uy.dig (c.toNat:Int) = Tx.digV c:=by
    unfold uy.dig Tx.digV
    by_cases h:97 ≤ c.toNat
    · rw [if_pos h,if_pos (by omega)]
    · rw [if_neg h,if_neg (by omega)]
   rw [List.map_cons]
   unfold uy.num Tx.numL
   rw [e,uy.num_is base d]
theorem uy.bytes_ofL (d:List UInt8):bytesOf (Base.ofL d) = d.map fun c => (c.toNat:Int):=by
 unfold bytesOf
 rw [Base.ofL_data]
theorem uy.bytes_hex {d:List UInt8} (hd:∀ c ∈ d,Tx.hexC c = true):∀ c ∈ bytesOf (Base.ofL d),(48 ≤ c ∧ c ≤ 57) ∨ (97 ≤ c ∧ c ≤ 102):=by
 rw [uy.bytes_ofL]
 intro z hz
 obtain ⟨c,hc,rfl⟩:=List.mem_map.1 hz
 have h:=hd c hc
 unfold Tx.hexC Tx.decC at h
 simp only [Bool.or_eq_true,Bool.and_eq_true,decide_eq_true_eq] at h
 omega
theorem uy.says (d:List UInt8) (base:Int) (hb:base = 10 ∨ base = 16) (hs:d.length ≤ 1000) (hd:∀ c ∈ d,Tx.hexC c = true) (n:Int) (hn:Tx.numL base d 0 = some n) (w:World) :
 Calls Tryd.prog 89 #[.string (Base.ofL d),.int .u64 base] w fun e w' => e = .returned (.int .u64 n) ∧ Below w.heap.size w w' :=
 uy.calls_ok (Base.ofL d) base hb (by rw [(Tx.cut_ofL d 0 (by omega)).2.2];exact hs) (uy.bytes_hex hd) n (by rw [uy.bytes_ofL,uy.num_is];exact hn) w
theorem uy.says_no (d:List UInt8) (base:Int) (hb:base = 10 ∨ base = 16) (hs:d.length ≤ 1000) (hd:∀ c ∈ d,Tx.hexC c = true) (hn:Tx.numL base d 0 = none) (w:World) :
 Calls Tryd.prog 89 #[.string (Base.ofL d),.int .u64 base] w fun e w' => e = .panicked (u2d.chain 280) ∧ Below w.heap.size w w' :=
 uy.calls_no (Base.ofL d) base hb (by rw [(Tx.cut_ofL d 0 (by omega)).2.2];exact hs) (uy.bytes_hex hd) (by rw [uy.bytes_ofL,uy.num_is];exact hn) w
theorem u1c.cut_pre (p s:List UInt8):u1k.f (Base.ofL s) (Base.ofL p) = if p.isPrefixOf s = true then some (Base.ofL (s.drop p.length),true) else some (Base.ofL s,false):=by
 have hs:(Base.ofL s).size = s.length:=(Tx.cut_ofL s 0 (by omega)).2.2
 have hp:(Base.ofL p).size = p.length:=(Tx.cut_ofL p 0 (by omega)).2.2
 unfold u1k.f u2a.f u1p.f
 rw [hs,hp]
 by_cases h:p.length ≤ s.length
 · have e1:((Base.ofL s).extract 0 ((p.length:Int)).toNat).toList = s.take p.length:=by
    rw [ByteArray.toList_eq,Base.extract_list,Base.ofL_data]
    simp
   have e2:(Base.ofL p).toList = p:=by rw [ByteArray.toList_eq,Base.ofL_data]
   have e3:(Base.ofL s).extract ((p.length:Int)).toNat s.length = Base.ofL (s.drop p.length):=by
    have:=(Tx.cut_ofL s p.length h).2.1
    rw [hs] at this
    simpa using this
   have e4:(s.take p.length == p) = p.isPrefixOf s:=by
    rw [Bool.eq_iff_iff,beq_iff_eq,List.isPrefixOf_iff_prefix]
    constructor
    · intro e
      rw [← e]
      exact List.take_prefix _ _
    · intro e
      exact (List.prefix_iff_eq_take.1 e).symm
   rw [if_pos (by omega),if_pos (by omega),if_pos (by omega),e1,e2,e4,e3]
   cases p.isPrefixOf s <;> simp [h]
 · have e5:p.isPrefixOf s = false:=by
    cases e:p.isPrefixOf s with
    | false => rfl
    | true => exact absurd (List.IsPrefix.length_le (List.isPrefixOf_iff_prefix.1 e)) h
   rw [if_neg (by omega),e5]
   rfl
theorem u1c.dig_all {h:Bool} {s:List UInt8}:∀ c ∈ s.takeWhile (Tx.digC h),Tx.hexC c = true:=by
 intro c hc
 have h1:Tx.digC h c = true:=by
  have:=List.all_takeWhile (p:=Tx.digC h) (l:=s)
  exact List.all_eq_true.1 this c hc
 unfold Tx.digC at h1
 cases h with
 | true => simpa using h1
 | false =>
   have h2:Tx.decC c = true:=by simpa using h1
   unfold Tx.hexC
   rw [h2]
   rfl
theorem u1c.dig_is {h:Bool} {most:Nat} {s d r:List UInt8} (hd:Tx.digitsP h most s = some (d,r)):(∀ c ∈ d,Tx.hexC c = true) ∧ d.length ≤ most ∧ r.length ≤ s.length:=by
 unfold Tx.digitsP at hd
 split at hd
 · rename_i hc
   obtain ⟨rfl,rfl⟩:=Prod.mk.inj (Option.some.inj hd)
   refine ⟨u1c.dig_all,hc.2,?_⟩
   have h1:=congrArg List.length (List.takeWhile_append_dropWhile (p:=Tx.digC h) (l:=s))
   rw [List.length_append] at h1
   omega
 · cases hd
set_option maxRecDepth 100000 in
set_option maxHeartbeats 1000000 in
theorem u1c.hex_ok (w0 W:World) (g:Nat) (s:List UInt8) (hl:s.length ≤ 1000) (q:List UInt8) (hs:s = 48 :: 120 :: q) (n:Int) (r:List UInt8) (hv:Tx.valueD true 16 16 q = some (n,r)) (h:ua.St w0 W g s) :
 Calls Tryd.prog 63 #[.pointer (some ⟨g,0,none⟩)] W fun e W' => e = .returned (.int .u64 n) ∧ ua.St w0 W' g r ∧ u1l W W' g none:=by
 unfold Tx.valueD at hv
 obtain ⟨⟨d,r'⟩,hd,hv⟩:=Option.bind_eq_some_iff.1 hv
 obtain ⟨n',hn,hv⟩:=Option.map_eq_some_iff.1 hv
 obtain ⟨rfl,rfl⟩:=Prod.mk.inj hv
 simp only at hn
 obtain ⟨ha,hdl,hrl⟩:=u1c.dig_is hd
 have HA:=Aside0.mk ha
 have HD:=Aside0.mk hd
 have HN:=Aside0.mk hn
 have hq:q.length ≤ 1000:=by rw [hs,List.length_cons,List.length_cons] at hl;omega
 have HC:Aside0 (u1k.f (Base.ofL (48 :: 120 :: q)) (⟨#[48,120]⟩:ByteArray) = some (Base.ofL q,true)):=⟨by
  have e:=u1c.cut_pre [48,120] s
  rw [hs,if_pos (by simp [List.isPrefixOf])] at e
  exact e⟩
 subst hs
 have HS:=Aside0.mk h
 obtain ⟨h0,f0⟩:=h.look
 clear h
 clear ha hd hn hv
 go_enter Tryd.func63,Tryd.ntmps63
 go_wp2_with (first
  | (go_at_call 78;(with_reducible refine (u1k.calls _ _ _ _ _ HC.out).mono ?_);rintro e W1 ⟨rfl,⟨nd,rfl⟩⟩)
  | (go_at_call 90;(with_reducible refine (u1f.ok_at 16 16 rfl w0 _ g true q (by omega) (by omega) d r' HD.out (by exact (HS.out.drew nd).set q)).mono ?_);rintro e W2 ⟨rfl,hs2,hk2⟩;have HS2:=Aside0.mk hs2;have HK2:=Aside0.mk hk2;clear hs2 hk2)
  | (go_at_call 89;(with_reducible refine (uy.says d 16 (by omega) (by omega) HA.out n' HN.out _).mono ?_);rintro e W3 ⟨rfl,hb3⟩;have HB3:=Aside0.mk hb3;clear hb3))
 go_ret
 exact ⟨rfl,HS2.out.more HB3.out,ua.keep_then ((u1l.of_below (ub (Below.refl _ _) nd) g none).set_ 0 _) (ua.keep_then HK2.out (u1l.of_below HB3.out g none))⟩
set_option maxRecDepth 100000 in
set_option maxHeartbeats 1000000 in
theorem u1c.hex_no (w0 W:World) (g:Nat) (s:List UInt8) (hl:s.length ≤ 1000) (q:List UInt8) (hs:s = 48 :: 120 :: q) (hv:Tx.valueD true 16 16 q = none) (h:ua.St w0 W g s) :
 Calls Tryd.prog 63 #[.pointer (some ⟨g,0,none⟩)] W fun e W' => e = .panicked (u2d.chain 280) ∧ Below w0.heap.size w0 W':=by
 unfold Tx.valueD at hv
 have hq:q.length ≤ 1000:=by rw [hs,List.length_cons,List.length_cons] at hl;omega
 have HC:Aside0 (u1k.f (Base.ofL (48 :: 120 :: q)) (⟨#[48,120]⟩:ByteArray) = some (Base.ofL q,true)):=⟨by
  have e:=u1c.cut_pre [48,120] s
  rw [hs,if_pos (by simp [List.isPrefixOf])] at e
  exact e⟩
 subst hs
 have HS:=Aside0.mk h
 obtain ⟨h0,f0⟩:=h.look
 clear h
 cases hd:Tx.digitsP true 16 q with
 | none =>
   have HD:=Aside0.mk hd
   clear hd hv
   go_enter Tryd.func63,Tryd.ntmps63
   go_wp2_with (first
    | (go_at_call 78;(with_reducible refine (u1k.calls _ _ _ _ _ HC.out).mono ?_);rintro e W1 ⟨rfl,⟨nd,rfl⟩⟩)
    | (go_at_call 90;(with_reducible refine (u1f.no_at 16 16 rfl w0 _ g true q (by omega) (by omega) HD.out (by exact (HS.out.drew nd).set q)).mono ?_);rintro e W2 ⟨rfl,hb2⟩))
   exact ⟨rfl,rfl,hb2⟩
 | some p =>
   obtain ⟨d,r⟩:=p
   rw [hd] at hv
   have hn:Tx.numL 16 d 0 = none:=by simpa using hv
   obtain ⟨ha,hdl,hrl⟩:=u1c.dig_is hd
   have HA:=Aside0.mk ha
   have HD:=Aside0.mk hd
   have HN:=Aside0.mk hn
   clear ha hd hn hv
   go_enter Tryd.func63,Tryd.ntmps63
   go_wp2_with (first
    | (go_at_call 78;(with_reducible refine (u1k.calls _ _ _ _ _ HC.out).mono ?_);rintro e W1 ⟨rfl,⟨nd,rfl⟩⟩)
    | (go_at_call 90;(with_reducible refine (u1f.ok_at 16 16 rfl w0 _ g true q (by omega) (by omega) d r HD.out (by exact (HS.out.drew nd).set q)).mono ?_);rintro e W2 ⟨rfl,hs2,hk2⟩;have HS2:=Aside0.mk hs2;have HK2:=Aside0.mk hk2;clear hs2 hk2)
    | (go_at_call 89;(with_reducible refine (uy.says_no d 16 (by omega) (by omega) HA.out HN.out _).mono ?_);rintro e W3 ⟨rfl,hb3⟩))
   exact ⟨rfl,rfl,(HS2.out.more hb3).below⟩
set_option maxRecDepth 100000 in
set_option maxHeartbeats 1000000 in
theorem u1c.dec_ok (w0 W:World) (g:Nat) (s:List UInt8) (hl:s.length ≤ 1000) (hs:([48,120]:List UInt8).isPrefixOf s = false) (n:Int) (r:List UInt8) (hv:Tx.valueD false 20 10 s = some (n,r)) (h:ua.St w0 W g s) :
 Calls Tryd.prog 63 #[.pointer (some ⟨g,0,none⟩)] W fun e W' => e = .returned (.int .u64 n) ∧ ua.St w0 W' g r ∧ u1l W W' g none:=by
 unfold Tx.valueD at hv
 obtain ⟨⟨d,r'⟩,hd,hv⟩:=Option.bind_eq_some_iff.1 hv
 obtain ⟨n',hn,hv⟩:=Option.map_eq_some_iff.1 hv
 obtain ⟨rfl,rfl⟩:=Prod.mk.inj hv
 simp only at hn
 obtain ⟨ha,hdl,hrl⟩:=u1c.dig_is hd
 have HA:=Aside0.mk ha
 have HD:=Aside0.mk hd
 have HN:=Aside0.mk hn
 have HC:Aside0 (u1k.f (Base.ofL s) (⟨#[48,120]⟩:ByteArray) = some (Base.ofL s,false)):=⟨by
  have e:=u1c.cut_pre [48,120] s
  rw [if_neg (by rw [hs];decide)] at e
  exact e⟩
 clear hs
 have HS:=Aside0.mk h
 obtain ⟨h0,f0⟩:=h.look
 clear h
 clear ha hd hn hv
 go_enter Tryd.func63,Tryd.ntmps63
 go_wp2_with (first
  | (go_at_call 78;(with_reducible refine (u1k.calls _ _ _ _ _ HC.out).mono ?_);rintro e W1 ⟨rfl,⟨nd,rfl⟩⟩)
  | (go_at_call 90;(with_reducible refine (u1f.ok_at 20 20 rfl w0 _ g false s (by omega) (by omega) d r' HD.out (by exact HS.out.drew nd)).mono ?_);rintro e W2 ⟨rfl,hs2,hk2⟩;have HS2:=Aside0.mk hs2;have HK2:=Aside0.mk hk2;clear hs2 hk2)
  | (go_at_call 89;(with_reducible refine (uy.says d 10 (by omega) (by omega) HA.out n' HN.out _).mono ?_);rintro e W3 ⟨rfl,hb3⟩;have HB3:=Aside0.mk hb3;clear hb3))
 go_ret
 exact ⟨rfl,HS2.out.more HB3.out,ua.keep_then (u1l.of_below (ub (Below.refl _ _) nd) g none) (ua.keep_then HK2.out (u1l.of_below HB3.out g none))⟩
set_option maxRecDepth 100000 in
set_option maxHeartbeats 1000000 in
theorem u1c.dec_no (w0 W:World) (g:Nat) (s:List UInt8) (hl:s.length ≤ 1000) (hs:([48,120]:List UInt8).isPrefixOf s = false) (hv:Tx.valueD false 20 10 s = none) (h:ua.St w0 W g s) :
 Calls Tryd.prog 63 #[.pointer (some ⟨g,0,none⟩)] W fun e W' => e = .panicked (u2d.chain 280) ∧ Below w0.heap.size w0 W':=by
 unfold Tx.valueD at hv
 have HC:Aside0 (u1k.f (Base.ofL s) (⟨#[48,120]⟩:ByteArray) = some (Base.ofL s,false)):=⟨by
  have e:=u1c.cut_pre [48,120] s
  rw [if_neg (by rw [hs];decide)] at e
  exact e⟩
 clear hs
 have HS:=Aside0.mk h
 obtain ⟨h0,f0⟩:=h.look
 clear h
 cases hd:Tx.digitsP false 20 s with
 | none =>
   have HD:=Aside0.mk hd
   clear hd hv
   go_enter Tryd.func63,Tryd.ntmps63
   go_wp2_with (first
    | (go_at_call 78;(with_reducible refine (u1k.calls _ _ _ _ _ HC.out).mono ?_);rintro e W1 ⟨rfl,⟨nd,rfl⟩⟩)
    | (go_at_call 90;(with_reducible refine (u1f.no_at 20 20 rfl w0 _ g false s (by omega) (by omega) HD.out (by exact HS.out.drew nd)).mono ?_);rintro e W2 ⟨rfl,hb2⟩))
   exact ⟨rfl,rfl,hb2⟩
 | some p =>
   obtain ⟨d,r⟩:=p
   rw [hd] at hv
   have hn:Tx.numL 10 d 0 = none:=by simpa using hv
   obtain ⟨ha,hdl,hrl⟩:=u1c.dig_is hd
   have HA:=Aside0.mk ha
   have HD:=Aside0.mk hd
   have HN:=Aside0.mk hn
   clear ha hd hn hv
   go_enter Tryd.func63,Tryd.ntmps63
   go_wp2_with (first
    | (go_at_call 78;(with_reducible refine (u1k.calls _ _ _ _ _ HC.out).mono ?_);rintro e W1 ⟨rfl,⟨nd,rfl⟩⟩)
    | (go_at_call 90;(with_reducible refine (u1f.ok_at 20 20 rfl w0 _ g false s (by omega) (by omega) d r HD.out (by exact HS.out.drew nd)).mono ?_);rintro e W2 ⟨rfl,hs2,hk2⟩;have HS2:=Aside0.mk hs2;have HK2:=Aside0.mk hk2;clear hs2 hk2)
    | (go_at_call 89;(with_reducible refine (uy.says_no d 10 (by omega) (by omega) HA.out HN.out _).mono ?_);rintro e W3 ⟨rfl,hb3⟩))
   exact ⟨rfl,rfl,(HS2.out.more hb3).below⟩
theorem u1c.value_is (s:List UInt8):(∃ q,s = 48 :: 120 :: q ∧ Tx.valueP s = Tx.valueD true 16 16 q) ∨ (([48,120]:List UInt8).isPrefixOf s = false ∧ Tx.valueP s = Tx.valueD false 20 10 s):=by
 by_cases h:∃ q,s = 48 :: 120 :: q
 · obtain ⟨q,rfl⟩:=h
   exact Or.inl ⟨q,rfl,rfl⟩
 · refine Or.inr ⟨?_,?_⟩
   · cases e:([48,120]:List UInt8).isPrefixOf s with
     | false => rfl
     | true =>
       obtain ⟨t,ht⟩:=List.isPrefixOf_iff_prefix.1 e
       exact absurd ⟨t,ht.symm⟩ h
   · unfold Tx.valueP
     split
     · exact absurd ⟨_,rfl⟩ h
     · rfl
theorem u1c.calls_ok (w0 W:World) (g:Nat) (s:List UInt8) (hl:s.length ≤ 1000) (n:Int) (r:List UInt8) (hv:Tx.valueP s = some (n,r)) (h:ua.St w0 W g s) :
 Calls Tryd.prog 63 #[.pointer (some ⟨g,0,none⟩)] W fun e W' => e = .returned (.int .u64 n) ∧ ua.St w0 W' g r ∧ u1l W W' g none:=by
 rcases u1c.value_is s with ⟨q,hq,e⟩ | ⟨hq,e⟩
 · exact u1c.hex_ok w0 W g s hl q hq n r (e ▸ hv) h
 · exact u1c.dec_ok w0 W g s hl hq n r (e ▸ hv) h
theorem u1c.calls_no (w0 W:World) (g:Nat) (s:List UInt8) (hl:s.length ≤ 1000) (hv:Tx.valueP s = none) (h:ua.St w0 W g s) :
 Calls Tryd.prog 63 #[.pointer (some ⟨g,0,none⟩)] W fun e W' => e = .panicked (u2d.chain 280) ∧ Below w0.heap.size w0 W':=by
 rcases u1c.value_is s with ⟨q,hq,e⟩ | ⟨hq,e⟩
 · exact u1c.hex_no w0 W g s hl q hq (e ▸ hv) h
 · exact u1c.dec_no w0 W g s hl hq (e ▸ hv) h
def u1h.l0:Nat → ByteArray → ByteArray → Int → Option (ByteArray)
 | 0,_,_,_ => none
 | k + 1,x0,x3,x4 => if x4 < (x0.size:Int) then (if 0 ≤ x4 then (if (bt x0 x4) = 34 then (if x3.size + 1 ≤ 9223372036854775807 then (if x4 ≤ (wrap64 (x4 + 1)) then (if (wrap64 (x4 + 1)) ≤ (x0.size:Int) then (if (x3 ++ (⟨#[92]⟩:ByteArray)).size + (x0.extract (x4:Int).toNat ((wrap64 (x4 + 1)):Int).toNat).size ≤ 9223372036854775807 then (u1h.l0 k x0 ((x3 ++ (⟨#[92]⟩:ByteArray)) ++ (x0.extract (x4:Int).toNat ((wrap64 (x4 + 1)):Int).toNat)) (wrap64 (x4 + 1))) else (none)) else (none)) else (none)) else (none)) else (if (bt x0 x4) = 92 then (if x3.size + 1 ≤ 9223372036854775807 then (if x4 ≤ (wrap64 (x4 + 1)) then (if (wrap64 (x4 + 1)) ≤ (x0.size:Int) then (if (x3 ++ (⟨#[92]⟩:ByteArray)).size + (x0.extract (x4:Int).toNat ((wrap64 (x4 + 1)):Int).toNat).size ≤ 9223372036854775807 then (u1h.l0 k x0 ((x3 ++ (⟨#[92]⟩:ByteArray)) ++ (x0.extract (x4:Int).toNat ((wrap64 (x4 + 1)):Int).toNat)) (wrap64 (x4 + 1))) else (none)) else (none)) else (none)) else (none)) else (if x4 ≤ (wrap64 (x4 + 1)) then (if (wrap64 (x4 + 1)) ≤ (x0.size:Int) then (if x3.size + (x0.extract (x4:Int).toNat ((wrap64 (x4 + 1)):Int).toNat).size ≤ 9223372036854775807 then (u1h.l0 k x0 (x3 ++ (x0.extract (x4:Int).toNat ((wrap64 (x4 + 1)):Int).toNat)) (wrap64 (x4 + 1))) else (none)) else (none)) else (none)))) else (none)) else (if x3.size + 1 ≤ 9223372036854775807 then (some (x3 ++ (⟨#[34]⟩:ByteArray))) else (none))
def u1h.f (k:Nat) (a0:ByteArray):Option (ByteArray):=u1h.l0 k a0 (⟨#[34]⟩:ByteArray) 0
set_option maxHeartbeats 8000000 in
set_option maxRecDepth 100000 in
theorem u1h.calls (k:Nat) (a0:ByteArray) (r:ByteArray) (w:World) (h:u1h.f k a0 = some r) :
 Calls Tryd.prog 11 #[.string a0] w fun e w' => e = .returned (.string r) ∧ ux w w':=by
 have H:(u1h.l0 k a0 (⟨#[34]⟩:ByteArray) 0) = some r:=h
 clear h
 have H':=Aside0.mk H
 clear H
 go_enter Tryd.func11,Tryd.ntmps11
 go_wp2
 go_loopg [3,4] k (fun kq v3 v4 w' => ∃ (x3_1:ByteArray) (x4_1:Int),v3 = .string x3_1 ∧ v4 = .int .i64 x4_1 ∧ Aside0 (u1h.l0 kq a0 x3_1 x4_1 = some r) ∧ Aside0 (kq ≤ k) ∧ ux w w')
 case atStart => exact ⟨((⟨#[34]⟩:ByteArray)),(0),(by first | rfl | (simp;done) | (simp [*];done)),(by first | rfl | (simp;done) | (simp [*];done)),H',⟨Nat.le_refl _⟩,by repeat (first | exact ux.refl _ | apply ux.step)⟩
 case round =>
  clear H'
  try clear c1
  obtain ⟨x3_1,x4_1,rfl,rfl,HA,HK1,⟨m1,rfl⟩⟩:=hrel
  cases gk with
  | zero => exact absurd HA.out (by simp [u1h.l0])
  | succ k1 =>
    have H:=HA.out
    clear HA
    simp only [u1h.l0] at H
    by_cases c2:x4_1 < (a0.size:Int)
    · rw [if_pos c2] at H
      have c2b0:decide (x4_1 < (a0.size:Int)) = true:=decide_eq_true c2
      clear c2
      by_cases c3:0 ≤ x4_1
      · rw [if_pos c3] at H
        have c3b0:decide (0 ≤ x4_1) = true:=decide_eq_true c3
        clear c3
        by_cases c5:(bt a0 x4_1) = 34
        · rw [if_pos c5] at H
          have c5b0:((bt a0 x4_1) == 34) = true:=beq_iff_eq.mpr c5
          have c5b1:((bt a0 x4_1) != 34) = false:=bne_eq_false_iff_eq.mpr c5
          clear c5
          by_cases c6:x3_1.size + 1 ≤ 9223372036854775807
          · rw [if_pos c6] at H
            have c6b0:=eq_true c6
            have c6b1:decide (x3_1.size + 1 ≤ 9223372036854775807) = true:=decide_eq_true c6
            try have c6b2:(9223372036854775807 < x3_1.size + 1) = False:=eq_false (Nat.not_lt.2 c6)
            try (have c6b3:=c6b2;simp only [ByteArray.size_append,Base.size1,(show ∀ a_ b_:UInt8,(⟨#[a_,b_]⟩:ByteArray).size = 2 from fun _ _ => rfl)] at c6b3)
            have c7b0:=eq_true (of_decide_eq_true (by first | (with_reducible assumption) | assumption):0 ≤ x4_1)
            by_cases c8:x4_1 ≤ (wrap64 (x4_1 + 1))
            · rw [if_pos c8] at H
              have c8b0:=eq_true c8
              have c8b1:decide (x4_1 ≤ (wrap64 (x4_1 + 1))) = true:=decide_eq_true c8
              by_cases c9:(wrap64 (x4_1 + 1)) ≤ (a0.size:Int)
              · rw [if_pos c9] at H
                have c9b0:=eq_true c9
                have c9b1:decide ((wrap64 (x4_1 + 1)) ≤ (a0.size:Int)) = true:=decide_eq_true c9
                by_cases c10:(x3_1 ++ (⟨#[92]⟩:ByteArray)).size + (a0.extract (x4_1:Int).toNat ((wrap64 (x4_1 + 1)):Int).toNat).size ≤ 9223372036854775807
                · rw [if_pos c10] at H
                  have c10b0:=eq_true c10
                  have c10b1:decide ((x3_1 ++ (⟨#[92]⟩:ByteArray)).size + (a0.extract (x4_1:Int).toNat ((wrap64 (x4_1 + 1)):Int).toNat).size ≤ 9223372036854775807) = true:=decide_eq_true c10
                  try have c10b2:(9223372036854775807 < (x3_1 ++ (⟨#[92]⟩:ByteArray)).size + (a0.extract (x4_1:Int).toNat ((wrap64 (x4_1 + 1)):Int).toNat).size) = False:=eq_false (Nat.not_lt.2 c10)
                  try (have c10b3:=c10b2;simp only [ByteArray.size_append,Base.size1,(show ∀ a_ b_:UInt8,(⟨#[a_,b_]⟩:ByteArray).size = 2 from fun _ _ => rfl)] at c10b3)
                  try (have c10b4:(9223372036854775807 < (x3_1 ++ (⟨#[92]⟩:ByteArray)).size + (((wrap64 (x4_1 + 1))).toNat - (x4_1).toNat)) = False:=eq_false (by have h4_:=c10;simp only [ByteArray.size_extract,ByteArray.size_append,Base.size1] at h4_;omega))
                  have H':=Aside0.mk H
                  clear H
                  have p4:0 ≤ (x4_1:Int):=of_decide_eq_true (by first | (with_reducible assumption) | assumption)
                  have q4:x4_1 < (a0.size:Int):=of_decide_eq_true (by first | (with_reducible assumption) | assumption)
                  have hx4:=bt_at a0 x4_1
                  replace p4:=eq_true p4
                  replace q4:=eq_true q4
                  go_wp2
                  go_roundg k1
                  case measure => have:=HK1.out;omega
                  case rel => exact ⟨((x3_1 ++ (⟨#[92]⟩:ByteArray)) ++ (a0.extract (x4_1:Int).toNat ((wrap64 (x4_1 + 1)):Int).toNat)),(wrap64 (x4_1 + 1)),(by first | rfl | (simp;done) | (simp [*];done)),(by first | rfl | (simp;done) | (simp [*];done)),H',⟨by have:=HK1.out;omega⟩,by repeat (first | exact ux.refl _ | apply ux.step)⟩
                · rw [if_neg c10] at H
                  exact absurd H (by simp)
              · rw [if_neg c9] at H
                exact absurd H (by simp)
            · rw [if_neg c8] at H
              exact absurd H (by simp)
          · rw [if_neg c6] at H
            exact absurd H (by simp)
        · rw [if_neg c5] at H
          have c5b0:((bt a0 x4_1) == 34) = false:=beq_eq_false_iff_ne.mpr c5
          have c5b1:((bt a0 x4_1) != 34) = true:=bne_iff_ne.mpr c5
          by_cases c12:(bt a0 x4_1) = 92
          · rw [if_pos c12] at H
            have c12b0:((bt a0 x4_1) == 92) = true:=beq_iff_eq.mpr c12
            have c12b1:((bt a0 x4_1) != 92) = false:=bne_eq_false_iff_eq.mpr c12
            clear c12
            by_cases c13:x3_1.size + 1 ≤ 9223372036854775807
            · rw [if_pos c13] at H
              have c13b0:=eq_true c13
              have c13b1:decide (x3_1.size + 1 ≤ 9223372036854775807) = true:=decide_eq_true c13
              try have c13b2:(9223372036854775807 < x3_1.size + 1) = False:=eq_false (Nat.not_lt.2 c13)
              try (have c13b3:=c13b2;simp only [ByteArray.size_append,Base.size1,(show ∀ a_ b_:UInt8,(⟨#[a_,b_]⟩:ByteArray).size = 2 from fun _ _ => rfl)] at c13b3)
              have c14b0:=eq_true (of_decide_eq_true (by first | (with_reducible assumption) | assumption):0 ≤ x4_1)
              by_cases c15:x4_1 ≤ (wrap64 (x4_1 + 1))
              · rw [if_pos c15] at H
                have c15b0:=eq_true c15
                have c15b1:decide (x4_1 ≤ (wrap64 (x4_1 + 1))) = true:=decide_eq_true c15
                by_cases c16:(wrap64 (x4_1 + 1)) ≤ (a0.size:Int)
                · rw [if_pos c16] at H
                  have c16b0:=eq_true c16
                  have c16b1:decide ((wrap64 (x4_1 + 1)) ≤ (a0.size:Int)) = true:=decide_eq_true c16
                  by_cases c17:(x3_1 ++ (⟨#[92]⟩:ByteArray)).size + (a0.extract (x4_1:Int).toNat ((wrap64 (x4_1 + 1)):Int).toNat).size ≤ 9223372036854775807
                  · rw [if_pos c17] at H
                    have c17b0:=eq_true c17
                    have c17b1:decide ((x3_1 ++ (⟨#[92]⟩:ByteArray)).size + (a0.extract (x4_1:Int).toNat ((wrap64 (x4_1 + 1)):Int).toNat).size ≤ 9223372036854775807) = true:=decide_eq_true c17
                    try have c17b2:(9223372036854775807 < (x3_1 ++ (⟨#[92]⟩:ByteArray)).size + (a0.extract (x4_1:Int).toNat ((wrap64 (x4_1 + 1)):Int).toNat).size) = False:=eq_false (Nat.not_lt.2 c17)
                    try (have c17b3:=c17b2;simp only [ByteArray.size_append,Base.size1,(show ∀ a_ b_:UInt8,(⟨#[a_,b_]⟩:ByteArray).size = 2 from fun _ _ => rfl)] at c17b3)
                    try (have c17b4:(9223372036854775807 < (x3_1 ++ (⟨#[92]⟩:ByteArray)).size + (((wrap64 (x4_1 + 1))).toNat - (x4_1).toNat)) = False:=eq_false (by have h4_:=c17;simp only [ByteArray.size_extract,ByteArray.size_append,Base.size1] at h4_;omega))
                    have H':=Aside0.mk H
                    clear H
                    have p4:0 ≤ (x4_1:Int):=of_decide_eq_true (by first | (with_reducible assumption) | assumption)
                    have q4:x4_1 < (a0.size:Int):=of_decide_eq_true (by first | (with_reducible assumption) | assumption)
                    have hx4:=bt_at a0 x4_1
                    replace p4:=eq_true p4
                    replace q4:=eq_true q4
                    have p11:0 ≤ (x4_1:Int):=of_decide_eq_true (by first | (with_reducible assumption) | assumption)
                    have q11:x4_1 < (a0.size:Int):=of_decide_eq_true (by first | (with_reducible assumption) | assumption)
                    have hx11:=bt_at a0 x4_1
                    replace p11:=eq_true p11
                    replace q11:=eq_true q11
                    go_wp2
                    go_roundg k1
                    case measure => have:=HK1.out;omega
                    case rel => exact ⟨((x3_1 ++ (⟨#[92]⟩:ByteArray)) ++ (a0.extract (x4_1:Int).toNat ((wrap64 (x4_1 + 1)):Int).toNat)),(wrap64 (x4_1 + 1)),(by first | rfl | (simp;done) | (simp [*];done)),(by first | rfl | (simp;done) | (simp [*];done)),H',⟨by have:=HK1.out;omega⟩,by repeat (first | exact ux.refl _ | apply ux.step)⟩
                  · rw [if_neg c17] at H
                    exact absurd H (by simp)
                · rw [if_neg c16] at H
                  exact absurd H (by simp)
              · rw [if_neg c15] at H
                exact absurd H (by simp)
            · rw [if_neg c13] at H
              exact absurd H (by simp)
          · rw [if_neg c12] at H
            have c12b0:((bt a0 x4_1) == 92) = false:=beq_eq_false_iff_ne.mpr c12
            have c12b1:((bt a0 x4_1) != 92) = true:=bne_iff_ne.mpr c12
            have c18b0:=eq_true (of_decide_eq_true (by first | (with_reducible assumption) | assumption):0 ≤ x4_1)
            by_cases c19:x4_1 ≤ (wrap64 (x4_1 + 1))
            · rw [if_pos c19] at H
              have c19b0:=eq_true c19
              have c19b1:decide (x4_1 ≤ (wrap64 (x4_1 + 1))) = true:=decide_eq_true c19
              by_cases c20:(wrap64 (x4_1 + 1)) ≤ (a0.size:Int)
              · rw [if_pos c20] at H
                have c20b0:=eq_true c20
                have c20b1:decide ((wrap64 (x4_1 + 1)) ≤ (a0.size:Int)) = true:=decide_eq_true c20
                by_cases c21:x3_1.size + (a0.extract (x4_1:Int).toNat ((wrap64 (x4_1 + 1)):Int).toNat).size ≤ 9223372036854775807
                · rw [if_pos c21] at H
                  have c21b0:=eq_true c21
                  have c21b1:decide (x3_1.size + (a0.extract (x4_1:Int).toNat ((wrap64 (x4_1 + 1)):Int).toNat).size ≤ 9223372036854775807) = true:=decide_eq_true c21
                  try have c21b2:(9223372036854775807 < x3_1.size + (a0.extract (x4_1:Int).toNat ((wrap64 (x4_1 + 1)):Int).toNat).size) = False:=eq_false (Nat.not_lt.2 c21)
                  try (have c21b3:=c21b2;simp only [ByteArray.size_append,Base.size1,(show ∀ a_ b_:UInt8,(⟨#[a_,b_]⟩:ByteArray).size = 2 from fun _ _ => rfl)] at c21b3)
                  try (have c21b4:(9223372036854775807 < x3_1.size + (((wrap64 (x4_1 + 1))).toNat - (x4_1).toNat)) = False:=eq_false (by have h4_:=c21;simp only [ByteArray.size_extract,ByteArray.size_append,Base.size1] at h4_;omega))
                  have H':=Aside0.mk H
                  clear H
                  have p4:0 ≤ (x4_1:Int):=of_decide_eq_true (by first | (with_reducible assumption) | assumption)
                  have q4:x4_1 < (a0.size:Int):=of_decide_eq_true (by first | (with_reducible assumption) | assumption)
                  have hx4:=bt_at a0 x4_1
                  replace p4:=eq_true p4
                  replace q4:=eq_true q4
                  have p11:0 ≤ (x4_1:Int):=of_decide_eq_true (by first | (with_reducible assumption) | assumption)
                  have q11:x4_1 < (a0.size:Int):=of_decide_eq_true (by first | (with_reducible assumption) | assumption)
                  have hx11:=bt_at a0 x4_1
                  replace p11:=eq_true p11
                  replace q11:=eq_true q11
                  go_wp2
                  go_roundg k1
                  case measure => have:=HK1.out;omega
                  case rel => exact ⟨(x3_1 ++ (a0.extract (x4_1:Int).toNat ((wrap64 (x4_1 + 1)):Int).toNat)),(wrap64 (x4_1 + 1)),(by first | rfl | (simp;done) | (simp [*];done)),(by first | rfl | (simp;done) | (simp [*];done)),H',⟨by have:=HK1.out;omega⟩,by repeat (first | exact ux.refl _ | apply ux.step)⟩
                · rw [if_neg c21] at H
                  exact absurd H (by simp)
              · rw [if_neg c20] at H
                exact absurd H (by simp)
            · rw [if_neg c19] at H
              exact absurd H (by simp)
      · rw [if_neg c3] at H
        exact absurd H (by simp)
    · rw [if_neg c2] at H
      have c2b0:decide (x4_1 < (a0.size:Int)) = false:=decide_eq_false c2
      clear c2
      by_cases c22:x3_1.size + 1 ≤ 9223372036854775807
      · rw [if_pos c22] at H
        have c22b0:=eq_true c22
        have c22b1:decide (x3_1.size + 1 ≤ 9223372036854775807) = true:=decide_eq_true c22
        try have c22b2:(9223372036854775807 < x3_1.size + 1) = False:=eq_false (Nat.not_lt.2 c22)
        try (have c22b3:=c22b2;simp only [ByteArray.size_append,Base.size1,(show ∀ a_ b_:UInt8,(⟨#[a_,b_]⟩:ByteArray).size = 2 from fun _ _ => rfl)] at c22b3)
        obtain rfl:=Option.some.inj H
        go_wp2
        go_ret
        exact ⟨by first | rfl | (simp;done) | (simp [*];done),by repeat (first | exact ux.refl _ | apply ux.step)⟩
      · rw [if_neg c22] at H
        exact absurd H (by simp)
def uu.f (a0:ByteArray):Option (ByteArray × ByteArray × Int):=if a0.size ≤ 140737488355328 then some (Base.unq a0) else none
theorem uu.cut_yes (c:UInt8) (s:ByteArray) (r:List UInt8) (h:s.data.toList = c :: r):u1k.f s (⟨#[c]⟩:ByteArray) = some (s.extract 1 s.size,true):=by
 have hs:s.size = r.length + 1:=by rw [← u2h,h];rfl
 have h1:(s.extract 0 1).toList = [c]:=by
  rw [ByteArray.toList_eq,Base.extract_list,h]
  rfl
 have h2:((s.size:Int) ≥ 1):=by omega
 have h3:((1:Int) ≤ (s.size:Int)):=by omega
 simp [u1k.f,u2a.f,u1p.f,Base.size1,h1,h2,h3,ByteArray.toList_eq]
theorem uu.cut_no (c:UInt8) (s:ByteArray) (h:∀ r,s.data.toList ≠ c :: r):u1k.f s (⟨#[c]⟩:ByteArray) = some (s,false):=by
 by_cases h2:((s.size:Int) ≥ 1)
 · have h3:((1:Int) ≤ (s.size:Int)):=by omega
   have h1:¬ List.take 1 s.data.toList = [c]:=by
    cases hl:s.data.toList with
    | nil => simp
    | cons x q =>
      intro e
      have:x = c:=by simpa using e
      subst this
      exact h q hl
   simp [u1k.f,u2a.f,u1p.f,Base.size1,h1,h2,h3,ByteArray.toList_eq]
 · have h3:¬ ((1:Int) ≤ (s.size:Int)):=by omega
   simp [u1k.f,u2a.f,u1p.f,Base.size1,h3]
theorem uu.head (x:ByteArray) (c:UInt8) (r:List UInt8) (h:x.data.toList = c :: r):∃ hp:0 < x.size,((x[0]'hp).toNat:Int) = c.toNat ∧ (x.extract 1 x.size).data.toList = r ∧ x.size = r.length + 1 ∧ x.toList.isEmpty = false:=by
 have hs:x.size = r.length + 1:=by rw [← u2h,h];rfl
 have hp:0 < x.size:=by omega
 refine ⟨hp,?_,?_,hs,?_⟩
 · have h1:x.data.toList[0]? = some c:=by rw [h];rfl
   have h2:x.data.toList[0]'(by rw [u2h];exact hp) = c:=by
    rw [List.getElem?_eq_getElem (by rw [u2h];exact hp)] at h1
    exact Option.some.inj h1
   have h3:x[0]'hp = x.data.toList[0]'(by rw [u2h];exact hp):=rfl
   rw [h3,h2]
 · rw [Base.extract_rest,h]
   rfl
 · rw [ByteArray.toList_eq,h]
   rfl
theorem uu.byte_is (c:UInt8):((c.toNat:Int) = 34 ↔ c = 34) ∧ ((c.toNat:Int) = 92 ↔ c = 92):=by
 refine ⟨⟨fun e => UInt8.toNat_inj.1 (by simpa using (by omega:c.toNat = 34)),fun e => by rw [e];rfl⟩,⟨fun e => UInt8.toNat_inj.1 (by simpa using (by omega:c.toNat = 92)),fun e => by rw [e];rfl⟩⟩
theorem uu.info:(Tryd.prog.info? 5).map (fun i => (i.zero,i.size,i.bytes)) = some (some (.int .u8 0),1,1):=by kernel_rfl
def uu.nats (l:List UInt8):List Int:=l.map fun c => (c.toNat:Int)
theorem uu.str_of (l:List UInt8):strOfNums (uu.nats l) = Base.ofL l:=by
 refine Base.ext_data ?_
 rw [strOfNums_data,Base.ofL_data,uu.nats,List.map_map]
 conv => rhs;rw [← List.map_id l]
 refine List.map_congr_left (fun c _ => ?_)
 simp
def uu.out (o:Option (List UInt8 × List UInt8)):ByteArray × ByteArray × Int:=match o with
 | some (a,q) => (Base.ofL a,Base.ofL q,0)
 | none => (⟨#[]⟩,⟨#[]⟩,5)
set_option maxHeartbeats 4000000 in
set_option maxRecDepth 100000 in
theorem uu.calls (a0:ByteArray) (r1:ByteArray) (r2:ByteArray) (r3:Int) (w:World) (h:uu.f a0 = some (r1,r2,r3)) :
 Calls Tryd.prog 105 #[.string a0] w fun e w' => e = .returned (.tuple #[.string r1,.string r2,.int .i64 r3]) ∧ Below w.heap.size w w':=by
 unfold uu.f at h
 by_cases hlim:a0.size ≤ 140737488355328
 · rw [if_pos hlim] at h
   have hu:=Option.some.inj h
   clear h
   by_cases hq:∃ r,a0.data.toList = 34 :: r
   · obtain ⟨r,hr⟩:=hq
     have hu2:uu.out (Base.unqL r []) = (r1,r2,r3):=by
      rw [← hu]
      unfold Base.unq
      rw [hr]
      simp only [uu.out,if_true]
      cases Base.unqL r [] with
      | none => rfl
      | some y => rfl
     have HU:=Aside0.mk hu2
     have HC:=Aside0.mk (uu.cut_yes 34 a0 r hr)
     have hrl:Aside0 ((a0.extract 1 a0.size).data.toList = r):=⟨by rw [Base.extract_rest,hr];rfl⟩
     have hrn:r.length ≤ a0.size:=by rw [← u2h,hr];simp
     clear hu hu2 hr
     go_enter Tryd.func105,Tryd.ntmps105
     go_wp2_with (go_at_call 78;refine (u1k.calls _ _ _ _ _ HC.out).mono ?_;rintro e W1 ⟨rfl,⟨nd,rfl⟩⟩)
     go_loopg [5,7] (r.length) (fun kq v5 v7 wr => ∃ (x:ByteArray) (l acc:List UInt8),v5 = .string x ∧ Aside0 (x.data.toList = l ∧ uu.out (Base.unqL l acc) = (r1,r2,r3) ∧ Kd.R (Kd.int .u8) 5 wr w.heap.size (fun _ => True) v7 (uu.nats acc)) ∧ l.length ≤ kq ∧ acc.length + l.length ≤ r.length ∧ Aside0 (Below w.heap.size w wr))
     case atStart => exact ⟨_,r,[],rfl,⟨hrl.out,HU.out,Kd.R_nil _ _ _ _ _⟩,Nat.le_refl _,by simp,⟨ub (Below.refl _ _) nd⟩⟩
     case round =>
      obtain ⟨x,l,acc,rfl,HR,hk,hal,HB⟩:=hrel
      cases l with
      | nil =>
        have he:x.toList.isEmpty = true:=by rw [ByteArray.toList_eq,HR.out.1];rfl
        have hfin:Aside0 (r1 = ⟨#[]⟩ ∧ r2 = ⟨#[]⟩ ∧ r3 = 5):=⟨by
         have h5:=HR.out.2.1
         rw [Base.unqL_nil] at h5
         obtain ⟨h6,h7⟩:=Prod.mk.inj h5
         obtain ⟨h8,h9⟩:=Prod.mk.inj h7
         exact ⟨h6.symm,h8.symm,h9.symm⟩⟩
        go_wp2
        go_ret3
        exact ⟨by rw [hfin.out.1,hfin.out.2.1,hfin.out.2.2];rfl,HB.out⟩
      | cons c q =>
        obtain ⟨hp,hc,hx2,hxs,he⟩:=uu.head x c q HR.out.1
        have HX2:=Aside0.mk hx2
        have HXS:=Aside0.mk hxs
        have hx1:1 ≤ x.size:=by omega
        clear hx2 hxs
        have hcz:=uu.byte_is c
        obtain ⟨z,hzc⟩:∃ z:Int,Aside0 ((c.toNat:Int) = z):=⟨_,⟨rfl⟩⟩
        rw [hzc.out] at hc hcz
        by_cases h34:c = 34
        · have hz:(z == 34) = true:=by simpa using hcz.1.2 h34
          have hcv:=own_string (P:=Tryd.prog) (src:=42) (dst:=9) (e:=5) (xs:=uu.nats acc) Tryd.underlying42 Tryd.underlying5 Tryd.underlying9 (Kd.own_of_R HR.out.2.2)
          rw [uu.str_of] at hcv
          have hfin:Aside0 (r1 = Base.ofL acc ∧ r2 = Base.ofL q ∧ r3 = 0):=⟨by
           have h5:=HR.out.2.1
           rw [h34,Base.unqL_end] at h5
           obtain ⟨h6,h7⟩:=Prod.mk.inj h5
           obtain ⟨h8,h9⟩:=Prod.mk.inj h7
           exact ⟨h6.symm,h8.symm,h9.symm⟩⟩
          have hrest:Aside0 (x.extract 1 x.size = Base.ofL q):=⟨Base.ext_data (by rw [HX2.out,Base.ofL_data])⟩
          go_wp2
          go_ret3
          exact ⟨by rw [hfin.out.1,hfin.out.2.1,hfin.out.2.2,← hrest.out];rfl,HB.out⟩
        · have hb34:(z == 34) = false:=by
           have:¬ z = 34:=fun e => h34 (hcz.1.1 e)
           simpa using this
          obtain ⟨g1,rfl⟩:∃ g1,gk = g1 + 1:=⟨gk - 1,by simp at hk;omega⟩
          by_cases h92:c = 92
          · have hz:(z == 92) = true:=by simpa using hcz.2.2 h92
            cases q with
            | nil =>
              have he2:(x.extract 1 x.size).toList.isEmpty = true:=by rw [ByteArray.toList_eq,HX2.out];rfl
              have hfin:Aside0 (r1 = ⟨#[]⟩ ∧ r2 = ⟨#[]⟩ ∧ r3 = 5):=⟨by
               have h5:=HR.out.2.1
               rw [h92,Base.unqL_open] at h5
               obtain ⟨h6,h7⟩:=Prod.mk.inj h5
               obtain ⟨h8,h9⟩:=Prod.mk.inj h7
               exact ⟨h6.symm,h8.symm,h9.symm⟩⟩
              go_wp2
              go_ret3
              exact ⟨by rw [hfin.out.1,hfin.out.2.1,hfin.out.2.2];rfl,HB.out⟩
            | cons d q2 =>
              obtain ⟨hp2,hc2,hx22,hxs2,he2⟩:=uu.head (x.extract 1 x.size) d q2 HX2.out
              have HX22:=Aside0.mk hx22
              have HXS2:=Aside0.mk hxs2
              have hx12:1 ≤ (x.extract 1 x.size).size:=by omega
              have hx2s:2 ≤ x.size:=by
               have:=HXS.out
               simp at this
               omega
              have HX23:Aside0 (((x.extract 1 x.size).extract 1 (x.size - 1)).data.toList = q2):=⟨by
               have e1:(x.extract 1 x.size).size = x.size - 1:=by
                have h1:=HXS.out
                have h2:=HXS2.out
                simp at h1
                omega
               have h3:=HX22.out
               rw [e1] at h3
               exact h3⟩
              clear hx22 hxs2
              have hcz2:=uu.byte_is d
              obtain ⟨z2,hzd⟩:∃ z2:Int,Aside0 ((d.toNat:Int) = z2):=⟨_,⟨rfl⟩⟩
              rw [hzd.out] at hc2 hcz2
              by_cases hd:d = 34 ∨ d = 92
              · have hfin:Aside0 (uu.out (Base.unqL q2 (acc ++ [d])) = (r1,r2,r3)):=⟨by
                 have h5:=HR.out.2.1
                 rw [h92,Base.unqL_esc d q2 acc hd] at h5
                 exact h5⟩
                by_cases hd34:d = 34
                · have hz2:(z2 == 34) = true:=by simpa using hcz2.1.2 hd34
                  have hz2b:(z2 != 34) = false:=by simpa using hcz2.1.2 hd34
                  go_wp2_with fail
                  go_quiet (fail)
                  go_wp2_with (at_builtin;refine print_append_num (w0:=w) w.heap.size rfl (.tmp 47) (.tmp 49) 42 5 .u8 1 rfl Tryd.underlying42 uu.info (by decide) _ (uu.nats acc) z2 rfl rfl (by exact pw_own_below (Kd.own_of_R HR.out.2.2) (ub (Below.refl _ _) _)) (by exact ub HB.out _) ?_ ?_ ?_)
                  · have:=HB.out.size;simpa using this
                  · have h8:(uu.nats acc).length = acc.length:=by simp [uu.nats]
                    rw [h8];simp at hal;omega
                  · intro v1 w1 hown hB hg hat
                    have hR1:Kd.R (Kd.int .u8) 5 w1 w.heap.size (fun _ => True) v1 (uu.nats (acc ++ [d])):=by
                     have h9:uu.nats (acc ++ [d]) = uu.nats acc ++ [z2]:=by simp [uu.nats,hzd.out]
                     rw [h9]
                     have e9:∀ y:Int,(uu.nats acc ++ [y]).length = (uu.nats acc).length + 1:=fun y => by simp
                     refine Kd.R_of_own ?_ (fun _ _ => trivial)
                     rw [e9]
                     exact hown
                    have HR1:=Aside0.mk hR1
                    have HB1:=Aside0.mk hB
                    clear hown hg hat hB hR1
                    go_wp2
                    go_roundg g1
                    case rel => exact ⟨_,q2,acc ++ [d],rfl,⟨HX23.out,hfin.out,HR1.out⟩,by simp at hk;omega,by simp at hal ⊢;omega,HB1⟩
                    case measure => omega
                · have hz2:(z2 == 34) = false:=by
                   have:¬ z2 = 34:=fun e => hd34 (hcz2.1.1 e)
                   simpa using this
                  have hz3:(z2 == 92) = true:=by
                   have:d = 92:=by rcases hd with h | h;exact absurd h hd34;exact h
                   simpa using hcz2.2.2 this
                  have hz2b:(z2 != 34) = true:=by
                   have:¬ z2 = 34:=fun e => hd34 (hcz2.1.1 e)
                   simpa using this
                  have hz3b:(z2 != 92) = false:=by
                   have:d = 92:=by rcases hd with h | h;exact absurd h hd34;exact h
                   simpa using hcz2.2.2 this
                  go_wp2_with fail
                  go_quiet (fail)
                  go_wp2_with (at_builtin;refine print_append_num (w0:=w) w.heap.size rfl (.tmp 47) (.tmp 49) 42 5 .u8 1 rfl Tryd.underlying42 uu.info (by decide) _ (uu.nats acc) z2 rfl rfl (by exact pw_own_below (Kd.own_of_R HR.out.2.2) (ub (Below.refl _ _) _)) (by exact ub HB.out _) ?_ ?_ ?_)
                  · have:=HB.out.size;simpa using this
                  · have h8:(uu.nats acc).length = acc.length:=by simp [uu.nats]
                    rw [h8];simp at hal;omega
                  · intro v1 w1 hown hB hg hat
                    have hR1:Kd.R (Kd.int .u8) 5 w1 w.heap.size (fun _ => True) v1 (uu.nats (acc ++ [d])):=by
                     have h9:uu.nats (acc ++ [d]) = uu.nats acc ++ [z2]:=by simp [uu.nats,hzd.out]
                     rw [h9]
                     have e9:∀ y:Int,(uu.nats acc ++ [y]).length = (uu.nats acc).length + 1:=fun y => by simp
                     refine Kd.R_of_own ?_ (fun _ _ => trivial)
                     rw [e9]
                     exact hown
                    have HR1:=Aside0.mk hR1
                    have HB1:=Aside0.mk hB
                    clear hown hg hat hB hR1
                    go_wp2
                    go_roundg g1
                    case rel => exact ⟨_,q2,acc ++ [d],rfl,⟨HX23.out,hfin.out,HR1.out⟩,by simp at hk;omega,by simp at hal ⊢;omega,HB1⟩
                    case measure => omega
              · have hfin:Aside0 (r1 = ⟨#[]⟩ ∧ r2 = ⟨#[]⟩ ∧ r3 = 5):=⟨by
                 have h5:=HR.out.2.1
                 rw [h92,Base.unqL_bad d q2 acc hd] at h5
                 obtain ⟨h6,h7⟩:=Prod.mk.inj h5
                 obtain ⟨h8,h9⟩:=Prod.mk.inj h7
                 exact ⟨h6.symm,h8.symm,h9.symm⟩⟩
                have hz2:(z2 == 34) = false:=by
                 have:¬ z2 = 34:=fun e => hd (.inl (hcz2.1.1 e))
                 simpa using this
                have hz3:(z2 == 92) = false:=by
                 have:¬ z2 = 92:=fun e => hd (.inr (hcz2.2.1 e))
                 simpa using this
                have hz2b:(z2 != 34) = true:=by simpa using hz2
                have hz3b:(z2 != 92) = true:=by simpa using hz3
                go_wp2
                go_ret3
                exact ⟨by rw [hfin.out.1,hfin.out.2.1,hfin.out.2.2];rfl,HB.out⟩
          · have hb92:(z == 92) = false:=by
             have:¬ z = 92:=fun e => h92 (hcz.2.1 e)
             simpa using this
            have hfin:Aside0 (uu.out (Base.unqL q (acc ++ [c])) = (r1,r2,r3)):=⟨by
             have h5:=HR.out.2.1
             rw [Base.unqL_plain c q acc h34 h92] at h5
             exact h5⟩
            go_wp2_with (at_builtin;refine print_append_num (w0:=w) w.heap.size rfl (.tmp 47) (.tmp 49) 42 5 .u8 1 rfl Tryd.underlying42 uu.info (by decide) _ (uu.nats acc) z rfl rfl (by exact Kd.own_of_R HR.out.2.2) (by exact HB.out) ?_ ?_ ?_)
            · have:=HB.out.size;simpa using this
            · have h8:(uu.nats acc).length = acc.length:=by simp [uu.nats]
              rw [h8];simp at hal;omega
            · intro v1 w1 hown hB hg hat
              have hR1:Kd.R (Kd.int .u8) 5 w1 w.heap.size (fun _ => True) v1 (uu.nats (acc ++ [c])):=by
               have h9:uu.nats (acc ++ [c]) = uu.nats acc ++ [z]:=by simp [uu.nats,hzc.out]
               rw [h9]
               have e9:∀ y:Int,(uu.nats acc ++ [y]).length = (uu.nats acc).length + 1:=fun y => by simp
               refine Kd.R_of_own ?_ (fun _ _ => trivial)
               rw [e9]
               exact hown
              have HR1:=Aside0.mk hR1
              have HB1:=Aside0.mk hB
              clear hown hg hat hB hR1
              go_wp2
              go_roundg g1
              case rel => exact ⟨_,q,acc ++ [c],rfl,⟨HX2.out,hfin.out,HR1.out⟩,by simp at hk;omega,by simp at hal ⊢;omega,HB1⟩
              case measure => omega
   · have hcut:=uu.cut_no 34 a0 (fun r hr => hq ⟨r,hr⟩)
     have HC:=Aside0.mk hcut
     have hu2:Aside0 (r1 = ⟨#[]⟩ ∧ r2 = ⟨#[]⟩ ∧ r3 = 5):=⟨by
      unfold Base.unq at hu
      cases hl:a0.data.toList with
      | nil =>
        rw [hl] at hu
        obtain ⟨h6,h7⟩:=Prod.mk.inj hu
        obtain ⟨h8,h9⟩:=Prod.mk.inj h7
        exact ⟨h6.symm,h8.symm,h9.symm⟩
      | cons c q =>
        rw [hl] at hu
        have hc:¬ c = 34:=fun e => hq ⟨q,by rw [hl,e]⟩
        simp only [hc,if_false] at hu
        obtain ⟨h6,h7⟩:=Prod.mk.inj hu
        obtain ⟨h8,h9⟩:=Prod.mk.inj h7
        exact ⟨h6.symm,h8.symm,h9.symm⟩⟩
     clear hcut hu
     go_enter Tryd.func105,Tryd.ntmps105
     go_wp2_with (go_at_call 78;refine (u1k.calls _ _ _ _ _ HC.out).mono ?_;rintro e W1 ⟨rfl,⟨nd,rfl⟩⟩)
     refine wp_loop_rounds 1 ?_
     rw [rounds_succ]
     go_wp2
     go_ret3
     exact ⟨by rw [hu2.out.1,hu2.out.2.1,hu2.out.2.2];rfl,ub (Below.refl _ _) nd⟩
 · rw [if_neg hlim] at h
   exact absurd h (by simp)
set_option maxRecDepth 100000 in
set_option maxHeartbeats 1000000 in
theorem u1d.walk (w0 W:World) (g:Nat) (s:List UInt8) (hl:s.length ≤ 1000) (n:ByteArray) (r:List UInt8) (hn:Tx.nameP s = some (n,r)) (q:List UInt8) (hq:r = 61 :: q) (v:ByteArray) (t:List UInt8) (hv:Base.unq (Base.ofL q) = (v,Base.ofL t,0)) (hql:q.length ≤ 1000)
 (h:ua.St w0 W g s) :
 Calls Tryd.prog 85 #[.pointer (some ⟨g,0,none⟩)] W fun e W' => e = .returned (.agg #[.string n,.string v]) ∧ ua.St w0 W' g t ∧ u1l W W' g none:=by
 have HS:=Aside0.mk h
 have HN:=Aside0.mk hn
 have HG:=Aside0.mk h.lt
 have HU:Aside0 (uu.f (Base.ofL q) = some (v,Base.ofL t,0)):=⟨by
  unfold uu.f
  rw [if_pos (by rw [(Tx.cut_ofL q 0 (by omega)).2.2];omega),hv]⟩
 subst hq
 clear h hn hv
 go_enter Tryd.func85,Tryd.ntmps85
 go_wp2_with (first
  | (go_at_call 43;(with_reducible refine (u2c.calls_ok w0 _ g s (by omega) n (61 :: q) HN.out (by exact HS.out.one_more _)).mono ?_);rintro e W1 ⟨rfl,hs1,hk1⟩;have HS1:=Aside0.mk hs1;have HK1:=Aside0.mk hk1;have HL1:Aside0 (W.heap.size < W1.heap.size):=⟨by have:=hk1.1;simp at this;omega⟩;have B1:=Aside0.mk (ua.kept_at hk1 (by have:=HG.out;omega) (ua.new_at W _));clear hs1 hk1)
  | (go_at_call 44;(with_reducible refine (u1i.calls_ok w0 _ g 61 q (by exact HS1.out.one_more _)).mono ?_);rintro e W2 ⟨rfl,hs2,hk2⟩;have HS2:=Aside0.mk hs2;have HK2:=Aside0.mk hk2;have B2:=Aside0.mk (ua.kept_at hk2 (by have:=HG.out;omega) (ua.new_old B1.out _));have B3:=Aside0.mk (ua.kept_at hk2 (by have:=HG.out;have:=HL1.out;omega) (ua.new_at W1 _));obtain ⟨h0,f0⟩:=hs2.look;clear hs2 hk2)
  | (go_at_call 105;(with_reducible refine (uu.calls _ _ _ _ _ HU.out).mono ?_);rintro e W3 ⟨rfl,hb⟩;clear h0 f0;obtain ⟨h0,f0⟩:=(HS2.out.more hb).look;obtain ⟨a0,a1,a2,a3⟩:=ua.look2 (ua.below_at hb B2.out);obtain ⟨b0,b1,b2,b3⟩:=ua.look2 (ua.below_at hb B3.out);have HB:=Aside0.mk hb;clear hb;have n1:¬ W1.heap.size = g:=(by have:=HG.out;have:=HL1.out;omega);have n2:¬ W.heap.size = g:=(by have:=HG.out;omega);have n3:¬ W.heap.size = W1.heap.size:=(by have:=HL1.out;omega);have n4:¬ g = W1.heap.size:=fun e => n1 e.symm;have n5:¬ g = W.heap.size:=fun e => n2 e.symm;have n6:¬ W1.heap.size = W.heap.size:=fun e => n3 e.symm)
  | (go_at_call 45;(with_reducible refine (u1x.calls_ok _).mono ?_);rintro e W4 ⟨rfl,rfl⟩))
 refine bodyPost_ret (v:=.agg #[.string n,.string v]) (by simp [results,Tryd.results85,go_sem,n1,n2,n3,n4,n5,n6,a0,a1,a2,a3]) rfl ⟨rfl,?_,?_⟩
 · have hw:w0.heap.size ≤ W.heap.size:=HS.out.below.size
   have hw1:w0.heap.size ≤ W1.heap.size:=HS1.out.below.size
   exact ((((HS2.out.more HB.out).far hw1 n4 _).set t).far hw n5 _).far hw n5 _
 · have k4:u1l W W4 g none:=ua.keep_then (ua.keep_from HK1.out) (ua.keep_then (ua.keep_from HK2.out) (u1l.of_below HB.out g none))
   exact ua.keep_new (ua.keep_new ((ua.keep_new k4 (by have:=HL1.out;show W.heap.size ≤ W1.heap.size;omega) _).set_ 0 _) (Nat.le_refl _) _) (Nat.le_refl _) _
theorem u1d.quoted (q:List UInt8):(∀ v t,Tx.quotedP q = some (v,t) → Base.unq (Base.ofL q) = (v,Base.ofL t,0)) ∧ (Tx.quotedP q = none → Base.unq (Base.ofL q) = (⟨#[]⟩,⟨#[]⟩,5)):=by
 unfold Tx.quotedP Base.unq
 rw [Base.ofL_data]
 cases q with
 | nil => exact ⟨fun v t h => (by cases h),fun _ => rfl⟩
 | cons c r =>
   simp only
   by_cases hc:c = 34
   · rw [if_pos hc,if_pos hc]
     cases Base.unqL r [] with
     | none => exact ⟨fun v t h => (by cases h),fun _ => rfl⟩
     | some p =>
       refine ⟨fun v t h => ?_,fun h => by cases h⟩
       obtain ⟨rfl,rfl⟩:=Prod.mk.inj (Option.some.inj h)
       rfl
   · rw [if_neg hc,if_neg hc]
     exact ⟨fun v t h => (by cases h),fun _ => rfl⟩
theorem u1d.name_rest {s r:List UInt8} {n:ByteArray} (h:Tx.nameP s = some (n,r)):r.length ≤ s.length:=by
 unfold Tx.nameP at h
 split at h
 · obtain ⟨_,rfl⟩:=Prod.mk.inj (Option.some.inj h)
   have h1:=congrArg List.length (List.takeWhile_append_dropWhile (p:=Tx.wordC) (l:=s))
   rw [List.length_append] at h1
   omega
 · cases h
theorem u1d.expect_is (c:UInt8) (s:List UInt8):(∀ q,Tx.expectP [c] s = some q → s = c :: q) ∧ (Tx.expectP [c] s = none → ∀ r,s ≠ c :: r):=by
 unfold Tx.expectP
 cases s with
 | nil => exact ⟨fun q h => by simp [List.isPrefixOf] at h,fun _ r h => by cases h⟩
 | cons d t =>
   by_cases hc:c = d
   · subst hc
     exact ⟨fun q h => by simp [List.isPrefixOf] at h;rw [h],fun h => by simp [List.isPrefixOf] at h⟩
   · exact ⟨fun q h => by simp [List.isPrefixOf,hc] at h,fun _ r h => hc (List.cons.inj h).1.symm⟩
theorem u1d.calls_ok (w0 W:World) (g:Nat) (s:List UInt8) (hl:s.length ≤ 1000) (x:Tx.Lb) (t:List UInt8) (hx:Tx.labelP s = some (x,t)) (h:ua.St w0 W g s) :
 Calls Tryd.prog 85 #[.pointer (some ⟨g,0,none⟩)] W fun e W' => e = .returned (.agg #[.string x.f0,.string x.f1]) ∧ ua.St w0 W' g t ∧ u1l W W' g none:=by
 unfold Tx.labelP at hx
 obtain ⟨⟨n,r⟩,hn,hx⟩:=Option.bind_eq_some_iff.1 hx
 obtain ⟨⟨v,t'⟩,hv,hx⟩:=Option.map_eq_some_iff.1 hx
 obtain ⟨rfl,rfl⟩:=Prod.mk.inj hx
 obtain ⟨q,hq,hv⟩:=Option.bind_eq_some_iff.1 hv
 have hr:=u1d.name_rest hn
 have hq2:=(u1d.expect_is 61 r).1 q hq
 subst hq2
 rw [List.length_cons] at hr
 exact u1d.walk w0 W g s hl n _ hn q rfl v t' ((u1d.quoted q).1 v t' hv) (by omega) h
set_option maxRecDepth 100000 in
set_option maxHeartbeats 1000000 in
theorem u1d.calls_no (w0 W:World) (g:Nat) (s:List UInt8) (hl:s.length ≤ 1000) (hx:Tx.labelP s = none) (h:ua.St w0 W g s) :
 Calls Tryd.prog 85 #[.pointer (some ⟨g,0,none⟩)] W fun e W' => e = .panicked (u2d.chain 280) ∧ Below w0.heap.size w0 W':=by
 have HS:=Aside0.mk h
 have HG:=Aside0.mk h.lt
 have HX:=Aside0.mk hx
 clear h hx
 cases hn:Tx.nameP s with
 | none =>
   have HN:=Aside0.mk hn
   clear hn
   go_enter Tryd.func85,Tryd.ntmps85
   go_wp2_with (go_at_call 43;(with_reducible refine (u2c.calls_no w0 _ g s (by omega) HN.out (by exact HS.out.one_more _)).mono ?_);rintro e W1 ⟨rfl,hb1⟩)
   exact ⟨rfl,rfl,hb1⟩
 | some p =>
   obtain ⟨n,r⟩:=p
   have hr:=u1d.name_rest hn
   have HN:=Aside0.mk hn
   cases hq:Tx.expectP [61] r with
   | none =>
     have HQ:=Aside0.mk ((u1d.expect_is 61 r).2 hq)
     clear hn hq
     go_enter Tryd.func85,Tryd.ntmps85
     go_wp2_with (first
      | (go_at_call 43;(with_reducible refine (u2c.calls_ok w0 _ g s (by omega) n r HN.out (by exact HS.out.one_more _)).mono ?_);rintro e W1 ⟨rfl,hs1,hk1⟩;have HS1:=Aside0.mk hs1;clear hs1 hk1)
      | (go_at_call 44;(with_reducible refine (u1i.calls_no w0 _ g 61 r HQ.out (by exact HS1.out.one_more _)).mono ?_);rintro e W2 ⟨rfl,hb2⟩))
     exact ⟨rfl,rfl,hb2⟩
   | some q =>
     have hq2:=(u1d.expect_is 61 r).1 q hq
     subst hq2
     have hv:Tx.quotedP q = none:=by
      have h1:=HX.out
      unfold Tx.labelP Tx.valP at h1
      rw [hn] at h1
      simp only [Option.bind_some] at h1
      rw [hq] at h1
      simpa using h1
     rw [List.length_cons] at hr
     have HU:Aside0 (uu.f (Base.ofL q) = some (⟨#[]⟩,⟨#[]⟩,5)):=⟨by
      unfold uu.f
      rw [if_pos (by rw [(Tx.cut_ofL q 0 (by omega)).2.2];omega),(u1d.quoted q).2 hv]⟩
     clear hn hq hv
     go_enter Tryd.func85,Tryd.ntmps85
     go_wp2_with (first
      | (go_at_call 43;(with_reducible refine (u2c.calls_ok w0 _ g s (by omega) n (61 :: q) HN.out (by exact HS.out.one_more _)).mono ?_);rintro e W1 ⟨rfl,hs1,hk1⟩;have HS1:=Aside0.mk hs1;clear hs1 hk1)
      | (go_at_call 44;(with_reducible refine (u1i.calls_ok w0 _ g 61 q (by exact HS1.out.one_more _)).mono ?_);rintro e W2 ⟨rfl,hs2,hk2⟩;have HS2:=Aside0.mk hs2;obtain ⟨h0,f0⟩:=hs2.look;clear hs2 hk2)
      | (go_at_call 105;(with_reducible refine (uu.calls _ _ _ _ _ HU.out).mono ?_);rintro e W3 ⟨rfl,hb⟩;have HB:=Aside0.mk hb;clear hb)
      | (go_at_call 45;(with_reducible refine (u1x.calls_no _).mono ?_);rintro e W4 ⟨rfl,rfl⟩))
     exact ⟨rfl,rfl,(HS2.out.more HB.out).below⟩
theorem uv.neg_is {n:Int} (h0:0 ≤ n) (h:n ≤ 9223372036854775808):wrap64 (IntKind.u64.wrap (-n)) = -n:=by
 unfold wrap64 IntKind.wrap
 simp only [IntKind.signed,IntKind.bits,Bool.false_and,Bool.false_eq_true,if_false]
 omega
theorem uv.pos_is {n:Int} (h0:0 ≤ n) (h:n < 9223372036854775808):wrap64 n = n:=by
 unfold wrap64
 omega
theorem uv.num_ge (base:Int) (hb:base = 10 ∨ base = 16):∀ (d:List UInt8) (m n:Int),(∀ c ∈ d,Tx.hexC c = true) → 0 ≤ m → Tx.numL base d m = some n → 0 ≤ n
 | [],m,n,_,hm,h => by
   cases Option.some.inj h
   exact hm
 | c :: d,m,n,hd,hm,h => by
   unfold Tx.numL at h
   split at h
   · refine uv.num_ge base hb d _ n (fun x hx => hd x (List.mem_cons_of_mem _ hx)) ?_ h
     have h1:=hd c (List.mem_cons_self ..)
     unfold Tx.hexC Tx.decC at h1
     simp only [Bool.or_eq_true,Bool.and_eq_true,decide_eq_true_eq] at h1
     have h2:0 ≤ Tx.digV c:=by
      unfold Tx.digV
      split <;> omega
     rcases hb with rfl | rfl <;> omega
   · cases h
theorem uv.peek_at (w0 W:World) (g:Nat) (s:List UInt8) (z:Int) (hz:ua.pk s = z) (h:ua.St w0 W g s):Calls Tryd.prog 31 #[.pointer (some ⟨g,0,none⟩)] W fun e W' => e = .returned (.int .u8 z) ∧ ux W W':=by
 subst hz
 exact ua.calls w0 W g s h
set_option maxRecDepth 100000 in
set_option maxHeartbeats 1000000 in
theorem uv.minus_ok (w0 W:World) (g:Nat) (s:List UInt8) (hl:s.length ≤ 1000) (q:List UInt8) (hs:s = 45 :: q) (n:Int) (r:List UInt8) (hv:Tx.valueD false 19 10 q = some (n,r)) (hle:n ≤ 9223372036854775808) (h:ua.St w0 W g s) :
 Calls Tryd.prog 64 #[.pointer (some ⟨g,0,none⟩)] W fun e W' => e = .returned (.int .i64 (-n)) ∧ ua.St w0 W' g r ∧ u1l W W' g none:=by
 subst hs
 have hql:q.length ≤ 1000:=by rw [List.length_cons] at hl;omega
 have HP:Aside0 (ua.pk (45 :: q) = 45):=⟨rfl⟩
 have HS:=Aside0.mk h
 clear h
 unfold Tx.valueD at hv
 obtain ⟨⟨d,r'⟩,hd,hv⟩:=Option.bind_eq_some_iff.1 hv
 obtain ⟨n',hn,hv⟩:=Option.map_eq_some_iff.1 hv
 obtain ⟨rfl,rfl⟩:=Prod.mk.inj hv
 simp only at hn
 obtain ⟨ha,hdl,hrl⟩:=u1c.dig_is hd
 have h0:=uv.num_ge 10 (Or.inl rfl) d 0 n' ha (Int.le_refl 0) hn
 have HA:=Aside0.mk ha
 have HD:=Aside0.mk hd
 have HN:=Aside0.mk hn
 have HT:Aside0 (decide (n' ≤ 9223372036854775808) = true):=⟨decide_eq_true hle⟩
 have HW:=Aside0.mk (uv.neg_is h0 hle)
 clear ha hd hn hv hle h0
 go_enter Tryd.func64,Tryd.ntmps64
 go_wp2_with (first
  | (go_at_call 31;(with_reducible refine (uv.peek_at w0 _ g (45 :: q) 45 HP.out (by exact HS.out)).mono ?_);rintro e W0 ⟨rfl,⟨nd,rfl⟩⟩)
  | (go_at_call 44;(with_reducible refine (u1i.calls_ok w0 _ g 45 q (by exact HS.out.drew nd)).mono ?_);rintro e W1 ⟨rfl,hs1,hk1⟩;have HS1:=Aside0.mk hs1;have HK1:=Aside0.mk hk1;clear hs1 hk1)
  | (go_at_call 90;(with_reducible refine (u1f.ok_at 19 19 rfl w0 _ g false q (by omega) (by omega) d r' HD.out (by exact HS1.out)).mono ?_);rintro e W2 ⟨rfl,hs2,hk2⟩;have HS2:=Aside0.mk hs2;have HK2:=Aside0.mk hk2;clear hs2 hk2)
  | (go_at_call 89;(with_reducible refine (uy.says d 10 (by omega) (by omega) HA.out n' HN.out _).mono ?_);rintro e W3 ⟨rfl,hb3⟩;have HB3:=Aside0.mk hb3;clear hb3)
  | (go_at_call 45;(with_reducible refine (u1x.calls_yes _ HT.out _).mono ?_);rintro e W4 ⟨rfl,rfl⟩))
 go_ret
 exact ⟨by first | rfl | (rw [HW.out];rfl),HS2.out.more HB3.out,ua.keep_then (ua.keep_then (u1l.of_below (ub (Below.refl _ _) nd) g none) HK1.out) (ua.keep_then HK2.out (u1l.of_below HB3.out g none))⟩
set_option maxRecDepth 100000 in
set_option maxHeartbeats 1000000 in
theorem uv.minus_big (w0 W:World) (g:Nat) (s:List UInt8) (hl:s.length ≤ 1000) (q:List UInt8) (hs:s = 45 :: q) (n:Int) (r:List UInt8) (hv:Tx.valueD false 19 10 q = some (n,r)) (hle:¬ n ≤ 9223372036854775808) (h:ua.St w0 W g s) :
 Calls Tryd.prog 64 #[.pointer (some ⟨g,0,none⟩)] W fun e W' => e = .panicked (u2d.chain 280) ∧ Below w0.heap.size w0 W':=by
 subst hs
 have hql:q.length ≤ 1000:=by rw [List.length_cons] at hl;omega
 have HP:Aside0 (ua.pk (45 :: q) = 45):=⟨rfl⟩
 have HS:=Aside0.mk h
 clear h
 unfold Tx.valueD at hv
 obtain ⟨⟨d,r'⟩,hd,hv⟩:=Option.bind_eq_some_iff.1 hv
 obtain ⟨n',hn,hv⟩:=Option.map_eq_some_iff.1 hv
 obtain ⟨rfl,rfl⟩:=Prod.mk.inj hv
 simp only at hn
 obtain ⟨ha,hdl,hrl⟩:=u1c.dig_is hd
 have HA:=Aside0.mk ha
 have HD:=Aside0.mk hd
 have HN:=Aside0.mk hn
 have HT:Aside0 (decide (n' ≤ 9223372036854775808) = false):=⟨decide_eq_false hle⟩
 clear ha hd hn hv hle
 go_enter Tryd.func64,Tryd.ntmps64
 go_wp2_with (first
  | (go_at_call 31;(with_reducible refine (uv.peek_at w0 _ g (45 :: q) 45 HP.out (by exact HS.out)).mono ?_);rintro e W0 ⟨rfl,⟨nd,rfl⟩⟩)
  | (go_at_call 44;(with_reducible refine (u1i.calls_ok w0 _ g 45 q (by exact HS.out.drew nd)).mono ?_);rintro e W1 ⟨rfl,hs1,hk1⟩;have HS1:=Aside0.mk hs1;have HK1:=Aside0.mk hk1;clear hs1 hk1)
  | (go_at_call 90;(with_reducible refine (u1f.ok_at 19 19 rfl w0 _ g false q (by omega) (by omega) d r' HD.out (by exact HS1.out)).mono ?_);rintro e W2 ⟨rfl,hs2,hk2⟩;have HS2:=Aside0.mk hs2;have HK2:=Aside0.mk hk2;clear hs2 hk2)
  | (go_at_call 89;(with_reducible refine (uy.says d 10 (by omega) (by omega) HA.out n' HN.out _).mono ?_);rintro e W3 ⟨rfl,hb3⟩;have HB3:=Aside0.mk hb3;clear hb3)
  | (go_at_call 45;(with_reducible refine (u1x.calls_not _ HT.out _).mono ?_);rintro e W4 ⟨rfl,rfl⟩))
 exact ⟨rfl,rfl,(HS2.out.more HB3.out).below⟩
set_option maxRecDepth 100000 in
set_option maxHeartbeats 1000000 in
theorem uv.minus_no (w0 W:World) (g:Nat) (s:List UInt8) (hl:s.length ≤ 1000) (q:List UInt8) (hs:s = 45 :: q) (hv:Tx.valueD false 19 10 q = none) (h:ua.St w0 W g s) :
 Calls Tryd.prog 64 #[.pointer (some ⟨g,0,none⟩)] W fun e W' => e = .panicked (u2d.chain 280) ∧ Below w0.heap.size w0 W':=by
 subst hs
 have hql:q.length ≤ 1000:=by rw [List.length_cons] at hl;omega
 have HP:Aside0 (ua.pk (45 :: q) = 45):=⟨rfl⟩
 have HS:=Aside0.mk h
 clear h
 unfold Tx.valueD at hv
 cases hd:Tx.digitsP false 19 q with
 | none =>
   have HD:=Aside0.mk hd
   clear hd hv
   go_enter Tryd.func64,Tryd.ntmps64
   go_wp2_with (first
   | (go_at_call 31;(with_reducible refine (uv.peek_at w0 _ g (45 :: q) 45 HP.out (by exact HS.out)).mono ?_);rintro e W0 ⟨rfl,⟨nd,rfl⟩⟩)
   | (go_at_call 44;(with_reducible refine (u1i.calls_ok w0 _ g 45 q (by exact HS.out.drew nd)).mono ?_);rintro e W1 ⟨rfl,hs1,hk1⟩;have HS1:=Aside0.mk hs1;have HK1:=Aside0.mk hk1;clear hs1 hk1)
   | (go_at_call 90;(with_reducible refine (u1f.no_at 19 19 rfl w0 _ g false q (by omega) (by omega) HD.out (by exact HS1.out)).mono ?_);rintro e W2 ⟨rfl,hb2⟩))
   exact ⟨rfl,rfl,hb2⟩
 | some p =>
   obtain ⟨d,r⟩:=p
   rw [hd] at hv
   have hn:Tx.numL 10 d 0 = none:=by simpa using hv
   obtain ⟨ha,hdl,hrl⟩:=u1c.dig_is hd
   have HA:=Aside0.mk ha
   have HD:=Aside0.mk hd
   have HN:=Aside0.mk hn
   clear ha hd hn hv
   go_enter Tryd.func64,Tryd.ntmps64
   go_wp2_with (first
   | (go_at_call 31;(with_reducible refine (uv.peek_at w0 _ g (45 :: q) 45 HP.out (by exact HS.out)).mono ?_);rintro e W0 ⟨rfl,⟨nd,rfl⟩⟩)
   | (go_at_call 44;(with_reducible refine (u1i.calls_ok w0 _ g 45 q (by exact HS.out.drew nd)).mono ?_);rintro e W1 ⟨rfl,hs1,hk1⟩;have HS1:=Aside0.mk hs1;have HK1:=Aside0.mk hk1;clear hs1 hk1)
   | (go_at_call 90;(with_reducible refine (u1f.ok_at 19 19 rfl w0 _ g false q (by omega) (by omega) d r HD.out (by exact HS1.out)).mono ?_);rintro e W2 ⟨rfl,hs2,hk2⟩;have HS2:=Aside0.mk hs2;have HK2:=Aside0.mk hk2;clear hs2 hk2)
   | (go_at_call 89;(with_reducible refine (uy.says_no d 10 (by omega) (by omega) HA.out HN.out _).mono ?_);rintro e W3 ⟨rfl,hb3⟩))
   exact ⟨rfl,rfl,(HS2.out.more hb3).below⟩
set_option maxRecDepth 100000 in
set_option maxHeartbeats 1000000 in
theorem uv.plus_ok (w0 W:World) (g:Nat) (s:List UInt8) (hl:s.length ≤ 1000) (hs:∀ q,s ≠ 45 :: q) (n:Int) (r:List UInt8) (hv:Tx.valueD false 19 10 s = some (n,r)) (hle:n < 9223372036854775808) (h:ua.St w0 W g s) :
 Calls Tryd.prog 64 #[.pointer (some ⟨g,0,none⟩)] W fun e W' => e = .returned (.int .i64 (n)) ∧ ua.St w0 W' g r ∧ u1l W W' g none:=by
 obtain ⟨z,hz⟩:∃ z,ua.pk s = z:=⟨_,rfl⟩
 have hz45:¬ z = 45:=by
  intro e
  cases s with
  | nil => rw [← hz] at e;exact absurd e (by decide)
  | cons c q =>
    have e2:(c.toNat:Int) = 45:=hz.trans e
    exact hs q (by rw [show c = 45 from UInt8.toNat_inj.1 (by simpa using (by omega:c.toNat = 45))])
 have HP:=Aside0.mk hz
 have hzb:(z == 45) = false:=beq_eq_false_iff_ne.2 hz45
 clear hz hs
 have HS:=Aside0.mk h
 clear h
 unfold Tx.valueD at hv
 obtain ⟨⟨d,r'⟩,hd,hv⟩:=Option.bind_eq_some_iff.1 hv
 obtain ⟨n',hn,hv⟩:=Option.map_eq_some_iff.1 hv
 obtain ⟨rfl,rfl⟩:=Prod.mk.inj hv
 simp only at hn
 obtain ⟨ha,hdl,hrl⟩:=u1c.dig_is hd
 have h0:=uv.num_ge 10 (Or.inl rfl) d 0 n' ha (Int.le_refl 0) hn
 have HA:=Aside0.mk ha
 have HD:=Aside0.mk hd
 have HN:=Aside0.mk hn
 have HT:Aside0 (decide (n' < 9223372036854775808) = true):=⟨decide_eq_true hle⟩
 have HW:=Aside0.mk (uv.pos_is h0 hle)
 clear ha hd hn hv hle h0
 go_enter Tryd.func64,Tryd.ntmps64
 go_wp2_with (first
  | (go_at_call 31;(with_reducible refine (uv.peek_at w0 _ g s z HP.out (by exact HS.out)).mono ?_);rintro e W0 ⟨rfl,⟨nd,rfl⟩⟩)
  | (go_at_call 90;(with_reducible refine (u1f.ok_at 19 19 rfl w0 _ g false s (by omega) (by omega) d r' HD.out (by exact HS.out.drew nd)).mono ?_);rintro e W2 ⟨rfl,hs2,hk2⟩;have HS2:=Aside0.mk hs2;have HK2:=Aside0.mk hk2;clear hs2 hk2)
  | (go_at_call 89;(with_reducible refine (uy.says d 10 (by omega) (by omega) HA.out n' HN.out _).mono ?_);rintro e W3 ⟨rfl,hb3⟩;have HB3:=Aside0.mk hb3;clear hb3)
  | (go_at_call 45;(with_reducible refine (u1x.calls_yes _ HT.out _).mono ?_);rintro e W4 ⟨rfl,rfl⟩))
 go_ret
 exact ⟨by first | rfl | (rw [HW.out];rfl),HS2.out.more HB3.out,ua.keep_then (u1l.of_below (ub (Below.refl _ _) nd) g none) (ua.keep_then HK2.out (u1l.of_below HB3.out g none))⟩
set_option maxRecDepth 100000 in
set_option maxHeartbeats 1000000 in
theorem uv.plus_big (w0 W:World) (g:Nat) (s:List UInt8) (hl:s.length ≤ 1000) (hs:∀ q,s ≠ 45 :: q) (n:Int) (r:List UInt8) (hv:Tx.valueD false 19 10 s = some (n,r)) (hle:¬ n < 9223372036854775808) (h:ua.St w0 W g s) :
 Calls Tryd.prog 64 #[.pointer (some ⟨g,0,none⟩)] W fun e W' => e = .panicked (u2d.chain 280) ∧ Below w0.heap.size w0 W':=by
 obtain ⟨z,hz⟩:∃ z,ua.pk s = z:=⟨_,rfl⟩
 have hz45:¬ z = 45:=by
  intro e
  cases s with
  | nil => rw [← hz] at e;exact absurd e (by decide)
  | cons c q =>
    have e2:(c.toNat:Int) = 45:=hz.trans e
    exact hs q (by rw [show c = 45 from UInt8.toNat_inj.1 (by simpa using (by omega:c.toNat = 45))])
 have HP:=Aside0.mk hz
 have hzb:(z == 45) = false:=beq_eq_false_iff_ne.2 hz45
 clear hz hs
 have HS:=Aside0.mk h
 clear h
 unfold Tx.valueD at hv
 obtain ⟨⟨d,r'⟩,hd,hv⟩:=Option.bind_eq_some_iff.1 hv
 obtain ⟨n',hn,hv⟩:=Option.map_eq_some_iff.1 hv
 obtain ⟨rfl,rfl⟩:=Prod.mk.inj hv
 simp only at hn
 obtain ⟨ha,hdl,hrl⟩:=u1c.dig_is hd
 have HA:=Aside0.mk ha
 have HD:=Aside0.mk hd
 have HN:=Aside0.mk hn
 have HT:Aside0 (decide (n' < 9223372036854775808) = false):=⟨decide_eq_false hle⟩
 clear ha hd hn hv hle
 go_enter Tryd.func64,Tryd.ntmps64
 go_wp2_with (first
  | (go_at_call 31;(with_reducible refine (uv.peek_at w0 _ g s z HP.out (by exact HS.out)).mono ?_);rintro e W0 ⟨rfl,⟨nd,rfl⟩⟩)
  | (go_at_call 90;(with_reducible refine (u1f.ok_at 19 19 rfl w0 _ g false s (by omega) (by omega) d r' HD.out (by exact HS.out.drew nd)).mono ?_);rintro e W2 ⟨rfl,hs2,hk2⟩;have HS2:=Aside0.mk hs2;have HK2:=Aside0.mk hk2;clear hs2 hk2)
  | (go_at_call 89;(with_reducible refine (uy.says d 10 (by omega) (by omega) HA.out n' HN.out _).mono ?_);rintro e W3 ⟨rfl,hb3⟩;have HB3:=Aside0.mk hb3;clear hb3)
  | (go_at_call 45;(with_reducible refine (u1x.calls_not _ HT.out _).mono ?_);rintro e W4 ⟨rfl,rfl⟩))
 exact ⟨rfl,rfl,(HS2.out.more HB3.out).below⟩
set_option maxRecDepth 100000 in
set_option maxHeartbeats 1000000 in
theorem uv.plus_no (w0 W:World) (g:Nat) (s:List UInt8) (hl:s.length ≤ 1000) (hs:∀ q,s ≠ 45 :: q) (hv:Tx.valueD false 19 10 s = none) (h:ua.St w0 W g s) :
 Calls Tryd.prog 64 #[.pointer (some ⟨g,0,none⟩)] W fun e W' => e = .panicked (u2d.chain 280) ∧ Below w0.heap.size w0 W':=by
 obtain ⟨z,hz⟩:∃ z,ua.pk s = z:=⟨_,rfl⟩
 have hz45:¬ z = 45:=by
  intro e
  cases s with
  | nil => rw [← hz] at e;exact absurd e (by decide)
  | cons c q =>
    have e2:(c.toNat:Int) = 45:=hz.trans e
    exact hs q (by rw [show c = 45 from UInt8.toNat_inj.1 (by simpa using (by omega:c.toNat = 45))])
 have HP:=Aside0.mk hz
 have hzb:(z == 45) = false:=beq_eq_false_iff_ne.2 hz45
 clear hz hs
 have HS:=Aside0.mk h
 clear h
 unfold Tx.valueD at hv
 cases hd:Tx.digitsP false 19 s with
 | none =>
   have HD:=Aside0.mk hd
   clear hd hv
   go_enter Tryd.func64,Tryd.ntmps64
   go_wp2_with (first
   | (go_at_call 31;(with_reducible refine (uv.peek_at w0 _ g s z HP.out (by exact HS.out)).mono ?_);rintro e W0 ⟨rfl,⟨nd,rfl⟩⟩)
   | (go_at_call 90;(with_reducible refine (u1f.no_at 19 19 rfl w0 _ g false s (by omega) (by omega) HD.out (by exact HS.out.drew nd)).mono ?_);rintro e W2 ⟨rfl,hb2⟩))
   exact ⟨rfl,rfl,hb2⟩
 | some p =>
   obtain ⟨d,r⟩:=p
   rw [hd] at hv
   have hn:Tx.numL 10 d 0 = none:=by simpa using hv
   obtain ⟨ha,hdl,hrl⟩:=u1c.dig_is hd
   have HA:=Aside0.mk ha
   have HD:=Aside0.mk hd
   have HN:=Aside0.mk hn
   clear ha hd hn hv
   go_enter Tryd.func64,Tryd.ntmps64
   go_wp2_with (first
   | (go_at_call 31;(with_reducible refine (uv.peek_at w0 _ g s z HP.out (by exact HS.out)).mono ?_);rintro e W0 ⟨rfl,⟨nd,rfl⟩⟩)
   | (go_at_call 90;(with_reducible refine (u1f.ok_at 19 19 rfl w0 _ g false s (by omega) (by omega) d r HD.out (by exact HS.out.drew nd)).mono ?_);rintro e W2 ⟨rfl,hs2,hk2⟩;have HS2:=Aside0.mk hs2;have HK2:=Aside0.mk hk2;clear hs2 hk2)
   | (go_at_call 89;(with_reducible refine (uy.says_no d 10 (by omega) (by omega) HA.out HN.out _).mono ?_);rintro e W3 ⟨rfl,hb3⟩))
   exact ⟨rfl,rfl,(HS2.out.more hb3).below⟩
theorem uv.time_is (s:List UInt8):(∃ q,s = 45 :: q ∧ Tx.timeP s = (Tx.valueD false 19 10 q).bind fun p => if p.1 ≤ 9223372036854775808 then some (-p.1,p.2) else none) ∨ ((∀ q,s ≠ 45 :: q) ∧ Tx.timeP s = (Tx.valueD false 19 10 s).bind fun p => if p.1 < 9223372036854775808 then some p else none):=by
 by_cases h:∃ q,s = 45 :: q
 · obtain ⟨q,rfl⟩:=h
   exact Or.inl ⟨q,rfl,rfl⟩
 · refine Or.inr ⟨fun q e => h ⟨q,e⟩,?_⟩
   unfold Tx.timeP
   split
   · exact absurd ⟨_,rfl⟩ h
   · rfl
theorem uv.calls_ok (w0 W:World) (g:Nat) (s:List UInt8) (hl:s.length ≤ 1000) (t:Int) (r:List UInt8) (hv:Tx.timeP s = some (t,r)) (h:ua.St w0 W g s) :
 Calls Tryd.prog 64 #[.pointer (some ⟨g,0,none⟩)] W fun e W' => e = .returned (.int .i64 t) ∧ ua.St w0 W' g r ∧ u1l W W' g none:=by
 rcases uv.time_is s with ⟨q,hq,e⟩ | ⟨hq,e⟩
 · rw [e] at hv
   obtain ⟨⟨n,r'⟩,hd,hv⟩:=Option.bind_eq_some_iff.1 hv
   simp only at hv
   split at hv
   · rename_i hle
     obtain ⟨rfl,rfl⟩:=Prod.mk.inj (Option.some.inj hv)
     exact uv.minus_ok w0 W g s hl q hq n _ hd hle h
   · cases hv
 · rw [e] at hv
   obtain ⟨⟨n,r'⟩,hd,hv⟩:=Option.bind_eq_some_iff.1 hv
   simp only at hv
   split at hv
   · rename_i hle
     obtain ⟨rfl,rfl⟩:=Prod.mk.inj (Option.some.inj hv)
     exact uv.plus_ok w0 W g s hl hq _ _ hd hle h
   · cases hv
theorem uv.calls_no (w0 W:World) (g:Nat) (s:List UInt8) (hl:s.length ≤ 1000) (hv:Tx.timeP s = none) (h:ua.St w0 W g s) :
 Calls Tryd.prog 64 #[.pointer (some ⟨g,0,none⟩)] W fun e W' => e = .panicked (u2d.chain 280) ∧ Below w0.heap.size w0 W':=by
 rcases uv.time_is s with ⟨q,hq,e⟩ | ⟨hq,e⟩
 · rw [e] at hv
   cases hd:Tx.valueD false 19 10 q with
   | none => exact uv.minus_no w0 W g s hl q hq hd h
   | some p =>
     rw [hd] at hv
     exact uv.minus_big w0 W g s hl q hq p.1 p.2 hd (by simpa using hv) h
 · rw [e] at hv
   cases hd:Tx.valueD false 19 10 s with
   | none => exact uv.plus_no w0 W g s hl hq hd h
   | some p =>
     rw [hd] at hv
     exact uv.plus_big w0 W g s hl hq p.1 p.2 hd (by simpa using hv) h
theorem uo.infoL:(Tryd.prog.info? 37).map (fun i => (i.zero,i.size,i.bytes)) = some (some (.agg #[(.string ⟨#[]⟩),(.string ⟨#[]⟩)]),2,32):=by kernel_rfl
def uo.Out (w0 W:World) (g:Nat) (o:Option (List Tx.Lb × List UInt8)) (e:Ending) (W':World):Prop:=match o with
 | some (l,r) => ∃ v:Value,e = .returned v ∧ Kd.R k37 37 W' W.heap.size (fun k => k ≠ g) v l ∧ ua.St w0 W' g r ∧ u1l W W' g none
 | none => e = .panicked (u2d.chain 280) ∧ Below w0.heap.size w0 W'
theorem uo.out_some {w0 W:World} {g:Nat} {o:Option (List Tx.Lb × List UInt8)} {l:List Tx.Lb} {r:List UInt8} (ho:o = some (l,r)) {v:Value} {W':World} (h1:Kd.R k37 37 W' W.heap.size (fun k => k ≠ g) v l) (h2:ua.St w0 W' g r) (h3:u1l W W' g none):uo.Out w0 W g o (.returned v) W':=by
 subst ho
 exact ⟨v,rfl,h1,h2,h3⟩
theorem uo.out_none {w0 W:World} {g:Nat} {o:Option (List Tx.Lb × List UInt8)} (ho:o = none) {W':World} (h1:Below w0.heap.size w0 W'):uo.Out w0 W g o (.panicked (u2d.chain 280)) W':=by
 subst ho
 exact ⟨rfl,h1⟩
theorem uo.unq_rest:∀ (n:Nat) (l acc a q:List UInt8),l.length ≤ n → Base.unqL l acc = some (a,q) → q.length < l.length
 | 0,l,acc,a,q,hn,h => by
   cases l with
   | nil => rw [Base.unqL_nil] at h;cases h
   | cons c r => simp at hn
 | n + 1,l,acc,a,q,hn,h => by
   cases l with
   | nil => rw [Base.unqL_nil] at h;cases h
   | cons c r =>
     rw [List.length_cons] at hn ⊢
     by_cases h1:c = 34
     · subst h1
       rw [Base.unqL_end] at h
       obtain ⟨_,rfl⟩:=Prod.mk.inj (Option.some.inj h)
       omega
     · by_cases h2:c = 92
       · subst h2
         cases r with
         | nil => rw [Base.unqL_open] at h;cases h
         | cons d z =>
           by_cases h3:d = 34 ∨ d = 92
           · rw [Base.unqL_esc _ _ _ h3] at h
             have:=uo.unq_rest n z _ a q (by simp at hn;omega) h
             rw [List.length_cons]
             omega
           · rw [Base.unqL_bad _ _ _ h3] at h
             cases h
       · rw [Base.unqL_plain _ _ _ h1 h2] at h
         have:=uo.unq_rest n r _ a q (by omega) h
         omega
theorem uo.quoted_rest {q t:List UInt8} {v:ByteArray} (h:Tx.quotedP q = some (v,t)):t.length < q.length:=by
 unfold Tx.quotedP at h
 cases q with
 | nil => cases h
 | cons c r =>
   simp only at h
   split at h
   · obtain ⟨⟨a,z⟩,h1,h2⟩:=Option.map_eq_some_iff.1 h
     obtain ⟨_,rfl⟩:=Prod.mk.inj h2
     have:=uo.unq_rest _ r [] a z (Nat.le_refl _) h1
     rw [List.length_cons]
     simp only
     omega
   · cases h
theorem uo.label_rest {s r:List UInt8} {x:Tx.Lb} (h:Tx.labelP s = some (x,r)):r.length < s.length:=by
 unfold Tx.labelP at h
 obtain ⟨⟨n,q⟩,hn,h⟩:=Option.bind_eq_some_iff.1 h
 obtain ⟨⟨v,t⟩,hv,h⟩:=Option.map_eq_some_iff.1 h
 obtain ⟨_,rfl⟩:=Prod.mk.inj h
 obtain ⟨z,hz,hv⟩:=Option.bind_eq_some_iff.1 hv
 have h1:=u1d.name_rest hn
 have h2:=(u1d.expect_is 61 q).1 z hz
 rw [h2,List.length_cons] at h1
 have h3:=uo.quoted_rest hv
 show t.length < s.length
 omega
def uo.rest (k:Nat) (acc:List Tx.Lb) (s:List UInt8):Option (List Tx.Lb × List UInt8):=(Tx.labelsP k acc s).bind fun q => (Tx.expectP [125] q.2).map fun t => (q.1,t)
theorem uo.rest_comma (k:Nat) (acc:List Tx.Lb) (t:List UInt8):uo.rest (k + 1) acc (44 :: t) = if acc.length ≤ 8 then (Tx.labelP t).bind fun p => uo.rest k (acc ++ [p.1]) p.2 else none:=by
 unfold uo.rest
 conv => lhs;unfold Tx.labelsP
 simp only
 split
 · cases Tx.labelP t <;> rfl
 · rfl
theorem uo.rest_other (k:Nat) (acc:List Tx.Lb) (s:List UInt8) (h:∀ t,s ≠ 44 :: t):uo.rest (k + 1) acc s = (Tx.expectP [125] s).map fun t => (acc,t):=by
 unfold uo.rest
 conv => lhs;unfold Tx.labelsP
 split
 · exact absurd rfl (h _)
 · rfl
theorem uo.pk_ne (s:List UInt8) (c:UInt8) (hc:c.toNat ≠ 0) (h:∀ t,s ≠ c :: t):¬ ua.pk s = (c.toNat:Int):=by
 intro e
 cases s with
 | nil =>
   have e2:(0:Int) = c.toNat:=e
   omega
 | cons d t =>
   have e2:(d.toNat:Int) = c.toNat:=e
   exact h t (by rw [show d = c from UInt8.toNat_inj.1 (by omega)])
theorem uo.grown_keep {W W3 w1:World} {g:Nat} {v:Value} (hk:u1l W W3 g none) (hv:∀ b,v.ownBlock = some b → W.heap.size ≤ b) (hg:W3.grownBy w1 v.ownBlock):u1l W w1 g none :=
 ⟨Nat.le_trans hk.1 hg.size,fun i hi hne hr => (hg.block i (Nat.lt_of_lt_of_le hi hk.1) (fun e => by have:=hv i e.symm;omega)).trans (hk.2 i hi hne hr)⟩
theorem uo.grown_st {w0 W3 w1:World} {g:Nat} {s:List UInt8} {v:Value} (hs:ua.St w0 W3 g s) (hv:∀ b,v.ownBlock = some b → b ≠ g ∧ w0.heap.size ≤ b) (hg:W3.grownBy w1 v.ownBlock):ua.St w0 w1 g s :=
 hs.keep (hs.below.grown hg hs.below.size (fun k hk => (hv k hk).2)) (hg.block g hs.lt (fun e => (hv g e.symm).1 rfl))
structure uo.Own (W w0:World) (g:Nat) (v:Value):Prop where
 base:∀ b,v.ownBlock = some b → W.heap.size ≤ b
 far:∀ b,v.ownBlock = some b → b ≠ g ∧ w0.heap.size ≤ b
theorem uo.own_facts {w0 W W7:World} {g:Nat} {v:Value} {l:List Tx.Lb} (h:Kd.R k37 37 W7 W.heap.size (fun k => k ≠ g) v l) (hw:w0.heap.size ≤ W.heap.size):uo.Own W w0 g v :=
 ⟨fun b hb => Kd.R_base h b hb,fun b hb => ⟨h.1 b hb,Nat.le_trans hw (Kd.R_base h b hb)⟩⟩
set_option maxRecDepth 100000 in
set_option maxHeartbeats 2000000 in
theorem uo.calls (w0 W:World) (g:Nat) (s:List UInt8) (hl:s.length ≤ 1000) (h:ua.St w0 W g s) :
 Calls Tryd.prog 56 #[.pointer (some ⟨g,0,none⟩)] W fun e W' => uo.Out w0 W g (Tx.bracesP s) e W':=by
 have HS:=Aside0.mk h
 have HG:=Aside0.mk h.lt
 clear h
 cases hq:Tx.expectP [123] s with
 | none =>
   have HQ:=Aside0.mk ((u1d.expect_is 123 s).2 hq)
   have HO:Aside0 (Tx.bracesP s = none):=⟨by unfold Tx.bracesP;rw [hq];rfl⟩
   clear hq
   go_enter Tryd.func56,Tryd.ntmps56
   go_wp2_with (go_at_call 44;(with_reducible refine (u1i.calls_no w0 _ g 123 s HQ.out (by exact HS.out)).mono ?_);rintro e W1 ⟨rfl,hb1⟩)
   exact ⟨rfl,uo.out_none HO.out hb1⟩
 | some q =>
   have hs:=(u1d.expect_is 123 s).1 q hq
   cases hx:Tx.labelP q with
   | none =>
     have HO:Aside0 (Tx.bracesP s = none):=⟨by unfold Tx.bracesP;rw [hq];simp [hx]⟩
     subst hs
     have hql:q.length ≤ 1000:=by rw [List.length_cons] at hl;omega
     have HX:=Aside0.mk hx
     clear hq hx
     go_enter Tryd.func56,Tryd.ntmps56
     go_wp2_with (first
      | (go_at_call 44;(with_reducible refine (u1i.calls_ok w0 _ g 123 q (by exact HS.out)).mono ?_);rintro e W1 ⟨rfl,hs1,hk1⟩;have HS1:=Aside0.mk hs1;clear hs1 hk1)
      | (go_at_call 85;(with_reducible refine (u1d.calls_no w0 _ g q (by omega) HX.out (by exact HS1.out)).mono ?_);rintro e W2 ⟨rfl,hb2⟩))
     exact ⟨rfl,uo.out_none HO.out hb2⟩
   | some p =>
     obtain ⟨x,t⟩:=p
     have HO:Aside0 (Tx.bracesP s = uo.rest s.length [x] t):=⟨by unfold Tx.bracesP;rw [hq];simp [hx,uo.rest]⟩
     have htl:=uo.label_rest hx
     subst hs
     have hql:q.length + 1 ≤ 1000:=by rw [List.length_cons] at hl;omega
     have HX:=Aside0.mk hx
     clear hq hx hl
     rw [HO.out,List.length_cons]
     clear HO
     generalize HZ:uo.rest (q.length + 1) [x] t = o
     have HO:=Aside0.mk HZ
     clear HZ
     go_enter Tryd.func56,Tryd.ntmps56
     go_wp2_with (first
      | (go_at_call 44;(with_reducible refine (u1i.calls_ok w0 _ g 123 q (by exact HS.out)).mono ?_);rintro e W1 ⟨rfl,hs1,hk1⟩;have HS1:=Aside0.mk hs1;have HK1:=Aside0.mk hk1;clear hs1 hk1)
      | (go_at_call 85;(with_reducible refine (u1d.calls_ok w0 _ g q (by omega) x t HX.out (by exact HS1.out)).mono ?_);rintro e W2 ⟨rfl,hs2,hk2⟩;have HS2:=Aside0.mk hs2;have HK2:=Aside0.mk (ua.keep_then HK1.out hk2);clear hs2 hk2)
      | ((with_reducible refine u2e (N:=8) rfl ?_);refine Kd.R_lit k37 (w0:=W2) W.heap.size 37 ?hg (N:=8) ?hd (xs:=([x]:List Tx.Lb)) (inner:=[.string x.f0,.string x.f1]) (ok:=fun k => k ≠ g) (okp:=fun _ => False) ?hr ?hp (fun _ hk => hk.elim) ?hf (Below.refl _ _) HK2.out.1 (by simp) ?_;(case hd => rfl);(case hg => rfl);(case hr => first | (go_simp;done) | (go_simp;rfl));(case hp => exact (Reps.c2 (show Kd.M k37 _ _ _ x [.string x.f0,.string x.f1] from (k37_mkM _ _ _ x)) (Reps.none _ _)));(case hf => have h1:=HK2.out.1;have h2:=HG.out;omega);intro v3 w3 ho hb hg_ hnew_;have HR3:=Aside0.mk ho;have HK3:=Aside0.mk (ua.keep_then HK2.out (u1l.of_grown hg_ g));have HS3:=Aside0.mk (HS2.out.more ⟨hg_.os,hg_.tape,hg_.output,hg_.size,fun i hi => hg_.block i hi (by simp)⟩);clear ho hb hg_ hnew_))
     go_loopg [3] (q.length + 1) (fun kq v3 wr => ∃ (acc:List Tx.Lb) (s2:List UInt8),s2.length < kq ∧ s2.length ≤ 1000 ∧ Aside0 (uo.rest kq acc s2 = o) ∧ Aside0 (Kd.R k37 37 wr W.heap.size (fun k => k ≠ g) v3 acc) ∧ Aside0 (ua.St w0 wr g s2) ∧ Aside0 (u1l W wr g none))
     case atStart => exact ⟨[x],t,by omega,by omega,HO,HR3,HS3,HK3⟩
     case round =>
      clear HO HR3 HS3 HK3 HS1 HK1 HS2 HK2
      have HS0:=HS
      clear HS
      obtain ⟨acc,s2,hlk,hl2,HO,HR,HS,HK⟩:=hrel
      obtain ⟨A,c,e⟩:=Kd.R_slice HR.out
      subst e
      obtain ⟨k1,rfl⟩:∃ k1,gk = k1 + 1:=⟨gk - 1,by omega⟩
      by_cases hcm:∃ u,s2 = 44 :: u
      · obtain ⟨u,rfl⟩:=hcm
        rw [List.length_cons] at hlk hl2
        have HP:Aside0 (ua.pk (44 :: u) = 44):=⟨rfl⟩
        rw [uo.rest_comma] at HO
        by_cases h8:acc.length ≤ 8
        · have HT:Aside0 (decide ((acc.length:Int) ≤ 8) = true):=⟨decide_eq_true (by omega)⟩
          have HA8:=Aside0.mk h8
          rw [if_pos h8] at HO
          clear h8
          cases hy:Tx.labelP u with
          | none =>
            rw [hy] at HO
            have HY:=Aside0.mk hy
            clear hy
            go_wp2_with (first
             | (go_at_call 31;(with_reducible refine (uv.peek_at w0 _ g (44 :: u) 44 HP.out (by exact HS.out)).mono ?_);rintro e W4 ⟨rfl,⟨nd,rfl⟩⟩)
             | (go_at_call 44;(with_reducible refine (u1i.calls_ok w0 _ g 44 u (by exact HS.out.drew nd)).mono ?_);rintro e W5 ⟨rfl,hs5,hk5⟩;have HS5:=Aside0.mk hs5;have HK5:=Aside0.mk (ua.keep_then HK.out (ua.keep_then (u1l.of_below (ub (Below.refl _ _) nd) g none) hk5));have HR5:=Aside0.mk (Kd.R_keep (Kd.R_drewN HR.out nd) hk5 (fun _ hk => hk));clear hs5 hk5)
             | (go_at_call 45;(with_reducible refine (u1x.calls_yes _ HT.out _).mono ?_);rintro e W6 ⟨rfl,rfl⟩)
             | (go_at_call 85;(with_reducible refine (u1d.calls_no w0 _ g u (by omega) HY.out (by exact HS5.out)).mono ?_);rintro e W7 ⟨rfl,hb7⟩))
            exact ⟨rfl,uo.out_none HO.out.symm hb7⟩
          | some p =>
            obtain ⟨y,t2⟩:=p
            rw [hy] at HO
            have hyl:=uo.label_rest hy
            have HY:=Aside0.mk hy
            have HWB:Aside0 (w0.heap.size ≤ W.heap.size):=⟨HS0.out.below.size⟩
            clear hy
            go_wp2_with (first
             | (go_at_call 31;(with_reducible refine (uv.peek_at w0 _ g (44 :: u) 44 HP.out (by exact HS.out)).mono ?_);rintro e W4 ⟨rfl,⟨nd,rfl⟩⟩)
             | (go_at_call 44;(with_reducible refine (u1i.calls_ok w0 _ g 44 u (by exact HS.out.drew nd)).mono ?_);rintro e W5 ⟨rfl,hs5,hk5⟩;have HS5:=Aside0.mk hs5;have HK5:=Aside0.mk (ua.keep_then HK.out (ua.keep_then (u1l.of_below (ub (Below.refl _ _) nd) g none) hk5));have HR5:=Aside0.mk (Kd.R_keep (Kd.R_drewN HR.out nd) hk5 (fun _ hk => hk));clear hs5 hk5)
             | (go_at_call 45;(with_reducible refine (u1x.calls_yes _ HT.out _).mono ?_);rintro e W6 ⟨rfl,rfl⟩)
             | (go_at_call 85;(with_reducible refine (u1d.calls_ok w0 _ g u (by omega) y t2 HY.out (by exact HS5.out)).mono ?_);rintro e W7 ⟨rfl,hs7,hk7⟩;have HS7:=Aside0.mk hs7;have HK7:=Aside0.mk (ua.keep_then HK5.out hk7);have HR7:=Aside0.mk (Kd.R_keep HR5.out hk7 (fun _ hk => hk));clear hs7 hk7)
             | (at_builtin;refine Kd.R_append k37 (w0:=W7) (W:=W7) W.heap.size rfl (.tmp 18) (.tmp 21) 22 37 (.agg #[(.string ⟨#[]⟩),(.string ⟨#[]⟩)]) 32 rfl Tryd.underlying22 uo.infoL rfl (by decide) (by decide) _ acc y [.string y.f0,.string y.f1] (fun k => k ≠ g) (fun _ => False) rfl rfl (k37_mkM _ _ _ y) (fun _ hk => hk.elim) ?hfr HR7.out (Below.refl _ _) HK7.out.1 ?hbig ?_;(case hfr => have h1:=HS7.out.lt;intro k hk;omega);(case hbig => have:=HA8.out;omega);intro v8 w8 ho hb hg8 hat;have HOW:=Aside0.mk (uo.own_facts HR7.out HWB.out);have HR8:=Aside0.mk ho;have HS8:=Aside0.mk (uo.grown_st HS7.out HOW.out.far hg8);have HK8:=Aside0.mk (uo.grown_keep HK7.out HOW.out.base hg8);clear ho hb hg8 hat))
            go_roundg k1
            case rel => exact ⟨acc ++ [y],t2,by omega,by omega,⟨HO.out⟩,HR8,HS8,HK8⟩
            case measure => omega
        · have HT:Aside0 (decide ((acc.length:Int) ≤ 8) = false):=⟨decide_eq_false (by omega)⟩
          rw [if_neg h8] at HO
          clear h8
          go_wp2_with (first
           | (go_at_call 31;(with_reducible refine (uv.peek_at w0 _ g (44 :: u) 44 HP.out (by exact HS.out)).mono ?_);rintro e W4 ⟨rfl,⟨nd,rfl⟩⟩)
           | (go_at_call 44;(with_reducible refine (u1i.calls_ok w0 _ g 44 u (by exact HS.out.drew nd)).mono ?_);rintro e W5 ⟨rfl,hs5,hk5⟩;have HS5:=Aside0.mk hs5;have HK5:=Aside0.mk (ua.keep_then HK.out (ua.keep_then (u1l.of_below (ub (Below.refl _ _) nd) g none) hk5));have HR5:=Aside0.mk (Kd.R_keep (Kd.R_drewN HR.out nd) hk5 (fun _ hk => hk));clear hs5 hk5)
           | (go_at_call 45;(with_reducible refine (u1x.calls_not _ HT.out _).mono ?_);rintro e W6 ⟨rfl,rfl⟩))
          exact ⟨rfl,uo.out_none HO.out.symm HS5.out.below⟩
      · obtain ⟨z,hz⟩:∃ z,ua.pk s2 = z:=⟨_,rfl⟩
        have hz44:¬ z = 44:=by
         rw [← hz]
         exact uo.pk_ne s2 44 (by decide) (fun u e => hcm ⟨u,e⟩)
        have HP:=Aside0.mk hz
        have hzb:(z == 44) = false:=beq_eq_false_iff_ne.2 hz44
        rw [uo.rest_other _ _ _ (fun u e => hcm ⟨u,e⟩)] at HO
        clear hz hcm
        cases he:Tx.expectP [125] s2 with
        | none =>
          rw [he] at HO
          have HE:=Aside0.mk ((u1d.expect_is 125 s2).2 he)
          clear he
          go_wp2_with (first
           | (go_at_call 31;(with_reducible refine (uv.peek_at w0 _ g s2 z HP.out (by exact HS.out)).mono ?_);rintro e W4 ⟨rfl,⟨nd,rfl⟩⟩)
           | (go_at_call 44;(with_reducible refine (u1i.calls_no w0 _ g 125 s2 HE.out (by exact HS.out.drew nd)).mono ?_);rintro e W5 ⟨rfl,hb5⟩))
          exact ⟨rfl,uo.out_none HO.out.symm hb5⟩
        | some r =>
          rw [he] at HO
          have he2:=(u1d.expect_is 125 s2).1 r he
          subst he2
          clear he
          go_wp2_with (first
           | (go_at_call 31;(with_reducible refine (uv.peek_at w0 _ g (125 :: r) z HP.out (by exact HS.out)).mono ?_);rintro e W4 ⟨rfl,⟨nd,rfl⟩⟩)
           | (go_at_call 44;(with_reducible refine (u1i.calls_ok w0 _ g 125 r (by exact HS.out.drew nd)).mono ?_);rintro e W5 ⟨rfl,hs5,hk5⟩;have HS5:=Aside0.mk hs5;have HK5:=Aside0.mk (ua.keep_then HK.out (ua.keep_then (u1l.of_below (ub (Below.refl _ _) nd) g none) hk5));have HR5:=Aside0.mk (Kd.R_keep (Kd.R_drewN HR.out nd) hk5 (fun _ hk => hk));clear hs5 hk5))
          go_ret
          exact uo.out_some HO.out.symm HR5.out HS5.out HK5.out
theorem u1g.nan (s:ByteArray) (w:World):Calls Tryd.prog 87 #[.string s] w fun e w' => e = .returned (.bool false) ∧ w' = w:=by
 go_enter Tryd.func87,Tryd.ntmps87
 go_wp2
 go_ret
 exact ⟨by simp,rfl⟩
def u1g.cmpB (a b:ByteArray):Int:=if Tx.less a b = true then -1 else if Tx.less b a = true then 1 else 0
theorem u1g.cmp_less (a b:ByteArray):decide (u1g.cmpB a b < 0) = Tx.less a b:=by
 unfold u1g.cmpB
 split
 · rename_i h
   rw [h]
   decide
 · rename_i h
   have h2:Tx.less a b = false:=by simpa using h
   rw [h2]
   split <;> decide
theorem u1g.less_is (a b:ByteArray):Tx.less a b = Op.bytesLess a.toList b.toList:=by
 unfold Tx.less
 rw [ByteArray.toList_eq,ByteArray.toList_eq]
theorem u1g.cmp (a b:ByteArray) (w:World):Calls Tryd.prog 59 #[.string a,.string b] w fun e w' => e = .returned (.int .i64 (u1g.cmpB a b)) ∧ w' = w:=by
 have HE:Aside0 (u1g.cmpB a b = if Op.bytesLess a.toList b.toList = true then -1 else if Op.bytesLess b.toList a.toList = true then 1 else 0):=⟨by unfold u1g.cmpB;rw [u1g.less_is,u1g.less_is]⟩
 rw [HE.out]
 clear HE
 cases h1:Op.bytesLess a.toList b.toList with
 | true =>
   go_enter Tryd.func59,Tryd.ntmps59
   go_wp2_with (go_at_call 87;refine (u1g.nan _ _).mono ?_;rintro e W1 ⟨rfl,rfl⟩)
   go_ret
   exact ⟨rfl,rfl⟩
 | false =>
   cases h2:Op.bytesLess b.toList a.toList with
   | true =>
     go_enter Tryd.func59,Tryd.ntmps59
     go_wp2_with (go_at_call 87;refine (u1g.nan _ _).mono ?_;rintro e W1 ⟨rfl,rfl⟩)
     go_ret
     exact ⟨rfl,rfl⟩
   | false =>
     go_enter Tryd.func59,Tryd.ntmps59
     go_wp2_with (go_at_call 87;refine (u1g.nan _ _).mono ?_;rintro e W1 ⟨rfl,rfl⟩)
     go_ret
     exact ⟨rfl,rfl⟩
theorem u1g.by_name (x y:Tx.Lb) (w:World):Calls Tryd.prog 58 #[.agg #[.string x.f0,.string x.f1],.agg #[.string y.f0,.string y.f1]] w fun e w' => e = .returned (.int .i64 (u1g.cmpB x.f0 y.f0)) ∧ ∃ q os',w' = Go.Sort.grow (w.drewN q) os':=by
 go_enter Tryd.func58,Tryd.ntmps58
 go_wp2_with (go_at_call 59;(with_reducible refine (u1g.cmp _ _ _).mono ?_);rintro e W1 ⟨rfl,rfl⟩)
 go_ret
 exact ⟨rfl,0,#[.cells #[.string x.f0,.string x.f1] 37,.cells #[.string y.f0,.string y.f1] 37],by rw [Go.Sort.alloc_eq_grow,Go.Sort.alloc_eq_grow,Go.Sort.grow_grow];rfl⟩
theorem u1g.cell_at {W:World} {gb c:Nat} {l:List Tx.Lb} {base:Nat} {ok:Nat → Prop} (h:Kd.R k37 37 W base ok (.slice (some ⟨gb,0,none⟩) l.length c) l) (i:Nat) (hi:i < l.length):W.cell? ⟨gb,i * 2,none⟩ = some (.string l[i].f0) ∧ W.cell? ⟨gb,i * 2 + 1,none⟩ = some (.string l[i].f1) ∧ gb < W.heap.size:=by
 obtain ⟨ad,ea,q0,q1⟩:=at_T37 (Kd.R_reads' h).2.2 (i:Int) (by omega) (by omega)
 obtain rfl:ad = ⟨gb,0,none⟩:=by injection ea with ea;exact ea.symm
 have hadd:(⟨gb,0,none⟩:Addr).add ((i:Int).toNat * 2) = ⟨gb,i * 2,none⟩:=by
  rw [show (i:Int).toNat = i from rfl]
  unfold Addr.add
  split
  · rename_i h0
    rw [h0]
  · simp
 rw [hadd] at q0 q1
 have hr:uq l (i:Int) = l[i]:=by simp [uq,List.getD_eq_getElem?_getD,hi]
 rw [hr] at q0 q1
 exact ⟨q0,q1,Kd.R_lt h gb (by simp [Value.ownBlock])⟩
theorem u1g.below_grow (W:World) (os:Array Obj):Below W.heap.size W (Go.Sort.grow W os):=⟨rfl,rfl,rfl,by simp,fun i hi => Go.Sort.heap_grow_old W os hi⟩
theorem u1g.thawed {W:World} {gb n c:Nat} {l:List Tx.Lb} {base:Nat} {ok:Nat → Prop} (h:Kd.R k37 37 W base ok (.slice (some ⟨gb,0,none⟩) n c) l):(∀ o,W.frozen? ⟨gb,o,none⟩ = false) ∧ True:=by
 obtain ⟨_,inner,hown,_⟩:=h
 rcases hown.2 with ⟨hv,_⟩ | ⟨g',cap',cur,hv,hb,hh,_⟩
 · cases hv
 injection hv with ha _ _
 injection ha with ha
 injection ha with hg'
 subst hg'
 exact ⟨fun o => um hh o,trivial⟩
theorem u1g.set_elem {W:World} {gb c n:Nat} {l:List Tx.Lb} {base:Nat} {ok:Nat → Prop} (h:Kd.R k37 37 W base ok (.slice (some ⟨gb,0,none⟩) n c) l) (hn:l.length = n) (i:Nat) (hi:i < n) (x:Tx.Lb) :
 Kd.R k37 37 (W.setCells gb (i * 2) [.string x.f0,.string x.f1]) base ok (.slice (some ⟨gb,0,none⟩) n c) (l.set i x) ∧ W.grownBy (W.setCells gb (i * 2) [.string x.f0,.string x.f1]) (some gb):=by
 subst hn
 obtain ⟨q0,q1,_⟩:=u1g.cell_at h i hi
 have hs:=Kd.R_seg (okp:=fun k => ok k ∧ k ≠ gb) (x':=x) (seg:=[.string x.f0,.string x.f1]) (c:=[.string l[i].f0,.string l[i].f1]) (j:=0) h (i:Int) (by omega) (by omega) rfl (by
  intro j' u hu
  have e2:(i:Int).toNat * k37.sz = i * 2:=rfl
  rw [e2]
  match j',hu with
  | 0,hu => simp at hu;subst hu;exact q0
  | 1,hu => simp at hu;subst hu;exact q1) (by show 0 + 2 ≤ 2;omega) (k37_mkM _ _ _ _) (fun k hk => hk)
 exact hs
set_option maxRecDepth 100000 in
set_option maxHeartbeats 4000000 in
theorem u1g.insertion (W:World) (base:Nat) (ok:Nat → Prop) (gb c:Nat) (l:List Tx.Lb) (hn:l.length ≤ 19) (hR:Kd.R k37 37 W base ok (.slice (some ⟨gb,0,none⟩) l.length c) l) :
 Calls Tryd.prog 106 #[.slice (some ⟨gb,0,none⟩) l.length c,.int .i64 0,.int .i64 (l.length:Int),.func (.func 58) #[] #[]] W fun e W' => e = .returned (.tuple #[]) ∧ Kd.R k37 37 W' base ok (.slice (some ⟨gb,0,none⟩) l.length c) (Tx.sortP l) ∧ W.grownBy W' (some gb):=by
 have HR:=Aside0.mk hR
 have mixed:Tryd.prog.follows .mixedOrders = true:=by kernel_rfl
 clear hR
 go_enter Tryd.func106,Tryd.ntmps106
 go_wp2
 go_loopg [8] (l.length) (fun kq vi wr => ∃ (i:Nat) (cur:List Tx.Lb),vi = .int .i64 i ∧ 1 ≤ i ∧ i ≤ l.length + 1 ∧ l.length ≤ kq + i ∧ Aside0 (cur.length = l.length ∧ cur = Tx.sortedTo l i ++ l.drop i) ∧ Aside0 (Kd.R k37 37 wr base ok (.slice (some ⟨gb,0,none⟩) l.length c) cur) ∧ Aside0 (W.grownBy wr (some gb)))
 case atStart => exact ⟨1,l,by go_num,by omega,by omega,by omega,⟨rfl,by rcases l with _ | ⟨x,l⟩ <;> rfl⟩,HR,⟨World.grownBy.refl _ _⟩⟩
 case round =>
  clear HR
  obtain ⟨i,cur,rfl,hi1,hi2,hkk,HC,HR,HG⟩:=hrel
  by_cases hlt:i < l.length
  · go_wp2
    go_loopg [9] i (fun kj vj wq => ∃ (pa pb:List Tx.Lb) (cur2:List Tx.Lb),vj = .int .i64 (pa.length:Int) ∧ pa.length ≤ kj ∧ pa.length ≤ i ∧ cur2.length = l.length ∧ Aside0 (Tx.sortedTo l i = pa ++ pb ∧ (∀ y ∈ pb,Tx.less l[i].f0 y.f0 = true) ∧ cur2 = pa ++ l[i] :: (pb ++ l.drop (i + 1))) ∧ Aside0 (Kd.R k37 37 wq base ok (.slice (some ⟨gb,0,none⟩) l.length c) cur2) ∧ Aside0 (W.grownBy wq (some gb)))
    case atStart => exact ⟨Tx.sortedTo l i,[],cur,by rw [Tx.sortedTo_len l i (by omega)],by rw [Tx.sortedTo_len l i (by omega)];exact Nat.le_refl _,by rw [Tx.sortedTo_len l i (by omega)];exact Nat.le_refl _,HC.out.1,⟨(List.append_nil _).symm,fun y hy => (by cases hy),by rw [HC.out.2,List.nil_append,List.drop_eq_getElem_cons hlt]⟩,HR,HG⟩
    case round =>
     clear HC HR HG
     obtain ⟨pa,pb,cur2,rfl,hj1,hj2,hcl,HC,HR,HG⟩:=hrel
     cases hpa:pa.reverse with
     | nil =>
       obtain rfl:pa = []:=by simpa using hpa
       have OUT:Aside0 (Tx.sortedTo l (i + 1) ++ l.drop (i + 1) = cur2):=⟨by rw [Tx.sortedTo_next l i hlt [] pb HC.out.1 HC.out.2.1 (fun y hy => (by cases hy)),HC.out.2.2];simp⟩
       have HHC:=Aside0.mk hcl
       clear hpa HC hcl hj1 hj2
       have hjaz:decide (((([]:List Tx.Lb).length:Nat):Int) > 0) = false:=rfl
       have HRd:=Aside0.mk (Kd.R_drew HR.out)
       have HGd:=Aside0.mk (HG.out.trans (grown_of_below (ud (Below.refl _ _)) _))
       rw [List.length_nil]
       go_wp2_with fail
       go_big_region_o
       all_goals go_wp2
       go_roundg (l.length - (i + 1))
       case measure => omega
       case rel => exact ⟨i + 1,cur2,by go_num,by omega,by omega,by omega,⟨HHC.out,OUT.out.symm⟩,HRd,HGd⟩
     | cons y pr =>
       obtain ⟨pq,rfl⟩:∃ pq,pa = pq ++ [y]:=⟨pr.reverse,by rw [← List.reverse_reverse pa,hpa,List.reverse_cons]⟩
       clear hpa
       rw [List.length_append,List.length_singleton] at hj1 hj2
       obtain ⟨jp,hjp⟩:∃ jp,jp = pq.length:=⟨_,rfl⟩
       have hrow:=HC.out.2.2
       have e1:cur2[jp + 1]? = some l[i]:=by rw [hrow];simp [hjp]
       have e2:cur2[jp]? = some y:=by rw [hrow];simp [hjp]
       have b1:jp + 1 < cur2.length:=(List.getElem?_eq_some_iff.1 e1).1
       have b2:jp < cur2.length:=(List.getElem?_eq_some_iff.1 e2).1
       have e3:cur2[jp + 1] = l[i]:=(List.getElem?_eq_some_iff.1 e1).2
       have e4:cur2[jp] = y:=(List.getElem?_eq_some_iff.1 e2).2
       rw [← hcl] at HR
       obtain ⟨x0,x1,hgb⟩:=u1g.cell_at HR.out (jp + 1) b1
       obtain ⟨y0,y1,_⟩:=u1g.cell_at HR.out jp b2
       rw [e3] at x0 x1
       rw [e4] at y0 y1
       rw [hcl] at HR b1 b2
       clear hrow e1 e2 e3 e4
       rw [List.length_append,List.length_singleton,← hjp]
       generalize hxi:l[i] = xi at *
       have HJ:=Aside0.mk hjp
       have HXI:=Aside0.mk hxi
       clear hjp hxi
       have lx0:=fun n os => Go.cell_grown (n:=n) (os:=os) hgb x0
       have lx1:=fun n os => Go.cell_grown (n:=n) (os:=os) hgb x1
       have ly0:=fun n os => Go.cell_grown (n:=n) (os:=os) hgb y0
       have ly1:=fun n os => Go.cell_grown (n:=n) (os:=os) hgb y1
       have hwp:IntKind.i64.wrap (jp:Int) = (jp:Int):=by rw [IntKind.wrap_i64];omega
       have jz:(jp:Int) + 1 < (l.length:Int):=by omega
       have jz1:(jp:Int) < (l.length:Int):=by omega
       have p0:(0:Int) ≤ (jp:Int) + 1:=by omega
       have e0:((jp:Int) + 1).toNat = jp + 1:=by omega
       have hcg:∀ n' os',Calls Tryd.prog 58 #[.agg #[.string xi.f0,.string xi.f1],.agg #[.string y.f0,.string y.f1]] (Go.Sort.grow (wr.drewN n') os') fun e w' => e = .returned (.int .i64 (u1g.cmpB xi.f0 y.f0)) ∧ ∃ q os'',w' = Go.Sort.grow ((Go.Sort.grow (wr.drewN n') os').drewN q) os'':=fun n' os' => u1g.by_name xi y _
       have HHC:=Aside0.mk hcl
       have HJ2:=Aside0.mk hj2
       have HGB:=Aside0.mk hgb
       clear hcl hj2
       have cl:=u1g.cmp_less xi.f0 y.f0
       cases hlv:Tx.less xi.f0 y.f0 with
       | true =>
         rw [hlv] at cl
         go_wp2_with fail
         go_quiet_grown (first | (go_at_call 58;refine Calls.grown_of (hcg _ _)))
         go_wp2_with fail
         have x0':=lx0 nq osq
         have x1':=lx1 nq osq
         have y0':=ly0 nq osq
         have y1':=ly1 nq osq
         have HR2:Aside0 (Kd.R k37 37 (Go.Sort.grow (wr.drewN nq) osq) base ok (.slice (some ⟨gb,0,none⟩) l.length c) cur2):=⟨Kd.R_below (Kd.R_drewN HR.out nq) (u1g.below_grow _ _)⟩
         have HG2:Aside0 (W.grownBy (Go.Sort.grow (wr.drewN nq) osq) (some gb)):=⟨HG.out.trans (grown_of_below (uw (ub (Below.refl _ _) nq) (u1g.below_grow _ _)) _)⟩
         clear lx0 lx1 ly0 ly1 hcg x0 x1 y0 y1 HR HG
         generalize Go.Sort.grow (wr.drewN nq) osq = wq2 at *
         obtain ⟨fz,_⟩:=u1g.thawed HR2.out
         have n1:¬ jp * 2 = (jp + 1) * 2:=by omega
         have n2:¬ jp * 2 = (jp + 1) * 2 + 1:=by omega
         have n3:¬ jp * 2 + 1 = (jp + 1) * 2:=by omega
         have n4:¬ jp * 2 + 1 = (jp + 1) * 2 + 1:=by omega
         go_big_region_o
         all_goals go_wp2
         obtain ⟨r1,g1⟩:=u1g.set_elem HR2.out HHC.out (jp + 1) (by omega) y
         obtain ⟨r2,g2⟩:=u1g.set_elem r1 (by rw [List.length_set];exact HHC.out) jp (by omega) xi
         have HR3:Aside0 (Kd.R k37 37 ((((wq2.setCell ⟨gb,(jp + 1) * 2,none⟩ (.string y.f0)).setCell ⟨gb,(jp + 1) * 2 + 1,none⟩ (.string y.f1)).setCell ⟨gb,jp * 2,none⟩ (.string xi.f0)).setCell ⟨gb,jp * 2 + 1,none⟩ (.string xi.f1)).drew base ok (.slice (some ⟨gb,0,none⟩) l.length c) ((cur2.set (jp + 1) y).set jp xi)):=⟨Kd.R_drew r2⟩
         have HG3:Aside0 (W.grownBy ((((wq2.setCell ⟨gb,(jp + 1) * 2,none⟩ (.string y.f0)).setCell ⟨gb,(jp + 1) * 2 + 1,none⟩ (.string y.f1)).setCell ⟨gb,jp * 2,none⟩ (.string xi.f0)).setCell ⟨gb,jp * 2 + 1,none⟩ (.string xi.f1)).drew (some gb)):=⟨((HG2.out.trans g1).trans g2).trans (grown_of_below (ud (Below.refl _ _)) _)⟩
         clear r1 g1 r2 g2 HR2 HG2
         go_roundg jp
         case measure => have:=HJ.out;omega
         case rel =>
          refine ⟨pq,y :: pb,(cur2.set (jp + 1) y).set jp xi,by rw [HJ.out],by rw [HJ.out];exact Nat.le_refl _,by have:=HJ.out;have:=HJ2.out;omega,by rw [List.length_set,List.length_set];exact HHC.out,⟨?_,?_,?_⟩,HR3,HG3⟩
          · rw [HC.out.1,List.append_assoc,List.singleton_append]
          · intro z hz
            rcases List.mem_cons.1 hz with rfl | hz
            · exact hlv
            · exact HC.out.2.1 z hz
          · rw [HC.out.2.2,HJ.out]
            simp
       | false =>
         rw [hlv] at cl
         go_wp2_with fail
         go_quiet_grown (first | (go_at_call 58;refine Calls.grown_of (hcg _ _)))
         go_wp2
         have HR2:Aside0 (Kd.R k37 37 (Go.Sort.grow (wr.drewN nq) osq) base ok (.slice (some ⟨gb,0,none⟩) l.length c) cur2):=⟨Kd.R_below (Kd.R_drewN HR.out nq) (u1g.below_grow _ _)⟩
         have HG2:Aside0 (W.grownBy (Go.Sort.grow (wr.drewN nq) osq) (some gb)):=⟨HG.out.trans (grown_of_below (uw (ub (Below.refl _ _) nq) (u1g.below_grow _ _)) _)⟩
         have OUT:Aside0 (Tx.sortedTo l (i + 1) ++ l.drop (i + 1) = cur2):=⟨by
          rw [Tx.sortedTo_next l i hlt (pq ++ [y]) pb HC.out.1 (fun z hz => by rw [HXI.out];exact HC.out.2.1 z hz) (fun z hz => by
           obtain rfl:y = z:=by simpa using hz
           rw [HXI.out,hlv]
           decide),HC.out.2.2,HXI.out]
          simp⟩
         go_roundg (l.length - (i + 1))
         case measure => omega
         case rel => exact ⟨i + 1,cur2,by go_num,by omega,by omega,by omega,⟨HHC.out,OUT.out.symm⟩,HR2,HG2⟩
  · have hin:i = l.length ∨ i = l.length + 1:=by omega
    have HF:Aside0 (cur = Tx.sortP l):=⟨by
     rw [HC.out.2,List.drop_eq_nil_of_le (by omega),List.append_nil]
     rcases hin with h9 | h9
     · rw [h9,Tx.sortedTo_all]
     · unfold Tx.sortedTo Tx.sortP
       rw [List.take_of_length_le (by omega)]⟩
    clear hin
    go_wp2
    go_end0
    exact ⟨rfl,HF.out ▸ HR.out,HG.out⟩
theorem u1g.insertion_few (W:World) (A:Option Addr) (c:Nat) (l:List Tx.Lb) (hn:l.length ≤ 1) :
 Calls Tryd.prog 106 #[.slice A l.length c,.int .i64 0,.int .i64 (l.length:Int),.func (.func 58) #[] #[]] W fun e W' => e = .returned (.tuple #[]) ∧ W' = W:=by
 have hd:decide ((1:Int) < (l.length:Int)) = false:=decide_eq_false (by omega)
 have hlt:¬ (1:Int) < (l.length:Int):=by omega
 go_enter Tryd.func106,Tryd.ntmps106
 go_wp2
 go_loopg [8] (1) (fun kq vi wr => vi = .int .i64 1 ∧ 0 < kq ∧ wr = W)
 case atStart => exact ⟨by rfl,by omega,rfl⟩
 case round =>
  obtain ⟨rfl,hk,rfl⟩:=hrel
  go_wp2
  go_end0
  exact ⟨rfl,rfl⟩
theorem u1g.sortP_few (l:List Tx.Lb) (hn:l.length ≤ 1):Tx.sortP l = l:=by
 rcases l with _ | ⟨x,_ | ⟨y,l⟩⟩
 · rfl
 · rfl
 · simp at hn
theorem u1g.form {W:World} {base n c:Nat} {ok:Nat → Prop} {A:Option Addr} {xs:List Tx.Lb} (h:Kd.R k37 37 W base ok (.slice A n c) xs) (hn:0 < n):∃ g,A = some ⟨g,0,none⟩:=by
 obtain ⟨_,_,ho,_⟩:=h
 rcases ho.2 with ⟨hv,h0⟩ | ⟨g,cap,cur,hv,_⟩
 · injection hv with _ h1
   omega
 · injection hv with h1
   exact ⟨g,h1⟩
theorem u1g.ins (W:World) (base:Nat) (ok:Nat → Prop) (A:Option Addr) (c:Nat) (l:List Tx.Lb) (hn:l.length ≤ 19) (hR:Kd.R k37 37 W base ok (.slice A l.length c) l) :
 Calls Tryd.prog 106 #[.slice A l.length c,.int .i64 0,.int .i64 (l.length:Int),.func (.func 58) #[] #[]] W fun e W' => e = .returned (.tuple #[]) ∧ Kd.R k37 37 W' base ok (.slice A l.length c) (Tx.sortP l) ∧ W.grownBy W' (Value.slice A l.length c).ownBlock:=by
 by_cases h1:l.length ≤ 1
 · refine (u1g.insertion_few W A c l h1).mono ?_
   rintro e W' ⟨rfl,rfl⟩
   exact ⟨rfl,by rw [u1g.sortP_few l h1];exact hR,World.grownBy.refl _ _⟩
 · obtain ⟨gb,rfl⟩:=u1g.form hR (by omega)
   exact u1g.insertion W base ok gb c l hn hR
set_option maxRecDepth 100000 in
set_option maxHeartbeats 1000000 in
theorem u1g.stable (W:World) (base:Nat) (ok:Nat → Prop) (A:Option Addr) (c:Nat) (l:List Tx.Lb) (hn:l.length ≤ 19) (hR:Kd.R k37 37 W base ok (.slice A l.length c) l) :
 Calls Tryd.prog 86 #[.slice A l.length c,.int .i64 (l.length:Int),.func (.func 58) #[] #[]] W fun e W' => e = .returned (.tuple #[]) ∧ Kd.R k37 37 W' base ok (.slice A l.length c) (Tx.sortP l) ∧ W.grownBy W' (Value.slice A l.length c).ownBlock:=by
 have HR:=Aside0.mk hR
 clear hR
 have h20:¬ (20:Int) ≤ (l.length:Int):=by omega
 have h20b:¬ (20:Int) < (l.length:Int):=by omega
 go_enter Tryd.func86,Tryd.ntmps86
 go_wp2
 go_loopg [7,8] (1) (fun kq v7 v8 wr => v7 = .int .i64 0 ∧ v8 = .int .i64 20 ∧ 0 < kq ∧ wr = W)
 case atStart => exact ⟨by rfl,by rfl,by omega,rfl⟩
 case round =>
  obtain ⟨rfl,rfl,hk,rfl⟩:=hrel
  go_wp2_with (go_at_call 106;(with_reducible refine (u1g.ins _ base ok A c l hn HR.out).mono ?_);rintro e W1 ⟨rfl,hr1,hg1⟩;have HR1:=Aside0.mk hr1;have HG1:=Aside0.mk hg1;clear hr1 hg1)
  go_loopg [6] (1) (fun kq v6 wr => v6 = .int .i64 20 ∧ 0 < kq ∧ wr = W1)
  case atStart => exact ⟨by rfl,by omega,rfl⟩
  case round =>
   obtain ⟨rfl,hk,rfl⟩:=hrel
   go_wp2
   go_end0
   exact ⟨rfl,HR1.out,HG1.out⟩
theorem u1g.calls (W:World) (base:Nat) (ok:Nat → Prop) (A:Option Addr) (c:Nat) (l:List Tx.Lb) (hn:l.length ≤ 19) (hR:Kd.R k37 37 W base ok (.slice A l.length c) l) :
 Calls Tryd.prog 57 #[.slice A l.length c,.func (.func 58) #[] #[]] W fun e W' => e = .returned (.tuple #[]) ∧ Kd.R k37 37 W' base ok (.slice A l.length c) (Tx.sortP l) ∧ W.grownBy W' (Value.slice A l.length c).ownBlock:=by
 have HR:=Aside0.mk hR
 clear hR
 go_enter Tryd.func57,Tryd.ntmps57
 go_wp2_with (go_at_call 86;(with_reducible refine (u1g.stable _ base ok A c l hn HR.out).mono ?_);rintro e W1 ⟨rfl,hr1,hg1⟩;have HR1:=Aside0.mk hr1;have HG1:=Aside0.mk hg1;clear hr1 hg1)
 go_end0
 exact ⟨rfl,HR1.out,HG1.out⟩
def u1u.f (k:Nat) (l0_0:List (S37)) (a0_1:Int) (a0_2:Int) (l1_0:List (S37)) (a1_1:Int) (a1_2:Int):Option (Bool):=(u1e.f k (([(⟨l0_0,a0_1,a0_2⟩:S25)]:List (S25))) (([(⟨l1_0,a1_1,a1_2⟩:S25)]:List (S25)))).bind fun t260 => (some t260)
set_option maxHeartbeats 8000000 in
set_option maxRecDepth 100000 in
theorem u1u.calls (k:Nat) (P0_0_:Nat → Prop) (A0_0:Option Addr) (c0_0:Nat) (l0_0:List (S37)) (a0_1:Int) (a0_2:Int) (P1_0_:Nat → Prop) (A1_0:Option Addr) (c1_0:Nat) (l1_0:List (S37)) (a1_1:Int) (a1_2:Int) (r:Bool) (w:World) (hs0_0:Kd.V k37 37 w w.heap.size (fun k_ => P0_0_ k_) (.slice A0_0 l0_0.length c0_0) l0_0) (hs1_0:Kd.V k37 37 w w.heap.size (fun k_ => P1_0_ k_) (.slice A1_0 l1_0.length c1_0) l1_0) (h:u1u.f k l0_0 a0_1 a0_2 l1_0 a1_1 a1_2 = some r) :
 Calls Tryd.prog 8 #[.agg #[.slice A0_0 l0_0.length c0_0,.int .i64 a0_1,.int .u64 a0_2],.agg #[.slice A1_0 l1_0.length c1_0,.int .i64 a1_1,.int .u64 a1_2]] w fun e w' => e = .returned (.bool r) ∧ Below w.heap.size w w':=by
 have hu25:=Tryd.underlying25
 have HO0_0:=Aside0.mk (show Kd.V k37 37 w w.heap.size (fun k_ => ((P0_0_ k_ ∨ P1_0_ k_) ∨ w.heap.size ≤ k_)) (.slice A0_0 l0_0.length c0_0) l0_0 from Kd.V_mono hs0_0 (fun k_ hk => .inl (.inl hk)))
 have HO1_0:=Aside0.mk (show Kd.V k37 37 w w.heap.size (fun k_ => ((P0_0_ k_ ∨ P1_0_ k_) ∨ w.heap.size ≤ k_)) (.slice A1_0 l1_0.length c1_0) l1_0 from Kd.V_mono hs1_0 (fun k_ hk => .inl (.inr hk)))
 have HB:=Aside0.mk (Below.refl w.heap.size w)
 have H:((u1e.f k (([(⟨l0_0,a0_1,a0_2⟩:S25)]:List (S25))) (([(⟨l1_0,a1_1,a1_2⟩:S25)]:List (S25)))).bind fun t260 => (some t260)) = some r:=h
 clear h
 obtain ⟨y254,hy254⟩:∃ y_:List (S25),y_ = (([(⟨l0_0,a0_1,a0_2⟩:S25)]:List (S25))):=⟨_,rfl⟩
 replace H:((u1e.f k y254 (([(⟨l1_0,a1_1,a1_2⟩:S25)]:List (S25)))).bind fun t260 => (some t260)) = some r:=by first | (rw [hy254];with_reducible exact H) | (have H2_:=(Option.bind_some _ _).symm.trans H;rw [hy254];with_reducible exact H2_) | (have H2_:=(Option.bind_some _ _).symm.trans H;with_reducible exact H2_) | with_reducible exact H | (rw [hy254];exact H) | exact H
 have Ny254:=Aside0.mk hy254
 clear hy254
 obtain ⟨y257,hy257⟩:∃ y_:List (S25),y_ = (([(⟨l1_0,a1_1,a1_2⟩:S25)]:List (S25))):=⟨_,rfl⟩
 replace H:((u1e.f k y254 y257).bind fun t260 => (some t260)) = some r:=by first | (rw [hy257];with_reducible exact H) | (have H2_:=(Option.bind_some _ _).symm.trans H;rw [hy257];with_reducible exact H2_) | (have H2_:=(Option.bind_some _ _).symm.trans H;with_reducible exact H2_) | with_reducible exact H | (rw [hy257];exact H) | exact H
 have Ny257:=Aside0.mk hy257
 clear hy257
 replace H:=Option.bind_eq_some_iff.mp H
 obtain ⟨t260,A30,H⟩:=H
 replace H:(some t260) = some r:=H
 have A3:=Aside0.mk A30
 clear A30
 obtain rfl:=Option.some.inj H
 go_enter Tryd.func8,Tryd.ntmps8
 go_wp2_with (first | ((with_reducible refine u2e (N:=2) rfl ?_);refine u1y ?hg (N:=2) ?hd (cs:=#[.slice A0_0 l0_0.length c0_0,.int .i64 a0_1,.int .u64 a0_2]) (t:=25) ?hr ?_;(case hd => rfl);(case hg => rfl);(case hr => first | (go_simp;done) | (go_simp;rfl));intro gb252 hg w4 hbox hb;have n0_:=Aside0.mk (Kd.V_below (Kd.V_elderB (by (with_reducible repeat (first | apply Kd.V_alloc | apply Kd.V_drewN | apply Kd.V_drew));exact HO0_0.out) gb252 (Nat.le_of_eq hg.symm)) hb);have n1_:=Aside0.mk (Kd.V_below (Kd.V_elderB (by (with_reducible repeat (first | apply Kd.V_alloc | apply Kd.V_drewN | apply Kd.V_drew));exact HO1_0.out) gb252 (Nat.le_of_eq hg.symm)) hb);have n2_:=Aside0.mk (uw (by repeat (first | (with_reducible first | exact HB.out | apply uc | apply ub | apply ud) | exact HB.out)) hb);have n3_:=Aside0.mk (hbox);have n4_:=Aside0.mk ((by rw [hg];exact (us (by repeat (first | (with_reducible first | exact HB.out | apply uc | apply ub | apply ud) | exact HB.out))):w.heap.size ≤ gb252));have n5_:=Aside0.mk ((by rw [hg];exact (us (by repeat (first | (with_reducible first | exact HB.out | apply uc | apply ub | apply ud) | exact HB.out))):w.heap.size ≤ gb252));clear HO0_0;clear HO1_0;clear HB;have HO0_0:=n0_;have HO1_0:=n1_;have HB:=n2_;have BK252:=n3_;have GW252:=n4_;have GE252:=n5_;clear n0_ n1_ n2_ n3_ n4_ n5_;clear hb hbox hg) | ((with_reducible refine u2e (N:=3) rfl ?_);refine u1y ?hg (N:=3) ?hd (cs:=#[.slice A1_0 l1_0.length c1_0,.int .i64 a1_1,.int .u64 a1_2]) (t:=25) ?hr ?_;(case hd => rfl);(case hg => rfl);(case hr => first | (go_simp;done) | (go_simp;rfl));intro gb253 hg w5 hbox hb;have n0_:=Aside0.mk (Kd.V_below (Kd.V_elderB (by (with_reducible repeat (first | apply Kd.V_alloc | apply Kd.V_drewN | apply Kd.V_drew));exact HO0_0.out) gb253 (Nat.le_of_eq hg.symm)) hb);have n1_:=Aside0.mk (Kd.V_below (Kd.V_elderB (by (with_reducible repeat (first | apply Kd.V_alloc | apply Kd.V_drewN | apply Kd.V_drew));exact HO1_0.out) gb253 (Nat.le_of_eq hg.symm)) hb);have n2_:=Aside0.mk (uz (g:=gb252) (o:=.cells #[.slice A0_0 l0_0.length c0_0,.int .i64 a0_1,.int .u64 a0_2] 25 (0,0)) (by (with_reducible repeat (first | refine uf ?_ _ | refine ug ?_ | refine ue ?_ _));exact BK252.out) hb);have n3_:=Aside0.mk (uw (by repeat (first | (with_reducible first | exact HB.out | apply uc | apply ub | apply ud | refine uh ?_ GE252.out) | exact HB.out)) hb);have n4_:=Aside0.mk (hbox);have n5_:=Aside0.mk ((by rw [hg];exact (us (by repeat (first | (with_reducible first | exact HB.out | apply uc | apply ub | apply ud | refine uh ?_ GE252.out) | exact HB.out))):w.heap.size ≤ gb253));have n6_:=Aside0.mk ((by rw [hg];exact (us (by repeat (first | (with_reducible first | exact HB.out | apply uc | apply ub | apply ud | refine uh ?_ GE252.out) | exact HB.out))):w.heap.size ≤ gb253));have n7_:=Aside0.mk ((by rw [hg];exact Nat.ne_of_lt (u1n (g:=gb252) (o:=.cells #[.slice A0_0 l0_0.length c0_0,.int .i64 a0_1,.int .u64 a0_2] 25 (0,0)) (by (with_reducible repeat (first | refine uf ?_ _ | refine ug ?_ | refine ue ?_ _));exact BK252.out)):gb252 ≠ gb253));have n8_:=Aside0.mk ((by rw [hg];exact Nat.ne_of_gt (u1n (g:=gb252) (o:=.cells #[.slice A0_0 l0_0.length c0_0,.int .i64 a0_1,.int .u64 a0_2] 25 (0,0)) (by (with_reducible repeat (first | refine uf ?_ _ | refine ug ?_ | refine ue ?_ _));exact BK252.out)):gb253 ≠ gb252));clear HO0_0;clear HO1_0;clear BK252;clear HB;have HO0_0:=n0_;have HO1_0:=n1_;have BK252:=n2_;have HB:=n3_;have BK253:=n4_;have GW253:=n5_;have GE253:=n6_;have NB252_253:=n7_;have NB253_252:=n8_;clear n0_ n1_ n2_ n3_ n4_ n5_ n6_ n7_ n8_;clear hb hbox hg;have hnb6:=NB252_253.out;have hnc6:=NB253_252.out;have hcz7_0:w5.cell? ⟨gb252,0,none⟩ = some (.slice A0_0 l0_0.length c0_0):=(un BK252.out 0).trans rfl;have hcz7_1:w5.cell? ⟨gb252,1,none⟩ = some (.int .i64 a0_1):=(un BK252.out 1).trans rfl;have hcz7_2:w5.cell? ⟨gb252,2,none⟩ = some (.int .u64 a0_2):=(un BK252.out 2).trans rfl;have hfz7_0:=um BK252.out 0;have hfz7_1:=um BK252.out 1;have hfz7_2:=um BK252.out 2) | ((with_reducible refine u2e (N:=6) rfl ?_);refine Kd.N_lit k25 _ 25 ?hg (N':=6) ?hd (xs:=([(⟨l0_0,a0_1,a0_2⟩:S25)]:List (S25))) (inner:=[.slice A0_0 l0_0.length c0_0,.int .i64 a0_1,.int .u64 a0_2]) (ok:=(fun k_ => ((P0_0_ k_ ∨ P1_0_ k_) ∨ w.heap.size ≤ k_) ∧ k_ ≠ gb252 ∧ k_ ≠ gb253)) (okp:=(fun k_ => ((P0_0_ k_ ∨ P1_0_ k_) ∨ w.heap.size ≤ k_) ∧ k_ ≠ gb252 ∧ k_ ≠ gb253)) ?hr ?hp (fun _ hk => hk) ((show ∀ k_,w5.heap.size ≤ k_ → (fun k_ => ((P0_0_ k_ ∨ P1_0_ k_) ∨ w.heap.size ≤ k_) ∧ k_ ≠ gb252 ∧ k_ ≠ gb253) k_ from fun k_ hk => ⟨(.inr (Nat.le_trans (us (by repeat (first | (with_reducible first | exact HB.out | apply uc | apply ub | apply ud | refine uh ?_ GE252.out | refine uh ?_ GE253.out) | exact HB.out))) hk)),Kd.freshB (g:=gb252) (o:=.cells #[.slice A0_0 l0_0.length c0_0,.int .i64 a0_1,.int .u64 a0_2] 25 (0,0)) (by (with_reducible repeat (first | refine uf ?_ _ | refine ug ?_ | refine ue ?_ _));exact BK252.out) k_ hk,Kd.freshB (g:=gb253) (o:=.cells #[.slice A1_0 l1_0.length c1_0,.int .i64 a1_1,.int .u64 a1_2] 25 (0,0)) (by (with_reducible repeat (first | refine uf ?_ _ | refine ug ?_ | refine ue ?_ _));exact BK253.out) k_ hk⟩) _ (Nat.le_refl _)) (Below.refl _ _) (Nat.le_refl _) (by simp) ?_;(case hd => rfl);(case hg => rfl);(case hr => first | (go_simp;done) | (go_simp;rfl));(case hp => exact (Reps.c3 (show Kd.FK k25 _ _ (⟨l0_0,a0_1,a0_2⟩:S25) [.slice A0_0 l0_0.length c0_0,.int .i64 a0_1,.int .u64 a0_2] from (k25_mkF _ _ (⟨l0_0,a0_1,a0_2⟩:S25) (Kd.V_reads' (Kd.V_mono (ok':=(fun k_ => ((P0_0_ k_ ∨ P1_0_ k_) ∨ w.heap.size ≤ k_) ∧ k_ ≠ gb252 ∧ k_ ≠ gb253)) (HO0_0.out) (fun k_ hk => ⟨hk.1.1,⟨hk.1.2,hk.2⟩⟩))).2.1 (Kd.V_F (Kd.V_mono (ok':=(fun k_ => ((P0_0_ k_ ∨ P1_0_ k_) ∨ w.heap.size ≤ k_) ∧ k_ ≠ gb252 ∧ k_ ≠ gb253)) (HO0_0.out) (fun k_ hk => ⟨hk.1.1,⟨hk.1.2,hk.2⟩⟩))))) (Reps.none _ _)));intro v255 w8 ho9 hb hg_ hnew_;clear hg_ hnew_;(first | rw [← Ny254.out] at ho9 | (simp only [Int.reduceToNat] at ho9;rw [← Ny254.out] at ho9));have n0_:=Aside0.mk (Kd.V_elder' (by (with_reducible repeat (first | apply Kd.V_alloc | apply Kd.V_drewN | apply Kd.V_drew));exact HO0_0.out) (Kd.N_base ho9) hb);have n1_:=Aside0.mk (Kd.V_elder' (by (with_reducible repeat (first | apply Kd.V_alloc | apply Kd.V_drewN | apply Kd.V_drew));exact HO1_0.out) (Kd.N_base ho9) hb);have n2_:=Aside0.mk (Kd.N_lower ho9 (us (by repeat (first | (with_reducible first | exact HB.out | apply uc | apply ub | apply ud | refine uh ?_ GE252.out | refine uh ?_ GE253.out) | exact HB.out))));have n3_:=Aside0.mk (uz (g:=gb252) (o:=.cells #[.slice A0_0 l0_0.length c0_0,.int .i64 a0_1,.int .u64 a0_2] 25 (0,0)) (by (with_reducible repeat (first | refine uf ?_ _ | refine ug ?_ | refine ue ?_ _));exact BK252.out) hb);have n4_:=Aside0.mk (uz (g:=gb253) (o:=.cells #[.slice A1_0 l1_0.length c1_0,.int .i64 a1_1,.int .u64 a1_2] 25 (0,0)) (by (with_reducible repeat (first | refine uf ?_ _ | refine ug ?_ | refine ue ?_ _));exact BK253.out) hb);have n5_:=Aside0.mk (uw (by repeat (first | (with_reducible first | exact HB.out | apply uc | apply ub | apply ud | refine uh ?_ GE252.out | refine uh ?_ GE253.out) | exact HB.out)) hb);clear HO0_0;clear HO1_0;clear BK252;clear BK253;clear HB;have HO0_0:=n0_;have HO1_0:=n1_;have HO256:=n2_;have BK252:=n3_;have BK253:=n4_;have HB:=n5_;clear n0_ n1_ n2_ n3_ n4_ n5_;clear hb ho9;have hcz10_0:w8.cell? ⟨gb253,0,none⟩ = some (.slice A1_0 l1_0.length c1_0):=(un BK253.out 0).trans rfl;have hcz10_1:w8.cell? ⟨gb253,1,none⟩ = some (.int .i64 a1_1):=(un BK253.out 1).trans rfl;have hcz10_2:w8.cell? ⟨gb253,2,none⟩ = some (.int .u64 a1_2):=(un BK253.out 2).trans rfl;have hfz10_0:=um BK253.out 0;have hfz10_1:=um BK253.out 1;have hfz10_2:=um BK253.out 2) | ((with_reducible refine u2e (N:=8) rfl ?_);refine Kd.N_lit k25 _ 25 ?hg (N':=8) ?hd (xs:=([(⟨l1_0,a1_1,a1_2⟩:S25)]:List (S25))) (inner:=[.slice A1_0 l1_0.length c1_0,.int .i64 a1_1,.int .u64 a1_2]) (ok:=(fun k_ => ((P0_0_ k_ ∨ P1_0_ k_) ∨ w.heap.size ≤ k_) ∧ some k_ ≠ (v255:Value).ownBlock ∧ k_ ≠ gb252 ∧ k_ ≠ gb253)) (okp:=(fun k_ => ((P0_0_ k_ ∨ P1_0_ k_) ∨ w.heap.size ≤ k_) ∧ some k_ ≠ (v255:Value).ownBlock ∧ k_ ≠ gb252 ∧ k_ ≠ gb253)) ?hr ?hp (fun _ hk => hk) ((show ∀ k_,w8.heap.size ≤ k_ → (fun k_ => ((P0_0_ k_ ∨ P1_0_ k_) ∨ w.heap.size ≤ k_) ∧ some k_ ≠ (v255:Value).ownBlock ∧ k_ ≠ gb252 ∧ k_ ≠ gb253) k_ from fun k_ hk => ⟨(.inr (Nat.le_trans (us (by repeat (first | (with_reducible first | exact HB.out | apply uc | apply ub | apply ud | refine uh ?_ GE252.out | refine uh ?_ GE253.out) | exact HB.out))) hk)),Kd.fresh' (Kd.N_lt (by (with_reducible repeat (first | apply Kd.N_alloc | apply Kd.N_drewN | apply Kd.N_drew));exact HO256.out)) k_ hk,Kd.freshB (g:=gb252) (o:=.cells #[.slice A0_0 l0_0.length c0_0,.int .i64 a0_1,.int .u64 a0_2] 25 (0,0)) (by (with_reducible repeat (first | refine uf ?_ _ | refine ug ?_ | refine ue ?_ _));exact BK252.out) k_ hk,Kd.freshB (g:=gb253) (o:=.cells #[.slice A1_0 l1_0.length c1_0,.int .i64 a1_1,.int .u64 a1_2] 25 (0,0)) (by (with_reducible repeat (first | refine uf ?_ _ | refine ug ?_ | refine ue ?_ _));exact BK253.out) k_ hk⟩) _ (Nat.le_refl _)) (Below.refl _ _) (Nat.le_refl _) (by simp) ?_;(case hd => rfl);(case hg => rfl);(case hr => first | (go_simp;done) | (go_simp;rfl));(case hp => exact (Reps.c3 (show Kd.FK k25 _ _ (⟨l1_0,a1_1,a1_2⟩:S25) [.slice A1_0 l1_0.length c1_0,.int .i64 a1_1,.int .u64 a1_2] from (k25_mkF _ _ (⟨l1_0,a1_1,a1_2⟩:S25) (Kd.V_reads' (Kd.V_mono (ok':=(fun k_ => ((P0_0_ k_ ∨ P1_0_ k_) ∨ w.heap.size ≤ k_) ∧ some k_ ≠ (v255:Value).ownBlock ∧ k_ ≠ gb252 ∧ k_ ≠ gb253)) (HO1_0.out) (fun k_ hk => ⟨hk.1.1.1,⟨hk.2,⟨hk.1.1.2,hk.1.2⟩⟩⟩))).2.1 (Kd.V_F (Kd.V_mono (ok':=(fun k_ => ((P0_0_ k_ ∨ P1_0_ k_) ∨ w.heap.size ≤ k_) ∧ some k_ ≠ (v255:Value).ownBlock ∧ k_ ≠ gb252 ∧ k_ ≠ gb253)) (HO1_0.out) (fun k_ hk => ⟨hk.1.1.1,⟨hk.2,⟨hk.1.1.2,hk.1.2⟩⟩⟩))))) (Reps.none _ _)));intro v258 w11 ho12 hb hg_ hnew_;clear hg_ hnew_;(first | rw [← Ny257.out] at ho12 | (simp only [Int.reduceToNat] at ho12;rw [← Ny257.out] at ho12));have n0_:=Aside0.mk (Kd.V_elder' (by (with_reducible repeat (first | apply Kd.V_alloc | apply Kd.V_drewN | apply Kd.V_drew));exact HO0_0.out) (Kd.N_base ho12) hb);have n1_:=Aside0.mk (Kd.V_elder' (by (with_reducible repeat (first | apply Kd.V_alloc | apply Kd.V_drewN | apply Kd.V_drew));exact HO1_0.out) (Kd.N_base ho12) hb);have n2_:=Aside0.mk (Kd.N_elder' (by (with_reducible repeat (first | apply Kd.N_alloc | apply Kd.N_drewN | apply Kd.N_drew));exact HO256.out) (Kd.N_base ho12) hb);have n3_:=Aside0.mk (Kd.N_lower ho12 (us (by repeat (first | (with_reducible first | exact HB.out | apply uc | apply ub | apply ud | refine uh ?_ GE252.out | refine uh ?_ GE253.out) | exact HB.out))));have n4_:=Aside0.mk (uz (g:=gb252) (o:=.cells #[.slice A0_0 l0_0.length c0_0,.int .i64 a0_1,.int .u64 a0_2] 25 (0,0)) (by (with_reducible repeat (first | refine uf ?_ _ | refine ug ?_ | refine ue ?_ _));exact BK252.out) hb);have n5_:=Aside0.mk (uz (g:=gb253) (o:=.cells #[.slice A1_0 l1_0.length c1_0,.int .i64 a1_1,.int .u64 a1_2] 25 (0,0)) (by (with_reducible repeat (first | refine uf ?_ _ | refine ug ?_ | refine ue ?_ _));exact BK253.out) hb);have n6_:=Aside0.mk (uw (by repeat (first | (with_reducible first | exact HB.out | apply uc | apply ub | apply ud | refine uh ?_ GE252.out | refine uh ?_ GE253.out) | exact HB.out)) hb);clear HO0_0;clear HO1_0;clear HO256;clear BK252;clear BK253;clear HB;have HO0_0:=n0_;have HO1_0:=n1_;have HO256:=n2_;have HO259:=n3_;have BK252:=n4_;have BK253:=n5_;have HB:=n6_;clear n0_ n1_ n2_ n3_ n4_ n5_ n6_;clear hb ho12;obtain ⟨Ao13,co13,eo13⟩:=Kd.N_slice HO256.out;subst eo13;obtain ⟨Ao14,co14,eo14⟩:=Kd.N_slice HO259.out;subst eo14) | ((with_reducible refine u1s (f:=15) rfl ?_);refine u2q (some 9) rfl rfl Tryd.func15 (by kernel_rfl) rfl #[.slice Ao13 y254.length co13,.slice Ao14 y257.length co14] rfl (by (try simp only [List.map_toArray,List.map_cons,List.map_nil]);first | done | rfl | (simp only [List.length_drop,List.length_take];rfl)) ?_;(with_reducible refine (u1e.calls k _ _ y254 _ _ y257 t260 _ ?side1 ?side2 ?side3 ?side4 A3.out).mono ?_);(case side1 => repeat (first | exact (Kd.N_reads' HO256.out).2.2 | (with_reducible refine Kd.C_alloc ?_ _) | (with_reducible refine Kd.C_drewN ?_ _) | (with_reducible refine Kd.C_drew ?_)));(case side2 => exact (Kd.N_reads' HO256.out).2.1);(case side3 => repeat (first | exact (Kd.N_reads' HO259.out).2.2 | (with_reducible refine Kd.C_alloc ?_ _) | (with_reducible refine Kd.C_drewN ?_ _) | (with_reducible refine Kd.C_drew ?_)));(case side4 => exact (Kd.N_reads' HO259.out).2.1);rintro e w15 ⟨rfl,hb⟩;refine ⟨_,rfl,?_⟩;have n0_:=Aside0.mk (Kd.V_below (by (with_reducible repeat (first | apply Kd.V_alloc | apply Kd.V_drewN | apply Kd.V_drew));exact HO0_0.out) hb);have n1_:=Aside0.mk (Kd.V_below (by (with_reducible repeat (first | apply Kd.V_alloc | apply Kd.V_drewN | apply Kd.V_drew));exact HO1_0.out) hb);have n2_:=Aside0.mk (Kd.N_below (by (with_reducible repeat (first | apply Kd.N_alloc | apply Kd.N_drewN | apply Kd.N_drew));exact HO256.out) hb);have n3_:=Aside0.mk (Kd.N_below (by (with_reducible repeat (first | apply Kd.N_alloc | apply Kd.N_drewN | apply Kd.N_drew));exact HO259.out) hb);have n4_:=Aside0.mk (uz (g:=gb252) (o:=.cells #[.slice A0_0 l0_0.length c0_0,.int .i64 a0_1,.int .u64 a0_2] 25 (0,0)) (by (with_reducible repeat (first | refine uf ?_ _ | refine ug ?_ | refine ue ?_ _));exact BK252.out) hb);have n5_:=Aside0.mk (uz (g:=gb253) (o:=.cells #[.slice A1_0 l1_0.length c1_0,.int .i64 a1_1,.int .u64 a1_2] 25 (0,0)) (by (with_reducible repeat (first | refine uf ?_ _ | refine ug ?_ | refine ue ?_ _));exact BK253.out) hb);have n6_:=Aside0.mk (uw (by repeat (first | (with_reducible first | exact HB.out | apply uc | apply ub | apply ud | refine uh ?_ GE252.out | refine uh ?_ GE253.out) | exact HB.out)) hb);clear HO0_0;clear HO1_0;clear HO256;clear HO259;clear BK252;clear BK253;clear HB;have HO0_0:=n0_;have HO1_0:=n1_;have HO256:=n2_;have HO259:=n3_;have BK252:=n4_;have BK253:=n5_;have HB:=n6_;clear n0_ n1_ n2_ n3_ n4_ n5_ n6_;(try clear hb);(try clear hb2);(try clear hk);(try clear hi)))
 go_ret
 exact ⟨by first | rfl | (simp [u1w,u1v] <;> rfl) | (simp [*,u1w,u1v] <;> rfl),by repeat (first | (with_reducible first | exact HB.out | apply uc | apply ub | apply ud | refine uh ?_ GE252.out | refine uh ?_ GE253.out) | exact HB.out)⟩
def u1a.l0:Nat → ByteArray → Int → Option (Bool)
 | 0,_,_ => none
 | k + 1,x0,x3 => if x3 < (x0.size:Int) then (if 0 ≤ x3 then (if (bt x0 x3) ≥ 97 then (if (bt x0 x3) ≤ 122 then (u1a.l0 k x0 (wrap64 (x3 + 1))) else (if (bt x0 x3) ≥ 65 then (if (bt x0 x3) ≤ 90 then (u1a.l0 k x0 (wrap64 (x3 + 1))) else (if ((bt x0 x3) = 95) then (u1a.l0 k x0 (wrap64 (x3 + 1))) else (if x3 = 0 then (some false) else (if (bt x0 x3) < 48 then (some false) else (if (bt x0 x3) > 57 then (some false) else (u1a.l0 k x0 (wrap64 (x3 + 1)))))))) else (if ((bt x0 x3) = 95) then (u1a.l0 k x0 (wrap64 (x3 + 1))) else (if x3 = 0 then (some false) else (if (bt x0 x3) < 48 then (some false) else (if (bt x0 x3) > 57 then (some false) else (u1a.l0 k x0 (wrap64 (x3 + 1))))))))) else (if (bt x0 x3) ≥ 65 then (if (bt x0 x3) ≤ 90 then (u1a.l0 k x0 (wrap64 (x3 + 1))) else (if ((bt x0 x3) = 95) then (u1a.l0 k x0 (wrap64 (x3 + 1))) else (if x3 = 0 then (some false) else (if (bt x0 x3) < 48 then (some false) else (if (bt x0 x3) > 57 then (some false) else (u1a.l0 k x0 (wrap64 (x3 + 1)))))))) else (if ((bt x0 x3) = 95) then (u1a.l0 k x0 (wrap64 (x3 + 1))) else (if x3 = 0 then (some false) else (if (bt x0 x3) < 48 then (some false) else (if (bt x0 x3) > 57 then (some false) else (u1a.l0 k x0 (wrap64 (x3 + 1))))))))) else (none)) else (if (x0.size:Int) ≥ 1 then (some (decide ((x0.size:Int) ≤ 24))) else (some false))
def u1a.f (k:Nat) (a0:ByteArray):Option (Bool):=u1a.l0 k a0 0
set_option maxHeartbeats 8000000 in
set_option maxRecDepth 100000 in
theorem u1a.calls (k:Nat) (a0:ByteArray) (r:Bool) (w:World) (h:u1a.f k a0 = some r) :
 Calls Tryd.prog 18 #[.string a0] w fun e w' => e = .returned (.bool r) ∧ ux w w':=by
 have H:(u1a.l0 k a0 0) = some r:=h
 clear h
 have H':=Aside0.mk H
 clear H
 go_enter Tryd.func18,Tryd.ntmps18
 go_wp2
 go_loopg [3] k (fun kq v3 w' => ∃ (x3_1:Int),v3 = .int .i64 x3_1 ∧ Aside0 (u1a.l0 kq a0 x3_1 = some r) ∧ Aside0 (kq ≤ k) ∧ ux w w')
 case atStart => exact ⟨(0),(by first | rfl | (simp;done) | (simp [*];done)),H',⟨Nat.le_refl _⟩,by repeat (first | exact ux.refl _ | apply ux.step)⟩
 case round =>
  clear H'
  try clear c1
  obtain ⟨x3_1,rfl,HA,HK1,⟨m1,rfl⟩⟩:=hrel
  cases gk with
  | zero => exact absurd HA.out (by simp [u1a.l0])
  | succ k1 =>
    have H:=HA.out
    clear HA
    simp only [u1a.l0] at H
    by_cases c2:x3_1 < (a0.size:Int)
    · rw [if_pos c2] at H
      have c2b0:decide (x3_1 < (a0.size:Int)) = true:=decide_eq_true c2
      clear c2
      by_cases c3:0 ≤ x3_1
      · rw [if_pos c3] at H
        have c3b0:decide (0 ≤ x3_1) = true:=decide_eq_true c3
        clear c3
        by_cases c5:(bt a0 x3_1) ≥ 97
        · rw [if_pos c5] at H
          have c5b0:decide (97 ≤ (bt a0 x3_1)) = true:=decide_eq_true c5
          clear c5
          by_cases c6:(bt a0 x3_1) ≤ 122
          · rw [if_pos c6] at H
            have c6b0:decide ((bt a0 x3_1) ≤ 122) = true:=decide_eq_true c6
            clear c6
            have H':=Aside0.mk H
            clear H
            have p4:0 ≤ (x3_1:Int):=of_decide_eq_true (by first | (with_reducible assumption) | assumption)
            have q4:x3_1 < (a0.size:Int):=of_decide_eq_true (by first | (with_reducible assumption) | assumption)
            have hx4:=bt_at a0 x3_1
            replace p4:=eq_true p4
            replace q4:=eq_true q4
            go_wp2
            go_roundg k1
            case measure => have:=HK1.out;omega
            case rel => exact ⟨(wrap64 (x3_1 + 1)),(by first | rfl | (simp;done) | (simp [*];done)),H',⟨by have:=HK1.out;omega⟩,by repeat (first | exact ux.refl _ | apply ux.step)⟩
          · rw [if_neg c6] at H
            have c6b0:decide ((bt a0 x3_1) ≤ 122) = false:=decide_eq_false c6
            clear c6
            by_cases c7:(bt a0 x3_1) ≥ 65
            · rw [if_pos c7] at H
              have c7b0:decide (65 ≤ (bt a0 x3_1)) = true:=decide_eq_true c7
              clear c7
              by_cases c8:(bt a0 x3_1) ≤ 90
              · rw [if_pos c8] at H
                have c8b0:decide ((bt a0 x3_1) ≤ 90) = true:=decide_eq_true c8
                clear c8
                have H':=Aside0.mk H
                clear H
                have p4:0 ≤ (x3_1:Int):=of_decide_eq_true (by first | (with_reducible assumption) | assumption)
                have q4:x3_1 < (a0.size:Int):=of_decide_eq_true (by first | (with_reducible assumption) | assumption)
                have hx4:=bt_at a0 x3_1
                replace p4:=eq_true p4
                replace q4:=eq_true q4
                go_wp2
                go_roundg k1
                case measure => have:=HK1.out;omega
                case rel => exact ⟨(wrap64 (x3_1 + 1)),(by first | rfl | (simp;done) | (simp [*];done)),H',⟨by have:=HK1.out;omega⟩,by repeat (first | exact ux.refl _ | apply ux.step)⟩
              · rw [if_neg c8] at H
                have c8b0:decide ((bt a0 x3_1) ≤ 90) = false:=decide_eq_false c8
                clear c8
                by_cases c9:((bt a0 x3_1) = 95)
                · rw [if_pos c9] at H
                  have c9b0:((bt a0 x3_1) == 95) = true:=beq_iff_eq.mpr c9
                  have c9b1:((bt a0 x3_1) != 95) = false:=bne_eq_false_iff_eq.mpr c9
                  clear c9
                  have H':=Aside0.mk H
                  clear H
                  have p4:0 ≤ (x3_1:Int):=of_decide_eq_true (by first | (with_reducible assumption) | assumption)
                  have q4:x3_1 < (a0.size:Int):=of_decide_eq_true (by first | (with_reducible assumption) | assumption)
                  have hx4:=bt_at a0 x3_1
                  replace p4:=eq_true p4
                  replace q4:=eq_true q4
                  go_wp2
                  go_roundg k1
                  case measure => have:=HK1.out;omega
                  case rel => exact ⟨(wrap64 (x3_1 + 1)),(by first | rfl | (simp;done) | (simp [*];done)),H',⟨by have:=HK1.out;omega⟩,by repeat (first | exact ux.refl _ | apply ux.step)⟩
                · rw [if_neg c9] at H
                  have c9b0:((bt a0 x3_1) == 95) = false:=beq_eq_false_iff_ne.mpr c9
                  have c9b1:((bt a0 x3_1) != 95) = true:=bne_iff_ne.mpr c9
                  by_cases c10:x3_1 = 0
                  · rw [if_pos c10] at H
                    have c10b0:(x3_1 == 0) = true:=beq_iff_eq.mpr c10
                    have c10b1:(x3_1 != 0) = false:=bne_eq_false_iff_eq.mpr c10
                    clear c10
                    obtain rfl:=Option.some.inj H
                    have p4:0 ≤ (x3_1:Int):=of_decide_eq_true (by first | (with_reducible assumption) | assumption)
                    have q4:x3_1 < (a0.size:Int):=of_decide_eq_true (by first | (with_reducible assumption) | assumption)
                    have hx4:=bt_at a0 x3_1
                    replace p4:=eq_true p4
                    replace q4:=eq_true q4
                    go_wp2
                    go_ret
                    exact ⟨by first | rfl | (simp;done) | (simp [*];done),by repeat (first | exact ux.refl _ | apply ux.step)⟩
                  · rw [if_neg c10] at H
                    have c10b0:(x3_1 == 0) = false:=beq_eq_false_iff_ne.mpr c10
                    have c10b1:(x3_1 != 0) = true:=bne_iff_ne.mpr c10
                    by_cases c11:(bt a0 x3_1) < 48
                    · rw [if_pos c11] at H
                      have c11b0:decide ((bt a0 x3_1) < 48) = true:=decide_eq_true c11
                      clear c11
                      obtain rfl:=Option.some.inj H
                      have p4:0 ≤ (x3_1:Int):=of_decide_eq_true (by first | (with_reducible assumption) | assumption)
                      have q4:x3_1 < (a0.size:Int):=of_decide_eq_true (by first | (with_reducible assumption) | assumption)
                      have hx4:=bt_at a0 x3_1
                      replace p4:=eq_true p4
                      replace q4:=eq_true q4
                      go_wp2
                      go_ret
                      exact ⟨by first | rfl | (simp;done) | (simp [*];done),by repeat (first | exact ux.refl _ | apply ux.step)⟩
                    · rw [if_neg c11] at H
                      have c11b0:decide ((bt a0 x3_1) < 48) = false:=decide_eq_false c11
                      clear c11
                      by_cases c12:(bt a0 x3_1) > 57
                      · rw [if_pos c12] at H
                        have c12b0:decide (57 < (bt a0 x3_1)) = true:=decide_eq_true c12
                        clear c12
                        obtain rfl:=Option.some.inj H
                        have p4:0 ≤ (x3_1:Int):=of_decide_eq_true (by first | (with_reducible assumption) | assumption)
                        have q4:x3_1 < (a0.size:Int):=of_decide_eq_true (by first | (with_reducible assumption) | assumption)
                        have hx4:=bt_at a0 x3_1
                        replace p4:=eq_true p4
                        replace q4:=eq_true q4
                        go_wp2
                        go_ret
                        exact ⟨by first | rfl | (simp;done) | (simp [*];done),by repeat (first | exact ux.refl _ | apply ux.step)⟩
                      · rw [if_neg c12] at H
                        have c12b0:decide (57 < (bt a0 x3_1)) = false:=decide_eq_false c12
                        clear c12
                        have H':=Aside0.mk H
                        clear H
                        have p4:0 ≤ (x3_1:Int):=of_decide_eq_true (by first | (with_reducible assumption) | assumption)
                        have q4:x3_1 < (a0.size:Int):=of_decide_eq_true (by first | (with_reducible assumption) | assumption)
                        have hx4:=bt_at a0 x3_1
                        replace p4:=eq_true p4
                        replace q4:=eq_true q4
                        go_wp2
                        go_roundg k1
                        case measure => have:=HK1.out;omega
                        case rel => exact ⟨(wrap64 (x3_1 + 1)),(by first | rfl | (simp;done) | (simp [*];done)),H',⟨by have:=HK1.out;omega⟩,by repeat (first | exact ux.refl _ | apply ux.step)⟩
            · rw [if_neg c7] at H
              have c7b0:decide (65 ≤ (bt a0 x3_1)) = false:=decide_eq_false c7
              clear c7
              by_cases c13:((bt a0 x3_1) = 95)
              · rw [if_pos c13] at H
                have c13b0:((bt a0 x3_1) == 95) = true:=beq_iff_eq.mpr c13
                have c13b1:((bt a0 x3_1) != 95) = false:=bne_eq_false_iff_eq.mpr c13
                clear c13
                have H':=Aside0.mk H
                clear H
                have p4:0 ≤ (x3_1:Int):=of_decide_eq_true (by first | (with_reducible assumption) | assumption)
                have q4:x3_1 < (a0.size:Int):=of_decide_eq_true (by first | (with_reducible assumption) | assumption)
                have hx4:=bt_at a0 x3_1
                replace p4:=eq_true p4
                replace q4:=eq_true q4
                go_wp2
                go_roundg k1
                case measure => have:=HK1.out;omega
                case rel => exact ⟨(wrap64 (x3_1 + 1)),(by first | rfl | (simp;done) | (simp [*];done)),H',⟨by have:=HK1.out;omega⟩,by repeat (first | exact ux.refl _ | apply ux.step)⟩
              · rw [if_neg c13] at H
                have c13b0:((bt a0 x3_1) == 95) = false:=beq_eq_false_iff_ne.mpr c13
                have c13b1:((bt a0 x3_1) != 95) = true:=bne_iff_ne.mpr c13
                by_cases c14:x3_1 = 0
                · rw [if_pos c14] at H
                  have c14b0:(x3_1 == 0) = true:=beq_iff_eq.mpr c14
                  have c14b1:(x3_1 != 0) = false:=bne_eq_false_iff_eq.mpr c14
                  clear c14
                  obtain rfl:=Option.some.inj H
                  have p4:0 ≤ (x3_1:Int):=of_decide_eq_true (by first | (with_reducible assumption) | assumption)
                  have q4:x3_1 < (a0.size:Int):=of_decide_eq_true (by first | (with_reducible assumption) | assumption)
                  have hx4:=bt_at a0 x3_1
                  replace p4:=eq_true p4
                  replace q4:=eq_true q4
                  go_wp2
                  go_ret
                  exact ⟨by first | rfl | (simp;done) | (simp [*];done),by repeat (first | exact ux.refl _ | apply ux.step)⟩
                · rw [if_neg c14] at H
                  have c14b0:(x3_1 == 0) = false:=beq_eq_false_iff_ne.mpr c14
                  have c14b1:(x3_1 != 0) = true:=bne_iff_ne.mpr c14
                  by_cases c15:(bt a0 x3_1) < 48
                  · rw [if_pos c15] at H
                    have c15b0:decide ((bt a0 x3_1) < 48) = true:=decide_eq_true c15
                    clear c15
                    obtain rfl:=Option.some.inj H
                    have p4:0 ≤ (x3_1:Int):=of_decide_eq_true (by first | (with_reducible assumption) | assumption)
                    have q4:x3_1 < (a0.size:Int):=of_decide_eq_true (by first | (with_reducible assumption) | assumption)
                    have hx4:=bt_at a0 x3_1
                    replace p4:=eq_true p4
                    replace q4:=eq_true q4
                    go_wp2
                    go_ret
                    exact ⟨by first | rfl | (simp;done) | (simp [*];done),by repeat (first | exact ux.refl _ | apply ux.step)⟩
                  · rw [if_neg c15] at H
                    have c15b0:decide ((bt a0 x3_1) < 48) = false:=decide_eq_false c15
                    clear c15
                    by_cases c16:(bt a0 x3_1) > 57
                    · rw [if_pos c16] at H
                      have c16b0:decide (57 < (bt a0 x3_1)) = true:=decide_eq_true c16
                      clear c16
                      obtain rfl:=Option.some.inj H
                      have p4:0 ≤ (x3_1:Int):=of_decide_eq_true (by first | (with_reducible assumption) | assumption)
                      have q4:x3_1 < (a0.size:Int):=of_decide_eq_true (by first | (with_reducible assumption) | assumption)
                      have hx4:=bt_at a0 x3_1
                      replace p4:=eq_true p4
                      replace q4:=eq_true q4
                      go_wp2
                      go_ret
                      exact ⟨by first | rfl | (simp;done) | (simp [*];done),by repeat (first | exact ux.refl _ | apply ux.step)⟩
                    · rw [if_neg c16] at H
                      have c16b0:decide (57 < (bt a0 x3_1)) = false:=decide_eq_false c16
                      clear c16
                      have H':=Aside0.mk H
                      clear H
                      have p4:0 ≤ (x3_1:Int):=of_decide_eq_true (by first | (with_reducible assumption) | assumption)
                      have q4:x3_1 < (a0.size:Int):=of_decide_eq_true (by first | (with_reducible assumption) | assumption)
                      have hx4:=bt_at a0 x3_1
                      replace p4:=eq_true p4
                      replace q4:=eq_true q4
                      go_wp2
                      go_roundg k1
                      case measure => have:=HK1.out;omega
                      case rel => exact ⟨(wrap64 (x3_1 + 1)),(by first | rfl | (simp;done) | (simp [*];done)),H',⟨by have:=HK1.out;omega⟩,by repeat (first | exact ux.refl _ | apply ux.step)⟩
        · rw [if_neg c5] at H
          have c5b0:decide (97 ≤ (bt a0 x3_1)) = false:=decide_eq_false c5
          clear c5
          by_cases c17:(bt a0 x3_1) ≥ 65
          · rw [if_pos c17] at H
            have c17b0:decide (65 ≤ (bt a0 x3_1)) = true:=decide_eq_true c17
            clear c17
            by_cases c18:(bt a0 x3_1) ≤ 90
            · rw [if_pos c18] at H
              have c18b0:decide ((bt a0 x3_1) ≤ 90) = true:=decide_eq_true c18
              clear c18
              have H':=Aside0.mk H
              clear H
              have p4:0 ≤ (x3_1:Int):=of_decide_eq_true (by first | (with_reducible assumption) | assumption)
              have q4:x3_1 < (a0.size:Int):=of_decide_eq_true (by first | (with_reducible assumption) | assumption)
              have hx4:=bt_at a0 x3_1
              replace p4:=eq_true p4
              replace q4:=eq_true q4
              go_wp2
              go_roundg k1
              case measure => have:=HK1.out;omega
              case rel => exact ⟨(wrap64 (x3_1 + 1)),(by first | rfl | (simp;done) | (simp [*];done)),H',⟨by have:=HK1.out;omega⟩,by repeat (first | exact ux.refl _ | apply ux.step)⟩
            · rw [if_neg c18] at H
              have c18b0:decide ((bt a0 x3_1) ≤ 90) = false:=decide_eq_false c18
              clear c18
              by_cases c19:((bt a0 x3_1) = 95)
              · rw [if_pos c19] at H
                have c19b0:((bt a0 x3_1) == 95) = true:=beq_iff_eq.mpr c19
                have c19b1:((bt a0 x3_1) != 95) = false:=bne_eq_false_iff_eq.mpr c19
                clear c19
                have H':=Aside0.mk H
                clear H
                have p4:0 ≤ (x3_1:Int):=of_decide_eq_true (by first | (with_reducible assumption) | assumption)
                have q4:x3_1 < (a0.size:Int):=of_decide_eq_true (by first | (with_reducible assumption) | assumption)
                have hx4:=bt_at a0 x3_1
                replace p4:=eq_true p4
                replace q4:=eq_true q4
                go_wp2
                go_roundg k1
                case measure => have:=HK1.out;omega
                case rel => exact ⟨(wrap64 (x3_1 + 1)),(by first | rfl | (simp;done) | (simp [*];done)),H',⟨by have:=HK1.out;omega⟩,by repeat (first | exact ux.refl _ | apply ux.step)⟩
              · rw [if_neg c19] at H
                have c19b0:((bt a0 x3_1) == 95) = false:=beq_eq_false_iff_ne.mpr c19
                have c19b1:((bt a0 x3_1) != 95) = true:=bne_iff_ne.mpr c19
                by_cases c20:x3_1 = 0
                · rw [if_pos c20] at H
                  have c20b0:(x3_1 == 0) = true:=beq_iff_eq.mpr c20
                  have c20b1:(x3_1 != 0) = false:=bne_eq_false_iff_eq.mpr c20
                  clear c20
                  obtain rfl:=Option.some.inj H
                  have p4:0 ≤ (x3_1:Int):=of_decide_eq_true (by first | (with_reducible assumption) | assumption)
                  have q4:x3_1 < (a0.size:Int):=of_decide_eq_true (by first | (with_reducible assumption) | assumption)
                  have hx4:=bt_at a0 x3_1
                  replace p4:=eq_true p4
                  replace q4:=eq_true q4
                  go_wp2
                  go_ret
                  exact ⟨by first | rfl | (simp;done) | (simp [*];done),by repeat (first | exact ux.refl _ | apply ux.step)⟩
                · rw [if_neg c20] at H
                  have c20b0:(x3_1 == 0) = false:=beq_eq_false_iff_ne.mpr c20
                  have c20b1:(x3_1 != 0) = true:=bne_iff_ne.mpr c20
                  by_cases c21:(bt a0 x3_1) < 48
                  · rw [if_pos c21] at H
                    have c21b0:decide ((bt a0 x3_1) < 48) = true:=decide_eq_true c21
                    clear c21
                    obtain rfl:=Option.some.inj H
                    have p4:0 ≤ (x3_1:Int):=of_decide_eq_true (by first | (with_reducible assumption) | assumption)
                    have q4:x3_1 < (a0.size:Int):=of_decide_eq_true (by first | (with_reducible assumption) | assumption)
                    have hx4:=bt_at a0 x3_1
                    replace p4:=eq_true p4
                    replace q4:=eq_true q4
                    go_wp2
                    go_ret
                    exact ⟨by first | rfl | (simp;done) | (simp [*];done),by repeat (first | exact ux.refl _ | apply ux.step)⟩
                  · rw [if_neg c21] at H
                    have c21b0:decide ((bt a0 x3_1) < 48) = false:=decide_eq_false c21
                    clear c21
                    by_cases c22:(bt a0 x3_1) > 57
                    · rw [if_pos c22] at H
                      have c22b0:decide (57 < (bt a0 x3_1)) = true:=decide_eq_true c22
                      clear c22
                      obtain rfl:=Option.some.inj H
                      have p4:0 ≤ (x3_1:Int):=of_decide_eq_true (by first | (with_reducible assumption) | assumption)
                      have q4:x3_1 < (a0.size:Int):=of_decide_eq_true (by first | (with_reducible assumption) | assumption)
                      have hx4:=bt_at a0 x3_1
                      replace p4:=eq_true p4
                      replace q4:=eq_true q4
                      go_wp2
                      go_ret
                      exact ⟨by first | rfl | (simp;done) | (simp [*];done),by repeat (first | exact ux.refl _ | apply ux.step)⟩
                    · rw [if_neg c22] at H
                      have c22b0:decide (57 < (bt a0 x3_1)) = false:=decide_eq_false c22
                      clear c22
                      have H':=Aside0.mk H
                      clear H
                      have p4:0 ≤ (x3_1:Int):=of_decide_eq_true (by first | (with_reducible assumption) | assumption)
                      have q4:x3_1 < (a0.size:Int):=of_decide_eq_true (by first | (with_reducible assumption) | assumption)
                      have hx4:=bt_at a0 x3_1
                      replace p4:=eq_true p4
                      replace q4:=eq_true q4
                      go_wp2
                      go_roundg k1
                      case measure => have:=HK1.out;omega
                      case rel => exact ⟨(wrap64 (x3_1 + 1)),(by first | rfl | (simp;done) | (simp [*];done)),H',⟨by have:=HK1.out;omega⟩,by repeat (first | exact ux.refl _ | apply ux.step)⟩
          · rw [if_neg c17] at H
            have c17b0:decide (65 ≤ (bt a0 x3_1)) = false:=decide_eq_false c17
            clear c17
            by_cases c23:((bt a0 x3_1) = 95)
            · rw [if_pos c23] at H
              have c23b0:((bt a0 x3_1) == 95) = true:=beq_iff_eq.mpr c23
              have c23b1:((bt a0 x3_1) != 95) = false:=bne_eq_false_iff_eq.mpr c23
              clear c23
              have H':=Aside0.mk H
              clear H
              have p4:0 ≤ (x3_1:Int):=of_decide_eq_true (by first | (with_reducible assumption) | assumption)
              have q4:x3_1 < (a0.size:Int):=of_decide_eq_true (by first | (with_reducible assumption) | assumption)
              have hx4:=bt_at a0 x3_1
              replace p4:=eq_true p4
              replace q4:=eq_true q4
              go_wp2
              go_roundg k1
              case measure => have:=HK1.out;omega
              case rel => exact ⟨(wrap64 (x3_1 + 1)),(by first | rfl | (simp;done) | (simp [*];done)),H',⟨by have:=HK1.out;omega⟩,by repeat (first | exact ux.refl _ | apply ux.step)⟩
            · rw [if_neg c23] at H
              have c23b0:((bt a0 x3_1) == 95) = false:=beq_eq_false_iff_ne.mpr c23
              have c23b1:((bt a0 x3_1) != 95) = true:=bne_iff_ne.mpr c23
              by_cases c24:x3_1 = 0
              · rw [if_pos c24] at H
                have c24b0:(x3_1 == 0) = true:=beq_iff_eq.mpr c24
                have c24b1:(x3_1 != 0) = false:=bne_eq_false_iff_eq.mpr c24
                clear c24
                obtain rfl:=Option.some.inj H
                have p4:0 ≤ (x3_1:Int):=of_decide_eq_true (by first | (with_reducible assumption) | assumption)
                have q4:x3_1 < (a0.size:Int):=of_decide_eq_true (by first | (with_reducible assumption) | assumption)
                have hx4:=bt_at a0 x3_1
                replace p4:=eq_true p4
                replace q4:=eq_true q4
                go_wp2
                go_ret
                exact ⟨by first | rfl | (simp;done) | (simp [*];done),by repeat (first | exact ux.refl _ | apply ux.step)⟩
              · rw [if_neg c24] at H
                have c24b0:(x3_1 == 0) = false:=beq_eq_false_iff_ne.mpr c24
                have c24b1:(x3_1 != 0) = true:=bne_iff_ne.mpr c24
                by_cases c25:(bt a0 x3_1) < 48
                · rw [if_pos c25] at H
                  have c25b0:decide ((bt a0 x3_1) < 48) = true:=decide_eq_true c25
                  clear c25
                  obtain rfl:=Option.some.inj H
                  have p4:0 ≤ (x3_1:Int):=of_decide_eq_true (by first | (with_reducible assumption) | assumption)
                  have q4:x3_1 < (a0.size:Int):=of_decide_eq_true (by first | (with_reducible assumption) | assumption)
                  have hx4:=bt_at a0 x3_1
                  replace p4:=eq_true p4
                  replace q4:=eq_true q4
                  go_wp2
                  go_ret
                  exact ⟨by first | rfl | (simp;done) | (simp [*];done),by repeat (first | exact ux.refl _ | apply ux.step)⟩
                · rw [if_neg c25] at H
                  have c25b0:decide ((bt a0 x3_1) < 48) = false:=decide_eq_false c25
                  clear c25
                  by_cases c26:(bt a0 x3_1) > 57
                  · rw [if_pos c26] at H
                    have c26b0:decide (57 < (bt a0 x3_1)) = true:=decide_eq_true c26
                    clear c26
                    obtain rfl:=Option.some.inj H
                    have p4:0 ≤ (x3_1:Int):=of_decide_eq_true (by first | (with_reducible assumption) | assumption)
                    have q4:x3_1 < (a0.size:Int):=of_decide_eq_true (by first | (with_reducible assumption) | assumption)
                    have hx4:=bt_at a0 x3_1
                    replace p4:=eq_true p4
                    replace q4:=eq_true q4
                    go_wp2
                    go_ret
                    exact ⟨by first | rfl | (simp;done) | (simp [*];done),by repeat (first | exact ux.refl _ | apply ux.step)⟩
                  · rw [if_neg c26] at H
                    have c26b0:decide (57 < (bt a0 x3_1)) = false:=decide_eq_false c26
                    clear c26
                    have H':=Aside0.mk H
                    clear H
                    have p4:0 ≤ (x3_1:Int):=of_decide_eq_true (by first | (with_reducible assumption) | assumption)
                    have q4:x3_1 < (a0.size:Int):=of_decide_eq_true (by first | (with_reducible assumption) | assumption)
                    have hx4:=bt_at a0 x3_1
                    replace p4:=eq_true p4
                    replace q4:=eq_true q4
                    go_wp2
                    go_roundg k1
                    case measure => have:=HK1.out;omega
                    case rel => exact ⟨(wrap64 (x3_1 + 1)),(by first | rfl | (simp;done) | (simp [*];done)),H',⟨by have:=HK1.out;omega⟩,by repeat (first | exact ux.refl _ | apply ux.step)⟩
      · rw [if_neg c3] at H
        exact absurd H (by simp)
    · rw [if_neg c2] at H
      have c2b0:decide (x3_1 < (a0.size:Int)) = false:=decide_eq_false c2
      clear c2
      by_cases c27:(a0.size:Int) ≥ 1
      · rw [if_pos c27] at H
        have c27b0:decide (1 ≤ (a0.size:Int)) = true:=decide_eq_true c27
        have c27b1:decide (1 ≤ a0.size) = true:=decide_eq_true (by omega)
        clear c27
        obtain rfl:=Option.some.inj H
        go_wp2
        go_ret
        exact ⟨by first | rfl | (simp;done) | (simp [*];done),by repeat (first | exact ux.refl _ | apply ux.step)⟩
      · rw [if_neg c27] at H
        have c27b0:decide (1 ≤ (a0.size:Int)) = false:=decide_eq_false c27
        have c27b1:decide (1 ≤ a0.size) = false:=decide_eq_false (by omega)
        clear c27
        obtain rfl:=Option.some.inj H
        go_wp2
        go_ret
        exact ⟨by first | rfl | (simp;done) | (simp [*];done),by repeat (first | exact ux.refl _ | apply ux.step)⟩
def u2p.l0:Nat → ByteArray → Int → Option (ByteArray × ByteArray)
 | 0,_,_ => none
 | k + 1,x0,x4 => if x4 < (x0.size:Int) then (if 0 ≤ x4 then (if x4 ≤ (wrap64 (x4 + 1)) then (if (wrap64 (x4 + 1)) ≤ (x0.size:Int) then (if 1 + (x0.extract (x4:Int).toNat ((wrap64 (x4 + 1)):Int).toNat).size ≤ 9223372036854775807 then ((u1a.f k ((⟨#[97]⟩:ByteArray) ++ (x0.extract (x4:Int).toNat ((wrap64 (x4 + 1)):Int).toNat))).bind fun t109 => (if t109 = true then (u2p.l0 k x0 (wrap64 (x4 + 1))) else (if x4 ≤ (x0.size:Int) then (some (x0.extract 0 (x4:Int).toNat,x0.extract (x4:Int).toNat x0.size)) else (none)))) else (none)) else (none)) else (none)) else (none)) else (if 0 ≤ x4 then (if x4 ≤ (x0.size:Int) then (some (x0.extract 0 (x4:Int).toNat,x0.extract (x4:Int).toNat x0.size)) else (none)) else (none))
def u2p.f (k:Nat) (a0:ByteArray):Option (ByteArray × ByteArray):=u2p.l0 k a0 0
end Go.Proofs.YtmcpeifhapekoaaDoor.PAll
