/-
 A region that draws its order, by one invariant of what is done, of the values and of the world (XSlots has a fact for each value, and wants each block kept): so an append into a row of one's own may be one of the operations. Written by gen_slots_r.py.
-/
import Derived.Test.YtchinankclckjaaGreatDoorChartZ
namespace Go.Proofs.YtchinankclckjaaGreatDoor
open Go.RowKit
def updB (dn:Nat→Bool) (i:Nat):Nat→Bool:=fun k=>if k=i then true else dn k
section
variable {P:Program} {ops:Array Oper} {Q:Exit→Act→World→Prop}
def SlotStepR (P:Program) (ops:Array Oper) (Q:Exit→Act→World→Prop) (hd:List Nat) (a:Act) (I:(Nat→Bool)→(Nat→Value)→World→Prop) (i:Nat) (o:Oper):Prop :=
 ∀ (dn:Nat→Bool) (vs:Nat→Value) (w:World),dn i=false→(∀ j k,dn j=true→(depsAt ops j).contains k=true→dn k=true)→(∀ k,(depsOf o).contains k=true→dn k=true)→I dn vs w→∀ K:Act→World→Prop,
   Shut (∀ v a' w',a'=(frameOf a ops hd vs).put o.dst v→I (updB dn i) (updV vs i v) w'→K a' w') →
   if Region.wanted o (yielded ops (frameOf a ops hd vs).tmps)=true then Oper.wp P o (frameOf a ops hd vs) w K Q else K ((frameOf a ops hd vs).put o.dst undef) w
def PutStepR (P:Program) (ops:Array Oper) (Q:Exit→Act→World→Prop) (ps:List (Nat × Option Tmp)) (a:Act) (I:(Nat→Bool)→(Nat→Value)→World→Prop) (i:Nat) (d:Option Tmp) (o:Oper):Prop :=
 ∀ (dn:Nat→Bool) (vs:Nat→Value) (w:World),dn i=false→(∀ j k,dn j=true→(depsAt ops j).contains k=true→dn k=true)→(∀ k,(depsOf o).contains k=true→dn k=true)→I dn vs w→∀ K:Act→World→Prop,
   Shut (∀ v a' w',a'=(putsOf a ps vs).put d v→I (updB dn i) (updV vs i v) w'→K a' w') →
   if Region.wanted o (yielded ops (putsOf a ps vs).tmps)=true then Oper.wp P o (putsOf a ps vs) w K Q else K ((putsOf a ps vs).put o.dst undef) w
def PutStepsR (P:Program) (ops:Array Oper) (Q:Exit→Act→World→Prop) (ps:List (Nat × Option Tmp)) (a:Act) (I:(Nat→Bool)→(Nat→Value)→World→Prop) (l:List (Nat × Option Tmp)):Prop:=∀ p ∈ l,∀ o,ops[p.1]?=some o→PutStepR P ops Q ps a I p.1 p.2 o
theorem PutStepsR.nil {ps:List (Nat × Option Tmp)} {a:Act} {I:(Nat→Bool)→(Nat→Value)→World→Prop}:PutStepsR P ops Q ps a I []:=fun _ h=>by cases h
theorem PutStepsR.at {ps:List (Nat × Option Tmp)} {a:Act} {I:(Nat→Bool)→(Nat→Value)→World→Prop} {i:Nat} {d:Option Tmp} {o:Oper} {l:List (Nat × Option Tmp)} (ho:nthO ops.toList i=some o) (h:PutStepR P ops Q ps a I i d o) (hs:PutStepsR P ops Q ps a I l):PutStepsR P ops Q ps a I ((i,d) :: l):=fun p hp o' ho'=>by
 rcases List.mem_cons.1 hp with rfl | hp
 ·have h1:ops[i]?=some o:=by rw [← Array.getElem?_toList,← nthO_eq];exact ho
  rw [h1] at ho'
  cases ho'
  exact h
 ·exact hs p hp o' ho'
theorem slots_anyR {hd:List Nat} {t:Nat} {tl:List Nat} {a0:Act} {L0:Array Bool} (hB:slotsB ops L0 hd t tl=true) (I:(Nat→Bool)→(Nat→Value)→World→Prop)
 (step:∀ i o,ops[i]?=some o→hd.contains i=true→SlotStepR P ops Q hd a0 I i o) (last:∀ dn vs w,(∀ k,hd.contains k=true→dn k=true)→I dn vs w→wpList P ops Q ((t :: tl).filterMap fun k=>ops[k]?) (frameOf a0 ops hd vs) w) :
 ∀ (f:Nat) (L:Array Bool) (vs:Nat→Value) (w:World),countF L≤f→L.size=ops.size→(∀ k,L0.getD k true=true→L.getD k true=true)→(∀ j k,L.getD j false=true→(depsAt ops j).contains k=true→L.getD k false=true)→(∀ u,(t :: tl).contains u=true→u<ops.size→L.getD u true=false)→I (fun k=>L.getD k false) vs w→wpAny P .any ops Q f L (frameOf a0 ops hd vs) w:=by
 unfold slotsB at hB
 simp only [Bool.and_eq_true] at hB
 obtain ⟨⟨⟨⟨⟨⟨⟨⟨⟨-,hpart⟩,hin⟩,hord⟩,-⟩,hcov⟩,hch⟩,htB⟩,hcnt⟩,hdB⟩:=hB
 have hcnt:countF (tailL ops (t :: tl))=(t :: tl).length:=of_decide_eq_true hcnt
 have hcase:∀ k,k<ops.size→L0.getD k true=false→hd.contains k = !(t :: tl).contains k:=fun k hk h0=>by
  have:=List.all_eq_true.1 hpart k (List.mem_range.2 hk)
  rw [h0,if_neg (by decide)] at this
  cases h1:hd.contains k <;> cases h2:(t :: tl).contains k <;> rw [h1,h2] at this <;> first | rfl | cases this
 have hlt:∀ k,hd.contains k=true→k<ops.size:=fun k hk=>of_decide_eq_true (List.all_eq_true.1 hin k (List.contains_iff_mem.1 hk))
 have htail:∀ (f:Nat) (L:Array Bool) (vs:Nat→Value) (w:World),countF L≤f→L.size=ops.size→(∀ k,L0.getD k true=true→L.getD k true=true)→(∀ u,(t :: tl).contains u=true→u<ops.size→L.getD u true=false)→(∀ k,hd.contains k=true→L.getD k true=true)→I (fun k=>L.getD k false) vs w→wpAny P .any ops Q f L (frameOf a0 ops hd vs) w:=by
  intro f L vs w hf hs hmo hun hall hv
  have hL:L=tailL ops (t :: tl):=tailL_eq hs fun k hk=>by
   cases h2:(t :: tl).contains k with
   | true=>exact hun k h2 hk
   | false =>
     cases h0:L0.getD k true with
     | true=>exact hmo k h0
     | false =>
       have hc:=hcase k hk h0
       rw [h2] at hc
       exact hall k hc
  rw [hL] at hf ⊢
  refine wpAny_tail _ f _ _ (by omega) htB (last _ vs w (fun k hk=>?_) hv)
  have h1:=hall k hk
  have hks:k<L.size:=by rw [hs];exact hlt k hk
  rw [Array.getD_eq_getD_getElem?,Array.getElem?_eq_getElem hks] at h1 ⊢
  exact h1
 have hwait:∀ (L:Array Bool),L.size=ops.size→(∀ j k,L.getD j false=true→(depsAt ops j).contains k=true→L.getD k false=true)→(∀ u,(t :: tl).contains u=true→u<ops.size→L.getD u true=false)→∀ (d i:Nat),ops.size - i=d→hd.contains i=true→L.getD i true=false→∀ u,(t :: tl).contains u=true→u ∉ Region.ready .any ops L:=by
  intro L hs hcl hun d
  induction d using Nat.strongRecOn with
  | _ d ih =>
    intro i hd1 hi hiun u hu hr
    obtain ⟨g1,g2,g3⟩:=ready_deps hr
    by_cases hut:u=t
    ·subst hut
     obtain ⟨j,hj,hj2⟩:=List.any_eq_true.1 (List.all_eq_true.1 hcov i (List.contains_iff_mem.1 hi))
     rw [Bool.and_eq_true,decide_eq_true_eq] at hj2
     rcases List.mem_cons.1 hj with rfl | hj
     ·have:=g3 i hj2.2
      rw [getD_both hiun] at this
      cases this
     ·have hjl:=hlt j (List.contains_iff_mem.2 hj)
      cases hl:L.getD j false with
      | true =>
        have:=hcl j i hl hj2.2
        rw [getD_both hiun] at this
        cases this
      | false=>exact ih (ops.size - j) (by omega) j rfl (List.contains_iff_mem.2 hj) (getD_in (by omega) hl) u hu hr
    ·have hutl:u ∈ tl:=(List.mem_cons.1 (List.contains_iff_mem.1 hu)).resolve_left hut
     obtain ⟨k,hk,hk2⟩:=List.any_eq_true.1 (List.all_eq_true.1 hch u hutl)
     have h1:=g3 k (List.contains_iff_mem.2 hk)
     have hkl:k<ops.size:=by
      rcases Nat.lt_or_ge k L.size with h | h
      ·omega
      ·rw [Array.getD_eq_getD_getElem?,Array.getElem?_eq_none h] at h1
       cases h1
     rw [getD_both (hun k hk2 hkl)] at h1
     cases h1
 intro f
 induction f with
 | zero =>
   intro L vs w hf hs hmo hcl hun hv
   by_cases hall:∀ k,hd.contains k=true→L.getD k true=true
   ·exact htail 0 L vs w hf hs hmo hun hall hv
   ·exfalso
    apply hall
    intro k hk
    cases h:L.getD k true with
    | true=>rfl
    | false=>have:=countF_set h;omega
 | succ f ih =>
   intro L vs w hf hs hmo hcl hun hv
   by_cases hall:∀ k,hd.contains k=true→L.getD k true=true
   ·exact htail (f+1) L vs w hf hs hmo hun hall hv
   ·obtain ⟨q,hq⟩:∃ q,hd.contains q=true∧L.getD q true=false:=by
     apply Classical.byContradiction
     intro hno
     apply hall
     intro k hk
     cases h:L.getD k true with
     | true=>rfl
     | false=>exact absurd ⟨k,hk,h⟩ hno
    refine ⟨fun h0=>absurd h0 (ready_some hs hord q (hlt q hq.1) hq.2),fun i hi=>?_⟩
    obtain ⟨g1,g2,g3⟩:=ready_deps hi
    have hi0:L0.getD i true=false:=by
     cases h0:L0.getD i true with
     | false=>rfl
     | true=>rw [hmo i h0] at g1;cases g1
    have hih:hd.contains i=true:=by
     cases h2:(t :: tl).contains i with
     | true=>exact absurd hi (hwait L hs hcl hun _ q rfl hq.1 hq.2 i h2)
     | false=>rw [hcase i g2 hi0,h2];rfl
    have hoi:ops[i]?=some ops[i]:=Array.getElem?_eq_getElem g2
    have hcl1:=countF_set g1
    have hdep:depsAt ops i=depsOf ops[i]:=by unfold depsAt;rw [hoi]
    have hput:∀ v,(frameOf a0 ops hd vs).put ops[i].dst v=frameOf a0 ops hd (updV vs i v):=fun v=>by
     have:dstOf ops i=ops[i].dst:=by unfold dstOf;rw [hoi];rfl
     rw [← this]
     exact frameOf_put vs v hd a0 hdB (List.contains_iff_mem.1 hih)
    refine wpOp_step hoi fun K' hK=>?_
    refine step i _ hoi hih (fun k=>L.getD k false) vs w (getD_both g1) hcl (fun k hk=>g3 k (by rw [hdep];exact hk)) hv K' fun v a' w' ha' hb=>hK _ _ ?_
    rw [ha',hput]
    have hdn:(fun k=>(L.setIfInBounds i true).getD k false)=updB (fun k=>L.getD k false) i:=funext fun k=>by
     unfold updB
     by_cases e:k=i
     ·subst e
      rw [if_pos rfl]
      cases h:(L.setIfInBounds k true).getD k false with
      | true=>rfl
      | false =>
        have h1:=getD_in (by rw [Array.size_setIfInBounds];omega) h
        rw [getD_set_here] at h1
        cases h1
     ·rw [if_neg e,getD_set_ne false (fun e2=>e e2.symm)]
    refine ih _ _ _ (by omega) (by rw [Array.size_setIfInBounds];exact hs) (fun k hk=>?_) (fun j k hj hk=>?_) (fun u hu hul=>?_) (by rw [hdn];exact hb)
    ·by_cases e:i=k
     ·subst e;exact getD_set_here _ _
     ·rw [getD_set_ne true e];exact hmo k hk
    ·by_cases e:i=j
     ·subst e
      exact getD_set_true (g3 k hk)
     ·rw [getD_set_ne false e] at hj
      exact getD_set_true (hcl j k hj hk)
    ·have hne:i≠u:=fun e=>by
      subst e
      have:=hcase i g2 hi0
      rw [hih,hu] at this
      cases this
     rw [getD_set_ne true hne]
     exact hun u hu hul
theorem wpAny_slotsR {f:Nat} {L:Array Bool} {a:Act} {w:World} (hd:List Nat) (t:Nat) (tl:List Nat) (hB:slotsB ops L hd t tl=true) (hf:countF L≤f) (I:(Nat→Bool)→(Nat→Value)→World→Prop) (h0:∀ vs,I (fun k=>L.getD k false) vs w)
 (step:∀ i o,ops[i]?=some o→hd.contains i=true→SlotStepR P ops Q hd a I i o) (last:∀ dn vs w,(∀ k,hd.contains k=true→dn k=true)→I dn vs w→wpList P ops Q ((t :: tl).filterMap fun k=>ops[k]?) (frameOf a ops hd vs) w):wpAny P .any ops Q f L a w:=by
 have hB':=hB
 unfold slotsB at hB'
 simp only [Bool.and_eq_true,decide_eq_true_eq] at hB'
 obtain ⟨⟨⟨⟨⟨⟨⟨⟨⟨hs,hpart⟩,hin⟩,-⟩,hcl⟩,-⟩,-⟩,-⟩,-⟩,hdB⟩:=hB'
 have hnot:∀ k,k<ops.size→L.getD k true=true→hd.contains k=false∧(t :: tl).contains k=false:=fun k hk h1=>by
  have:=List.all_eq_true.1 hpart k (List.mem_range.2 hk)
  rw [if_pos h1,Bool.and_eq_true] at this
  exact ⟨by simpa using this.1,by simpa using this.2⟩
 obtain ⟨vs,hvs⟩:=frameOf_start a ops hd hdB
 have:=slots_anyR hB I step last f L vs w hf hs (fun k hk=>hk) (fun j k hj hk=>?_) (fun u hu hul=>?_) (h0 vs)
 ·rw [hvs] at this
  exact this
 ·have hjl:j<ops.size:=by
   rcases Nat.lt_or_ge j L.size with h | h
   ·omega
   ·rw [Array.getD_eq_getD_getElem?,Array.getElem?_eq_none h] at hj
    cases hj
  have h1:=List.all_eq_true.1 hcl j (List.mem_range.2 hjl)
  rw [hj] at h1
  have h2:(depsAt ops j).all (fun k=>L.getD k false)=true:=by simpa using h1
  exact List.all_eq_true.1 h2 k (List.contains_iff_mem.1 hk)
 ·cases h1:L.getD u true with
  | false=>rfl
  | true =>
    have:=(hnot u hul h1).2
    rw [hu] at this
    cases this
theorem wpAny_putsR {f:Nat} {L:Array Bool} {a:Act} {w:World} (ps:List (Nat × Option Tmp)) (t:Nat) (tl:List Nat) (hB:slotsB ops L (ps.map Prod.fst) t tl=true) (hP:(ps.all fun p=>decide (dstOf ops p.1=p.2))=true) (hf:countF L≤f) (I:(Nat→Bool)→(Nat→Value)→World→Prop) (h0:∀ vs,I (fun k=>L.getD k false) vs w)
 (step:PutStepsR P ops Q ps a I ps) (last:∀ dn vs w,(∀ k,ps.any (fun p=>p.1 == k)=true→dn k=true)→I dn vs w→wpList P ops Q ((t :: tl).filterMap fun k=>nthO ops.toList k) (putsOf a ps vs) w):wpAny P .any ops Q f L a w:=by
 have hc:∀ k,(ps.map Prod.fst).contains k=ps.any (fun p=>p.1 == k):=fun k=>by
  rw [List.contains_eq_any_beq,List.any_map]
  congr 1
  funext p
  exact Bool.beq_comm
 refine wpAny_slotsR (ps.map Prod.fst) t tl hB hf I h0 (fun i o ho hi dn vs w hdn hcl hdep hI K hK=>?_) (fun dn vs w hdep hI=>?_)
 ·obtain ⟨p,hp,rfl⟩:=List.mem_map.1 (List.contains_iff_mem.1 hi)
  have hd:dstOf ops p.1=p.2:=of_decide_eq_true (List.all_eq_true.1 hP p hp)
  have hod:o.dst=p.2:=by rw [← hd];unfold dstOf;rw [ho];rfl
  have:=step p hp o ho dn vs w hdn hcl hdep hI K
  rw [frame_puts vs ps a hP] at hK ⊢
  rw [hod] at hK ⊢
  rw [hod] at this
  exact this hK
 ·rw [frame_puts vs ps a hP]
  have:=last dn vs w (fun k hk=>hdep k (by rw [hc];exact hk)) hI
  have e:(fun k=>nthO ops.toList k)=fun k=>ops[k]?:=funext fun k=>by rw [nthO_eq,Array.getElem?_toList]
  rw [e] at this
  exact this
end
end Go.Proofs.YtchinankclckjaaGreatDoor
