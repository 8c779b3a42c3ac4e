/-
  A region that draws its order, by what each operation's value is: each operation is walked once, whatever has come up besides; the last ones, in a forced order, as a plain region.
  chart.valueOf: the object of a mapping.
-/
import Derived.StillTail
import Derived.RegionTactic
import Derived.Deep.RegionHeld
import Derived.Test.YtchinankclckjaaGreatDoorValA
import Derived.Test.YtchinankclckjaaGreatDoorChartQ
namespace Go.Proofs.YtchinankclckjaaGreatDoor
set_option maxHeartbeats 16000000
section
open Go.RowKit
theorem pqA {α β:Type _} {f:β→α→β} {a:α} {l:List α} {b:β}:(a :: l).foldl f b=l.foldl f (f b a):=rfl
theorem pqB {α β:Type _} {f:β→α→β} {b:β}:([]:List α).foldl f b=b:=rfl
theorem pqC {α:Type _} {l:List α} {i:Nat} {a:α}:l.toArray.setIfInBounds i a=(l.set i a).toArray:=List.setIfInBounds_toArray ..
theorem pqD {α:Type _} {a b:α} {l:List α}:(a :: l).set 0 b=b :: l:=rfl
theorem pqE {α:Type _} {a b:α} {l:List α} {n:Nat}:(a :: l).set (n+1) b=a :: l.set n b:=rfl
def frameOf (a:Act) (ops:Array Oper) (hd:List Nat) (vs:Nat→Value):Act:=hd.foldl (fun b k=>b.put ((ops[k]?).bind (·.dst)) (vs k)) a
def updV (vs:Nat→Value) (i:Nat) (v:Value):Nat→Value:=fun k=>if k=i then v else vs k
def dstOf (ops:Array Oper) (k:Nat):Option Tmp:=(ops[k]?).bind (·.dst)
theorem frameOf_cons (a:Act) (ops:Array Oper) (k:Nat) (hd:List Nat) (vs:Nat→Value):frameOf a ops (k :: hd) vs=frameOf (a.put (dstOf ops k) (vs k)) ops hd vs:=rfl
theorem frameOf_upd (ops:Array Oper) (vs:Nat→Value) (i:Nat) (v:Value):∀ (hd:List Nat) (a:Act),i ∉ hd→frameOf a ops hd (updV vs i v)=frameOf a ops hd vs
 | [],_,_=>rfl
 | k :: hd,a,h=>by
   have h1:k≠i:=fun e=>h (by rw [e];exact List.mem_cons_self)
   have h2:updV vs i v k=vs k:=if_neg h1
   rw [frameOf_cons,frameOf_cons,h2,frameOf_upd ops vs i v hd _ (fun hm=>h (List.mem_cons_of_mem _ hm))]
theorem put_put (a:Act) (d:Option Tmp) (x y:Value):(a.put d x).put d y=a.put d y:=by
 cases d with
 | none=>rfl
 | some d=>simp [Act.put]
def dstsB (ops:Array Oper):List Nat→Bool
 | []=>true
 | k :: hd=>(hd.all fun j=>decide (k≠j) && (decide (dstOf ops k=none) || decide (dstOf ops k≠dstOf ops j))) && dstsB ops hd
theorem frameOf_far (ops:Array Oper) (vs:Nat→Value) (d:Option Tmp) (v:Value):∀ (hd:List Nat) (a:Act),(∀ j ∈ hd,d=none∨d≠dstOf ops j)→(frameOf a ops hd vs).put d v=frameOf (a.put d v) ops hd vs
 | [],_,_=>rfl
 | k :: hd,a,h=>by
   rw [frameOf_cons,frameOf_cons,frameOf_far ops vs d v hd _ (fun j hj=>h j (List.mem_cons_of_mem _ hj))]
   have hk:=h k List.mem_cons_self
   have:(a.put (dstOf ops k) (vs k)).put d v=(a.put d v).put (dstOf ops k) (vs k):=by
    refine Act.put_comm _ _ _ fun x hx hy=>?_
    rcases hk with h1 | h1
    ·rw [h1] at hy;cases hy
    ·exact h1 (hy.trans hx.symm)
   rw [this]
theorem frameOf_put {ops:Array Oper} (vs:Nat→Value) {i:Nat} (v:Value):∀ (hd:List Nat) (a:Act),dstsB ops hd=true→i ∈ hd→(frameOf a ops hd vs).put (dstOf ops i) v=frameOf a ops hd (updV vs i v)
 | [],_,_,h=>by cases h
 | k :: hd,a,hB,h=>by
   rw [dstsB,Bool.and_eq_true,List.all_eq_true] at hB
   rw [frameOf_cons,frameOf_cons]
   by_cases e:i=k
   ·subst e
    have hn:i ∉ hd:=fun hm=>by
     have:=hB.1 i hm
     simp at this
    have h1:updV vs i v i=v:=if_pos rfl
    rw [h1,frameOf_upd _ _ _ _ _ _ hn,frameOf_far,put_put]
    intro j hj
    have:=hB.1 j hj
    simp only [Bool.and_eq_true,Bool.or_eq_true,decide_eq_true_eq] at this
    exact this.2
   ·have h1:updV vs i v k=vs k:=if_neg (fun e2=>e e2.symm)
    rw [h1]
    exact frameOf_put vs v hd _ hB.2 ((List.mem_cons.1 h).resolve_left e)
theorem put_same (a:Act) (d:Option Tmp):∃ v,a.put d v=a:=by
 cases d with
 | none=>exact ⟨undef,rfl⟩
 | some d =>
   by_cases h:d<a.tmps.size
   ·refine ⟨a.tmps[d],?_⟩
    unfold Act.put
    simp only
    congr 1
    apply Array.ext
    ·simp
    ·intro k h1 h2
     rw [Array.getElem_setIfInBounds (by simpa using h1)]
     split
     ·next e=>subst e;rfl
     ·rfl
   ·refine ⟨undef,?_⟩
    unfold Act.put
    simp only
    rw [Array.setIfInBounds_eq_of_size_le (Nat.le_of_not_lt h)]
theorem frameOf_start (a:Act) (ops:Array Oper):∀ hd:List Nat,dstsB ops hd=true→∃ vs,frameOf a ops hd vs=a
 | [],_=>⟨fun _=>undef,rfl⟩
 | k :: hd,hB=>by
   rw [dstsB,Bool.and_eq_true,List.all_eq_true] at hB
   obtain ⟨vs,h⟩:=frameOf_start a ops hd hB.2
   obtain ⟨v,hv⟩:=put_same a (dstOf ops k)
   have hn:k ∉ hd:=fun hm=>by
    have:=hB.1 k hm
    simp at this
   refine ⟨updV vs k v,?_⟩
   have h1:updV vs k v k=v:=if_pos rfl
   rw [frameOf_cons,h1,hv,frameOf_upd _ _ _ _ _ _ hn,h]
def depsOf (o:Oper):List Nat:=(o.after.toList.filter fun e=>Region.binds .any e).map (·.on)
def depsAt (ops:Array Oper) (k:Nat):List Nat:=match ops[k]? with
 | some o=>depsOf o
 | none=>[]
def countF (L:Array Bool):Nat:=(List.range L.size).countP fun k => !L.getD k true
def tailL (ops:Array Oper) (tl:List Nat):Array Bool:=((List.range ops.size).map fun k => !tl.contains k).toArray
def tailB (ops:Array Oper):List Nat→Bool
 | []=>(Region.ready .any ops (tailL ops [])).isEmpty
 | t :: r=>decide (Region.ready .any ops (tailL ops (t :: r))=[t]) && decide ((tailL ops (t :: r)).setIfInBounds t true=tailL ops r) && tailB ops r
def slotsB (ops:Array Oper) (L0:Array Bool) (hd:List Nat) (t:Nat) (tl:List Nat):Bool :=
 decide (L0.size=ops.size) && ((List.range ops.size).all fun k=>if L0.getD k true=true then !hd.contains k && !(t :: tl).contains k else hd.contains k != (t :: tl).contains k) && (hd.all fun k=>decide (k<ops.size)) &&
 ((List.range ops.size).all fun j=>(depsAt ops j).all fun k=>decide (k<j)) && ((List.range ops.size).all fun j => !L0.getD j false || (depsAt ops j).all fun k=>L0.getD k false) &&
 (hd.all fun i=>(t :: hd).any fun j=>decide (i<j) && (depsAt ops j).contains i) && (tl.all fun u=>(depsAt ops u).any fun k=>(t :: tl).contains k) && tailB ops (t :: tl) && decide (countF (tailL ops (t :: tl))=(t :: tl).length) && dstsB ops hd
section
variable {P:Program} {ops:Array Oper} {Q:Exit→Act→World→Prop}
def SlotStep (P:Program) (ops:Array Oper) (Q:Exit→Act→World→Prop) (hd:List Nat) (a:Act) (G:World→Prop) (D:Nat→Value→World→Prop) (i:Nat) (o:Oper):Prop :=
 ∀ (vs:Nat→Value) (w:World),G w→(∀ k,hd.contains k=true→(depsOf o).contains k=true→D k (vs k) w)→∀ K:Act→World→Prop,
   Shut (∀ v a' w',a'=(frameOf a ops hd vs).put o.dst v→G w'→Below w.heap.size w w'→D i v w'→K a' w') →
   if Region.wanted o (yielded ops (frameOf a ops hd vs).tmps)=true then Oper.wp P o (frameOf a ops hd vs) w K Q else K ((frameOf a ops hd vs).put o.dst undef) w
theorem getD_set_here (L:Array Bool) (i:Nat):(L.setIfInBounds i true).getD i true=true:=by
 rw [Array.getD_eq_getD_getElem?,Array.getElem?_setIfInBounds]
 split
 ·split <;> rfl
 ·rename_i h;exact absurd rfl h
theorem countF_set {L:Array Bool} {i:Nat} (h:L.getD i true=false):countF (L.setIfInBounds i true)<countF L:=by
 have hi:i<L.size:=by
  rcases Nat.lt_or_ge i L.size with h' | h'
  ·exact h'
  ·rw [Array.getD_eq_getD_getElem?,Array.getElem?_eq_none h'] at h
   cases h
 unfold countF
 rw [Array.size_setIfInBounds]
 obtain ⟨f,hf⟩:∃ f:Nat→Bool,f=fun k => !L.getD k true:=⟨_,rfl⟩
 obtain ⟨g,hg⟩:∃ g:Nat→Bool,g=fun k => !(L.setIfInBounds i true).getD k true:=⟨_,rfl⟩
 rw [← hf,← hg]
 have hmono:∀ l:List Nat,l.countP g≤l.countP f:=fun l=>List.countP_mono_left fun k _ hk=>by
  rw [hg] at hk
  rw [hf]
  simp only at hk ⊢
  by_cases e:i=k
  ·subst e
   rw [getD_set_here] at hk
   cases hk
  ·rwa [getD_set_ne true e] at hk
 obtain ⟨l1,l2,hl⟩:=List.append_of_mem (List.mem_range.2 hi)
 have h1:=hmono l1
 have h2:=hmono l2
 have h3:g i=false:=by rw [hg];simp only;rw [getD_set_here];rfl
 have h4:f i=true:=by rw [hf];simp only;rw [h];rfl
 rw [hl,List.countP_append,List.countP_append,List.countP_cons_of_pos h4,List.countP_cons_of_neg (by rw [h3];decide)]
 omega
theorem ready_deps {L:Array Bool} {i:Nat} (hi:i ∈ Region.ready .any ops L):L.getD i true=false∧i<ops.size∧∀ k,(depsAt ops i).contains k=true→L.getD k false=true:=by
 obtain ⟨hun,o,ho,hall⟩:=mem_ready.1 hi
 refine ⟨hun,(Array.getElem?_eq_some_iff.1 ho).1,fun k hk=>?_⟩
 unfold depsAt at hk
 rw [ho] at hk
 unfold depsOf at hk
 simp only [List.contains_iff_mem,List.mem_map,List.mem_filter] at hk
 obtain ⟨e,⟨he,hbn⟩,rfl⟩:=hk
 exact hall e (Array.mem_toList_iff.1 he) hbn
theorem deps_ready {L:Array Bool} {i:Nat} (hi:i<ops.size) (hun:L.getD i true=false) (h:∀ k,(depsAt ops i).contains k=true→L.getD k false=true):i ∈ Region.ready .any ops L:=by
 have hoi:ops[i]?=some ops[i]:=Array.getElem?_eq_getElem hi
 refine mem_ready.2 ⟨hun,_,hoi,fun e he hb=>h _ ?_⟩
 unfold depsAt
 rw [hoi]
 unfold depsOf
 simp only [List.contains_iff_mem]
 exact List.mem_map.2 ⟨e,List.mem_filter.2 ⟨Array.mem_toList_iff.2 he,hb⟩,rfl⟩
theorem ready_some {L:Array Bool} (hs:L.size=ops.size) (ho:((List.range ops.size).all fun j=>(depsAt ops j).all fun k=>decide (k<j))=true):∀ i,i<ops.size→L.getD i true=false→Region.ready .any ops L≠[]:=by
 intro i
 induction i using Nat.strongRecOn with
 | _ i ih =>
   intro hi hun h0
   have hm:i ∈ Region.ready .any ops L:=deps_ready hi hun fun k hk=>by
    have hki:k<i:=by
     have h1:=List.all_eq_true.1 (List.all_eq_true.1 ho i (List.mem_range.2 hi)) k (List.contains_iff_mem.1 hk)
     exact of_decide_eq_true h1
    cases hl:L.getD k false with
    | true=>rfl
    | false=>exact (ih k hki (by omega) (getD_in (by rw [hs];omega) hl) h0).elim
   rw [h0] at hm
   cases hm
theorem wpAny_tail:∀ (tl:List Nat) (f:Nat) (a:Act) (w:World),tl.length≤f→tailB ops tl=true→wpList P ops Q (tl.filterMap fun k=>ops[k]?) a w→wpAny P .any ops Q f (tailL ops tl) a w
 | [],f,a,w,_,hB,h=>by
   have h0:Region.ready .any ops (tailL ops [])=[]:=by simpa [tailB] using hB
   have hQ:Q .normal a w:=h
   cases f with
   | zero=>exact ⟨h0,hQ⟩
   | succ f=>exact ⟨fun _=>hQ,by rw [h0];simp⟩
 | t :: r,0,_,_,hf,_,_=>by simp at hf
 | t :: r,f+1,a,w,hf,hB,h=>by
   rw [tailB,Bool.and_eq_true,Bool.and_eq_true,decide_eq_true_eq,decide_eq_true_eq] at hB
   obtain ⟨⟨h1,h2⟩,h3⟩:=hB
   refine ⟨fun h0=>(by rw [h1] at h0;cases h0),fun i hi=>?_⟩
   rw [h1] at hi
   obtain rfl:i=t:=by simpa using hi
   rw [← h1] at hi
   obtain ⟨-,o,ho,-⟩:=mem_ready.1 hi
   have hw:wpOp P ops Q i (wpList P ops Q (r.filterMap fun k=>ops[k]?)) a w:=by
    unfold wpOp
    rw [List.filterMap_cons,ho] at h
    simp only [ho]
    exact h
   rw [h2]
   exact wpOp_mono (fun a' w' h'=>wpAny_tail r f a' w' (by simpa using hf) h3 h') hw
theorem tailL_eq {L:Array Bool} {tl:List Nat} (hs:L.size=ops.size) (h:∀ k,k<ops.size→L.getD k true = !tl.contains k):L=tailL ops tl:=by
 apply Array.ext
 ·simp [tailL,hs]
 ·intro k h1 h2
  have:=h k (by omega)
  rw [Array.getD_eq_getD_getElem?,Array.getElem?_eq_getElem h1] at this
  simp only [Option.getD_some] at this
  rw [this]
  simp [tailL]
theorem slots_any {hd:List Nat} {t:Nat} {tl:List Nat} {a0:Act} {L0:Array Bool} (hB:slotsB ops L0 hd t tl=true) (G:World→Prop) (D:Nat→Value→World→Prop) (hD:∀ k v w w',D k v w→Below w.heap.size w w'→D k v w')
 (step:∀ i o,ops[i]?=some o→hd.contains i=true→SlotStep P ops Q hd a0 G D i o) (last:∀ vs w,G w→(∀ k,hd.contains k=true→D k (vs k) w)→wpList P ops Q ((t :: tl).filterMap fun k=>ops[k]?) (frameOf a0 ops hd vs) w) :
 ∀ (f:Nat) (L:Array Bool) (vs:Nat→Value) (w:World),countF L≤f→L.size=ops.size→(∀ k,L0.getD k true=true→L.getD k true=true)→(∀ j k,L.getD j false=true→(depsAt ops j).contains k=true→L.getD k false=true)→(∀ u,(t :: tl).contains u=true→u<ops.size→L.getD u true=false)→G w→(∀ k,hd.contains k=true→L.getD k false=true→D k (vs k) w)→wpAny P .any ops Q f L (frameOf a0 ops hd vs) w:=by
 unfold slotsB at hB
 simp only [Bool.and_eq_true] at hB
 obtain ⟨⟨⟨⟨⟨⟨⟨⟨⟨-,hpart⟩,hin⟩,hord⟩,-⟩,hcov⟩,hch⟩,htB⟩,hcnt⟩,hdB⟩:=hB
 have hcnt:countF (tailL ops (t :: tl))=(t :: tl).length:=of_decide_eq_true hcnt
 have hcase:∀ k,k<ops.size→L0.getD k true=false→hd.contains k = !(t :: tl).contains k:=fun k hk h0=>by
  have:=List.all_eq_true.1 hpart k (List.mem_range.2 hk)
  rw [h0,if_neg (by decide)] at this
  cases h1:hd.contains k <;> cases h2:(t :: tl).contains k <;> rw [h1,h2] at this <;> first | rfl | cases this
 have hlt:∀ k,hd.contains k=true→k<ops.size:=fun k hk=>of_decide_eq_true (List.all_eq_true.1 hin k (List.contains_iff_mem.1 hk))
 have htail:∀ (f:Nat) (L:Array Bool) (vs:Nat→Value) (w:World),countF L≤f→L.size=ops.size→(∀ k,L0.getD k true=true→L.getD k true=true)→(∀ u,(t :: tl).contains u=true→u<ops.size→L.getD u true=false)→G w→(∀ k,hd.contains k=true→L.getD k true=true)→(∀ k,hd.contains k=true→L.getD k false=true→D k (vs k) w)→wpAny P .any ops Q f L (frameOf a0 ops hd vs) w:=by
  intro f L vs w hf hs hmo hun hG hall hv
  have hL:L=tailL ops (t :: tl):=tailL_eq hs fun k hk=>by
   cases h2:(t :: tl).contains k with
   | true=>exact hun k h2 hk
   | false =>
     cases h0:L0.getD k true with
     | true=>exact hmo k h0
     | false =>
       have hc:=hcase k hk h0
       rw [h2] at hc
       exact hall k hc
  rw [hL] at hf ⊢
  refine wpAny_tail _ f _ _ (by omega) htB (last vs w hG fun k hk=>hv k hk ?_)
  have h1:=hall k hk
  have hks:k<L.size:=by rw [hs];exact hlt k hk
  rw [Array.getD_eq_getD_getElem?,Array.getElem?_eq_getElem hks] at h1 ⊢
  exact h1
 have hwait:∀ (L:Array Bool),L.size=ops.size→(∀ j k,L.getD j false=true→(depsAt ops j).contains k=true→L.getD k false=true)→(∀ u,(t :: tl).contains u=true→u<ops.size→L.getD u true=false)→∀ (d i:Nat),ops.size - i=d→hd.contains i=true→L.getD i true=false→∀ u,(t :: tl).contains u=true→u ∉ Region.ready .any ops L:=by
  intro L hs hcl hun d
  induction d using Nat.strongRecOn with
  | _ d ih =>
    intro i hd1 hi hiun u hu hr
    obtain ⟨g1,g2,g3⟩:=ready_deps hr
    by_cases hut:u=t
    ·subst hut
     obtain ⟨j,hj,hj2⟩:=List.any_eq_true.1 (List.all_eq_true.1 hcov i (List.contains_iff_mem.1 hi))
     rw [Bool.and_eq_true,decide_eq_true_eq] at hj2
     rcases List.mem_cons.1 hj with rfl | hj
     ·have:=g3 i hj2.2
      rw [getD_both hiun] at this
      cases this
     ·have hjl:=hlt j (List.contains_iff_mem.2 hj)
      cases hl:L.getD j false with
      | true =>
        have:=hcl j i hl hj2.2
        rw [getD_both hiun] at this
        cases this
      | false=>exact ih (ops.size - j) (by omega) j rfl (List.contains_iff_mem.2 hj) (getD_in (by omega) hl) u hu hr
    ·have hutl:u ∈ tl:=(List.mem_cons.1 (List.contains_iff_mem.1 hu)).resolve_left hut
     obtain ⟨k,hk,hk2⟩:=List.any_eq_true.1 (List.all_eq_true.1 hch u hutl)
     have h1:=g3 k (List.contains_iff_mem.2 hk)
     have hkl:k<ops.size:=by
      rcases Nat.lt_or_ge k L.size with h | h
      ·omega
      ·rw [Array.getD_eq_getD_getElem?,Array.getElem?_eq_none h] at h1
       cases h1
     rw [getD_both (hun k hk2 hkl)] at h1
     cases h1
 intro f
 induction f with
 | zero =>
   intro L vs w hf hs hmo hcl hun hG hv
   by_cases hall:∀ k,hd.contains k=true→L.getD k true=true
   ·exact htail 0 L vs w hf hs hmo hun hG hall hv
   ·exfalso
    apply hall
    intro k hk
    cases h:L.getD k true with
    | true=>rfl
    | false=>have:=countF_set h;omega
 | succ f ih =>
   intro L vs w hf hs hmo hcl hun hG hv
   by_cases hall:∀ k,hd.contains k=true→L.getD k true=true
   ·exact htail (f+1) L vs w hf hs hmo hun hG hall hv
   ·obtain ⟨q,hq⟩:∃ q,hd.contains q=true∧L.getD q true=false:=by
     apply Classical.byContradiction
     intro hno
     apply hall
     intro k hk
     cases h:L.getD k true with
     | true=>rfl
     | false=>exact absurd ⟨k,hk,h⟩ hno
    refine ⟨fun h0=>absurd h0 (ready_some hs hord q (hlt q hq.1) hq.2),fun i hi=>?_⟩
    obtain ⟨g1,g2,g3⟩:=ready_deps hi
    have hi0:L0.getD i true=false:=by
     cases h0:L0.getD i true with
     | false=>rfl
     | true=>rw [hmo i h0] at g1;cases g1
    have hih:hd.contains i=true:=by
     cases h2:(t :: tl).contains i with
     | true=>exact absurd hi (hwait L hs hcl hun _ q rfl hq.1 hq.2 i h2)
     | false=>rw [hcase i g2 hi0,h2];rfl
    have hoi:ops[i]?=some ops[i]:=Array.getElem?_eq_getElem g2
    have hcl1:=countF_set g1
    have hdep:depsAt ops i=depsOf ops[i]:=by unfold depsAt;rw [hoi]
    have hput:∀ v,(frameOf a0 ops hd vs).put ops[i].dst v=frameOf a0 ops hd (updV vs i v):=fun v=>by
     have:dstOf ops i=ops[i].dst:=by unfold dstOf;rw [hoi];rfl
     rw [← this]
     exact frameOf_put vs v hd a0 hdB (List.contains_iff_mem.1 hih)
    refine wpOp_step hoi fun K' hK=>?_
    refine step i _ hoi hih vs w hG (fun k hk1 hk=>hv k hk1 (g3 k (by rw [hdep];exact hk))) K' fun v a' w' ha' hG' hb hDv=>hK _ _ ?_
    rw [ha',hput]
    refine ih _ _ _ (by omega) (by rw [Array.size_setIfInBounds];exact hs) (fun k hk=>?_) (fun j k hj hk=>?_) (fun u hu hul=>?_) hG' fun k hk hl=>?_
    ·by_cases e:i=k
     ·subst e;exact getD_set_here _ _
     ·rw [getD_set_ne true e];exact hmo k hk
    ·by_cases e:i=j
     ·subst e
      exact getD_set_true (g3 k hk)
     ·rw [getD_set_ne false e] at hj
      exact getD_set_true (hcl j k hj hk)
    ·have hne:i≠u:=fun e=>by
      subst e
      have:=hcase i g2 hi0
      rw [hih,hu] at this
      cases this
     rw [getD_set_ne true hne]
     exact hun u hu hul
    ·by_cases e:k=i
     ·subst e
      have:updV vs k v k=v:=if_pos rfl
      rw [this]
      exact hDv
     ·have:updV vs i v k=vs k:=if_neg e
      rw [this]
      rw [getD_set_ne false (fun e2=>e e2.symm)] at hl
      exact hD _ _ _ _ (hv k hk hl) hb
def SlotSteps (P:Program) (ops:Array Oper) (Q:Exit→Act→World→Prop) (hd:List Nat) (a:Act) (G:World→Prop) (D:Nat→Value→World→Prop) (l:List Nat):Prop:=∀ i o,ops[i]?=some o→l.contains i=true→SlotStep P ops Q hd a G D i o
def nthO:List Oper→Nat→Option Oper
 | [],_=>none
 | x :: _,0=>some x
 | _ :: l,k+1=>nthO l k
theorem nthO_eq:∀ (l:List Oper) (k:Nat),nthO l k=l[k]?
 | [],k=>by simp [nthO]
 | x :: _,0=>by simp [nthO]
 | _ :: l,k+1=>by rw [nthO,nthO_eq l k,List.getElem?_cons_succ]
theorem wpAny_slots {f:Nat} {L:Array Bool} {a:Act} {w:World} (hd:List Nat) (t:Nat) (tl:List Nat) (hB:slotsB ops L hd t tl=true) (hf:countF L≤f) (G:World→Prop) (D:Nat→Value→World→Prop) (hD:∀ k v w w',D k v w→Below w.heap.size w w'→D k v w') (h0:G w)
 (step:SlotSteps P ops Q hd a G D hd) (last:∀ vs w,G w→(∀ k,hd.contains k=true→D k (vs k) w)→wpList P ops Q ((t :: tl).filterMap fun k=>ops[k]?) (frameOf a ops hd vs) w):wpAny P .any ops Q f L a w:=by
 have hB':=hB
 unfold slotsB at hB'
 simp only [Bool.and_eq_true,decide_eq_true_eq] at hB'
 obtain ⟨⟨⟨⟨⟨⟨⟨⟨⟨hs,hpart⟩,hin⟩,-⟩,hcl⟩,-⟩,-⟩,-⟩,-⟩,hdB⟩:=hB'
 have hnot:∀ k,k<ops.size→L.getD k true=true→hd.contains k=false∧(t :: tl).contains k=false:=fun k hk h1=>by
  have:=List.all_eq_true.1 hpart k (List.mem_range.2 hk)
  rw [if_pos h1,Bool.and_eq_true] at this
  exact ⟨by simpa using this.1,by simpa using this.2⟩
 obtain ⟨vs,hvs⟩:=frameOf_start a ops hd hdB
 have:=slots_any hB G D hD step last f L vs w hf hs (fun k hk=>hk) (fun j k hj hk=>?_) (fun u hu hul=>?_) h0 (fun k hk hl=>?_)
 ·rw [hvs] at this
  exact this
 ·have hjl:j<ops.size:=by
   rcases Nat.lt_or_ge j L.size with h | h
   ·omega
   ·rw [Array.getD_eq_getD_getElem?,Array.getElem?_eq_none h] at hj
    cases hj
  have h1:=List.all_eq_true.1 hcl j (List.mem_range.2 hjl)
  rw [hj] at h1
  have h2:(depsAt ops j).all (fun k=>L.getD k false)=true:=by simpa using h1
  exact List.all_eq_true.1 h2 k (List.contains_iff_mem.1 hk)
 ·cases h1:L.getD u true with
  | false=>rfl
  | true =>
    have:=(hnot u hul h1).2
    rw [hu] at this
    cases this
 ·have hkl:k<ops.size:=of_decide_eq_true (List.all_eq_true.1 hin k (List.contains_iff_mem.1 hk))
  have h1:L.getD k true=true:=by
   rw [Array.getD_eq_getD_getElem?,Array.getElem?_eq_getElem (by omega)] at hl ⊢
   exact hl
  have:=(hnot k hkl h1).1
  rw [hk] at this
  cases this
def putsOf (a:Act) (ps:List (Nat × Option Tmp)) (vs:Nat→Value):Act:=ps.foldl (fun b p=>b.put p.2 (vs p.1)) a
theorem frame_puts {ops:Array Oper} (vs:Nat→Value):∀ (ps:List (Nat × Option Tmp)) (a:Act),(ps.all fun p=>decide (dstOf ops p.1=p.2))=true→frameOf a ops (ps.map Prod.fst) vs=putsOf a ps vs
 | [],_,_=>rfl
 | p :: ps,a,h=>by
   rw [List.all_cons,Bool.and_eq_true,decide_eq_true_eq] at h
   rw [List.map_cons,frameOf_cons,h.1,frame_puts vs ps _ h.2]
   rfl
def PutStep (P:Program) (ops:Array Oper) (Q:Exit→Act→World→Prop) (ps:List (Nat × Option Tmp)) (a:Act) (G:World→Prop) (D:Nat→Value→World→Prop) (i:Nat) (d:Option Tmp) (o:Oper):Prop :=
 ∀ (vs:Nat→Value) (w:World),G w→(∀ k,ps.any (fun p=>p.1 == k)=true→(depsOf o).contains k=true→D k (vs k) w)→∀ K:Act→World→Prop,
   Shut (∀ v a' w',a'=(putsOf a ps vs).put d v→G w'→Below w.heap.size w w'→D i v w'→K a' w') →
   if Region.wanted o (yielded ops (putsOf a ps vs).tmps)=true then Oper.wp P o (putsOf a ps vs) w K Q else K ((putsOf a ps vs).put o.dst undef) w
def PutSteps (P:Program) (ops:Array Oper) (Q:Exit→Act→World→Prop) (ps:List (Nat × Option Tmp)) (a:Act) (G:World→Prop) (D:Nat→Value→World→Prop) (l:List (Nat × Option Tmp)):Prop:=∀ p ∈ l,∀ o,ops[p.1]?=some o→PutStep P ops Q ps a G D p.1 p.2 o
theorem PutSteps.nil {ps:List (Nat × Option Tmp)} {a:Act} {G:World→Prop} {D:Nat→Value→World→Prop}:PutSteps P ops Q ps a G D []:=fun _ h=>by cases h
theorem PutSteps.at {ps:List (Nat × Option Tmp)} {a:Act} {G:World→Prop} {D:Nat→Value→World→Prop} {i:Nat} {d:Option Tmp} {o:Oper} {l:List (Nat × Option Tmp)} (ho:nthO ops.toList i=some o) (h:PutStep P ops Q ps a G D i d o) (hs:PutSteps P ops Q ps a G D l):PutSteps P ops Q ps a G D ((i,d) :: l):=fun p hp o' ho'=>by
 rcases List.mem_cons.1 hp with rfl | hp
 ·have h1:ops[i]?=some o:=by rw [← Array.getElem?_toList,← nthO_eq];exact ho
  rw [h1] at ho'
  cases ho'
  exact h
 ·exact hs p hp o' ho'
theorem wpAny_puts {f:Nat} {L:Array Bool} {a:Act} {w:World} (ps:List (Nat × Option Tmp)) (t:Nat) (tl:List Nat) (hB:slotsB ops L (ps.map Prod.fst) t tl=true) (hP:(ps.all fun p=>decide (dstOf ops p.1=p.2))=true) (hf:countF L≤f) (G:World→Prop) (D:Nat→Value→World→Prop) (hD:∀ k v w w',D k v w→Below w.heap.size w w'→D k v w') (h0:G w)
 (step:PutSteps P ops Q ps a G D ps) (last:∀ vs w,G w→(∀ k,ps.any (fun p=>p.1 == k)=true→D k (vs k) w)→wpList P ops Q ((t :: tl).filterMap fun k=>nthO ops.toList k) (putsOf a ps vs) w):wpAny P .any ops Q f L a w:=by
 have hc:∀ k,(ps.map Prod.fst).contains k=ps.any (fun p=>p.1 == k):=fun k=>by
  rw [List.contains_eq_any_beq,List.any_map]
  congr 1
  funext p
  exact Bool.beq_comm
 refine wpAny_slots (ps.map Prod.fst) t tl hB hf G D hD h0 (fun i o ho hi vs w hG hdep K hK=>?_) (fun vs w hG hdep=>?_)
 ·obtain ⟨p,hp,rfl⟩:=List.mem_map.1 (List.contains_iff_mem.1 hi)
  have hd:dstOf ops p.1=p.2:=of_decide_eq_true (List.all_eq_true.1 hP p hp)
  have hod:o.dst=p.2:=by rw [← hd];unfold dstOf;rw [ho];rfl
  have:=step p hp o ho vs w hG (fun k h1 h2=>hdep k (by rw [hc];exact h1) h2) K
  rw [frame_puts vs ps a hP] at hK ⊢
  rw [hod] at hK ⊢
  rw [hod] at this
  exact this hK
 ·rw [frame_puts vs ps a hP]
  have:=last vs w hG fun k hk=>hdep k (by rw [hc];exact hk)
  have e:(fun k=>nthO ops.toList k)=fun k=>ops[k]?:=funext fun k=>by rw [nthO_eq,Array.getElem?_toList]
  rw [e] at this
  exact this
end
end

section
set_option maxRecDepth 100000
open Go.RowKit
def vofD (M:Nat) (x:MapgP) (a1 a2:Value) (k:Nat) (v:Value) (w:World):Prop :=
 match k with
 | 0=>v=.pointer (some ⟨M,0,none⟩)
 | 1=>v=a1
 | 2=>∃ y:VC,v=y.val∧ValAt (pureW w) (textsJ x.paths) y.val
 | 3=>∃ y:VC,v=.agg #[.string tPaths,.int .u8 y.k,.int .i64 y.n,.string y.t,.slice y.a y.l y.c,.slice y.b y.m y.e]∧ValAt (pureW w) (textsJ x.paths) y.val
 | 4=>v=.pointer (some ⟨M,1,none⟩)
 | 5=>v=a2
 | 6=>∃ y:VC,v=y.val∧ValAt (pureW w) (textsJ x.repos) y.val
 | 7=>∃ y:VC,v=.agg #[.string tRepos,.int .u8 y.k,.int .i64 y.n,.string y.t,.slice y.a y.l y.c,.slice y.b y.m y.e]∧ValAt (pureW w) (textsJ x.repos) y.val
 | 8=>v=.pointer (some ⟨M,2,none⟩)
 | 9=>v=.bool x.term
 | 10=>v=.agg #[.int .u8 1,.int .i64 (if x.term=true then 1 else 0),.string ⟨#[]⟩,.slice none 0 0,.slice none 0 0]
 | 11=>v=.agg #[.string tTerm,.int .u8 1,.int .i64 (if x.term=true then 1 else 0),.string ⟨#[]⟩,.slice none 0 0,.slice none 0 0]
 | 12=>v=.pointer (some ⟨M,3,none⟩)
 | 13=>v=.int .i64 x.thr
 | 14=>v=.agg #[.int .u8 2,.int .i64 x.thr,.string ⟨#[]⟩,.slice none 0 0,.slice none 0 0]
 | 15=>v=.agg #[.string tThr,.int .u8 2,.int .i64 x.thr,.string ⟨#[]⟩,.slice none 0 0,.slice none 0 0]
 | 16=>∃ (b:Nat) (p r:VC),v=.slice (some ⟨b,0,none⟩) 4 4∧ValAt (pureW w) (textsJ x.paths) p.val∧ValAt (pureW w) (textsJ x.repos) r.val∧BlkAt w b 41 (xmCells (mapgX x p r)).toArray
 | 17=>∃ y:VC,v=.tuple #[y.val,.int .i64 0]∧NewV (M+2) w (mapgJ x) y.val
 | 18=>∃ y:VC,v=y.val∧NewV (M+2) w (mapgJ x) y.val
 | 19=>v=.int .i64 0
 | _=>True
theorem vofD_17 {M:Nat} {x:MapgP} {a1 a2 v:Value} {w:World} (h:vofD M x a1 a2 17 v w):∃ y:VC,v=.tuple #[y.val,.int .i64 0]∧NewV (M+2) w (mapgJ x) y.val:=h
theorem vofD_18 {M:Nat} {x:MapgP} {a1 a2 v:Value} {w:World} (h:vofD M x a1 a2 18 v w):∃ y:VC,v=y.val∧NewV (M+2) w (mapgJ x) y.val:=h
theorem vofD_mk17 {M:Nat} {x:MapgP} {a1 a2:Value} {w:World} (y:VC) (h:NewV (M+2) w (mapgJ x) y.val):vofD M x a1 a2 17 (.tuple #[y.val,.int .i64 0]) w:=⟨y,rfl,h⟩
theorem vofD_mk18 {M:Nat} {x:MapgP} {a1 a2:Value} {w:World} (y:VC) (h:NewV (M+2) w (mapgJ x) y.val):vofD M x a1 a2 18 y.val w:=⟨y,rfl,h⟩
theorem NewV.keepB {B:Nat} {w w':World} {V:JV} {v:Value} (h:NewV B w V v) (hb:Below w.heap.size w w'):NewV B w' V v :=
 ValAt.carry h fun k hk hP=>⟨hP,hb.block k hk⟩
theorem NewV.low {B C:Nat} {w:World} {V:JV} {v:Value} (h:NewV B w V v) (hC:C≤B):NewV C w V v :=
 ValAt.carry h fun k hk hP=>⟨offB_none.2 (by have:=offB_none.1 hP;omega),rfl⟩
theorem vofD_keep {M:Nat} {x:MapgP} {a1 a2:Value}:∀ k v w w',vofD M x a1 a2 k v w→Below w.heap.size w w'→vofD M x a1 a2 k v w':=by
 intro k v w w' h hb
 unfold vofD at h ⊢
 split at h <;> try exact h
 ·obtain ⟨y,h1,h2⟩:=h
  exact ⟨y,h1,h2.imp (pure_keep hb)⟩
 ·obtain ⟨y,h1,h2⟩:=h
  exact ⟨y,h1,h2.imp (pure_keep hb)⟩
 ·obtain ⟨y,h1,h2⟩:=h
  exact ⟨y,h1,h2.imp (pure_keep hb)⟩
 ·obtain ⟨y,h1,h2⟩:=h
  exact ⟨y,h1,h2.imp (pure_keep hb)⟩
 ·obtain ⟨b,p,r,h1,h2,h3,h4⟩:=h
  exact ⟨b,p,r,h1,h2.imp (pure_keep hb),h3.imp (pure_keep hb),BlkAt.keep h4 hb⟩
 ·obtain ⟨y,h1,h2⟩:=h
  exact ⟨y,h1,h2.keepB hb⟩
 ·obtain ⟨y,h1,h2⟩:=h
  exact ⟨y,h1,h2.keepB hb⟩
theorem valueOf_any (x:MapgP) (v:Value) (w:World) (h:MapgAt w v x) (h1:x.paths.length≤1000000) (h2:x.repos.length≤1000000) (hw1:wt (textsJ x.paths)≤1000000000) (hw2:wt (textsJ x.repos)≤1000000000) :
 Calls Tryz.prog 29 #[v] w fun e w'=>∃ y:VC,e=.returned (.tuple #[y.val,.int .i64 0])∧Below w.heap.size w w'∧NewV w.heap.size w' (mapgJ x) y.val:=by
 obtain ⟨u1,u2,rfl,s1,s2,-,n0,n1⟩:=h
 obtain ⟨a1,c1,rfl,-,-,-⟩:=s1.parts
 obtain ⟨a2,c2,rfl,-,-,-⟩:=s2.parts
 obtain ⟨k1,hk1⟩:∃ k,x.paths.length=k:=⟨_,rfl⟩
 obtain ⟨k2,hk2⟩:∃ k,x.repos.length=k:=⟨_,rfl⟩
 rw [hk1] at s1 h1 ⊢
 rw [hk2] at s2 h2 ⊢
 obtain ⟨wA,hA⟩:∃ y,y=(w.alloc (.cells #[.slice a1 k1 c1,.slice a2 k2 c2,.bool x.term,.int .i64 x.thr] 55)).alloc (.cells #[.int .u8 0,.int .i64 0,.string ⟨#[]⟩,.slice none 0 0,.slice none 0 0] 29):=⟨_,rfl⟩
 have hbA:Below w.heap.size w wA:=by rw [hA];exact bel_alloc (bel_alloc (Below.refl _ _) _) _
 have HM:Hid (BlkAt wA w.heap.size 55 #[.slice a1 k1 c1,.slice a2 k2 c2,.bool x.term,.int .i64 x.thr]):=by rw [hA];exact (blkAt_new w _ _).alloc _
 have HRB:Hid (BlkAt wA (w.heap.size+1) 29 #[.int .u8 0,.int .i64 0,.string ⟨#[]⟩,.slice none 0 0,.slice none 0 0]):=by
  rw [hA]
  have:=blkAt_new (w.alloc (.cells #[.slice a1 k1 c1,.slice a2 k2 c2,.bool x.term,.int .i64 x.thr] 55)) #[.int .u8 0,.int .i64 0,.string ⟨#[]⟩,.slice none 0 0,.slice none 0 0] 29
  rwa [size_al] at this
 have HT1:Hid (∀ Y,Below wA.heap.size wA Y→Calls Tryz.prog 14 #[.slice a1 k1 c1] Y fun e w'=>∃ y:VC,e=.returned y.val∧Below Y.heap.size Y w'∧NewV Y.heap.size w' (textsJ x.paths) y.val):=fun Y hY=>textsOf_any x.paths _ Y ((s1.keep hbA).keep hY) (by omega)
 have HT2:Hid (∀ Y,Below wA.heap.size wA Y→Calls Tryz.prog 14 #[.slice a2 k2 c2] Y fun e w'=>∃ y:VC,e=.returned y.val∧Below Y.heap.size Y w'∧NewV Y.heap.size w' (textsJ x.repos) y.val):=fun Y hY=>textsOf_any x.repos _ Y ((s2.keep hbA).keep hY) (by omega)
 have HBO:=Lib.hid (fun Y=>boolOf_any x.term Y)
 have HNO:=Lib.hid (fun Y=>numOf_any x.thr Y)
 have HOB:=Lib.hid (fun p r b c Y hp hr=>objectOf_mapg x p r b c Y hp hr n0 n1 hw1 hw2)
 have HBA:=Lib.hid hbA
 have HA:=Lib.hid hA
 obtain ⟨m0,m1,m2,m3,mf⟩:=b4' HM.out
 have hsA:wA.heap.size=w.heap.size+2:=by rw [hA,size_al,size_al]
 have HSA:=Lib.hid hsA
 clear s1 s2 h1 h2 hw1 hw2 n0 n1 hA hbA hk1 hk2 hsA
 go_enter Tryz.func29,Tryz.ntmps29
 go_wp2_with fail
 rw [← HA.out]
 refine wp_region_any (by kernel_rfl) ?_
 refine wpAny_puts [(0,some 4),(1,some 5),(2,some 6),(3,some 7),(4,some 8),(5,some 9),(6,some 10),(7,some 11),(8,some 12),(9,some 13),(10,some 14),(11,some 15),(12,some 16),(13,some 17),(14,some 18),(15,some 19),(16,some 20),(17,some 21),(18,some 22),(19,some 23)] 20 [21] (by kernel_rfl) (by kernel_rfl) (of_decide_eq_true (by kernel_rfl)) (fun w'=>Below wA.heap.size wA w') (vofD w.heap.size x (.slice a1 k1 c1) (.slice a2 k2 c2)) vofD_keep (bel_drew (Below.refl _ _)) ?_ ?_
 ·refine PutSteps.at rfl ?_ ?_
  ·intro vs Y hG hdep K hK
   simp only [putsOf,pqA,pqB,Act.put,pqC,pqD,pqE] at hK ⊢
   go_simp
   exact hK.out (.pointer (some ⟨w.heap.size,0,none⟩)) _ _ rfl hG (Below.refl _ _) rfl
  refine PutSteps.at rfl ?_ ?_
  ·intro vs Y hG hdep K hK
   have e0:vs 0=.pointer (some ⟨w.heap.size,0,none⟩):=hdep 0 rfl (by kernel_rfl)
   have y0:=cell_keep hG m0
   simp only [putsOf,pqA,pqB,Act.put,pqC,pqD,pqE] at hK ⊢
   rw [e0] at hK ⊢
   go_simp
   exact hK.out (.slice a1 k1 c1) _ _ rfl hG (Below.refl _ _) rfl
  refine PutSteps.at rfl ?_ ?_
  ·intro vs Y hG hdep K hK
   have e0:vs 1=.slice a1 k1 c1:=hdep 1 rfl (by kernel_rfl)
   simp only [putsOf,pqA,pqB,Act.put,pqC,pqD,pqE] at hK ⊢
   rw [e0] at hK ⊢
   go_simp
   refine (HT1.out _ hG).mono ?_
   rintro e w4 ⟨⟨yk,yn,yt,ya,yl,yc,yb,ym,ye⟩,rfl,hb4,hv4⟩
   exact hK.out (.agg #[.int .u8 yk,.int .i64 yn,.string yt,.slice ya yl yc,.slice yb ym ye]) _ _ rfl (below_more hG hb4) hb4 ⟨⟨yk,yn,yt,ya,yl,yc,yb,ym,ye⟩,rfl,valOf_pure hv4 (Below.refl _ _)⟩
  refine PutSteps.at rfl ?_ ?_
  ·intro vs Y hG hdep K hK
   obtain ⟨⟨yk,yn,yt,ya,yl,yc,yb,ym,ye⟩,e0,hv⟩:=show ∃ y:VC,vs 2=y.val∧ValAt (pureW Y) (textsJ x.paths) y.val from hdep 2 rfl (by kernel_rfl)
   simp only [VC.val] at e0
   simp only [putsOf,pqA,pqB,Act.put,pqC,pqD,pqE] at hK ⊢
   rw [e0] at hK ⊢
   go_simp
   exact hK.out (.agg #[.string tPaths,.int .u8 yk,.int .i64 yn,.string yt,.slice ya yl yc,.slice yb ym ye]) _ _ rfl hG (Below.refl _ _) ⟨⟨yk,yn,yt,ya,yl,yc,yb,ym,ye⟩,rfl,hv⟩
  refine PutSteps.at rfl ?_ ?_
  ·intro vs Y hG hdep K hK
   simp only [putsOf,pqA,pqB,Act.put,pqC,pqD,pqE] at hK ⊢
   go_simp
   exact hK.out (.pointer (some ⟨w.heap.size,1,none⟩)) _ _ rfl hG (Below.refl _ _) rfl
  refine PutSteps.at rfl ?_ ?_
  ·intro vs Y hG hdep K hK
   have e0:vs 4=.pointer (some ⟨w.heap.size,1,none⟩):=hdep 4 rfl (by kernel_rfl)
   have y0:=cell_keep hG m1
   simp only [putsOf,pqA,pqB,Act.put,pqC,pqD,pqE] at hK ⊢
   rw [e0] at hK ⊢
   go_simp
   exact hK.out (.slice a2 k2 c2) _ _ rfl hG (Below.refl _ _) rfl
  refine PutSteps.at rfl ?_ ?_
  ·intro vs Y hG hdep K hK
   have e0:vs 5=.slice a2 k2 c2:=hdep 5 rfl (by kernel_rfl)
   simp only [putsOf,pqA,pqB,Act.put,pqC,pqD,pqE] at hK ⊢
   rw [e0] at hK ⊢
   go_simp
   refine (HT2.out _ hG).mono ?_
   rintro e w4 ⟨⟨yk,yn,yt,ya,yl,yc,yb,ym,ye⟩,rfl,hb4,hv4⟩
   exact hK.out (.agg #[.int .u8 yk,.int .i64 yn,.string yt,.slice ya yl yc,.slice yb ym ye]) _ _ rfl (below_more hG hb4) hb4 ⟨⟨yk,yn,yt,ya,yl,yc,yb,ym,ye⟩,rfl,valOf_pure hv4 (Below.refl _ _)⟩
  refine PutSteps.at rfl ?_ ?_
  ·intro vs Y hG hdep K hK
   obtain ⟨⟨yk,yn,yt,ya,yl,yc,yb,ym,ye⟩,e0,hv⟩:=show ∃ y:VC,vs 6=y.val∧ValAt (pureW Y) (textsJ x.repos) y.val from hdep 6 rfl (by kernel_rfl)
   simp only [VC.val] at e0
   simp only [putsOf,pqA,pqB,Act.put,pqC,pqD,pqE] at hK ⊢
   rw [e0] at hK ⊢
   go_simp
   exact hK.out (.agg #[.string tRepos,.int .u8 yk,.int .i64 yn,.string yt,.slice ya yl yc,.slice yb ym ye]) _ _ rfl hG (Below.refl _ _) ⟨⟨yk,yn,yt,ya,yl,yc,yb,ym,ye⟩,rfl,hv⟩
  refine PutSteps.at rfl ?_ ?_
  ·intro vs Y hG hdep K hK
   simp only [putsOf,pqA,pqB,Act.put,pqC,pqD,pqE] at hK ⊢
   go_simp
   exact hK.out (.pointer (some ⟨w.heap.size,2,none⟩)) _ _ rfl hG (Below.refl _ _) rfl
  refine PutSteps.at rfl ?_ ?_
  ·intro vs Y hG hdep K hK
   have e0:vs 8=.pointer (some ⟨w.heap.size,2,none⟩):=hdep 8 rfl (by kernel_rfl)
   have y0:=cell_keep hG m2
   simp only [putsOf,pqA,pqB,Act.put,pqC,pqD,pqE] at hK ⊢
   rw [e0] at hK ⊢
   go_simp
   exact hK.out (.bool x.term) _ _ rfl hG (Below.refl _ _) rfl
  refine PutSteps.at rfl ?_ ?_
  ·intro vs Y hG hdep K hK
   have e0:vs 9=.bool x.term:=hdep 9 rfl (by kernel_rfl)
   simp only [putsOf,pqA,pqB,Act.put,pqC,pqD,pqE] at hK ⊢
   rw [e0] at hK ⊢
   go_simp
   refine (HBO.out _).mono ?_
   rintro e w4 ⟨rfl,hb4⟩
   exact hK.out (.agg #[.int .u8 1,.int .i64 (if x.term=true then 1 else 0),.string ⟨#[]⟩,.slice none 0 0,.slice none 0 0]) _ _ rfl (below_more hG hb4) hb4 rfl
  refine PutSteps.at rfl ?_ ?_
  ·intro vs Y hG hdep K hK
   have e0:vs 10=.agg #[.int .u8 1,.int .i64 (if x.term=true then 1 else 0),.string ⟨#[]⟩,.slice none 0 0,.slice none 0 0]:=hdep 10 rfl (by kernel_rfl)
   simp only [putsOf,pqA,pqB,Act.put,pqC,pqD,pqE] at hK ⊢
   rw [e0] at hK ⊢
   go_simp
   exact hK.out (.agg #[.string tTerm,.int .u8 1,.int .i64 (if x.term=true then 1 else 0),.string ⟨#[]⟩,.slice none 0 0,.slice none 0 0]) _ _ rfl hG (Below.refl _ _) rfl
  refine PutSteps.at rfl ?_ ?_
  ·intro vs Y hG hdep K hK
   simp only [putsOf,pqA,pqB,Act.put,pqC,pqD,pqE] at hK ⊢
   go_simp
   exact hK.out (.pointer (some ⟨w.heap.size,3,none⟩)) _ _ rfl hG (Below.refl _ _) rfl
  refine PutSteps.at rfl ?_ ?_
  ·intro vs Y hG hdep K hK
   have e0:vs 12=.pointer (some ⟨w.heap.size,3,none⟩):=hdep 12 rfl (by kernel_rfl)
   have y0:=cell_keep hG m3
   simp only [putsOf,pqA,pqB,Act.put,pqC,pqD,pqE] at hK ⊢
   rw [e0] at hK ⊢
   go_simp
   exact hK.out (.int .i64 x.thr) _ _ rfl hG (Below.refl _ _) rfl
  refine PutSteps.at rfl ?_ ?_
  ·intro vs Y hG hdep K hK
   have e0:vs 13=.int .i64 x.thr:=hdep 13 rfl (by kernel_rfl)
   simp only [putsOf,pqA,pqB,Act.put,pqC,pqD,pqE] at hK ⊢
   rw [e0] at hK ⊢
   go_simp
   refine (HNO.out _).mono ?_
   rintro e w4 ⟨rfl,hb4⟩
   exact hK.out (.agg #[.int .u8 2,.int .i64 x.thr,.string ⟨#[]⟩,.slice none 0 0,.slice none 0 0]) _ _ rfl (below_more hG hb4) hb4 rfl
  refine PutSteps.at rfl ?_ ?_
  ·intro vs Y hG hdep K hK
   have e0:vs 14=.agg #[.int .u8 2,.int .i64 x.thr,.string ⟨#[]⟩,.slice none 0 0,.slice none 0 0]:=hdep 14 rfl (by kernel_rfl)
   simp only [putsOf,pqA,pqB,Act.put,pqC,pqD,pqE] at hK ⊢
   rw [e0] at hK ⊢
   go_simp
   exact hK.out (.agg #[.string tThr,.int .u8 2,.int .i64 x.thr,.string ⟨#[]⟩,.slice none 0 0,.slice none 0 0]) _ _ rfl hG (Below.refl _ _) rfl
  refine PutSteps.at rfl ?_ ?_
  ·intro vs Y hG hdep K hK
   obtain ⟨⟨pk,pn,pt,pa,pl,pc,pb,pm,pe⟩,e0,hv0⟩:=show ∃ y:VC,vs 3=.agg #[.string tPaths,.int .u8 y.k,.int .i64 y.n,.string y.t,.slice y.a y.l y.c,.slice y.b y.m y.e]∧ValAt (pureW Y) (textsJ x.paths) y.val from hdep 3 rfl (by kernel_rfl)
   obtain ⟨⟨rk,rn,rt,ra,rl,rc,rb,rm,re⟩,e1,hv1⟩:=show ∃ y:VC,vs 7=.agg #[.string tRepos,.int .u8 y.k,.int .i64 y.n,.string y.t,.slice y.a y.l y.c,.slice y.b y.m y.e]∧ValAt (pureW Y) (textsJ x.repos) y.val from hdep 7 rfl (by kernel_rfl)
   have e2:vs 11=.agg #[.string tTerm,.int .u8 1,.int .i64 (if x.term=true then 1 else 0),.string ⟨#[]⟩,.slice none 0 0,.slice none 0 0]:=hdep 11 rfl (by kernel_rfl)
   have e3:vs 15=.agg #[.string tThr,.int .u8 2,.int .i64 x.thr,.string ⟨#[]⟩,.slice none 0 0,.slice none 0 0]:=hdep 15 rfl (by kernel_rfl)
   simp only at e0 e1
   simp only [putsOf,pqA,pqB,Act.put,pqC,pqD,pqE] at hK ⊢
   rw [e0,e1,e2,e3] at hK ⊢
   go_simp
   exact hK.out (.slice (some ⟨Y.heap.size,0,none⟩) 4 4) _ _ rfl (bel_alloc hG _) (bel_alloc (Below.refl _ _) _) ⟨Y.heap.size,⟨pk,pn,pt,pa,pl,pc,pb,pm,pe⟩,⟨rk,rn,rt,ra,rl,rc,rb,rm,re⟩,rfl,hv0.imp (pure_keep (bel_alloc (Below.refl _ _) _)),hv1.imp (pure_keep (bel_alloc (Below.refl _ _) _)),blkAt_newC _ _ _⟩
  refine PutSteps.at rfl ?_ ?_
  ·intro vs Y hG hdep K hK
   obtain ⟨b,p,r,e0,hv0,hv1,hb⟩:=show ∃ (b:Nat) (p r:VC),vs 16=.slice (some ⟨b,0,none⟩) 4 4∧ValAt (pureW Y) (textsJ x.paths) p.val∧ValAt (pureW Y) (textsJ x.repos) r.val∧BlkAt Y b 41 (xmCells (mapgX x p r)).toArray from hdep 16 rfl (by kernel_rfl)
   simp only [putsOf,pqA,pqB,Act.put,pqC,pqD,pqE] at hK ⊢
   rw [e0] at hK ⊢
   go_simp
   refine (HOB.out p r b 4 _ hv0 hv1 (fun j u hj=>by rw [BlkAt.cell hb j];simpa using hj)).mono ?_
   rintro e w4 ⟨⟨yk,yn,yt,ya,yl,yc,yb,ym,ye⟩,rfl,hb4,hv4⟩
   have hsY:=hG.size
   exact hK.out (.tuple #[.agg #[.int .u8 yk,.int .i64 yn,.string yt,.slice ya yl yc,.slice yb ym ye],.int .i64 0]) _ _ rfl (below_more hG hb4) hb4 (vofD_mk17 ⟨yk,yn,yt,ya,yl,yc,yb,ym,ye⟩ (NewV.low hv4 (by rw [← HSA.out];exact hsY)))
  refine PutSteps.at rfl ?_ ?_
  ·intro vs Y hG hdep K hK
   simp only [putsOf,pqA,pqB,Act.put,pqC,pqD,pqE] at hK ⊢
   go_simp
   obtain ⟨y,e0,hv⟩:=vofD_17 (hdep 17 rfl (by kernel_rfl))
   rw [e0] at hK ⊢
   go_simp
   exact hK.out y.val _ _ rfl hG (Below.refl _ _) (vofD_mk18 y hv)
  refine PutSteps.at rfl ?_ PutSteps.nil
  ·intro vs Y hG hdep K hK
   simp only [putsOf,pqA,pqB,Act.put,pqC,pqD,pqE] at hK ⊢
   go_simp
   obtain ⟨y,e0,-⟩:=vofD_17 (hdep 17 rfl (by kernel_rfl))
   rw [e0] at hK ⊢
   go_simp
   exact hK.out (.int .i64 0) _ _ rfl hG (Below.refl _ _) rfl
 ·intro vs Y hG hdep
  obtain ⟨⟨yk,yn,yt,ya,yl,yc,yb,ym,ye⟩,e0,hv⟩:=vofD_18 (hdep 18 rfl)
  have e1:vs 19=.int .i64 0:=hdep 19 rfl
  simp only [VC.val] at e0
  simp only [putsOf,pqA,pqB,Act.put,pqC,pqD,pqE]
  simp only [List.filterMap_cons,List.filterMap_nil,nthO]
  rw [e0,e1]
  have hR:=BlkAt.keep HRB.out hG
  obtain ⟨r0,r1,r2,r3,r4,rf⟩:=b5 hR
  have hbY:=below_more HBA.out hG
  have HNV:Hid (NewV w.heap.size (((((Y.setCell ⟨w.heap.size+1,0,none⟩ (.int .u8 yk)).setCell ⟨w.heap.size+1,1,none⟩ (.int .i64 yn)).setCell ⟨w.heap.size+1,2,none⟩ (.string yt)).setCell ⟨w.heap.size+1,3,none⟩ (.slice ya yl yc)).setCell ⟨w.heap.size+1,4,none⟩ (.slice yb ym ye)) (mapgJ x) (.agg #[.int .u8 yk,.int .i64 yn,.string yt,.slice ya yl yc,.slice yb ym ye])) :=
   ValAt.carry hv fun k hk hP=>⟨offB_none.2 (by have:=offB_none.1 hP;omega),heap_set5 _ _ _ _ _ _ _ _ (by have:=offB_none.1 hP;omega)⟩
  have HR5:=Lib.hid (blk_set5 hR (.int .u8 yk) (.int .i64 yn) (.string yt) (.slice ya yl yc) (.slice yb ym ye))
  have HB5:=Lib.hid (bset5 hbY (Nat.le_succ _) (.int .u8 yk) (.int .i64 yn) (.string yt) (.slice ya yl yc) (.slice yb ym ye))
  clear hdep hG hv hR hbY e0 e1
  refine wpList_plain rfl fun K hK=>?_
  go_simp
  refine hK _ _ ?_
  refine wpList_plain rfl fun K hK=>?_
  go_simp
  refine hK _ _ ?_
  refine wpList_nil ?_
  clear r0 r1 r2 r3 r4 rf
  generalize ((((Y.setCell ⟨w.heap.size+1,0,none⟩ (.int .u8 yk)).setCell ⟨w.heap.size+1,1,none⟩ (.int .i64 yn)).setCell ⟨w.heap.size+1,2,none⟩ (.string yt)).setCell ⟨w.heap.size+1,3,none⟩ (.slice ya yl yc)).setCell ⟨w.heap.size+1,4,none⟩ (.slice yb ym ye)=wF at HNV HR5 HB5 ⊢
  obtain ⟨q0,q1,q2,q3,q4,-⟩:=b5 HR5.out
  go_wp2_with fail
  exact bodyPost_ret (v:=.tuple #[.agg #[.int .u8 yk,.int .i64 yn,.string yt,.slice ya yl yc,.slice yb ym ye],.int .i64 0]) (by simp [results,Tryz.results29,go_sem,q0,q1,q2,q3,q4]) rfl ⟨⟨yk,yn,yt,ya,yl,yc,yb,ym,ye⟩,rfl,HB5.out,HNV.out⟩
end
end Go.Proofs.YtchinankclckjaaGreatDoor
